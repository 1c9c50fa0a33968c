/- Any bytes as digits, and of any digits the bytes: the statement answers true. No condition. -/
import Derived.Test.YtefipigdkdopcaaRep13
namespace Go.Proofs.Ytefipigdkdopcaa
open Go.RowKit

set_option maxRecDepth 100000 in
set_option maxHeartbeats 4000000 in
theorem replyhex_law (xs s : List UInt8) (A : Option Addr) (n c : Nat) (w : World) (hx : RdB w A n c xs) : Calls Try.prog 7 #[.slice A n c, .string ⟨s.toArray⟩] w fun e w' => e = .returned (.bool true) ∧ Below w.heap.size w w' := by
  have KA := fun W => Lib.hid (awake36_any W)
  have hnc := hx.nc
  have hcm := hx.cm
  unfold maxLen at hcm
  by_cases h1 : 300 < n
  · have h1' : (300 : Int) < n := by omega
    go_enter Try.func7, Try.ntmps7
    go_wp2_with fail
    refine (KA _).out.mono ?_
    rintro e w' ⟨rfl, hb⟩
    go_wp2_with fail
    go_ret
    exact ⟨rfl, hb⟩
  have h1' : ¬ (300 : Int) < n := by omega
  by_cases h2 : 300 < s.length
  · have h2' : (300 : Int) < s.length := by omega
    go_enter Try.func7, Try.ntmps7
    go_wp2_with fail
    refine (KA _).out.mono ?_
    rintro e w' ⟨rfl, hb⟩
    go_wp2_with fail
    go_ret
    exact ⟨rfl, hb⟩
  have h2' : ¬ (300 : Int) < s.length := by omega
  have hxl := hx.blen
  have hhl := hexS_length xs
  have KH := Lib.hid (rhex_any xs A n c w hx (by omega))
  have KB : ∀ W, Hid (Calls Try.prog 30 #[.string ⟨(hexS xs).toArray⟩] W fun e w' => ∃ A c, e = .returned (.tuple #[.slice A n c, .bool true]) ∧ RdB w' A n c xs ∧ Below W.heap.size W w') := fun W => Lib.hid ((rbytes_any (hexS xs) W (by omega)).mono (fun e w' h => by
    rw [unhex_hex] at h
    obtain ⟨⟨v, h1, h2⟩, h3⟩ := h
    obtain ⟨A, c, rfl, hr, -⟩ := Rd.of_own h2
    rw [hxl] at h1 hr
    exact ⟨A, c, h1, hr, h3⟩))
  have KR := fun W => Lib.hid (refhex_any xs W (by omega))
  have KS := fun W => Lib.hid (rbytes_any s W (by omega))
  have HU := Lib.hid (hex_unhex s)
  have hul := unhex_len s
  clear hhl
  generalize hexS xs = hs at *
  cases hun : unhexF s with
  | none =>
    rw [hun] at KS
    have KS2 : ∀ W, Hid (Calls Try.prog 30 #[.string ⟨s.toArray⟩] W fun e w' => e = .returned (.tuple #[.slice none 0 0, .bool false]) ∧ Below W.heap.size W w') := fun W => Lib.hid ((KS W).out.mono (fun e w' h => h))
    clear HU hul hun KS
    go_enter Try.func7, Try.ntmps7
    go_wp2_with fail
    refine KH.out.mono ?_
    rintro e w2 ⟨rfl, hb⟩
    replace hx := hx.below hb
    have hB := hb
    clear hb KH
    go_wp2_with fail
    refine (KB _).out.mono ?_
    rintro e w3 ⟨A3, c3, rfl, hx3, hb⟩
    replace hx := hx.below hb
    replace hB := below_trans hB hb
    clear hb KB
    go_wp2_with fail
    refine (KS2 _).out.mono ?_
    rintro e w4 ⟨rfl, hb⟩
    replace hx := hx.below hb
    replace hx3 := hx3.below hb
    replace hB := below_trans hB hb
    have t1 := run_string_of (P := Try.prog) 53 9 5 Try.underlying53 Try.underlying5 Try.underlying9 hx
    clear hb KS2
    go_wp2_with fail
    refine (KR _).out.mono ?_
    rintro e w5 ⟨rfl, hb⟩
    replace hx := hx.below hb
    replace hx3 := hx3.below hb
    replace hB := below_trans hB hb
    clear t1
    have t1 := run_string_of (P := Try.prog) 53 9 5 Try.underlying53 Try.underlying5 Try.underlying9 hx
    have t2 := run_string_of (P := Try.prog) 53 9 5 Try.underlying53 Try.underlying5 Try.underlying9 hx3
    clear hb KR hx hx3
    go_wp2_with fail
    refine (KA _).out.mono ?_
    rintro e w6 ⟨rfl, hb⟩
    clear t1 t2
    go_wp2_with fail
    go_ret
    exact ⟨rfl, below_trans hB hb⟩
  | some l =>
    rw [hun] at KS
    have hll := hul l hun
    have HLs := Lib.hid (HU.out l hun)
    have KS2 : ∀ W, Hid (Calls Try.prog 30 #[.string ⟨s.toArray⟩] W fun e w' => ∃ A c, e = .returned (.tuple #[.slice A l.length c, .bool true]) ∧ RdB w' A l.length c l ∧ Below W.heap.size W w') := fun W => Lib.hid ((KS W).out.mono (fun e w' h => by
      obtain ⟨⟨v, h1, h2⟩, h3⟩ := h
      obtain ⟨A, c, rfl, hr, -⟩ := Rd.of_own h2
      exact ⟨A, c, h1, hr, h3⟩))
    have KR2 := fun W => Lib.hid (refhex_any l W (by omega))
    rw [HLs.out] at KR2
    clear HU hul hun KS HLs
    go_enter Try.func7, Try.ntmps7
    go_wp2_with fail
    refine KH.out.mono ?_
    rintro e w2 ⟨rfl, hb⟩
    replace hx := hx.below hb
    have hB := hb
    clear hb KH
    go_wp2_with fail
    refine (KB _).out.mono ?_
    rintro e w3 ⟨A3, c3, rfl, hx3, hb⟩
    replace hx := hx.below hb
    replace hB := below_trans hB hb
    clear hb KB
    go_wp2_with fail
    refine (KS2 _).out.mono ?_
    rintro e w4 ⟨A4, c4, rfl, hx4, hb⟩
    replace hx := hx.below hb
    replace hx3 := hx3.below hb
    replace hB := below_trans hB hb
    have t1 := run_string_of (P := Try.prog) 53 9 5 Try.underlying53 Try.underlying5 Try.underlying9 hx
    clear hb KS2
    go_wp2_with fail
    refine (KR _).out.mono ?_
    rintro e w5 ⟨rfl, hb⟩
    replace hx := hx.below hb
    replace hx3 := hx3.below hb
    replace hx4 := hx4.below hb
    replace hB := below_trans hB hb
    clear t1
    have t1 := run_string_of (P := Try.prog) 53 9 5 Try.underlying53 Try.underlying5 Try.underlying9 hx
    have t2 := run_string_of (P := Try.prog) 53 9 5 Try.underlying53 Try.underlying5 Try.underlying9 hx3
    clear hb KR hx hx3
    go_wp2_with fail
    refine (KA _).out.mono ?_
    rintro e w6 ⟨rfl, hb⟩
    replace hx4 := hx4.below hb
    replace hB := below_trans hB hb
    clear t1 t2 hb
    have t1 := run_string_of (P := Try.prog) 53 9 5 Try.underlying53 Try.underlying5 Try.underlying9 hx4
    go_wp2_with fail
    refine (KR2 _).out.mono ?_
    rintro e w7 ⟨rfl, hb⟩
    clear t1
    go_wp2_with fail
    go_ret
    exact ⟨rfl, below_trans hB hb⟩
end Go.Proofs.Ytefipigdkdopcaa
