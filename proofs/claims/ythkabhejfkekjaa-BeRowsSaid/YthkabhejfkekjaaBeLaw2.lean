/- The law BeRows of layer 1, walked: it returns true and writes nothing that was there. No condition. -/
import Derived.Test.YthkabhejfkekjaaBeLaw
namespace Go.Proofs.Ythkabhejfkekjaa
open Go.RowKit

theorem us_take (ps : List Nat) (k : Nat) : (us ps).take k = us (ps.take k) := by simp [us, List.map_take]
theorem Rd.utake {w : World} {A : Option Addr} {n c : Nat} {ps : List Nat} (h : RdU w A n c ps) (q : Nat) (hq : q ≤ n) : RdU w A q c (ps.take q) := by
  have hnc := h.nc
  have hl := h.ulen
  refine ⟨by rw [us_length, List.length_take]; omega, by omega, h.cm, fun e => ?_, fun ad e j u hu => ?_⟩
  · have := h.nil e; omega
  · refine h.cell ad e j u ?_
    rw [← us_take, List.getElem?_take] at hu
    split at hu
    · exact hu
    · cases hu

theorem empty_str : (⟨([] : List UInt8).toArray⟩ : ByteArray) = ⟨#[]⟩ := rfl

set_option maxRecDepth 100000 in
set_option maxHeartbeats 2000000 in
theorem berows_law (ps : List Nat) (A : Option Addr) (n c : Nat) (w : World) (hx : RdU w A n c ps) (h64 : ∀ i, ps.getD i 0 < 18446744073709551616) :
    Calls Try.prog 7 #[.slice A n c] w fun e w' => e = .returned (.bool true) ∧ Below w.heap.size w w' := by
  have hm := hx.cm
  have hnc := hx.nc
  unfold maxLen at hm
  by_cases hlen : 60 < n
  case' pos =>
    have hq := hx.utake 60 (by omega)
    have hq64 : ∀ i, (ps.take 60).getD i 0 < 18446744073709551616 := by
      intro i
      rw [List.getD_eq_getElem?_getD, List.getElem?_take]
      split
      · rw [← List.getD_eq_getElem?_getD]; exact h64 i
      · simp
    have hc60 : (60 : Int) ≤ c := by omega
    have hd : decide ((60 : Int) < n) = true := by simp; omega
    generalize ps.take 60 = qs at *
    obtain ⟨n2, hn2, hn60⟩ : ∃ n2 : Nat, Hid (60 = n2) ∧ n2 ≤ 60 := ⟨_, rfl, by omega⟩
    rw [hn2.out] at hq
  case' neg =>
    have hq := hx
    have hq64 := h64
    have hd : decide ((60 : Int) < n) = false := by simp; omega
    obtain ⟨qs, hqs⟩ : ∃ qs, qs = ps := ⟨_, rfl⟩
    subst hqs
    have hc60 : True := trivial
    obtain ⟨n2, hn2, hn60⟩ : ∃ n2 : Nat, Hid (n = n2) ∧ n2 ≤ 60 := ⟨_, rfl, by omega⟩
    rw [hn2.out] at hq
  all_goals
    clear hx h64
    have Hq64 := Lib.hid hq64
    clear hq64
    go_enter Try.func7, Try.ntmps7
    go_wp2_with fail
    clear hd
    rw [hn2.out]
    clear hn2 hc60 hlen hm hnc
  all_goals
    have hql := Lib.hid hq.ulen
    have hB := Below.refl w.heap.size w
    go_loopw [3, 4] (fun s i wr => ∃ j : Nat, 2 * j ≤ n2 ∧ i = .int .i64 ((2 * j : Nat) : Int) ∧ s = .string ⟨(rowN qs j).toArray⟩ ∧ Below w.heap.size w wr) (fun _ i _ => n2 - (intOf i).toNat)
    case' atStart => exact ⟨0, by omega, rfl, rfl, hB⟩
    obtain ⟨j, hj, rfl, rfl, hBr⟩ := hrel
    have hq2 := hq.below hBr
    by_cases hlt : 2 * j + 1 < n2
    · have hp0 := Hq64.out (2 * j)
      have hp1 := Hq64.out (2 * j + 1)
      obtain ⟨ad, rfl, e0⟩ := hq2.uat (2 * j) (by omega)
      obtain ⟨_, e, e1⟩ := hq2.uat (2 * j + 1) hlt
      cases e
      have hrow : Hid (rowN qs (j + 1) = rowN qs j ++ putB (min (qs.getD (2 * j) 0) 8) (qs.getD (2 * j + 1) 0)) := rfl
      have hrl := rowN_length_le qs j
      generalize qs.getD (2 * j) 0 = p0 at *
      generalize qs.getD (2 * j + 1) 0 = p1 at *
      have K := fun q W => Lib.hid (refbytes_any q p1 W hp1)
      have hq1 : 2 * j < n2 := by omega
      rw [show ad.add (2 * j + 1) = ⟨ad.block, ad.off + (2 * j + 1), none⟩ from by simp [Addr.add]] at e1
      have hp63 := Lib.hid hp0
      clear hp0 hp1
      have hjr : (rowN qs j).length ≤ 1000 := by omega
      clear hrl
      by_cases h8 : p0 < 8
      case' pos => have hw : wid (p0 : Int) = min p0 8 := by unfold wid; omega
      case' neg => have hw : wid (8 : Int) = min p0 8 := by unfold wid; omega
      all_goals
        go_wp2_with fail
        refine (K _ _).out.mono ?_
        rintro e w2 ⟨v, rfl, ho, hb⟩
        rw [hw] at ho
        obtain ⟨A2, c2, rfl, hz, -⟩ := Rd.of_own ho
        have hks := run_string_of (P := Try.prog) 22 9 5 Try.underlying22 Try.underlying5 Try.underlying9 hz
        have hB2 := below_trans hBr hb
        have hsz : ¬ (9223372036854775807 < (rowN qs j).length + (putB (min p0 8) p1).length) := by rw [putB_length]; omega
        have hcat : (⟨(rowN qs j).toArray⟩ : ByteArray) ++ ⟨(putB (min p0 8) p1).toArray⟩ = ⟨(rowN qs (j + 1)).toArray⟩ := by rw [cat_bytes, hrow.out]
        clear ho hb hz hw K
        obtain ⟨r1, hr1⟩ : ∃ r1, r1 = rowN qs (j + 1) := ⟨_, rfl⟩
        rw [← hr1] at hcat
        have Hr1 := Lib.hid hr1
        clear hr1 hrow
        generalize rowN qs j = r0 at *
        generalize putB (min p0 8) p1 = pb at *
        go_wp2_with fail
        go_roundw
        case rel => exact ⟨j + 1, by omega, by go_num, by rw [← Hr1.out], hB2⟩
        case measure => simp [intOf]; omega
    · have hj2 : Hid (j = n2 / 2) := by show _ = _; omega
      have hb2 : Hid (∀ i, qs.getD i 0 < 18446744073709551616) := Hq64
      go_wp2_with (first
        | (go_at_call 27; refine (awake01_any _).mono ?_; rintro e w2 ⟨rfl, hb⟩; replace hBr := below_trans hBr hb; replace hq2 := hq2.below hb; clear hb)
        | (go_at_call 34; refine (row_any qs A n2 c _ hq2 (by omega) hb2.out).mono ?_; rintro e w3 ⟨A3, n3, c3, rfl, hr3, hb⟩; rw [← hj2.out] at hr3; have hks := run_string_of (P := Try.prog) 22 9 5 Try.underlying22 Try.underlying5 Try.underlying9 hr3; replace hBr := below_trans hBr hb; clear hb hr3))
      go_ret
      exact ⟨rfl, hBr⟩
end Go.Proofs.Ythkabhejfkekjaa
