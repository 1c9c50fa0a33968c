/- Contracts of layer 5 (head): Get, and the reference's; what bytes begin with. -/
import Derived.Test.YthkabhejfkekjaaHead2
namespace Go.Proofs.Ythkabhejfkekjaa
open Go.RowKit

theorem and31 (b : Nat) (hb : b < 256) : bits .and .u8 (b : Int) 31 = ((b % 32 : Nat) : Int) := by
  have h := bits_mask .u8 8 (by decide) (fun n h0 h1 => by simp [IntKind.wrap, IntKind.bits, IntKind.signed]; omega) 5 (by decide) (b : Int) (by omega) (by omega)
  simpa using h

/-- What a Get hands back. -/
abbrev hret (r : Nat × Nat × Nat × Nat) : Ending := .returned (.tuple #[.int .i64 (r.1 : Int), .int .u64 (r.2.1 : Int), .int .i64 (r.2.2.1 : Int), .int .i64 (r.2.2.2 : Int)])

set_option maxRecDepth 100000 in
set_option maxHeartbeats 2000000 in
theorem hget_any (xs : List UInt8) (A : Option Addr) (n c : Nat) (w : World) (hx : RdB w A n c xs) (hN : n ≤ 140737488355328) :
    Calls Try.prog 43 #[.slice A n c] w fun e w' => e = hret (hget xs) ∧ Below w.heap.size w w' := by
  have hB := Below.refl w.heap.size w
  have hn := hx.blen
  have hm := hx.cm
  have hnc := hx.nc
  unfold maxLen at hm
  by_cases h0 : n = 0
  · have HG : Hid (hget xs = (0, 0, 0, 5)) := by show _ = _; unfold hget; rw [if_pos (by omega)]
    subst h0
    generalize hget xs = r at *
    go_enter Try.func43, Try.ntmps43
    go_wp2_with fail
    rw [HG.out]
    exact bodyPost_ret (v := .tuple #[.int .i64 0, .int .u64 0, .int .i64 0, .int .i64 5]) (by simp [results, Try.results43, go_sem]) rfl ⟨rfl, hB⟩
  · obtain ⟨ad, rfl, hcell⟩ := hx.bat 0 (by omega)
    have hcell0 : w.cell? ad = some (.int .u8 ((xs.getD 0 0).toNat : Int)) := by simpa [Addr.add] using hcell
    have hbl := (xs.getD 0 0).toNat_lt
    have hG : hget xs = if (xs.getD 0 0).toNat % 32 < 24 then ((xs.getD 0 0).toNat / 32, (xs.getD 0 0).toNat % 32, 1, 0) else
        if 27 < (xs.getD 0 0).toNat % 32 then (0, 0, 0, 6) else
        if xs.length < 1 + 2 ^ ((xs.getD 0 0).toNat % 32 - 24) then (0, 0, 0, 5) else
        if wideN (getN xs 1 (2 ^ ((xs.getD 0 0).toNat % 32 - 24) : Nat)) ≠ 2 ^ ((xs.getD 0 0).toNat % 32 - 24) then (0, 0, 0, 6) else ((xs.getD 0 0).toNat / 32, getN xs 1 (2 ^ ((xs.getD 0 0).toNat % 32 - 24) : Nat), 1 + 2 ^ ((xs.getD 0 0).toNat % 32 - 24), 0) := by
      unfold hget; rw [if_neg (by omega)]
    generalize hget xs = r at *
    generalize (xs.getD 0 0).toNat = b at *
    have ha := and31 b (by omega)
    have hpos : (0 : Int) < n := by omega
    have hbl2 : b < 256 := hbl
    clear hbl
    by_cases h24 : b % 32 < 24
    · rw [if_pos h24] at hG
      have HG := Lib.hid hG
      clear hG
      go_enter Try.func43, Try.ntmps43
      go_wp2_with fail
      go_quiet (fail)
      go_wp2_with fail
      rw [HG.out]
      exact bodyPost_ret (v := .tuple #[.int .i64 ((b / 32 : Nat) : Int), .int .u64 ((b % 32 : Nat) : Int), .int .i64 1, .int .i64 0]) (by simp [results, Try.results43, go_sem]) rfl ⟨rfl, below_drewN hB _⟩
    · rw [if_neg h24] at hG
      by_cases h27 : 27 < b % 32
      · rw [if_pos h27] at hG
        have HG := Lib.hid hG
        clear hG
        go_enter Try.func43, Try.ntmps43
        go_wp2_with fail
        go_quiet (fail)
        go_wp2_with fail
        rw [HG.out]
        exact bodyPost_ret (v := .tuple #[.int .i64 0, .int .u64 0, .int .i64 0, .int .i64 6]) (by simp [results, Try.results43, go_sem]) rfl ⟨rfl, below_drewN hB _⟩
      · rw [if_neg h27] at hG
        obtain ⟨q, hq⟩ : ∃ q, q = 2 ^ (b % 32 - 24) := ⟨_, rfl⟩
        have hq8 : 1 ≤ q ∧ q ≤ 8 ∧ wrap64 (2 ^ (b % 32 - 24)) = (q : Int) := by
          have : b % 32 = 24 ∨ b % 32 = 25 ∨ b % 32 = 26 ∨ b % 32 = 27 := by omega
          rcases this with h | h | h | h <;> rw [hq, h] <;> decide +kernel
        obtain ⟨hq1, hq2, hw⟩ := hq8
        rw [← hq, hn] at hG
        clear hq
        by_cases hs : n < 1 + q
        · rw [if_pos hs] at hG
          have HG := Lib.hid hG
          clear hG
          go_enter Try.func43, Try.ntmps43
          go_wp2_with fail
          go_quiet (fail)
          go_wp2_with fail
          rw [HG.out]
          exact bodyPost_ret (v := .tuple #[.int .i64 0, .int .u64 0, .int .i64 0, .int .i64 5]) (by simp [results, Try.results43, go_sem]) rfl ⟨rfl, below_drewN hB _⟩
        · rw [if_neg hs] at hG
          have KG := fun W h => Lib.hid (get_any 1 q xs (some ad) n c W h hN)
          have hgl := getN_lt xs 1 q
          generalize getN xs 1 q = v at *
          have KW := fun W => Lib.hid (wide_any v W hgl)
          have hwl := wideN_le v
          generalize wideN v = u at *
          clear hgl
          by_cases hu : u = q
          · rw [if_neg (by simp [hu])] at hG
            have HG := Lib.hid hG
            clear hG
            subst hu
            go_enter Try.func43, Try.ntmps43
            go_wp2_with fail
            go_quiet (fail)
            go_wp2_with (first
              | (go_at_call 33; refine (KG _ (hx.below (below_drewN (Below.refl _ _) _))).out.mono ?_; rintro e w2 ⟨rfl, hb⟩; replace hB := below_trans (below_drewN hB _) hb; clear hb)
              | (go_at_call 78; refine (KW _).out.mono ?_; rintro e w3 ⟨rfl, hb⟩; replace hB := below_trans hB hb; clear hb))
            rw [HG.out]
            exact bodyPost_ret (v := .tuple #[.int .i64 ((b / 32 : Nat) : Int), .int .u64 (v : Int), .int .i64 ((1 + u : Nat) : Int), .int .i64 0]) (by simp [results, Try.results43, go_sem]) rfl ⟨rfl, hB⟩
          · rw [if_pos hu] at hG
            have HG := Lib.hid hG
            clear hG
            have hu2 : ¬ ((u : Int) = q) := by omega
            go_enter Try.func43, Try.ntmps43
            go_wp2_with fail
            go_quiet (fail)
            go_wp2_with (first
              | (go_at_call 33; refine (KG _ (hx.below (below_drewN (Below.refl _ _) _))).out.mono ?_; rintro e w2 ⟨rfl, hb⟩; replace hB := below_trans (below_drewN hB _) hb; clear hb)
              | (go_at_call 78; refine (KW _).out.mono ?_; rintro e w3 ⟨rfl, hb⟩; replace hB := below_trans hB hb; clear hb))
            rw [HG.out]
            exact bodyPost_ret (v := .tuple #[.int .i64 0, .int .u64 0, .int .i64 0, .int .i64 6]) (by simp [results, Try.results43, go_sem]) rfl ⟨rfl, hB⟩

set_option maxRecDepth 100000 in
set_option maxHeartbeats 4000000 in
theorem refhget_any (xs : List UInt8) (A : Option Addr) (n c : Nat) (w : World) (hx : RdB w A n c xs) (hN : n ≤ 140737488355328) :
    Calls Try.prog 45 #[.slice A n c] w fun e w' => e = hret (hget xs) ∧ Below w.heap.size w w' := by
  have hB := Below.refl w.heap.size w
  have hn := hx.blen
  have hm := hx.cm
  have hnc := hx.nc
  unfold maxLen at hm
  by_cases h0 : n = 0
  · have HG : Hid (hget xs = (0, 0, 0, 5)) := by show _ = _; unfold hget; rw [if_pos (by omega)]
    subst h0
    generalize hget xs = r at *
    go_enter Try.func45, Try.ntmps45
    go_wp2_with fail
    rw [HG.out]
    exact bodyPost_ret (v := .tuple #[.int .i64 0, .int .u64 0, .int .i64 0, .int .i64 5]) (by simp [results, Try.results45, go_sem]) rfl ⟨rfl, hB⟩
  · obtain ⟨ad, rfl, hcell⟩ := hx.bat 0 (by omega)
    have hcell0 : w.cell? ad = some (.int .u8 ((xs.getD 0 0).toNat : Int)) := by simpa [Addr.add] using hcell
    have hbl := (xs.getD 0 0).toNat_lt
    have hG : hget xs = if (xs.getD 0 0).toNat % 32 < 24 then ((xs.getD 0 0).toNat / 32, (xs.getD 0 0).toNat % 32, 1, 0) else
        if 27 < (xs.getD 0 0).toNat % 32 then (0, 0, 0, 6) else
        if xs.length < 1 + 2 ^ ((xs.getD 0 0).toNat % 32 - 24) then (0, 0, 0, 5) else
        if wideN (getN xs 1 (2 ^ ((xs.getD 0 0).toNat % 32 - 24) : Nat)) ≠ 2 ^ ((xs.getD 0 0).toNat % 32 - 24) then (0, 0, 0, 6) else ((xs.getD 0 0).toNat / 32, getN xs 1 (2 ^ ((xs.getD 0 0).toNat % 32 - 24) : Nat), 1 + 2 ^ ((xs.getD 0 0).toNat % 32 - 24), 0) := by
      unfold hget; rw [if_neg (by omega)]
    generalize hget xs = r at *
    generalize (xs.getD 0 0).toNat = b at *
    have hpos : (1 : Int) ≤ n := by omega
    have hbl2 : b < 256 := hbl
    clear hbl
    by_cases h24 : b % 32 < 24
    · rw [if_pos h24] at hG
      have HG := Lib.hid hG
      clear hG
      go_enter Try.func45, Try.ntmps45
      go_wp2_with fail
      rw [HG.out]
      exact bodyPost_ret (v := .tuple #[.int .i64 ((b / 32 : Nat) : Int), .int .u64 ((b % 32 : Nat) : Int), .int .i64 1, .int .i64 0]) (by simp [results, Try.results45, go_sem]) rfl ⟨rfl, hB⟩
    · rw [if_neg h24] at hG
      by_cases h27 : 27 < b % 32
      · rw [if_pos h27] at hG
        have HG := Lib.hid hG
        clear hG
        go_enter Try.func45, Try.ntmps45
        go_wp2_with fail
        rw [HG.out]
        exact bodyPost_ret (v := .tuple #[.int .i64 0, .int .u64 0, .int .i64 0, .int .i64 6]) (by simp [results, Try.results45, go_sem]) rfl ⟨rfl, hB⟩
      · rw [if_neg h27] at hG
        obtain ⟨hB1, hca⟩ := one_cells w #[.int .i64 1, .int .i64 2, .int .i64 4, .int .i64 8] 3
        obtain ⟨q, hq⟩ : ∃ q, q = 2 ^ (b % 32 - 24) := ⟨_, rfl⟩
        have hq8 : 1 ≤ q ∧ q ≤ 8 ∧ (#[.int .i64 1, .int .i64 2, .int .i64 4, .int .i64 8] : Array Value)[b % 32 - 24]? = some (.int .i64 (q : Int)) := by
          have : b % 32 = 24 ∨ b % 32 = 25 ∨ b % 32 = 26 ∨ b % 32 = 27 := by omega
          rcases this with h | h | h | h <;> rw [hq, h] <;> exact ⟨by decide, by decide, rfl⟩
        obtain ⟨hq1, hq2, hw⟩ := hq8
        have hl := hca _ _ hw
        have hx1 := hx.below hB1
        rw [← hq, hn] at hG
        clear hq hca hw
        have i1 : (0 : Int) ≤ (b : Int) % 32 - 24 := by omega
        have i2 : (b : Int) % 32 - 24 < 4 := by omega
        have i3 : ((b : Int) % 32 - 24).toNat = b % 32 - 24 := by omega
        by_cases hs : n < 1 + q
        · rw [if_pos hs] at hG
          have HG := Lib.hid hG
          clear hG
          have hs2 : (n : Int) ≤ q := by omega
          go_enter Try.func45, Try.ntmps45
          go_wp2_with fail
          rw [HG.out]
          exact bodyPost_ret (v := .tuple #[.int .i64 0, .int .u64 0, .int .i64 0, .int .i64 5]) (by simp [results, Try.results45, go_sem]) rfl ⟨rfl, hB1⟩
        · rw [if_neg hs] at hG
          have KG := fun W h => Lib.hid (refnumber_any 1 q xs (some ad) n c W h hN)
          have hgl := getN_lt xs 1 q
          simp only [show ((1 : Nat) : Int) = 1 from rfl] at KG
          generalize getN xs 1 q = v at *
          have KW := fun W => Lib.hid (refput_any 0 v W (by omega) hgl)
          have hwl := wideN_le v
          generalize headB 0 v = hb0 at *
          generalize wideN v = u at *
          clear hgl
          have hs2 : (q : Int) < n := by omega
          by_cases hu : u = q
          · rw [if_neg (by simp [hu])] at hG
            have HG := Lib.hid hG
            clear hG
            subst hu
            have hlen : ((1 + u : Nat) : Int) = 1 + (u : Int) := by omega
            go_enter Try.func45, Try.ntmps45
            go_wp2_with (first
              | (go_at_call 32; refine (KG _ hx1).out.mono ?_; rintro e w2 ⟨rfl, rfl⟩)
              | (go_at_call 42; refine (KW _).out.mono ?_; rintro e w3 ⟨vv, rfl, how, hb⟩; obtain ⟨A3, c3, rfl, hr3, -⟩ := Rd.of_own how; replace hB1 := below_trans hB1 hb; clear hb))
            rw [HG.out]
            exact bodyPost_ret (v := .tuple #[.int .i64 ((b / 32 : Nat) : Int), .int .u64 (v : Int), .int .i64 ((1 + u : Nat) : Int), .int .i64 0]) (by simp [results, Try.results45, go_sem]) rfl ⟨rfl, hB1⟩
          · rw [if_pos hu] at hG
            have HG := Lib.hid hG
            clear hG
            have hu2 : ¬ ((u : Int) = q) := by omega
            go_enter Try.func45, Try.ntmps45
            go_wp2_with (first
              | (go_at_call 32; refine (KG _ hx1).out.mono ?_; rintro e w2 ⟨rfl, rfl⟩)
              | (go_at_call 42; refine (KW _).out.mono ?_; rintro e w3 ⟨vv, rfl, how, hb⟩; obtain ⟨A3, c3, rfl, hr3, -⟩ := Rd.of_own how; replace hB1 := below_trans hB1 hb; clear hb))
            rw [HG.out]
            exact bodyPost_ret (v := .tuple #[.int .i64 0, .int .u64 0, .int .i64 0, .int .i64 6]) (by simp [results, Try.results45, go_sem]) rfl ⟨rfl, hB1⟩
end Go.Proofs.Ythkabhejfkekjaa
