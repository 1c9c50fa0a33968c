/- The three laws of layer 3, walked: each returns true and writes nothing that was there. No condition. -/
import Derived.Test.YthkabhejfkekjaaCrcRef
import Derived.RegionTactic
import Derived.ChangeAlike
namespace Go.Proofs.Ythkabhejfkekjaa
open Go.RowKit

set_option maxHeartbeats 1000000 in
theorem crcsums_law (kind : Int) (xs : List UInt8) (A : Option Addr) (n c : Nat) (w : World) (hx : RdB w A n c xs) :
    Calls Try.prog 3 #[.slice A n c, .int .i64 kind] w fun e w' => e = .returned (.bool true) ∧ Below w.heap.size w w' := by
  have hm := hx.cm
  have hnc := hx.nc
  unfold maxLen at hm
  have hB := Below.refl w.heap.size w
  by_cases hlen : 2000 < n
  · go_enter Try.func3, Try.ntmps3
    go_wp2_with (go_at_call 19; refine (awake03_any _).mono ?_; rintro e w2 ⟨rfl, hb⟩; replace hB := below_trans hB hb; clear hb)
    go_ret
    exact ⟨rfl, hB⟩
  · have K1 := fun W h => Lib.hid (short_any xs A n c W h)
    have K2 := fun W h => Lib.hid (long_any xs A n c W h)
    have K3 := fun k W h => Lib.hid (crcof_any k xs A n c W h)
    have K4 := fun k W h => Lib.hid (refof_any k xs A n c W h)
    have s1 := crcS_lt xs
    have s2 := crcL_lt xs
    have o1 := K4 1
    have o2 := K4 2
    rw [show crcOf 1 xs = crcS xs from rfl] at o1
    rw [show crcOf 2 xs = crcL xs from rfl] at o2
    have k3 := K3 kind
    have k4 := K4 kind
    clear K3 K4
    have hk : (kind = 1 ∧ (kind == 1) = true ∧ True ∧ crcOf kind xs = crcS xs ∧ crcW kind = 2) ∨ (kind = 2 ∧ (kind == 1) = false ∧ (kind == 2) = true ∧ crcOf kind xs = crcL xs ∧ crcW kind = 4) ∨ (kind = kind ∧ (kind == 1) = false ∧ (kind == 2) = false ∧ crcOf kind xs = 0 ∧ crcW kind = 0) := by
      by_cases h1 : kind = 1
      · subst h1; exact .inl ⟨rfl, rfl, trivial, rfl, rfl⟩
      · by_cases h2 : kind = 2
        · subst h2; exact .inr (.inl ⟨rfl, rfl, rfl, rfl, rfl⟩)
        · exact .inr (.inr ⟨rfl, by simp [h1], by simp [h2], by rw [crcOf, if_neg h1, if_neg h2], by rw [crcW, if_neg h1, if_neg h2]⟩)
    rcases hk with ⟨rfl, hk, hk2, e3, e4⟩ | ⟨rfl, hk, hk2, e3, e4⟩ | ⟨-, hk, hk2, e3, e4⟩
    all_goals
      rw [e3] at k3 k4
      clear e3
      generalize crcS xs = r1 at *
      generalize crcL xs = r2 at *
      go_enter Try.func3, Try.ntmps3
      go_wp2_with (first
        | (go_at_call 19; refine (awake03_any _).mono ?_; rintro e w2 ⟨rfl, hb⟩; replace hB := below_trans hB hb; replace hx := hx.below hb; clear hb)
        | (go_at_call 20; refine (K1 _ hx).out.mono ?_; rintro e w2 ⟨rfl, hb⟩; replace hx := hx.below hb; replace hB := below_trans hB hb; clear hb)
        | (go_at_call 22; refine (K2 _ hx).out.mono ?_; rintro e w2 ⟨rfl, hb⟩; replace hx := hx.below hb; replace hB := below_trans hB hb; clear hb)
        | (go_at_call 23; refine (k3 _ hx).out.mono ?_; rintro e w2 ⟨rfl, hb⟩; replace hx := hx.below hb; replace hB := below_trans hB hb; clear hb)
        | (go_at_call 21; (first | (with_reducible refine (o1 _ hx).out.mono ?_) | (with_reducible refine (o2 _ hx).out.mono ?_) | refine (k4 _ hx).out.mono ?_); rintro e w2 ⟨rfl, rfl⟩)
        | (go_at_call 24; refine (width3_any _ _).mono ?_; rintro e w2 ⟨rfl, rfl⟩))
      go_ret
      exact ⟨rfl, hB⟩

theorem info_u8 : (Try.prog.info? 5).map (fun i => (i.zero, i.size, i.bytes)) = some (some (.int .u8 0), 1, 1) := by kernel_rfl

set_option maxHeartbeats 1000000 in
theorem crcgoes_law (xs ys : List UInt8) (A A' : Option Addr) (n c n' c' : Nat) (w : World) (hx : RdB w A n c xs) (hy : RdB w A' n' c' ys) :
    Calls Try.prog 4 #[.slice A n c, .slice A' n' c'] w fun e w' => e = .returned (.bool true) ∧ Below w.heap.size w w' := by
  have hm := hx.cm
  have hnc := hx.nc
  have hm' := hy.cm
  have hnc' := hy.nc
  unfold maxLen at hm hm'
  have hB := Below.refl w.heap.size w
  by_cases hlen : 1000 < n
  · go_enter Try.func4, Try.ntmps4
    go_wp2_with (go_at_call 19; refine (awake03_any _).mono ?_; rintro e w2 ⟨rfl, hb⟩; replace hB := below_trans hB hb; clear hb)
    go_ret
    exact ⟨rfl, hB⟩
  have hd : decide ((1000 : Int) < n) = false := by rw [decide_eq_false_iff_not]; omega
  by_cases hlen' : 1000 < n'
  · go_enter Try.func4, Try.ntmps4
    go_wp2_with (go_at_call 19; refine (awake03_any _).mono ?_; rintro e w2 ⟨rfl, hb⟩; replace hB := below_trans hB hb; clear hb)
    go_ret
    exact ⟨rfl, hB⟩
  · have hd' : decide ((1000 : Int) < n') = false := by rw [decide_eq_false_iff_not]; omega
    have hB0 : Below w.heap.size w (w.alloc (.cells #[] 5)) := hB.alloc (Nat.le_refl _) _
    have own0 := own_empty w 5 1
    have hx0 := hx.below hB0
    go_enter Try.func4, Try.ntmps4
    go_wp2_with (first
      | (at_builtin; refine wpl_append rfl (.tmp 15) (.tmp 16) 22 rfl w.heap.size 5 _ 1 1 Try.underlying22 info_u8 rfl (by decide) _ 0 [] rfl own0 A n c (bs xs) rfl hx0 (bs_one _) (by unfold maxLen; omega) (by omega) (by simp) ?_; intro v1 w1 ho1 hg1; have hB1 := below_own hB0 own0 hg1; clear hg1)
      | (at_builtin; refine wpl_append rfl (.tmp 17) (.tmp 18) 22 rfl w.heap.size 5 _ 1 1 Try.underlying22 info_u8 rfl (by decide) _ _ _ rfl ho1 A' n' c' (bs ys) rfl (hy.below hB1) (bs_one _) (by unfold maxLen; omega) (by omega) (by have := hB1.size; omega) ?_; intro v2 w2 ho2 hg2; have hB2 := below_own hB1 ho1 hg2; clear hg2 ho1)
      | (go_at_call 19; fail))
    clear hB0 own0 hx0 hB1
    have hx2 := hx.below hB2
    have hy2 := hy.below hB2
    obtain ⟨A2, c2, rfl, hz2, -⟩ := Rd.of_own ho2
    rw [List.nil_append, ← bs_append, Nat.zero_add] at hz2
    rw [Nat.zero_add]
    clear ho2 hB hx hy
    have s1 := crcS_lt xs
    have s2 := crcL_lt xs
    have K1 := fun W h => Lib.hid (short_any xs A n c W h)
    have K2 := fun W h => Lib.hid (long_any xs A n c W h)
    have K3 := fun W h => Lib.hid (short_any (xs ++ ys) A2 (n + n') c2 W h)
    have K4 := fun W h => Lib.hid (long_any (xs ++ ys) A2 (n + n') c2 W h)
    have K5 := fun W h => Lib.hid (goshort_any (crcS xs) ys A' n' c' W s1 h)
    have K6 := fun W h => Lib.hid (golong_any (crcL xs) ys A' n' c' W s2 h)
    have e1 : crcS (xs ++ ys) = crcGo 65535 33800 (crcS xs) ys := crcGo_append _ _ _ _ _
    have e2 : crcL (xs ++ ys) = crcGo 4294967295 2197175160 (crcL xs) ys := crcGo_append _ _ _ _ _
    rw [e1] at K3
    rw [e2] at K4
    clear e1 e2 hd hd'
    generalize crcS xs = r1 at *
    generalize crcL xs = r2 at *
    generalize crcGo 65535 33800 r1 ys = r3 at *
    generalize crcGo 4294967295 2197175160 r2 ys = r4 at *
    generalize hN : n + n' = N at *
    clear hN
    go_wp2_with (first
      | (go_at_call 19; refine (awake03_any _).mono ?_; rintro e w2 ⟨rfl, hb⟩; replace hB2 := below_trans hB2 hb; replace hx2 := hx2.below hb; replace hy2 := hy2.below hb; replace hz2 := hz2.below hb; clear hb)
      | (go_at_call 20; (first | (with_reducible refine (K1 _ hx2).out.mono ?_) | (with_reducible refine (K3 _ hz2).out.mono ?_)); rintro e w2 ⟨rfl, hb⟩; replace hB2 := below_trans hB2 hb; replace hx2 := hx2.below hb; replace hy2 := hy2.below hb; replace hz2 := hz2.below hb; clear hb)
      | (go_at_call 22; (first | (with_reducible refine (K2 _ hx2).out.mono ?_) | (with_reducible refine (K4 _ hz2).out.mono ?_)); rintro e w2 ⟨rfl, hb⟩; replace hB2 := below_trans hB2 hb; replace hx2 := hx2.below hb; replace hy2 := hy2.below hb; replace hz2 := hz2.below hb; clear hb)
      | (go_at_call 25; refine (K5 _ hy2).out.mono ?_; rintro e w2 ⟨rfl, hb⟩; replace hB2 := below_trans hB2 hb; replace hx2 := hx2.below hb; replace hy2 := hy2.below hb; replace hz2 := hz2.below hb; clear hb)
      | (go_at_call 26; refine (K6 _ hy2).out.mono ?_; rintro e w2 ⟨rfl, hb⟩; replace hB2 := below_trans hB2 hb; replace hx2 := hx2.below hb; replace hy2 := hy2.below hb; replace hz2 := hz2.below hb; clear hb))
    go_ret
    exact ⟨rfl, hB2⟩

theorem bs_set (xs : List UInt8) (j : Nat) (b : UInt8) : (bs xs).set j (.int .u8 (b.toNat : Int)) = bs (xs.set j b) := by simp [bs, List.map_set]
theorem xor8 (a b : Nat) (ha : a < 256) (hb : b < 256) : bits .xor .u8 a b = ((a ^^^ b : Nat) : Int) := bits_xor .u8 8 (by decide) wraps_u8 a b ha hb
theorem turned_byte (x : UInt8) (r : Nat) (hr : r < 8) : ∃ nb : UInt8, bits .xor .u8 (x.toNat : Int) (2 ^ r % 256) = (nb.toNat : Int) ∧ nb ≠ x := by
  have h2 : 2 ^ r < 256 := Nat.lt_of_lt_of_le (Nat.pow_lt_pow_right (by decide) hr) (by decide)
  have h1 : 0 < 2 ^ r := Nat.two_pow_pos r
  have hl : x.toNat ^^^ 2 ^ r < 256 := xor_lt (n := 8) x.toNat_lt h2
  have e1 : ((2 : Int) ^ r % 256) = ((2 ^ r : Nat) : Int) := by
    have : ((2 : Int) ^ r) = ((2 ^ r : Nat) : Int) := by simp
    rw [this]; omega
  refine ⟨UInt8.ofNat (x.toNat ^^^ 2 ^ r), ?_, fun h => ?_⟩
  · rw [e1, xor8 _ _ x.toNat_lt h2, UInt8.toNat_ofNat']; omega
  · have := congrArg UInt8.toNat h
    rw [UInt8.toNat_ofNat', Nat.mod_eq_of_lt hl] at this
    have h3 : x.toNat ^^^ (x.toNat ^^^ 2 ^ r) = x.toNat ^^^ x.toNat := by rw [this]
    rw [xor_cancel, Nat.xor_self] at h3
    omega

set_option maxHeartbeats 1000000 in
theorem crcturned_law (xs : List UInt8) (at_ : Nat) (A : Option Addr) (n c : Nat) (w : World) (hx : RdB w A n c xs) (hat : at_ < 65536) :
    Calls Try.prog 5 #[.slice A n c, .int .u16 at_] w fun e w' => e = .returned (.bool true) ∧ Below w.heap.size w w' := by
  have hm := hx.cm
  have hnc := hx.nc
  unfold maxLen at hm
  have hB := Below.refl w.heap.size w
  by_cases hz : n = 0
  · subst hz
    go_enter Try.func5, Try.ntmps5
    go_wp2_with (go_at_call 19; refine (awake03_any _).mono ?_; rintro e w2 ⟨rfl, hb⟩; replace hB := below_trans hB hb; clear hb)
    go_ret
    exact ⟨rfl, hB⟩
  have hz' : ((n : Int) == 0) = false := by rw [beq_eq_false_iff_ne]; omega
  have hz2 : 0 < n := by omega
  clear hz
  by_cases hlen : 1000 < n
  · go_enter Try.func5, Try.ntmps5
    go_wp2_with (go_at_call 19; refine (awake03_any _).mono ?_; rintro e w2 ⟨rfl, hb⟩; replace hB := below_trans hB hb; clear hb)
    go_ret
    exact ⟨rfl, hB⟩
  · have hd : decide ((1000 : Int) < n) = false := by rw [decide_eq_false_iff_not]; omega
    have hB0 : Below w.heap.size w (w.alloc (.cells #[] 5)) := hB.alloc (Nat.le_refl _) _
    have own0 := own_empty w 5 1
    have hx0 := hx.below hB0
    go_enter Try.func5, Try.ntmps5
    go_wp2_with (first
      | (at_builtin; refine wpl_append rfl (.tmp 16) (.tmp 17) 22 rfl w.heap.size 5 _ 1 1 Try.underlying22 info_u8 rfl (by decide) _ 0 [] rfl own0 A n c (bs xs) rfl hx0 (bs_one _) (by unfold maxLen; omega) (by omega) (by simp) ?_; intro v1 w1 ho1 hg1; have hB1 := below_own hB0 own0 hg1; clear hg1))
    clear hB0 own0 hx0
    rw [show ((at_ : Int) % (8 * (n : Int))) = ((at_ % (8 * n) : Nat) : Int) by simp]
    have hi : at_ % (8 * n) < 8 * n := Nat.mod_lt _ (by omega)
    generalize at_ % (8 * n) = i at *
    obtain ⟨g, cap, rfl, -⟩ := World.ownsRow.form ho1 (by omega)
    have hl : xs.length = n := hx.blen
    have hcell := ho1.cellAt (i / 8) (by omega)
    have hf := ho1.frozenAt (i / 8)
    rw [List.nil_append, bs_get xs (i / 8) (by omega)] at hcell
    obtain ⟨nb, hnb, hne⟩ := turned_byte (xs[i / 8]) (i % 8) (by omega)
    have hset := (ho1.stored (i / 8) (.int .u8 (nb.toNat : Int))).1
    rw [List.nil_append, bs_set, Nat.zero_add] at hset
    have hB2 : Below w.heap.size w (w1.setCell ⟨g, i / 8, none⟩ (.int .u8 (nb.toNat : Int))) := hB1.setCell (by have := (ho1.lt g rfl).1; simpa using this) _
    have hne2 : nb ≠ xs.getD (i / 8) 0 := by rw [List.getD_eq_getElem?_getD, List.getElem?_eq_getElem (by omega)]; exact hne
    have hb := toNat_lt (xs[i / 8])
    have t1 := Lib.hid (crcGo_turned (n := 16) (p := 33800) (by omega) (by omega) (by omega) 0 (by omega) xs (i / 8) (by omega) nb hne2)
    have t2 := Lib.hid (crcGo_turned (n := 32) (p := 2197175160) (by omega) (by omega) (by omega) 0 (by omega) xs (i / 8) (by omega) nb hne2)
    clear ho1 hne hne2
    generalize (xs[i / 8]).toNat = b at *
    clear hl
    have Hnb := Lib.hid hnb; clear hnb
    have Hset := Lib.hid hset; clear hset
    have hq : (i : Int) / 8 < n := by omega
    have hd8 : Int.tdiv (i : Int) 8 = ((i / 8 : Nat) : Int) := by rw [Int.tdiv_eq_ediv_of_nonneg (by omega)]; omega
    have hm8 : Int.tmod (i : Int) 8 = ((i % 8 : Nat) : Int) := by rw [Int.tmod_eq_emod_of_nonneg (by omega)]; omega
    have hwd : IntKind.i64.wrap ((i / 8 : Nat) : Int) = ((i / 8 : Nat) : Int) := by rw [IntKind.wrap_i64]; omega
    have hmm : IntKind.i64.wrap ((i % 8 : Nat) : Int) = ((i % 8 : Nat) : Int) := by rw [IntKind.wrap_i64]; omega
    go_region
    clear hcell hf hq hd8 hm8 hwd hmm hB1
    rw [Hnb.out]
    generalize (w1.setCell ⟨g, i / 8, none⟩ (.int .u8 (nb.toNat : Int))) = w2 at *
    have hy0 := (World.ownsRow.drew Hset.out)
    obtain ⟨A2, c2, e2, hz2, -⟩ := Rd.of_own hy0
    cases e2
    have hB3 := hB2.drew
    have hx2 := hx.below hB3
    clear hB hx hB2 Hset hy0 Hnb
    have K1 := fun W h => Lib.hid (short_any xs A n c W h)
    have K2 := fun W h => Lib.hid (long_any xs A n c W h)
    have K3 := fun W h => Lib.hid (short_any (xs.set (i / 8) nb) (some ⟨g, 0, none⟩) n cap W h)
    have K4 := fun W h => Lib.hid (long_any (xs.set (i / 8) nb) (some ⟨g, 0, none⟩) n cap W h)
    have t1' : ((crcS xs : Int) != (crcS (xs.set (i / 8) nb) : Int)) = true := by
      rw [bne_iff_ne]; intro h; exact t1.out (by have : crcS xs = crcS (xs.set (i / 8) nb) := by omega
                                                 exact this.symm)
    have t2' : ((crcL xs : Int) != (crcL (xs.set (i / 8) nb) : Int)) = true := by
      rw [bne_iff_ne]; intro h; exact t2.out (by have : crcL xs = crcL (xs.set (i / 8) nb) := by omega
                                                 exact this.symm)
    clear t1 t2
    generalize xs.set (i / 8) nb = ys at *
    generalize crcS xs = r1 at *
    generalize crcL xs = r2 at *
    generalize crcS ys = r3 at *
    generalize crcL ys = r4 at *
    generalize w2.drew = w3 at *
    go_wp2_with (first
      | (go_at_call 19; refine (awake03_any _).mono ?_; rintro e w2 ⟨rfl, hb⟩; replace hB3 := below_trans hB3 hb; replace hx2 := hx2.below hb; replace hz2 := hz2.below hb; clear hb)
      | (go_at_call 20; (first | (with_reducible refine (K1 _ hx2).out.mono ?_) | (with_reducible refine (K3 _ hz2).out.mono ?_)); rintro e w2 ⟨rfl, hb⟩; replace hB3 := below_trans hB3 hb; replace hx2 := hx2.below hb; replace hz2 := hz2.below hb; clear hb)
      | (go_at_call 22; (first | (with_reducible refine (K2 _ hx2).out.mono ?_) | (with_reducible refine (K4 _ hz2).out.mono ?_)); rintro e w2 ⟨rfl, hb⟩; replace hB3 := below_trans hB3 hb; replace hx2 := hx2.below hb; replace hz2 := hz2.below hb; clear hb))
    go_ret
    exact ⟨rfl, hB3⟩
end Go.Proofs.Ythkabhejfkekjaa
