/- Contracts of package be: laying numbers, rows of numbers; the reference's bytes. No condition but the lengths' bounds. -/
import Derived.Test.YtefipigdkdopcaaBe
import Derived.StillTailTactics
namespace Go.Proofs.Ytefipigdkdopcaa
open Go.RowKit

theorem byte_shr (m q : Nat) : (m : Int) / 2 ^ (8 * q) % 256 = ((UInt8.ofNat (m / 256 ^ q)).toNat : Int) := by
  have e : (2 : Nat) ^ (8 * q) = 256 ^ q := by rw [Nat.pow_mul]
  have e2 : ((2 : Int) ^ (8 * q)) = ((256 ^ q : Nat) : Int) := by rw [← e]; simp
  rw [e2, UInt8.toNat_ofNat']
  omega

set_option maxHeartbeats 800000 in
theorem put_any (k : Int) (m : Nat) (xs : List UInt8) (A : Option Addr) (n c : Nat) (w : World) (hm64 : m < 18446744073709551616) (hx : RdB w A n c xs) (hN : n ≤ 140737488355000) :
    Calls Try.prog 120 #[.slice A n c, .int .i64 k, .int .u64 m] w fun e w' => ∃ v, e = .returned v ∧ w'.ownsRow w.heap.size 5 1 v (n + wid k) (bs (xs ++ putB (wid k) m)) ∧ Below w.heap.size w w' := by
  have hn := hx.blen
  have Hn := Lib.hid hn; clear hn
  have hm := hx.cm
  have hnc := hx.nc
  unfold maxLen at hm
  have hB := Below.refl w.heap.size w
  have own0 := World.ownsRow_nil w w.heap.size 5 1
  have hwid := wid_le k
  go_enter Try.func120, Try.ntmps120
  go_wp2_with (first
    | (at_builtin; refine wpl_append rfl (.const (.slice none 0 0)) (.tmp 9) 53 rfl w.heap.size 5 _ 1 1 Try.underlying53 info_u8 rfl (by decide) _ 0 [] rfl own0 A n c (bs xs) rfl hx (bs_one _) (by unfold maxLen; omega) (by omega) (Nat.le_refl _) ?_; intro v1 w1 ho1 hg1; have hB1 := below_own hB own0 hg1; clear hg1)
    | (go_at_call 133; refine (width_any _ _).mono ?_; rintro e w' ⟨rfl, rfl⟩))
  go_loopw [7, 8] (fun v i wr => ∃ j : Nat, j ≤ wid k ∧ i = .int .i64 ((wid k : Int) - 1 - j) ∧ wr.ownsRow w.heap.size 5 1 v (n + j) (bs (xs ++ (putB (wid k) m).take j)) ∧ Below w.heap.size w wr) (fun _ i _ => (intOf i + 1).toNat)
  case atStart => exact ⟨0, by omega, by go_num, by simpa using ho1, hB1⟩
  case round =>
    obtain ⟨j, hj, rfl, ho, hBr⟩ := hrel
    by_cases hlt : j < wid k
    · have hb := byte_shr m (wid k - 1 - j)
      have ht := Lib.hid (putB_take (wid k) m j hlt)
      generalize UInt8.ofNat (m / 256 ^ (wid k - 1 - j)) = b at *
      go_wp2_with (first
        | (at_builtin; refine wpl_append1 rfl (.tmp 18) (.tmp 24) 53 rfl w.heap.size 5 _ 1 1 Try.underlying53 info_u8 rfl (by decide) _ _ _ rfl ho #[.int .u8 (b.toNat : Int)] (0, 0) 1 rfl rfl one8 (by unfold maxLen; omega) (by omega) (by have := hBr.size; omega) ?_; intro v2 w2 ho2 hg2; have hB2 := below_own hBr ho hg2; clear hg2))
      go_roundw
      case rel => exact ⟨j + 1, by omega, by go_num, by rw [ht.out, ← List.append_assoc, bs_append]; exact ho2, hB2⟩
      case measure => simp [intOf]; omega
    · obtain rfl : j = wid k := by omega
      have e : (putB (wid k) m).take (wid k) = putB (wid k) m := List.take_of_length_le (by rw [putB_length]; omega)
      rw [e] at ho
      have Ho := Lib.hid ho
      clear e ho ho1
      go_wp2_with fail
      go_ret
      exact ⟨_, rfl, Ho.out, hBr⟩

set_option maxHeartbeats 800000 in
theorem rowput_any (k m : Nat) (g : Nat) (xs : List UInt8) (A : Option Addr) (n c : Nat) (w : World) (hm64 : m < 18446744073709551616) (hk64 : k < 18446744073709551616) (hg : w.heap[g]? = some (.cells #[.slice A n c] 53 (0, 0))) (hx : RdB w A n c xs) (hN : n ≤ 140737488355000) :
    Calls Try.prog 138 #[.int .u64 k, .int .u64 m, .pointer (some ⟨g, 0, none⟩)] w fun e w' => ∃ A' c', e = .returned (.tuple #[]) ∧ w'.heap[g]? = some (.cells #[.slice A' (n + min k 8) c'] 53 (0, 0)) ∧ RdB w' A' (n + min k 8) c' (xs ++ putB (min k 8) m) ∧ w.grownBy w' (some g) := by
  have hp : w.cell? ⟨g, 0, none⟩ = some (.slice A n c) := cell_heap hg
  have hgl := heap_lt hg
  have K := Lib.hid (put_any (min k 8 : Nat) m xs A n c w hm64 hx hN)
  have hw8 : wid ((min k 8 : Nat) : Int) = min k 8 := by unfold wid; omega
  rw [hw8] at K
  clear hw8
  have hkk : k ≤ 8 ∨ 8 < k := by omega
  have Hg := Lib.hid hg; clear hg
  rcases hkk with h | h
  case' inl => have e : min k 8 = k := by omega
  case' inr => have e : min k 8 = 8 := by omega
  all_goals
    rw [e] at K ⊢
    clear e
    go_enter Try.func138, Try.ntmps138
    go_wp2_with fail
    refine K.out.mono ?_
    rintro e w1 ⟨v, rfl, ho, hb⟩
    have h1 := (hb.block g hgl).trans Hg.out
    have hc1 : w1.cell? ⟨g, 0, none⟩ = some (.slice A n c) := cell_heap h1
    have hf1 : w1.frozen? ⟨g, 0, none⟩ = false := frozen_heap h1
    obtain ⟨A2, c2, rfl, hr, hbl⟩ := Rd.of_own ho
    have H2 := Lib.hid (fun v => set_heap (o := 0) h1 v)
    have hgb := Lib.hid (fun v => World.grownBy.trans (gb_below hb (some g)) (gb_set w1 g 0 v))
    have hr2 := Lib.hid (fun v => hr.kept (gb_set w1 g 0 v) (fun ad e => by have := hbl ad e; simp; omega))
    clear h1 ho hb hr hbl
    go_wp2_with fail
    go_end0
    exact ⟨A2, c2, rfl, H2.out _, hr2.out _, hgb.out _⟩

set_option maxRecDepth 100000 in
set_option maxHeartbeats 800000 in
theorem row_any (ps : List Nat) (A : Option Addr) (n c : Nat) (w : World) (hx : RdU w A n c ps) (hN : n ≤ 1000000) (h64 : ∀ i, ps.getD i 0 < 18446744073709551616) :
    Calls Try.prog 119 #[.slice A n c] w fun e w' => ∃ A' n' c', e = .returned (.slice A' n' c') ∧ RdB w' A' n' c' (rowN ps (n / 2)) ∧ Below w.heap.size w w' := by
  have hn := hx.ulen
  have Hn := Lib.hid hn; clear hn
  have hm := hx.cm
  have hnc := hx.nc
  unfold maxLen at hm
  have hB0 : Below w.heap.size w (w.alloc (.cells #[.slice none 0 0] 53)) := (Below.refl _ _).alloc (Nat.le_refl _) _
  have hg0 : (w.alloc (.cells #[.slice none 0 0] 53)).heap[w.heap.size]? = some (.cells #[.slice none 0 0] 53 (0, 0)) := alloc_new _ _
  go_enter Try.func119, Try.ntmps119
  go_wp2_with fail
  generalize w.alloc (.cells #[.slice none 0 0] 53) = w1 at *
  go_loopw [5] (fun i wr => ∃ (j L : Nat) (A' : Option Addr) (c' : Nat), 2 * j ≤ n ∧ L ≤ 8 * j ∧ i = .int .i64 ((2 * j : Nat) : Int) ∧ wr.heap[w.heap.size]? = some (.cells #[.slice A' L c'] 53 (0, 0)) ∧ RdB wr A' L c' (rowN ps j) ∧ Below w.heap.size w wr) (fun i _ => n - (intOf i).toNat)
  case atStart => exact ⟨0, 0, none, 0, by omega, by omega, rfl, hg0, Rd.empty _ _, hB0⟩
  case round =>
    obtain ⟨j, L, A', c', hj, hL, rfl, hg, hr, hBr⟩ := hrel
    by_cases hlt : 2 * j + 1 < n
    · have hp0 := h64 (2 * j)
      have hp1 := h64 (2 * j + 1)
      obtain ⟨ad, rfl, hc0⟩ := (hx.below hBr.drew).uat (2 * j) (by omega)
      obtain ⟨_, e, hc1⟩ := (hx.below hBr.drew).uat (2 * j + 1) hlt
      cases e
      have hrow : Hid (rowN ps (j + 1) = rowN ps j ++ putB (min (ps.getD (2 * j) 0) 8) (ps.getD (2 * j + 1) 0)) := rfl
      have K := fun W h1 h2 => Lib.hid (rowput_any (ps.getD (2 * j) 0) (ps.getD (2 * j + 1) 0) w.heap.size (rowN ps j) A' L c' W hp1 hp0 h1 h2 (by omega))
      generalize ps.getD (2 * j) 0 = p0 at *
      generalize ps.getD (2 * j + 1) 0 = p1 at *
      clear h64
      have hgd : wr.drew.heap[w.heap.size]? = some (.cells #[.slice A' L c'] 53 (0, 0)) := hg
      have hrd : RdB wr.drew A' L c' (rowN ps j) := hr.below ((Below.refl _ _).drew)
      have hBd := hBr.drew
      have K2 := K _ hgd hrd
      have Hgd := Lib.hid hgd
      clear K hg hgd hp0 hp1
      obtain ⟨q, hq⟩ : ∃ q, q = 2 * j := ⟨_, rfl⟩
      have Hq := Lib.hid hq
      rw [← hq] at hc0 hc1 hlt hj ⊢
      have hq1 : q < n := by omega
      rw [show ad.add (q + 1) = ⟨ad.block, ad.off + (q + 1), none⟩ from by simp [Addr.add]] at hc1
      have hq2 : (q : Int) < n := by omega
      have hq3 : (q : Int) + 1 < n := by omega
      have hq4 : (0 : Int) ≤ (q : Int) + 1 := by omega
      have hq5 : ((q : Int) + 1).toNat = q + 1 := by omega
      have hq6 : IntKind.i64.wrap ((q : Int) + 1) = (q : Int) + 1 := by rw [IntKind.wrap_i64]; omega
      clear hq
      go_wp2_with fail
      refine wp_region_still_tail 10 (by kernel_rfl) (by kernel_rfl) ?_
      simp only [List.take_succ_cons, List.take_zero, List.drop_succ_cons, List.drop_zero]
      change wpStill _ _ wr.drew (fun a' => wpList _ _ _ _ a' wr.drew) _ _
      generalize wr.drew = w2 at *
      repeat still_step
      refine wpStill_nil ?_
      go_wp2_with (go_at_call 138; refine K2.out.mono ?_; rintro e w' ⟨A2, c2, rfl, h2, hr2, hgb⟩; have hB2 := hBd.trans (below_gb hgb hBd.size (Nat.le_refl _)); have H2 := Lib.hid h2; clear h2 hgb)
      go_roundw
      case rel => exact ⟨j + 1, L + min p0 8, A2, c2, by have := Hq.out; omega, by omega, by have := Hq.out; go_num, H2.out, by rw [hrow.out]; exact hr2, hB2⟩
      case measure => have := Hq.out; simp [intOf]; omega
    · have hp : wr.cell? ⟨w.heap.size, 0, none⟩ = some (.slice A' L c') := cell_heap hg
      have e : Hid (j = n / 2) := by show _ = _; omega
      clear hg
      go_wp2_with fail
      go_ret
      exact ⟨A', L, c', rfl, by rw [← e.out]; exact hr, hBr⟩
end Go.Proofs.Ytefipigdkdopcaa
