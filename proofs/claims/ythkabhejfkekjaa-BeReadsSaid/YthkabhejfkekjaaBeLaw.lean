/- The laws of layer 1, walked: each returns true and writes nothing that was there. No condition. -/
import Derived.Test.YthkabhejfkekjaaBeRd
import Derived.Deep.RegionHeld3
import Derived.Deep.QuietTactic
import Derived.BigQuiet
namespace Go.Proofs.Ythkabhejfkekjaa
open Go.RowKit

theorem cells_rd {w : World} {cs : Array Value} {e : TypeId} {n : Nat} (hn : cs.size = n) (hm : n ≤ maxLen) : Rd (w.alloc (.cells cs e)) (some ⟨w.heap.size, 0, none⟩) n n 1 cs.toList := by
  refine ⟨by simpa using hn, Nat.le_refl _, hm, fun e => (by cases e), fun ad e j u hu => ?_⟩
  cases e
  exact World.news_of_block (alloc_new w _) j u hu

set_option maxRecDepth 100000 in
set_option maxHeartbeats 1000000 in
theorem awake01_any (w : World) : Calls Try.prog 27 #[] w fun e w' => e = .returned (.bool true) ∧ Below w.heap.size w w' := by
  have hB : Below w.heap.size w (w.alloc (.cells #[.int .u8 9] 5)) := (Below.refl _ _).alloc (Nat.le_refl _) _
  have hx : RdB (w.alloc (.cells #[.int .u8 9] 5)) (some ⟨w.heap.size, 0, none⟩) 1 1 [9] := cells_rd rfl (by decide)
  have K1 := Lib.hid (put_any 2 258 [9] _ _ _ _ (by omega) hx (by omega))
  rw [show bs ([9] ++ putB (wid 2) 258) = bs [9, 1, 2] from rfl, show 1 + wid 2 = 3 from rfl] at K1
  clear hx
  go_enter Try.func27, Try.ntmps27
  go_wp2_with fail
  generalize w.alloc (.cells #[.int .u8 9] 5) = w1 at *
  refine K1.out.mono ?_
  rintro e w2 ⟨v, rfl, ho, hb⟩
  obtain ⟨A2, c2, rfl, hr, -⟩ := Rd.of_own ho
  have hB2 := below_trans hB hb
  clear hB hb ho K1
  have ks := fun W h => run_string_of (P := Try.prog) (w := W) (A := A2) (n := 3) (c := c2) (xs := [9, 1, 2]) 22 9 5 Try.underlying22 Try.underlying5 Try.underlying9 h
  have K2 := Lib.hid (over_any [9, 1, 2] A2 3 c2 w2 hr (by omega))
  go_wp2_with fail
  refine K2.out.mono ?_
  rintro e w3 ⟨g, rfl, hg, hrd, hb⟩
  have hg0 : w.heap.size ≤ g := Nat.le_trans hB2.size hg
  replace hr := hr.below hb
  replace hB2 := below_trans hB2 hb
  clear hb K2 hg
  have hs := ks _ hr
  have K3 := Lib.hid (get_any 1 2 [9, 1, 2] A2 3 c2 w3 hr (by omega))
  rw [show getN [9, 1, 2] 1 2 = 258 from rfl] at K3
  go_wp2_with fail
  refine K3.out.mono ?_
  rintro e w4 ⟨rfl, hb⟩
  clear hs ks K3
  replace hrd := hrd.kept hb
  replace hB2 := below_trans hB2 hb
  clear hb hr
  have K4 := Lib.hid (rdN_any [9, 1, 2] false 3 g w4 hrd)
  rw [show rdNum [9, 1, 2] false 3 = 590082 from rfl, show rdLeft [9, 1, 2] false (nw 3) = [] from rfl, show rdShort [9, 1, 2] false (nw 3) = false from rfl] at K4
  go_wp2_with fail
  refine K4.out.mono ?_
  rintro e w5 ⟨rfl, hrd5, hgb⟩
  replace hB2 := hB2.trans (below_gb hgb hB2.size hg0)
  clear hgb hrd K4
  have K5 := Lib.hid (rdEnd_any [] false g w5 hrd5)
  rw [if_neg (by simp), if_pos rfl] at K5
  clear hrd5
  go_wp2_with fail
  refine K5.out.mono ?_
  rintro e w6 ⟨rfl, rfl⟩
  clear K5
  have hr2 : RdU (w5.alloc (.cells #[.int .u64 1, .int .u64 5, .int .u64 2, .int .u64 6] 24)) (some ⟨w5.heap.size, 0, none⟩) 4 4 [1, 5, 2, 6] := cells_rd rfl (by decide)
  have hB3 : Below w.heap.size w (w5.alloc (.cells #[.int .u64 1, .int .u64 5, .int .u64 2, .int .u64 6] 24)) := hB2.alloc hB2.size _
  have K6 := Lib.hid (row_any [1, 5, 2, 6] _ _ _ _ hr2 (by omega) (fun i => by rcases i with _ | _ | _ | _ | i <;> simp [List.getD]))
  rw [show rowN [1, 5, 2, 6] (4 / 2) = [5, 0, 6] from rfl] at K6
  clear hr2 hB2
  go_wp2_with fail
  generalize w5.alloc (.cells #[.int .u64 1, .int .u64 5, .int .u64 2, .int .u64 6] 24) = w6 at *
  refine K6.out.mono ?_
  rintro e w7 ⟨A3, n3, c3, rfl, hr3, hb⟩
  replace hB3 := below_trans hB3 hb
  have ks := run_string_of (P := Try.prog) 22 9 5 Try.underlying22 Try.underlying5 Try.underlying9 hr3
  clear hb K6 hr3
  go_wp2_with fail
  go_ret
  exact ⟨rfl, hB3⟩

set_option maxRecDepth 100000 in
set_option maxHeartbeats 1000000 in
theorem belays_law (xs : List UInt8) (A : Option Addr) (n c : Nat) (k at_ : Int) (m : Nat) (w : World) (hx : RdB w A n c xs) (hm64 : m < 18446744073709551616) :
    Calls Try.prog 6 #[.agg #[.slice A n c, .int .i64 k, .int .u64 m, .int .i64 at_]] w fun e w' => e = .returned (.bool true) ∧ Below w.heap.size w w' := by
  have hm := hx.cm
  have hnc := hx.nc
  unfold maxLen at hm
  have hB : Below w.heap.size w (w.alloc (.cells #[.slice A n c, .int .i64 k, .int .u64 m, .int .i64 at_] 37)) := (Below.refl _ _).alloc (Nat.le_refl _) _
  have hg : (w.alloc (.cells #[.slice A n c, .int .i64 k, .int .u64 m, .int .i64 at_] 37)).heap[w.heap.size]? = some (.cells #[.slice A n c, .int .i64 k, .int .u64 m, .int .i64 at_] 37 (0, 0)) := alloc_new _ _
  have hx1 := hx.below hB
  go_enter Try.func6, Try.ntmps6
  go_wp2_with fail
  generalize w.alloc (.cells #[.slice A n c, .int .i64 k, .int .u64 m, .int .i64 at_] 37) = w1 at *
  have c0 : w1.cell? ⟨w.heap.size, 0, none⟩ = some (.slice A n c) := cell_heap hg
  have c1 : w1.cell? ⟨w.heap.size, 1, none⟩ = some (.int .i64 k) := cell_heap hg
  have c2 : w1.cell? ⟨w.heap.size, 2, none⟩ = some (.int .u64 m) := cell_heap hg
  have c3 : w1.cell? ⟨w.heap.size, 3, none⟩ = some (.int .i64 at_) := cell_heap hg
  clear hg
  go_quiet (fail)

  have hB2 := below_drewN hB nq
  have hx2 := hx1.below (below_drewN (Below.refl _ _) nq)
  generalize w1.drewN nq = w2 at *
  clear c0 c1 c2 c3 hx1 hB
  by_cases hlen : 200 < n
  · go_wp2_with (go_at_call 27; refine (awake01_any _).mono ?_; rintro e w2 ⟨rfl, hb⟩; replace hB2 := below_trans hB2 hb; clear hb)
    go_ret
    exact ⟨rfl, hB2⟩
  have hd : decide ((200 : Int) < n) = false := by rw [decide_eq_false_iff_not]; omega
  have K1 := Lib.hid (put_any k m xs A n c w2 hm64 hx2 (by omega))
  go_wp2_with fail
  clear hd
  refine K1.out.mono ?_
  rintro e w3 ⟨v, rfl, ho, hb⟩
  obtain ⟨A3, c3, rfl, hy, -⟩ := Rd.of_own ho
  replace hB2 := below_trans hB2 hb
  replace hx2 := hx2.below hb
  clear hb ho K1
  have hwk : max (min k 8) 0 = ((wid k : Nat) : Int) := by unfold wid; omega
  have hwid := wid_le k
  have hmath := Lib.hid (belays_math xs k m)
  rw [hx.blen] at hmath
  generalize wid k = q at *
  go_wp2_with (first
    | (go_at_call 30; refine (low_any _ _ _).mono ?_; rintro e w' ⟨rfl, rfl⟩)
    | (go_at_call 29; refine (high_any _ _ _).mono ?_; rintro e w' ⟨rfl, rfl⟩; rw [hwk]))
  refine wp_region_held (S := fun W => RdB W A n c xs ∧ RdB W A3 (n + q) c3 (xs ++ putB q m) ∧ Below w.heap.size w W) (by kernel_rfl) ?_
  change wpAnyH _ _ _ _ _ _ _ _ w3.drew
  have hS : (fun W => RdB W A n c xs ∧ RdB W A3 (n + q) c3 (xs ++ putB q m) ∧ Below w.heap.size w W) w3.drew := ⟨hx2.below (Below.refl _ _).drew, hy.below (Below.refl _ _).drew, hB2.drew⟩
  clear hx2 hy hB2
  generalize w3.drew = w4 at *
  have hwq : wid (q : Int) = q := by unfold wid; omega
  have hsz : ¬ (9223372036854775807 < xs.length + (putB q m).length) := by rw [putB_length, hx.blen]; omega
  have hcat : (⟨xs.toArray⟩ : ByteArray) ++ ⟨(putB q m).toArray⟩ = ⟨(xs ++ putB q m).toArray⟩ := cat_bytes _ _
  refine wpAnyH_take (i := 0) (oi := { dst := some 29, op := Op.move (Operand.tmp 7), type := 22, pos := "law.go:38", after := #[], guard := none }) (v := ?_) rfl (by kernel_rfl) (by kernel_rfl) (by kernel_rfl) (fun _ _ _ h => h) (Or.inl ⟨by rfl, ?_⟩) (by assumption) ?_
  rotate_left
  · (intro wS hS; go_simp <;> with_reducible rfl)
  try simp only [Act.put, List.setIfInBounds_toArray, List.set_cons_zero, List.set_cons_succ]
  refine wpAnyH_take (i := 1) (oi := { dst := some 30, op := Op.convert 22 9 (Operand.tmp 29), type := 9, pos := "law.go:38", after := #[{ on := 0, ground := Ground.data }], guard := none }) (v := ?_) rfl (by kernel_rfl) (by kernel_rfl) (by kernel_rfl) (fun _ _ _ h => h) (Or.inl ⟨by rfl, ?_⟩) (by assumption) ?_
  rotate_left
  · (intro wS hS; have hk := run_string_of (P := Try.prog) 22 9 5 Try.underlying22 Try.underlying5 Try.underlying9 hS.2.1; go_simp <;> with_reducible rfl)
  try simp only [Act.put, List.setIfInBounds_toArray, List.set_cons_zero, List.set_cons_succ]
  refine wpAnyH_take (i := 2) (oi := { dst := some 31, op := Op.move (Operand.tmp 3), type := 22, pos := "law.go:38", after := #[], guard := none }) (v := ?_) rfl (by kernel_rfl) (by kernel_rfl) (by kernel_rfl) (fun _ _ _ h => h) (Or.inl ⟨by rfl, ?_⟩) (by assumption) ?_
  rotate_left
  · (intro wS hS; go_simp <;> with_reducible rfl)
  try simp only [Act.put, List.setIfInBounds_toArray, List.set_cons_zero, List.set_cons_succ]
  refine wpAnyH_take (i := 3) (oi := { dst := some 32, op := Op.convert 22 9 (Operand.tmp 31), type := 9, pos := "law.go:38", after := #[{ on := 2, ground := Ground.data }], guard := none }) (v := ?_) rfl (by kernel_rfl) (by kernel_rfl) (by kernel_rfl) (fun _ _ _ h => h) (Or.inl ⟨by rfl, ?_⟩) (by assumption) ?_
  rotate_left
  · (intro wS hS; have hk := run_string_of (P := Try.prog) 22 9 5 Try.underlying22 Try.underlying5 Try.underlying9 hS.1; go_simp <;> with_reducible rfl)
  try simp only [Act.put, List.setIfInBounds_toArray, List.set_cons_zero, List.set_cons_succ]
  refine wpAnyH_take (i := 4) (oi := { dst := some 33, op := Op.move (Operand.tmp 8), type := 3, pos := "law.go:38", after := #[], guard := none }) (v := ?_) rfl (by kernel_rfl) (by kernel_rfl) (by kernel_rfl) (fun _ _ _ h => h) (Or.inl ⟨by rfl, ?_⟩) (by assumption) ?_
  rotate_left
  · (intro wS hS; go_simp <;> with_reducible rfl)
  try simp only [Act.put, List.setIfInBounds_toArray, List.set_cons_zero, List.set_cons_succ]
  refine wpAnyH_take (i := 5) (oi := { dst := some 34, op := Op.move (Operand.tmp 5), type := 24, pos := "law.go:38", after := #[], guard := none }) (v := ?_) rfl (by kernel_rfl) (by kernel_rfl) (by kernel_rfl) (fun _ _ _ h => h) (Or.inl ⟨by rfl, ?_⟩) (by assumption) ?_
  rotate_left
  · (intro wS hS; go_simp <;> with_reducible rfl)
  try simp only [Act.put, List.setIfInBounds_toArray, List.set_cons_zero, List.set_cons_succ]
  refine wpAnyH_ready (rs := [6]) (by kernel_rfl) (by simp) ?_
  refine AllReadyH.cons (o := { dst := some 35, op := Op.call { callee := Callee.value (Operand.func 31), args := #[Operand.tmp 33, Operand.tmp 34], argTypes := #[3, 24] }, type := 22, pos := "law.go:38", after := #[{ on := 4, ground := Ground.data }, { on := 5, ground := Ground.data }], guard := none }) rfl (fun K hK => ?_) AllReadyH.nil
  go_simp
  refine (refbytes_any q m _ hm64).mono ?_
  rintro e w5 ⟨v, rfl, ho, hb⟩
  rw [hwq] at ho
  obtain ⟨A5, c5, rfl, hz, -⟩ := Rd.of_own ho
  obtain ⟨s1, s2, s3⟩ := hS
  have hS : (fun W => RdB W A n c xs ∧ RdB W A3 (n + q) c3 (xs ++ putB q m) ∧ Below w.heap.size w W) w5 := ⟨s1.below hb, s2.below hb, below_trans s3 hb⟩
  refine hK.out _ _ hS (fun _ => ?_)
  clear hK K s1 s2 s3 ho hb
  try simp only [Act.put, List.setIfInBounds_toArray, List.set_cons_zero, List.set_cons_succ]
  refine wpAnyH_ready (rs := [7]) (by kernel_rfl) (by simp) ?_
  refine AllReadyH.cons (o := { dst := some 36, op := Op.convert 22 9 (Operand.tmp 35), type := 9, pos := "law.go:38", after := #[{ on := 6, ground := Ground.data }], guard := none }) rfl (fun K hK => ?_) AllReadyH.nil
  have hk := run_string_of (P := Try.prog) 22 9 5 Try.underlying22 Try.underlying5 Try.underlying9 hz
  go_simp
  refine hK.out _ _ hS (fun _ => ?_)
  clear hK K
  try simp only [Act.put, List.setIfInBounds_toArray, List.set_cons_zero, List.set_cons_succ]
  refine wpAnyH_ready (rs := [8]) (by kernel_rfl) (by simp) ?_
  refine AllReadyH.cons (o := { dst := some 37, op := Op.binOp BinOp.add 9 (Operand.tmp 32) (Operand.tmp 36) 9, type := 9, pos := "law.go:38", after := #[{ on := 3, ground := Ground.data }, { on := 7, ground := Ground.data }], guard := none }) rfl (fun K hK => ?_) AllReadyH.nil
  go_simp
  refine hK.out _ _ hS (fun _ => ?_)
  clear hK K
  try simp only [Act.put, List.setIfInBounds_toArray, List.set_cons_zero, List.set_cons_succ]
  refine wpAnyH_ready (rs := [9]) (by kernel_rfl) (by simp) ?_
  refine AllReadyH.cons (o := { dst := some 38, op := Op.binOp BinOp.neq 9 (Operand.tmp 30) (Operand.tmp 37) 9, type := 4, pos := "law.go:38", after := #[{ on := 1, ground := Ground.data }, { on := 8, ground := Ground.data }], guard := none }) rfl (fun K hK => ?_) AllReadyH.nil
  go_simp
  refine hK.out _ _ hS (fun _ => ?_)
  clear hK K
  try simp only [Act.put, List.setIfInBounds_toArray, List.set_cons_zero, List.set_cons_succ]
  refine wpAnyH_done (by kernel_rfl) ?_ _
  obtain ⟨hx2, hy, hB2⟩ := hS
  clear hz hk hcat hsz hwk
  have K1 := Lib.hid (refbytes_any 8 m w5 hm64)
  rw [show wid 8 = 8 from rfl] at K1
  go_wp2_with fail
  refine K1.out.mono ?_
  rintro e w6 ⟨v, rfl, ho, hb⟩
  obtain ⟨A6, c6, rfl, hz, -⟩ := Rd.of_own ho
  replace hx2 := hx2.below hb
  replace hy := hy.below hb
  replace hB2 := below_trans hB2 hb
  clear ho hb K1
  have K2 := Lib.hid (refnumber_any (8 - q) q (putB 8 m) A6 8 c6 w6 hz (by omega))
  rw [← hmath.out] at K2
  have h8q : (8 : Int) - q = ((8 - q : Nat) : Int) := by omega
  go_wp2_with fail
  refine K2.out.mono ?_
  rintro e w7 ⟨rfl, rfl⟩
  clear h8q K2 hz
  have K3 := fun W h => Lib.hid (get_any n k (xs ++ putB q m) A3 (n + q) c3 W h (by omega))
  generalize getN (xs ++ putB q m) n k = r at *
  go_wp2_with fail
  refine (awake01_any _).mono ?_
  rintro e w8 ⟨rfl, hb⟩
  replace hx2 := hx2.below hb
  replace hy := hy.below hb
  replace hB2 := below_trans hB2 hb
  clear hb
  have K4 := K3 _ hy
  clear K3 hmath
  have key : at_ < 0 ∨ ∃ a : Nat, at_ = a := by
    by_cases h : at_ < 0
    · exact .inl h
    · exact .inr ⟨at_.toNat, by omega⟩
  rcases key with hneg | ⟨a, rfl⟩
  · go_wp2_with (go_at_call 33; refine K4.out.mono ?_; rintro e w9 ⟨rfl, hb⟩; replace hB2 := below_trans hB2 hb; clear hb)
    go_ret
    exact ⟨rfl, hB2⟩
  · have hd : decide ((a : Int) < 0) = false := by simp
    go_wp2_with fail
    refine K4.out.mono ?_
    rintro e w9 ⟨rfl, hb⟩
    replace hx2 := hx2.below hb
    replace hB2 := below_trans hB2 hb
    clear hb K4 hy
    have K5 := Lib.hid (get_any a k xs A n c w9 hx2 (by omega))
    have K6 := fun W h => Lib.hid (refnumber_any a k xs A n c W h (by omega))
    generalize getN xs a k = r2 at *
    go_wp2_with fail
    refine K5.out.mono ?_
    rintro e w10 ⟨rfl, hb⟩
    replace hx2 := hx2.below hb
    replace hB2 := below_trans hB2 hb
    clear hb K5
    have K7 := K6 _ hx2
    clear K6
    go_wp2_with fail
    refine K7.out.mono ?_
    rintro e w11 ⟨rfl, rfl⟩
    go_wp2_with fail
    go_ret
    exact ⟨rfl, hB2⟩
end Go.Proofs.Ythkabhejfkekjaa
