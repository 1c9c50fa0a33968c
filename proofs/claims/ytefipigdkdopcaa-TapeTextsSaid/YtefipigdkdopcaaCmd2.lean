/- Contract of cmd.Text. No condition. -/
import Derived.Test.YtefipigdkdopcaaCmd1
import Derived.Deep.DeepCutAuto
namespace Go.Proofs.Ytefipigdkdopcaa
open Go.RowKit

/-- A word, and numbers behind it. -/
def txtN (wd : List UInt8) (l : List Nat) : Nat → List UInt8
  | 0 => wd
  | i + 1 => txtN wd l i ++ (32 :: digs (l.getD i 0))
/-- A command's text. -/
def textK (k : Int) (a b : Nat) : List UInt8 := txtN (wordK k) [a, b] (manyK k)
theorem textK_length (k : Int) (a b : Nat) (ha : a < 18446744073709551616) (hb : b < 18446744073709551616) : (textK k a b).length ≤ 49 := by
  have h1 := wordK_length k
  have h2 := digs_len ha
  have h3 := digs_len hb
  unfold textK
  rcases (by have := manyK_le k; omega : manyK k = 0 ∨ manyK k = 1 ∨ manyK k = 2) with h | h | h <;> rw [h] <;> simp [txtN] <;> omega

set_option maxRecDepth 100000 in
set_option maxHeartbeats 1000000 in
theorem ctext_no (k : Int) (a b er : Nat) (w : World) (he : cmdCheck k a b = er) (h0 : er ≠ 0) : Calls Try.prog 13 #[cmdV k a b] w fun e w' => e = .returned (.tuple #[.string ⟨([] : List UInt8).toArray⟩, .int .i64 (er : Int)]) ∧ Below w.heap.size w w' := by
  obtain ⟨hB, hc⟩ := one_cells w #[.int .i64 k, .int .u64 (a : Int), .int .u64 (b : Int)] 24
  have c0 := hc 0 (.int .i64 k) rfl
  have c1 := hc 1 (.int .u64 (a : Int)) rfl
  have c2 := hc 2 (.int .u64 (b : Int)) rfl
  clear hc
  have KC := fun W => Lib.hid (ccheck_any k a b W)
  rw [he] at KC
  clear he
  have h1 : ((er : Int) != 0) = true := by rw [bne_iff_ne]; omega
  have h2 : ((er : Int) == 0) = false := by rw [beq_eq_false_iff_ne]; omega
  clear h0
  go_enter Try.func13, Try.ntmps13
  go_wp2_with (refine (KC _).out.mono ?_; rintro e w1 ⟨rfl, hb⟩)
  go_ret2
  exact ⟨rfl, below_trans hB hb⟩

set_option maxRecDepth 100000 in
set_option maxHeartbeats 1000000 in
theorem ctext_yes (k : Int) (a b : Nat) (w : World) (he : cmdCheck k a b = 0) : Calls Try.prog 13 #[cmdV k a b] w fun e w' => e = .returned (.tuple #[.string ⟨(textK k a b).toArray⟩, .int .i64 0]) ∧ Below w.heap.size w w' := by
  obtain ⟨hB, hc⟩ := one_cells w #[.int .i64 k, .int .u64 (a : Int), .int .u64 (b : Int)] 24
  have c0 := hc 0 (.int .i64 k) rfl
  have c1 := hc 1 (.int .u64 (a : Int)) rfl
  have c2 := hc 2 (.int .u64 (b : Int)) rfl
  clear hc
  have KC := fun W => Lib.hid (ccheck_any k a b W)
  rw [he] at KC
  have hab : a ≤ 1099511627776 ∧ b ≤ 1099511627776 := by
    unfold cmdCheck at he
    split at he
    · cases he
    · split at he
      · cases he
      · omega
  obtain ⟨ha, hb⟩ := hab
  clear he
  have KW := fun W => Lib.hid (cword_any k W)
  have KM := fun W => Lib.hid ((cmany_any k W).mono (fun e w' h => (show e = .returned (.int .i64 (manyK k : Nat)) ∧ Below W.heap.size W w' from ⟨h.1, h.2 ▸ Below.refl _ _⟩)))
  have hm := manyK_le k
  have HT : Hid (textK k a b = txtN (wordK k) [a, b] (manyK k)) := rfl
  have hwl := wordK_length k
  generalize wordK k = wd at *
  generalize manyK k = m at *
  have hm' : (m : Int) ≤ 2 := by omega
  have hm0 : (0 : Int) ≤ (m : Int) := by omega
  go_enter Try.func13, Try.ntmps13
  go_upto_region 5 with (first
    | (go_at_call 16; refine (KC _).out.mono ?_; rintro e w1 ⟨rfl, hb1⟩; replace c0 := cell_below hb1 c0; replace c1 := cell_below hb1 c1; replace c2 := cell_below hb1 c2; replace hB := below_trans hB hb1; clear hb1)
    | (go_at_call 51; refine (KW _).out.mono ?_; rintro e w' ⟨rfl, rfl⟩))
  go_cut [24, 25, 26] (fun s24 s25 s26 wx => ∃ g, s24 = .slice (some ⟨g, 0, none⟩) m 2 ∧ s25 = .int .i64 m ∧ s26 = .int .i64 0 ∧ wx.heap[g]? = some (.cells #[.int .u64 (a : Int), .int .u64 (b : Int)] 22 (0, 0)) ∧ Below w1.heap.size w1 wx)
  case first =>
    refine wp_region_held (S := fun W => Below w1.heap.size w1 W) (by kernel_rfl) ?_
    change wpAnyH _ _ _ _ _ _ _ _ (w1).drew
    have hS : (fun W => Below w1.heap.size w1 W) (w1).drew := (Below.refl _ _).drew
    generalize (w1).drew = wd at hS ⊢
    refine wpAnyH_take (i := 0) (oi := { dst := some 16, op := Op.fieldAddr 24 (Operand.tmp 1) 1, type := 0, pos := "cmd.go:81", after := #[], guard := none }) (v := ?_) rfl (by kernel_rfl) (by kernel_rfl) (by kernel_rfl) (fun _ _ _ h => h) (Or.inl ⟨by rfl, ?_⟩) (by assumption) ?_
    rotate_left
    · (intro wS hS; go_simp <;> with_reducible rfl)
    try simp only [Act.put, List.setIfInBounds_toArray, List.set_cons_zero, List.set_cons_succ]
    refine wpAnyH_take (i := 1) (oi := { dst := some 17, op := Op.load 22 (Operand.tmp 16), type := 22, pos := "cmd.go:81", after := #[{ on := 0, ground := Ground.data }], guard := none }) (v := ?_) rfl (by kernel_rfl) (by kernel_rfl) (by kernel_rfl) (fun _ _ _ h => h) (Or.inl ⟨by rfl, ?_⟩) (by assumption) ?_
    rotate_left
    · (intro wS hS; have q0 := cell_below hS c0; have q1 := cell_below hS c1; have q2 := cell_below hS c2; go_simp <;> with_reducible rfl)
    try simp only [Act.put, List.setIfInBounds_toArray, List.set_cons_zero, List.set_cons_succ]
    refine wpAnyH_take (i := 2) (oi := { dst := some 18, op := Op.fieldAddr 24 (Operand.tmp 1) 2, type := 0, pos := "cmd.go:81", after := #[], guard := none }) (v := ?_) rfl (by kernel_rfl) (by kernel_rfl) (by kernel_rfl) (fun _ _ _ h => h) (Or.inl ⟨by rfl, ?_⟩) (by assumption) ?_
    rotate_left
    · (intro wS hS; go_simp <;> with_reducible rfl)
    try simp only [Act.put, List.setIfInBounds_toArray, List.set_cons_zero, List.set_cons_succ]
    refine wpAnyH_take (i := 3) (oi := { dst := some 19, op := Op.load 22 (Operand.tmp 18), type := 22, pos := "cmd.go:81", after := #[{ on := 2, ground := Ground.data }], guard := none }) (v := ?_) rfl (by kernel_rfl) (by kernel_rfl) (by kernel_rfl) (fun _ _ _ h => h) (Or.inl ⟨by rfl, ?_⟩) (by assumption) ?_
    rotate_left
    · (intro wS hS; have q0 := cell_below hS c0; have q1 := cell_below hS c1; have q2 := cell_below hS c2; go_simp <;> with_reducible rfl)
    try simp only [Act.put, List.setIfInBounds_toArray, List.set_cons_zero, List.set_cons_succ]
    refine wpAnyH_take (i := 5) (oi := { dst := some 21, op := Op.fieldAddr 24 (Operand.tmp 1) 0, type := 0, pos := "cmd.go:81", after := #[], guard := none }) (v := ?_) rfl (by kernel_rfl) (by kernel_rfl) (by kernel_rfl) (fun _ _ _ h => h) (Or.inl ⟨by rfl, ?_⟩) (by assumption) ?_
    rotate_left
    · (intro wS hS; go_simp <;> with_reducible rfl)
    try simp only [Act.put, List.setIfInBounds_toArray, List.set_cons_zero, List.set_cons_succ]
    refine wpAnyH_take (i := 6) (oi := { dst := some 22, op := Op.load 3 (Operand.tmp 21), type := 3, pos := "cmd.go:81", after := #[{ on := 5, ground := Ground.data }], guard := none }) (v := ?_) rfl (by kernel_rfl) (by kernel_rfl) (by kernel_rfl) (fun _ _ _ h => h) (Or.inl ⟨by rfl, ?_⟩) (by assumption) ?_
    rotate_left
    · (intro wS hS; have q0 := cell_below hS c0; have q1 := cell_below hS c1; have q2 := cell_below hS c2; go_simp <;> with_reducible rfl)
    try simp only [Act.put, List.setIfInBounds_toArray, List.set_cons_zero, List.set_cons_succ]
    refine wpAnyH_take (i := 10) (oi := { dst := some 26, op := Op.move (Operand.const (Value.int IntKind.i64 0)), type := 3, pos := "cmd.go:81", after := #[], guard := none }) (v := ?_) rfl (by kernel_rfl) (by kernel_rfl) (by kernel_rfl) (fun _ _ _ h => h) (Or.inl ⟨by rfl, ?_⟩) (by assumption) ?_
    rotate_left
    · (intro wS hS; go_simp <;> with_reducible rfl)
    try simp only [Act.put, List.setIfInBounds_toArray, List.set_cons_zero, List.set_cons_succ]
    refine wpAnyH_ready (rs := [4, 7]) (by kernel_rfl) (by simp) ?_
    refine AllReadyH.cons (o := { dst := some 20, op := Op.buildSlice 89 2 #[(0, Operand.tmp 17), (1, Operand.tmp 19)], type := 89, pos := "cmd.go:81", after := #[{ on := 1, ground := Ground.data }, { on := 3, ground := Ground.data }], guard := none }) rfl (fun K hK => ?_) (AllReadyH.cons (o := { dst := some 23, op := Op.call { callee := Callee.value (Operand.func 52), args := #[Operand.tmp 22], argTypes := #[3] }, type := 3, pos := "cmd.go:81", after := #[{ on := 6, ground := Ground.data }], guard := none }) rfl (fun K hK => ?_) (AllReadyH.nil))
    · go_simp
      obtain ⟨gA, hgA⟩ : ∃ x, x = wd.heap.size := ⟨_, rfl⟩
      have hhA : (wd.alloc (.cells #[.int .u64 (a : Int), .int .u64 (b : Int)] 22)).heap[gA]? = some (.cells #[.int .u64 (a : Int), .int .u64 (b : Int)] 22 (0, 0)) := by rw [hgA]; exact alloc_new _ _
      have hS2 : (fun W => Below w1.heap.size w1 W) (wd.alloc (.cells #[.int .u64 (a : Int), .int .u64 (b : Int)] 22)) := Below.alloc hS (Below.size hS) _
      refine hK.out _ _ hS2 (fun _ => ?_)
      clear hK K hS
      try simp only [Act.put, List.setIfInBounds_toArray, List.set_cons_zero, List.set_cons_succ]
      simp only [← hgA]
      clear hgA
      generalize wd.alloc (.cells #[.int .u64 (a : Int), .int .u64 (b : Int)] 22) = wA at *
      have hS := hS2
      clear hS2
      refine wpAnyH_ready (rs := [7]) (by kernel_rfl) (by simp) ?_
      refine AllReadyH.cons (o := { dst := some 23, op := Op.call { callee := Callee.value (Operand.func 52), args := #[Operand.tmp 22], argTypes := #[3] }, type := 3, pos := "cmd.go:81", after := #[{ on := 6, ground := Ground.data }], guard := none }) rfl (fun K hK => ?_) (AllReadyH.nil)
      have q0 := cell_below hS c0; have q1 := cell_below hS c1; have q2 := cell_below hS c2
      go_simp
      refine (KM _).out.mono ?_
      rintro e w107 ⟨rfl, hb⟩
      replace hS : (fun W => Below w1.heap.size w1 W) w107 := below_then hS hb (Below.size hS)
      replace hhA := heap_below hb hhA
      refine hK.out _ _ hS (fun _ => ?_)
      clear hK K hb
      try simp only [Act.put, List.setIfInBounds_toArray, List.set_cons_zero, List.set_cons_succ]
      refine wpAnyH_take (i := 8) (oi := { dst := some 24, op := Op.slice 89 (Operand.tmp 20) none (some (Operand.tmp 23)) none, type := 89, pos := "cmd.go:81", after := #[{ on := 4, ground := Ground.data }, { on := 7, ground := Ground.data }], guard := none }) (v := ?_) rfl (by kernel_rfl) (by kernel_rfl) (by kernel_rfl) (fun _ _ _ h => h) (Or.inl ⟨by rfl, ?_⟩) (by assumption) ?_
      rotate_left
      · (intro wS hS; go_simp <;> with_reducible rfl)
      try simp only [Act.put, List.setIfInBounds_toArray, List.set_cons_zero, List.set_cons_succ]
      refine wpAnyH_take (i := 9) (oi := { dst := some 25, op := Op.call { callee := Callee.builtin Builtin.len, args := #[Operand.tmp 24], argTypes := #[89] }, type := 3, pos := "cmd.go:81", after := #[{ on := 8, ground := Ground.data }], guard := none }) (v := ?_) rfl (by kernel_rfl) (by kernel_rfl) (by kernel_rfl) (fun _ _ _ h => h) (Or.inl ⟨by rfl, ?_⟩) (by assumption) ?_
      rotate_left
      · (intro wS hS; go_simp <;> with_reducible rfl)
      try simp only [Act.put, List.setIfInBounds_toArray, List.set_cons_zero, List.set_cons_succ]
      refine wpAnyH_done (by kernel_rfl) ?_ _
      go_wp2_with fail
      go_meet
      exact ⟨gA, rfl, rfl, rfl, hhA, hS⟩
    · have q0 := cell_below hS c0; have q1 := cell_below hS c1; have q2 := cell_below hS c2
      go_simp
      refine (KM _).out.mono ?_
      rintro e w107 ⟨rfl, hb⟩
      replace hS : (fun W => Below w1.heap.size w1 W) w107 := below_then hS hb (Below.size hS)
      refine hK.out _ _ hS (fun _ => ?_)
      clear hK K hb
      try simp only [Act.put, List.setIfInBounds_toArray, List.set_cons_zero, List.set_cons_succ]
      refine wpAnyH_ready (rs := [4]) (by kernel_rfl) (by simp) ?_
      refine AllReadyH.cons (o := { dst := some 20, op := Op.buildSlice 89 2 #[(0, Operand.tmp 17), (1, Operand.tmp 19)], type := 89, pos := "cmd.go:81", after := #[{ on := 1, ground := Ground.data }, { on := 3, ground := Ground.data }], guard := none }) rfl (fun K hK => ?_) (AllReadyH.nil)
      go_simp
      obtain ⟨gA, hgA⟩ : ∃ x, x = w107.heap.size := ⟨_, rfl⟩
      have hhA : (w107.alloc (.cells #[.int .u64 (a : Int), .int .u64 (b : Int)] 22)).heap[gA]? = some (.cells #[.int .u64 (a : Int), .int .u64 (b : Int)] 22 (0, 0)) := by rw [hgA]; exact alloc_new _ _
      have hS2 : (fun W => Below w1.heap.size w1 W) (w107.alloc (.cells #[.int .u64 (a : Int), .int .u64 (b : Int)] 22)) := Below.alloc hS (Below.size hS) _
      refine hK.out _ _ hS2 (fun _ => ?_)
      clear hK K hS
      try simp only [Act.put, List.setIfInBounds_toArray, List.set_cons_zero, List.set_cons_succ]
      simp only [← hgA]
      clear hgA
      generalize w107.alloc (.cells #[.int .u64 (a : Int), .int .u64 (b : Int)] 22) = wA at *
      have hS := hS2
      clear hS2
      refine wpAnyH_take (i := 8) (oi := { dst := some 24, op := Op.slice 89 (Operand.tmp 20) none (some (Operand.tmp 23)) none, type := 89, pos := "cmd.go:81", after := #[{ on := 4, ground := Ground.data }, { on := 7, ground := Ground.data }], guard := none }) (v := ?_) rfl (by kernel_rfl) (by kernel_rfl) (by kernel_rfl) (fun _ _ _ h => h) (Or.inl ⟨by rfl, ?_⟩) (by assumption) ?_
      rotate_left
      · (intro wS hS; go_simp <;> with_reducible rfl)
      try simp only [Act.put, List.setIfInBounds_toArray, List.set_cons_zero, List.set_cons_succ]
      refine wpAnyH_take (i := 9) (oi := { dst := some 25, op := Op.call { callee := Callee.builtin Builtin.len, args := #[Operand.tmp 24], argTypes := #[89] }, type := 3, pos := "cmd.go:81", after := #[{ on := 8, ground := Ground.data }], guard := none }) (v := ?_) rfl (by kernel_rfl) (by kernel_rfl) (by kernel_rfl) (fun _ _ _ h => h) (Or.inl ⟨by rfl, ?_⟩) (by assumption) ?_
      rotate_left
      · (intro wS hS; go_simp <;> with_reducible rfl)
      try simp only [Act.put, List.setIfInBounds_toArray, List.set_cons_zero, List.set_cons_succ]
      refine wpAnyH_done (by kernel_rfl) ?_ _
      go_wp2_with fail
      go_meet
      exact ⟨gA, rfl, rfl, rfl, hhA, hS⟩
  case rest =>
    obtain ⟨g, rfl, rfl, rfl, hh, hS⟩ := hcut
    generalize hwc : wc = w3 at *
    clear hwc KM KW KC c0 c1 c2
    replace hB := below_trans hB hS
    clear hS
    go_wp2_with fail
    go_loop [5, 26] (fun t i => ∃ j : Nat, j ≤ m ∧ i = .int .i64 j ∧ t = .string ⟨(txtN wd [a, b] j).toArray⟩ ∧ (txtN wd [a, b] j).length ≤ 7 + 21 * j) (fun _ i => m - (intOf i).toNat)
    case atStart => exact ⟨0, by omega, rfl, rfl, hwl⟩
    case round =>
      obtain ⟨j, hj, rfl, rfl, hl⟩ := hrel
      by_cases hlt : j < m
      · have hx : ∃ x : Nat, [a, b].getD j 0 = x ∧ x ≤ 1099511627776 ∧ w3.cell? ⟨g, j, none⟩ = some (.int .u64 (x : Int)) := by
          rcases (by omega : j = 0 ∨ j = 1) with rfl | rfl
          · exact ⟨a, rfl, ha, cell_heap hh⟩
          · exact ⟨b, rfl, hb, cell_heap hh⟩
        obtain ⟨x, hx, hx2, hcx⟩ := hx
        have HN : Hid (txtN wd [a, b] (j + 1) = txtN wd [a, b] j ++ ([32] ++ digs x)) := by show _ = _; rw [txtN, hx]; rfl
        have hdl := digs_len (n := x) (by omega)
        have KD := fun W => Lib.hid (rdigits_nat x W (by omega))
        clear hx
        generalize txtN wd [a, b] j = tx at *
        generalize digs x = dx at *
        have hl1 : ¬ (9223372036854775807 < 1 + dx.length) := by omega
        have hl2 : ¬ (9223372036854775807 < tx.length + ([32] ++ dx).length) := by simp; omega
        have hjm : (j : Int) < (m : Int) := by omega
        have hw : IntKind.i64.wrap (x : Int) = x := by rw [IntKind.wrap_i64]; omega
        go_wp2_with (refine (KD _).out.mono ?_; rintro e w' ⟨rfl, rfl⟩)
        rw [show (⟨#[32]⟩ : ByteArray) ++ ⟨dx.toArray⟩ = ⟨([32] ++ dx).toArray⟩ from cat_bytes [32] dx, cat_bytes]
        go_round
        case rel => exact ⟨j + 1, by omega, by go_num, by rw [HN.out], by rw [HN.out]; simp; omega⟩
        case measure => simp [intOf]; omega
      · obtain rfl : j = m := by omega
        go_wp2_with fail
        go_ret2
        exact ⟨by rw [HT.out]; rfl, hB⟩
end Go.Proofs.Ytefipigdkdopcaa
