/- Layer 41's reference: contract of Text. No condition but that the script is one. -/
import Derived.Test.YtefipigdkdopcaaTap16
namespace Go.Proofs.Ytefipigdkdopcaa
open Go.RowKit

/-- Lines, each with its end. -/
def glue (ws : List (List UInt8)) : List UInt8 := ws.flatMap (fun p => p ++ [10])
theorem glue_append (a b : List (List UInt8)) : glue (a ++ b) = glue a ++ glue b := by unfold glue; rw [List.flatMap_append]
theorem glue_one (a : List UInt8) : glue [a] = a ++ [10] := by simp [glue]
theorem joinTail_glue (ws : List (List UInt8)) : Lib.joinTail [10] ws ++ [10] = [10] ++ glue ws := by
  unfold Lib.joinTail glue
  induction ws with
  | nil => rfl
  | cons a l ih =>
    rw [List.map_cons, List.flatten_cons, List.flatMap_cons, List.append_assoc, ih]
    simp
theorem join_glue (ws : List (List UInt8)) (h : ws ≠ []) : Lib.join ws [10] ++ [10] = glue ws := by
  cases ws with
  | nil => exact absurd rfl h
  | cons a l =>
    rw [Lib.join_cons, List.append_assoc, joinTail_glue]
    unfold glue
    rw [List.flatMap_cons]
    simp
theorem text_glue (x y z : Int) (bs : List Int) (fs : List FtV) (ss : List StV) : textT x y z bs fs ss = glue (linesT x y z bs fs ss) := join_glue _ (by unfold linesT; simp)
theorem glue_take {α : Type} (g : α → List UInt8) (l : List α) (j : Nat) (h : j < l.length) (pre : List (List UInt8)) : glue (pre ++ (l.take (j + 1)).map g) = glue (pre ++ (l.take j).map g) ++ g l[j] ++ [10] := by
  rw [List.take_succ_eq_append_getElem h, List.map_append, ← List.append_assoc, glue_append]
  show _ ++ glue [g l[j]] = _
  rw [glue_one, List.append_assoc]

set_option maxRecDepth 100000 in
set_option maxHeartbeats 8000000 in
theorem r41text_any (x y z : Int) (bs : List Int) (fs : List FtV) (ss : List StV) (B : Option Addr) (b1 b2 : Nat) (F : Option Addr) (f1 f2 : Nat) (S : Option Addr) (s1 s2 : Nat) (w : World)
    (h : Sc3 w bs fs ss B b1 b2 F f1 f2 S s1 s2) (hm : AllFt w fs) (hok : ScOk x y z bs fs ss) :
    Calls Try.prog 43 #[.agg (scA x y z B b1 b2 F f1 f2 S s1 s2)] w fun e w' => e = .returned (.string ⟨(textT x y z bs fs ss).toArray⟩) ∧ Below w.heap.size w w' := by
  obtain ⟨hB, hca⟩ := one_cells w (scA x y z B b1 b2 F f1 f2 S s1 s2) 73
  have p0 := hca 0 (.int .i64 x) rfl
  have p1 := hca 1 (.int .i64 y) rfl
  have p2 := hca 2 (.int .i64 z) rfl
  have p3 := hca 3 (.slice B b1 b2) rfl
  have p4 := hca 4 (.slice F f1 f2) rfl
  have p5 := hca 5 (.slice S s1 s2) rfl
  have hbl := h.b.ilen
  have hfl := h.f.ftlen
  have hsl := h.s.stlen
  have hb34 := hok.b1
  have hf64 := hok.f1
  have hs4k := hok.s1
  replace h := h.below hB
  replace hm := hm.below hB
  obtain ⟨g1, g2, g3⟩ := geom_i64 hok.g
  have K1 := fun W => Lib.hid ((digits4_any x W g1.1 g1.2).mono (fun e w' q => (⟨q.1, q.2 ▸ Below.refl _ _⟩ : _ ∧ Below W.heap.size W w')))
  have K2 := fun W => Lib.hid ((digits4_any y W g2.1 g2.2).mono (fun e w' q => (⟨q.1, q.2 ▸ Below.refl _ _⟩ : _ ∧ Below W.heap.size W w')))
  have K3 := fun W => Lib.hid ((digits4_any z W g3.1 g3.2).mono (fun e w' q => (⟨q.1, q.2 ▸ Below.refl _ _⟩ : _ ∧ Below W.heap.size W w')))
  have HOK := Lib.hid hok
  have HT : Hid (textT x y z bs fs ss = glue ([firstS x y z] ++ bs.map badS ++ fs.map ftS ++ ss.map lineS)) := text_glue x y z bs fs ss
  have hl1 := digI_len g1.1 g1.2
  have hl2 := digI_len g2.1 g2.2
  have hl3 := digI_len g3.1 g3.2
  have HF : Hid (firstS x y z = [103, 101, 111, 109, 32] ++ digI x ++ [32] ++ digI y ++ [32] ++ digI z) := rfl
  clear hca hok g1 g2 g3
  generalize textT x y z bs fs ss = tx at *
  generalize firstS x y z = fx at *
  generalize digI x = dx at *
  generalize digI y = dy at *
  generalize digI z = dz at *
  have l1 : ¬ (9223372036854775807 < 5 + dx.length) := by omega
  have l2 : ¬ (9223372036854775807 < 5 + dx.length + 1) := by omega
  have l3 : ¬ (9223372036854775807 < 5 + dx.length + 1 + dy.length) := by omega
  have l4 : ¬ (9223372036854775807 < 5 + dx.length + 1 + dy.length + 1) := by omega
  have l5 : ¬ (9223372036854775807 < 5 + dx.length + 1 + dy.length + 1 + dz.length) := by omega
  have l6 : ¬ (9223372036854775807 < 5 + dx.length + 1 + dy.length + 1 + dz.length + 1) := by omega
  go_enter Try.func43, Try.ntmps43
  go_upto_region 1 with fail
  generalize w.alloc (.cells (scA x y z B b1 b2 F f1 f2 S s1 s2) 73) = w1 at *
  refine wp_region_held (S := fun W => Below (w1).heap.size (w1) W) (by kernel_rfl) ?_
  change wpAnyH _ _ _ _ _ _ _ _ (w1).drew
  have hS : (fun W => Below (w1).heap.size (w1) W) (w1).drew := (Below.refl _ _).drew
  refine wpAnyH_take (i := 0) (oi := { dst := some 8, op := Op.fieldAddr 73 (Operand.tmp 1) 0, type := 0, pos := "ref.go:77", after := #[], guard := none }) (v := ?_) rfl (by kernel_rfl) (by kernel_rfl) (by kernel_rfl) (fun _ _ _ h => h) (Or.inl ⟨by rfl, ?_⟩) (by assumption) ?_
  rotate_left
  · (intro wS hS; go_simp <;> with_reducible rfl)
  try simp only [Act.put, List.setIfInBounds_toArray, List.set_cons_zero, List.set_cons_succ]
  refine wpAnyH_take (i := 1) (oi := { dst := some 9, op := Op.fieldAddr 65 (Operand.tmp 8) 0, type := 0, pos := "ref.go:77", after := #[{ on := 0, ground := Ground.data }], guard := none }) (v := ?_) rfl (by kernel_rfl) (by kernel_rfl) (by kernel_rfl) (fun _ _ _ h => h) (Or.inl ⟨by rfl, ?_⟩) (by assumption) ?_
  rotate_left
  · (intro wS hS; go_simp <;> with_reducible rfl)
  try simp only [Act.put, List.setIfInBounds_toArray, List.set_cons_zero, List.set_cons_succ]
  refine wpAnyH_take (i := 2) (oi := { dst := some 10, op := Op.load 3 (Operand.tmp 9), type := 3, pos := "ref.go:77", after := #[{ on := 1, ground := Ground.data }], guard := none }) (v := ?_) rfl (by kernel_rfl) (by kernel_rfl) (by kernel_rfl) (fun _ _ _ h => h) (Or.inl ⟨by rfl, ?_⟩) (by assumption) ?_
  rotate_left
  · (intro wS hS; have p0 := cell_below hS p0; have p1 := cell_below hS p1; have p2 := cell_below hS p2; go_simp <;> with_reducible rfl)
  try simp only [Act.put, List.setIfInBounds_toArray, List.set_cons_zero, List.set_cons_succ]
  refine wpAnyH_take (i := 6) (oi := { dst := some 14, op := Op.fieldAddr 73 (Operand.tmp 1) 0, type := 0, pos := "ref.go:77", after := #[], guard := none }) (v := ?_) rfl (by kernel_rfl) (by kernel_rfl) (by kernel_rfl) (fun _ _ _ h => h) (Or.inl ⟨by rfl, ?_⟩) (by assumption) ?_
  rotate_left
  · (intro wS hS; go_simp <;> with_reducible rfl)
  try simp only [Act.put, List.setIfInBounds_toArray, List.set_cons_zero, List.set_cons_succ]
  refine wpAnyH_take (i := 7) (oi := { dst := some 15, op := Op.fieldAddr 65 (Operand.tmp 14) 1, type := 0, pos := "ref.go:77", after := #[{ on := 6, ground := Ground.data }], guard := none }) (v := ?_) rfl (by kernel_rfl) (by kernel_rfl) (by kernel_rfl) (fun _ _ _ h => h) (Or.inl ⟨by rfl, ?_⟩) (by assumption) ?_
  rotate_left
  · (intro wS hS; go_simp <;> with_reducible rfl)
  try simp only [Act.put, List.setIfInBounds_toArray, List.set_cons_zero, List.set_cons_succ]
  refine wpAnyH_take (i := 8) (oi := { dst := some 16, op := Op.load 3 (Operand.tmp 15), type := 3, pos := "ref.go:77", after := #[{ on := 7, ground := Ground.data }], guard := none }) (v := ?_) rfl (by kernel_rfl) (by kernel_rfl) (by kernel_rfl) (fun _ _ _ h => h) (Or.inl ⟨by rfl, ?_⟩) (by assumption) ?_
  rotate_left
  · (intro wS hS; have p0 := cell_below hS p0; have p1 := cell_below hS p1; have p2 := cell_below hS p2; go_simp <;> with_reducible rfl)
  try simp only [Act.put, List.setIfInBounds_toArray, List.set_cons_zero, List.set_cons_succ]
  refine wpAnyH_take (i := 12) (oi := { dst := some 20, op := Op.fieldAddr 73 (Operand.tmp 1) 0, type := 0, pos := "ref.go:77", after := #[], guard := none }) (v := ?_) rfl (by kernel_rfl) (by kernel_rfl) (by kernel_rfl) (fun _ _ _ h => h) (Or.inl ⟨by rfl, ?_⟩) (by assumption) ?_
  rotate_left
  · (intro wS hS; go_simp <;> with_reducible rfl)
  try simp only [Act.put, List.setIfInBounds_toArray, List.set_cons_zero, List.set_cons_succ]
  refine wpAnyH_take (i := 13) (oi := { dst := some 21, op := Op.fieldAddr 65 (Operand.tmp 20) 2, type := 0, pos := "ref.go:77", after := #[{ on := 12, ground := Ground.data }], guard := none }) (v := ?_) rfl (by kernel_rfl) (by kernel_rfl) (by kernel_rfl) (fun _ _ _ h => h) (Or.inl ⟨by rfl, ?_⟩) (by assumption) ?_
  rotate_left
  · (intro wS hS; go_simp <;> with_reducible rfl)
  try simp only [Act.put, List.setIfInBounds_toArray, List.set_cons_zero, List.set_cons_succ]
  refine wpAnyH_take (i := 14) (oi := { dst := some 22, op := Op.load 3 (Operand.tmp 21), type := 3, pos := "ref.go:77", after := #[{ on := 13, ground := Ground.data }], guard := none }) (v := ?_) rfl (by kernel_rfl) (by kernel_rfl) (by kernel_rfl) (fun _ _ _ h => h) (Or.inl ⟨by rfl, ?_⟩) (by assumption) ?_
  rotate_left
  · (intro wS hS; have p0 := cell_below hS p0; have p1 := cell_below hS p1; have p2 := cell_below hS p2; go_simp <;> with_reducible rfl)
  try simp only [Act.put, List.setIfInBounds_toArray, List.set_cons_zero, List.set_cons_succ]
  refine wpAnyH_ready (rs := [3]) (by kernel_rfl) (by simp) ?_
  refine AllReadyH.cons (o := { dst := some 11, op := Op.call { callee := Callee.value (Operand.func 86), args := #[Operand.tmp 10], argTypes := #[3] }, type := 9, pos := "ref.go:77", after := #[{ on := 2, ground := Ground.data }], guard := none }) rfl (fun K hK => ?_) AllReadyH.nil
  go_simp
  refine (K1 _).out.mono ?_
  rintro e w103 ⟨rfl, hb⟩
  replace hS : (fun W => Below (w1).heap.size (w1) W) w103 := below_then hS hb (Below.size hS)
  refine hK.out _ _ hS (fun _ => ?_)
  clear hK K hb
  try simp only [Act.put, List.setIfInBounds_toArray, List.set_cons_zero, List.set_cons_succ]
  refine wpAnyH_take (i := 4) (oi := { dst := some 12, op := Op.binOp BinOp.add 9 (Operand.const (Value.string { data := #[103, 101, 111, 109, 32] })) (Operand.tmp 11) 9, type := 9, pos := "ref.go:77", after := #[{ on := 3, ground := Ground.data }], guard := none }) (v := ?_) rfl (by kernel_rfl) (by kernel_rfl) (by kernel_rfl) (fun _ _ _ h => h) (Or.inl ⟨by rfl, ?_⟩) (by assumption) ?_
  rotate_left
  · (intro wS hS; go_simp <;> with_reducible rfl)
  try simp only [Act.put, List.setIfInBounds_toArray, List.set_cons_zero, List.set_cons_succ]
  refine wpAnyH_take (i := 5) (oi := { dst := some 13, op := Op.binOp BinOp.add 9 (Operand.tmp 12) (Operand.const (Value.string { data := #[32] })) 9, type := 9, pos := "ref.go:77", after := #[{ on := 4, ground := Ground.data }], guard := none }) (v := ?_) rfl (by kernel_rfl) (by kernel_rfl) (by kernel_rfl) (fun _ _ _ h => h) (Or.inl ⟨by rfl, ?_⟩) (by assumption) ?_
  rotate_left
  · (intro wS hS; go_simp <;> with_reducible rfl)
  try simp only [Act.put, List.setIfInBounds_toArray, List.set_cons_zero, List.set_cons_succ]
  refine wpAnyH_ready (rs := [9]) (by kernel_rfl) (by simp) ?_
  refine AllReadyH.cons (o := { dst := some 17, op := Op.call { callee := Callee.value (Operand.func 86), args := #[Operand.tmp 16], argTypes := #[3] }, type := 9, pos := "ref.go:77", after := #[{ on := 8, ground := Ground.data }, { on := 3, ground := Ground.chain }], guard := none }) rfl (fun K hK => ?_) AllReadyH.nil
  go_simp
  refine (K2 _).out.mono ?_
  rintro e w109 ⟨rfl, hb⟩
  replace hS : (fun W => Below (w1).heap.size (w1) W) w109 := below_then hS hb (Below.size hS)
  refine hK.out _ _ hS (fun _ => ?_)
  clear hK K hb
  try simp only [Act.put, List.setIfInBounds_toArray, List.set_cons_zero, List.set_cons_succ]
  refine wpAnyH_take (i := 10) (oi := { dst := some 18, op := Op.binOp BinOp.add 9 (Operand.tmp 13) (Operand.tmp 17) 9, type := 9, pos := "ref.go:77", after := #[{ on := 5, ground := Ground.data }, { on := 9, ground := Ground.data }], guard := none }) (v := ?_) rfl (by kernel_rfl) (by kernel_rfl) (by kernel_rfl) (fun _ _ _ h => h) (Or.inl ⟨by rfl, ?_⟩) (by assumption) ?_
  rotate_left
  · (intro wS hS; go_simp <;> with_reducible rfl)
  try simp only [Act.put, List.setIfInBounds_toArray, List.set_cons_zero, List.set_cons_succ]
  refine wpAnyH_take (i := 11) (oi := { dst := some 19, op := Op.binOp BinOp.add 9 (Operand.tmp 18) (Operand.const (Value.string { data := #[32] })) 9, type := 9, pos := "ref.go:77", after := #[{ on := 10, ground := Ground.data }], guard := none }) (v := ?_) rfl (by kernel_rfl) (by kernel_rfl) (by kernel_rfl) (fun _ _ _ h => h) (Or.inl ⟨by rfl, ?_⟩) (by assumption) ?_
  rotate_left
  · (intro wS hS; go_simp <;> with_reducible rfl)
  try simp only [Act.put, List.setIfInBounds_toArray, List.set_cons_zero, List.set_cons_succ]
  refine wpAnyH_ready (rs := [15]) (by kernel_rfl) (by simp) ?_
  refine AllReadyH.cons (o := { dst := some 23, op := Op.call { callee := Callee.value (Operand.func 86), args := #[Operand.tmp 22], argTypes := #[3] }, type := 9, pos := "ref.go:77", after := #[{ on := 14, ground := Ground.data }, { on := 9, ground := Ground.chain }], guard := none }) rfl (fun K hK => ?_) AllReadyH.nil
  go_simp
  refine (K3 _).out.mono ?_
  rintro e w115 ⟨rfl, hb⟩
  replace hS : (fun W => Below (w1).heap.size (w1) W) w115 := below_then hS hb (Below.size hS)
  refine hK.out _ _ hS (fun _ => ?_)
  clear hK K hb
  try simp only [Act.put, List.setIfInBounds_toArray, List.set_cons_zero, List.set_cons_succ]
  refine wpAnyH_take (i := 16) (oi := { dst := some 24, op := Op.binOp BinOp.add 9 (Operand.tmp 19) (Operand.tmp 23) 9, type := 9, pos := "ref.go:77", after := #[{ on := 11, ground := Ground.data }, { on := 15, ground := Ground.data }], guard := none }) (v := ?_) rfl (by kernel_rfl) (by kernel_rfl) (by kernel_rfl) (fun _ _ _ h => h) (Or.inl ⟨by rfl, ?_⟩) (by assumption) ?_
  rotate_left
  · (intro wS hS; go_simp <;> with_reducible rfl)
  try simp only [Act.put, List.setIfInBounds_toArray, List.set_cons_zero, List.set_cons_succ]
  refine wpAnyH_take (i := 17) (oi := { dst := some 25, op := Op.binOp BinOp.add 9 (Operand.tmp 24) (Operand.const (Value.string { data := #[10] })) 9, type := 9, pos := "ref.go:77", after := #[{ on := 16, ground := Ground.data }], guard := none }) (v := ?_) rfl (by kernel_rfl) (by kernel_rfl) (by kernel_rfl) (fun _ _ _ h => h) (Or.inl ⟨by rfl, ?_⟩) (by assumption) ?_
  rotate_left
  · (intro wS hS; go_simp <;> with_reducible rfl)
  try simp only [Act.put, List.setIfInBounds_toArray, List.set_cons_zero, List.set_cons_succ]
  refine wpAnyH_take (i := 18) (oi := { dst := some 3, op := Op.assign (Operand.tmp 25), type := 9, pos := "ref.go:77", after := #[{ on := 17, ground := Ground.data }, { on := 15, ground := Ground.chain }, { on := 0, ground := Ground.phase }, { on := 1, ground := Ground.phase }, { on := 2, ground := Ground.phase }, { on := 3, ground := Ground.phase }, { on := 4, ground := Ground.phase }, { on := 5, ground := Ground.phase }, { on := 6, ground := Ground.phase }, { on := 7, ground := Ground.phase }, { on := 8, ground := Ground.phase }, { on := 9, ground := Ground.phase }, { on := 10, ground := Ground.phase }, { on := 11, ground := Ground.phase }, { on := 12, ground := Ground.phase }, { on := 13, ground := Ground.phase }, { on := 14, ground := Ground.phase }, { on := 15, ground := Ground.phase }, { on := 16, ground := Ground.phase }, { on := 17, ground := Ground.phase }], guard := none }) (v := ?_) rfl (by kernel_rfl) (by kernel_rfl) (by kernel_rfl) (fun _ _ _ h => h) (Or.inl ⟨by rfl, ?_⟩) (by assumption) ?_
  rotate_left
  · (intro wS hS; go_simp <;> with_reducible rfl)
  try simp only [Act.put, List.setIfInBounds_toArray, List.set_cons_zero, List.set_cons_succ]
  refine wpAnyH_done (by kernel_rfl) ?_ _
  replace h := h.below hS
  replace hm := hm.below hS
  replace p3 := cell_below hS p3
  replace p4 := cell_below hS p4
  replace p5 := cell_below hS p5
  have hE0 : Hid ((⟨#[103, 101, 111, 109, 32]⟩ : ByteArray) ++ ⟨dx.toArray⟩ ++ ⟨#[32]⟩ ++ ⟨dy.toArray⟩ ++ ⟨#[32]⟩ ++ ⟨dz.toArray⟩ ++ ⟨#[10]⟩ = ⟨(fx ++ [10]).toArray⟩) := by show _ = _; rw [HF.out, ← cat_bytes, ← cat_bytes, ← cat_bytes, ← cat_bytes, ← cat_bytes, ← cat_bytes]
  have hfx : fx.length ≤ 70 := by
    rw [HF.out]
    simp only [List.length_append, List.length_cons, List.length_nil]
    omega
  replace hB := below_trans hB hS
  clear K1 K2 K3 l1 l2 l3 l4 l5 l6 HF p0 p1 p2 hl1 hl2 hl3
  go_wp2_with fail
  go_loopw [3, 4] (fun o i wr => ∃ (j : Nat) (acc : List UInt8), i = .int .i64 j ∧ o = .string ⟨acc.toArray⟩ ∧ j ≤ b1 ∧ acc.length ≤ 100 + j * 100 ∧ Hid (acc = glue ([fx] ++ (bs.take j).map badS)) ∧ Below w.heap.size w wr ∧ AllFt wr fs ∧ Sc3 wr bs fs ss B b1 b2 F f1 f2 S s1 s2 ∧ wr.cell? ⟨w.heap.size, 3, none⟩ = some (.slice B b1 b2) ∧ wr.cell? ⟨w.heap.size, 4, none⟩ = some (.slice F f1 f2) ∧ wr.cell? ⟨w.heap.size, 5, none⟩ = some (.slice S s1 s2)) (fun _ i _ => b1 - (intOf i).toNat)
  case atStart => exact ⟨0, fx ++ [10], rfl, congrArg Value.string hE0.out, by omega, by simp; omega, Lib.hid (by rw [List.take_zero, List.map_nil, List.append_nil, glue_one]), hB, hm, h, p3, p4, p5⟩
  case round =>
    clear h hm p3 p4 p5 hB hE0
    obtain ⟨j, acc, rfl, rfl, hj, hal, HA, hB, hm, h, p3, p4, p5⟩ := hrel
    by_cases hlt : j < b1
    · obtain ⟨ad, rfl⟩ := h.b.some_of_pos (by omega)
      have e0 := h.b.icell j (by omega)
      have hi := bad_i64 (List.all_eq_true.1 HOK.out.b bs[j] (List.getElem_mem _))
      have hq1 : (j : Int) < b1 := by omega
      have HW : Hid (acc ++ badS bs[j] ++ [10] = glue ([fx] ++ (bs.take (j + 1)).map badS)) := by show _ = _; rw [glue_take badS bs j (by omega), HA.out]
      have KD := fun W => Lib.hid ((digits4_any bs[j] W hi.1 hi.2).mono (fun e w' q => (⟨q.1, q.2 ▸ Below.refl _ _⟩ : _ ∧ Below W.heap.size W w')))
      have hl1 := digI_len hi.1 hi.2
      have hcm := h.b.cm
      have hnc := h.b.nc
      unfold maxLen at hcm
      generalize bs[j] = b at *
      have HB2 : Hid (badS b = [98, 97, 100, 32] ++ digI b) := rfl
      generalize badS b = bb at *
      generalize digI b = db at *
      clear HA hi
      have l1 : ¬ (9223372036854775807 < acc.length + 4) := by omega
      have l2 : ¬ (9223372036854775807 < acc.length + 4 + db.length) := by omega
      have l3 : ¬ (9223372036854775807 < acc.length + 4 + db.length + 1) := by omega
      have hE1 : Hid ((⟨acc.toArray⟩ : ByteArray) ++ ⟨#[98, 97, 100, 32]⟩ ++ ⟨db.toArray⟩ ++ ⟨#[10]⟩ = ⟨(acc ++ bb ++ [10]).toArray⟩) := by
        show _ = _
        rw [show (acc ++ bb ++ [10]) = acc ++ [98, 97, 100, 32] ++ db ++ [10] by rw [HB2.out]; simp only [List.append_assoc]]
        rw [← cat_bytes, ← cat_bytes, ← cat_bytes]
      have hbb : bb.length = 4 + db.length := by rw [HB2.out]; simp; omega
      go_wp2_with fail
      refine (KD _).out.mono ?_
      rintro e w6 ⟨rfl, hb6⟩
      replace hm := hm.below hb6
      replace h := h.below hb6
      replace p3 := cell_below hb6 p3
      replace p4 := cell_below hb6 p4
      replace p5 := cell_below hb6 p5
      replace hB := below_trans hB hb6
      clear hb6 KD e0
      go_wp2_with fail
      go_roundw
      case rel => exact ⟨j + 1, acc ++ bb ++ [10], by go_num, congrArg Value.string hE1.out, by omega, by simp only [List.length_append, List.length_cons, List.length_nil]; omega, HW, hB, hm, h, p3, p4, p5⟩
      case measure => simp [intOf]; omega
    · obtain rfl : j = b1 := by omega
      have hjn : ¬ (j : Int) < (j : Int) := by omega
      have HA2 := HA.out
      rw [List.take_of_length_le (by omega)] at HA2
      generalize bs.map badS = bw at *
      replace HA := Lib.hid HA2
      clear HA2
      go_wp2_with fail
      go_loopw [3, 5, 6] (fun o i _ wr => ∃ (k : Nat) (acc : List UInt8), i = .int .i64 k ∧ o = .string ⟨acc.toArray⟩ ∧ k ≤ f1 ∧ acc.length ≤ 3500 + k * 1000 ∧ Hid (acc = glue ([fx] ++ bw ++ (fs.take k).map ftS)) ∧ Below w.heap.size w wr ∧ AllFt wr fs ∧ Sc3 wr bs fs ss B j b2 F f1 f2 S s1 s2 ∧ wr.cell? ⟨w.heap.size, 4, none⟩ = some (.slice F f1 f2) ∧ wr.cell? ⟨w.heap.size, 5, none⟩ = some (.slice S s1 s2)) (fun _ i _ _ => f1 - (intOf i).toNat)
      case atStart => exact ⟨0, acc, rfl, rfl, by omega, by omega, Lib.hid (by rw [HA.out]; simp), hB, hm, h, p4, p5⟩
      case round =>
        clear h hm p3 p4 p5 hB HA hal hjn
        obtain ⟨k, acc, rfl, rfl, hk, hal, HA, hB, hm, h, p4, p5⟩ := hrel
        by_cases hlt : k < f1
        · obtain ⟨ad, rfl⟩ := h.f.some_of_pos (by omega)
          obtain ⟨e0, e1, e2⟩ := h.f.fault k (by omega)
          have hfo := List.all_eq_true.1 HOK.out.f fs[k] (List.getElem_mem _)
          obtain ⟨hi, hi2⟩ := fault_i64 hfo
          have hmk := hm fs[k] (List.getElem_mem _)
          have hq1 : (k : Int) < f1 := by omega
          have HW : Hid (acc ++ ftS fs[k] ++ [10] = glue ([fx] ++ bw ++ (fs.take (k + 1)).map ftS)) := by show _ = _; rw [glue_take ftS fs k (by omega), HA.out]
          have hcm := h.f.cm
          have hnc := h.f.nc
          unfold maxLen at hcm
          have m1 : ((f1 : Int) ≤ k) = False := by rw [eq_iff_iff, iff_false]; omega
          have HSC := Lib.hid h
          have HMM := Lib.hid hm
          clear h hm HA
          generalize fs[k] = f at *
          have hkk : f.k = 1 ∨ f.k = 2 := by unfold faultOk at hfo; rw [decide_eq_true_iff] at hfo; exact hfo.2.1
          have HF2 : Hid (ftS f = harmW f.k ++ digI f.at_ ++ [32] ++ hexW f.x) := rfl
          have hbl2 := hmk.blen
          have KD := fun W => Lib.hid ((digits4_any f.at_ W hi.1 hi.2).mono (fun e w' q => (⟨q.1, q.2 ▸ Below.refl _ _⟩ : _ ∧ Below W.heap.size W w')))
          have KX := fun W => Lib.hid (r41hex_any f.x W (by omega))
          have hl1 := digI_len hi.1 hi.2
          have hl2 := hexW_length f.x
          generalize ftS f = fl at *
          obtain ⟨ft, fk, fA, fm, fc, fxs⟩ := f
          dsimp only at e0 e1 e2 hmk hkk HF2 KD KX hl1 hl2 hi hi2 hbl2
          clear hfo hi
          generalize digI ft = dt at *
          generalize hexW fxs = hx at *
          rcases hkk with rfl | rfl
          · have l1 : ¬ (9223372036854775807 < acc.length + 5) := by omega
            have l2 : ¬ (9223372036854775807 < acc.length + 5 + dt.length) := by omega
            have l3 : ¬ (9223372036854775807 < acc.length + 5 + dt.length + 1) := by omega
            have l4 : ¬ (9223372036854775807 < acc.length + 5 + dt.length + 1 + hx.length) := by omega
            have l5 : ¬ (9223372036854775807 < acc.length + 5 + dt.length + 1 + hx.length + 1) := by omega
            have hE1 : Hid ((⟨acc.toArray⟩ : ByteArray) ++ ⟨#[102, 97, 105, 108, 32]⟩ ++ ⟨dt.toArray⟩ ++ ⟨#[32]⟩ ++ ⟨hx.toArray⟩ ++ ⟨#[10]⟩ = ⟨(acc ++ fl ++ [10]).toArray⟩) := by
              show _ = _
              rw [show (acc ++ fl ++ [10]) = acc ++ [102, 97, 105, 108, 32] ++ dt ++ [32] ++ hx ++ [10] by rw [HF2.out, show harmW 1 = [102, 97, 105, 108, 32] from rfl]; simp only [List.append_assoc]]
              rw [← cat_bytes, ← cat_bytes, ← cat_bytes, ← cat_bytes, ← cat_bytes]
            have hfl : fl.length ≤ 600 := by rw [HF2.out, show harmW 1 = [102, 97, 105, 108, 32] from rfl]; simp only [List.length_append, List.length_cons, List.length_nil]; omega
            clear HF2
            go_upto_region 12 with fail
            refine wp_region_held (S := fun W => Below (wr).heap.size (wr) W) (by kernel_rfl) ?_
            change wpAnyH _ _ _ _ _ _ _ _ (wr).drew
            have hS : (fun W => Below (wr).heap.size (wr) W) (wr).drew := (Below.refl _ _).drew
            refine wpAnyH_take (i := 0) (oi := { dst := some 57, op := Op.move (Operand.tmp 3), type := 9, pos := "ref.go:86", after := #[], guard := none }) (v := ?_) rfl (by kernel_rfl) (by kernel_rfl) (by kernel_rfl) (fun _ _ _ h => h) (Or.inl ⟨by rfl, ?_⟩) (by assumption) ?_
            rotate_left
            · (intro wS hS; go_simp <;> with_reducible rfl)
            try simp only [Act.put, List.setIfInBounds_toArray, List.set_cons_zero, List.set_cons_succ]
            refine wpAnyH_take (i := 1) (oi := { dst := some 58, op := Op.move (Operand.tmp 6), type := 9, pos := "ref.go:86", after := #[], guard := none }) (v := ?_) rfl (by kernel_rfl) (by kernel_rfl) (by kernel_rfl) (fun _ _ _ h => h) (Or.inl ⟨by rfl, ?_⟩) (by assumption) ?_
            rotate_left
            · (intro wS hS; go_simp <;> with_reducible rfl)
            try simp only [Act.put, List.setIfInBounds_toArray, List.set_cons_zero, List.set_cons_succ]
            refine wpAnyH_take (i := 2) (oi := { dst := some 59, op := Op.binOp BinOp.add 9 (Operand.tmp 57) (Operand.tmp 58) 9, type := 9, pos := "ref.go:86", after := #[{ on := 0, ground := Ground.data }, { on := 1, ground := Ground.data }], guard := none }) (v := ?_) rfl (by kernel_rfl) (by kernel_rfl) (by kernel_rfl) (fun _ _ _ h => h) (Or.inl ⟨by rfl, ?_⟩) (by assumption) ?_
            rotate_left
            · (intro wS hS; go_simp <;> with_reducible rfl)
            try simp only [Act.put, List.setIfInBounds_toArray, List.set_cons_zero, List.set_cons_succ]
            refine wpAnyH_take (i := 3) (oi := { dst := some 60, op := Op.fieldAddr 73 (Operand.tmp 1) 2, type := 0, pos := "ref.go:86", after := #[], guard := none }) (v := ?_) rfl (by kernel_rfl) (by kernel_rfl) (by kernel_rfl) (fun _ _ _ h => h) (Or.inl ⟨by rfl, ?_⟩) (by assumption) ?_
            rotate_left
            · (intro wS hS; go_simp <;> with_reducible rfl)
            try simp only [Act.put, List.setIfInBounds_toArray, List.set_cons_zero, List.set_cons_succ]
            refine wpAnyH_take (i := 4) (oi := { dst := some 61, op := Op.load 66 (Operand.tmp 60), type := 66, pos := "ref.go:86", after := #[{ on := 3, ground := Ground.data }], guard := none }) (v := ?_) rfl (by kernel_rfl) (by kernel_rfl) (by kernel_rfl) (fun _ _ _ h => h) (Or.inl ⟨by rfl, ?_⟩) (by assumption) ?_
            rotate_left
            · (intro wS hS; have p4 := cell_below hS p4; have e0 := cell_below hS e0; have e2 := cell_below hS e2; go_simp <;> with_reducible rfl)
            try simp only [Act.put, List.setIfInBounds_toArray, List.set_cons_zero, List.set_cons_succ]
            refine wpAnyH_take (i := 5) (oi := { dst := some 62, op := Op.move (Operand.tmp 5), type := 3, pos := "ref.go:86", after := #[], guard := none }) (v := ?_) rfl (by kernel_rfl) (by kernel_rfl) (by kernel_rfl) (fun _ _ _ h => h) (Or.inl ⟨by rfl, ?_⟩) (by assumption) ?_
            rotate_left
            · (intro wS hS; go_simp <;> with_reducible rfl)
            try simp only [Act.put, List.setIfInBounds_toArray, List.set_cons_zero, List.set_cons_succ]
            refine wpAnyH_take (i := 6) (oi := { dst := some 63, op := Op.indexAddr 66 (Operand.tmp 61) (Operand.tmp 62), type := 0, pos := "ref.go:86", after := #[{ on := 4, ground := Ground.data }, { on := 5, ground := Ground.data }], guard := none }) (v := ?_) rfl (by kernel_rfl) (by kernel_rfl) (by kernel_rfl) (fun _ _ _ h => h) (Or.inl ⟨by rfl, ?_⟩) (by assumption) ?_
            rotate_left
            · (intro wS hS; go_simp <;> with_reducible rfl)
            try simp only [Act.put, List.setIfInBounds_toArray, List.set_cons_zero, List.set_cons_succ]
            refine wpAnyH_take (i := 7) (oi := { dst := some 64, op := Op.fieldAddr 130 (Operand.tmp 63) 0, type := 0, pos := "ref.go:86", after := #[{ on := 6, ground := Ground.data }], guard := none }) (v := ?_) rfl (by kernel_rfl) (by kernel_rfl) (by kernel_rfl) (fun _ _ _ h => h) (Or.inl ⟨by rfl, ?_⟩) (by assumption) ?_
            rotate_left
            · (intro wS hS; go_simp <;> with_reducible rfl)
            try simp only [Act.put, List.setIfInBounds_toArray, List.set_cons_zero, List.set_cons_succ]
            refine wpAnyH_take (i := 8) (oi := { dst := some 65, op := Op.load 3 (Operand.tmp 64), type := 3, pos := "ref.go:86", after := #[{ on := 7, ground := Ground.data }], guard := none }) (v := ?_) rfl (by kernel_rfl) (by kernel_rfl) (by kernel_rfl) (fun _ _ _ h => h) (Or.inl ⟨by rfl, ?_⟩) (by assumption) ?_
            rotate_left
            · (intro wS hS; have p4 := cell_below hS p4; have e0 := cell_below hS e0; have e2 := cell_below hS e2; go_simp <;> with_reducible rfl)
            try simp only [Act.put, List.setIfInBounds_toArray, List.set_cons_zero, List.set_cons_succ]
            refine wpAnyH_take (i := 12) (oi := { dst := some 69, op := Op.fieldAddr 73 (Operand.tmp 1) 2, type := 0, pos := "ref.go:86", after := #[], guard := none }) (v := ?_) rfl (by kernel_rfl) (by kernel_rfl) (by kernel_rfl) (fun _ _ _ h => h) (Or.inl ⟨by rfl, ?_⟩) (by assumption) ?_
            rotate_left
            · (intro wS hS; go_simp <;> with_reducible rfl)
            try simp only [Act.put, List.setIfInBounds_toArray, List.set_cons_zero, List.set_cons_succ]
            refine wpAnyH_take (i := 13) (oi := { dst := some 70, op := Op.load 66 (Operand.tmp 69), type := 66, pos := "ref.go:86", after := #[{ on := 12, ground := Ground.data }], guard := none }) (v := ?_) rfl (by kernel_rfl) (by kernel_rfl) (by kernel_rfl) (fun _ _ _ h => h) (Or.inl ⟨by rfl, ?_⟩) (by assumption) ?_
            rotate_left
            · (intro wS hS; have p4 := cell_below hS p4; have e0 := cell_below hS e0; have e2 := cell_below hS e2; go_simp <;> with_reducible rfl)
            try simp only [Act.put, List.setIfInBounds_toArray, List.set_cons_zero, List.set_cons_succ]
            refine wpAnyH_take (i := 14) (oi := { dst := some 71, op := Op.move (Operand.tmp 5), type := 3, pos := "ref.go:86", after := #[], guard := none }) (v := ?_) rfl (by kernel_rfl) (by kernel_rfl) (by kernel_rfl) (fun _ _ _ h => h) (Or.inl ⟨by rfl, ?_⟩) (by assumption) ?_
            rotate_left
            · (intro wS hS; go_simp <;> with_reducible rfl)
            try simp only [Act.put, List.setIfInBounds_toArray, List.set_cons_zero, List.set_cons_succ]
            refine wpAnyH_take (i := 15) (oi := { dst := some 72, op := Op.indexAddr 66 (Operand.tmp 70) (Operand.tmp 71), type := 0, pos := "ref.go:86", after := #[{ on := 13, ground := Ground.data }, { on := 14, ground := Ground.data }], guard := none }) (v := ?_) rfl (by kernel_rfl) (by kernel_rfl) (by kernel_rfl) (fun _ _ _ h => h) (Or.inl ⟨by rfl, ?_⟩) (by assumption) ?_
            rotate_left
            · (intro wS hS; go_simp <;> with_reducible rfl)
            try simp only [Act.put, List.setIfInBounds_toArray, List.set_cons_zero, List.set_cons_succ]
            refine wpAnyH_take (i := 16) (oi := { dst := some 73, op := Op.fieldAddr 130 (Operand.tmp 72) 2, type := 0, pos := "ref.go:86", after := #[{ on := 15, ground := Ground.data }], guard := none }) (v := ?_) rfl (by kernel_rfl) (by kernel_rfl) (by kernel_rfl) (fun _ _ _ h => h) (Or.inl ⟨by rfl, ?_⟩) (by assumption) ?_
            rotate_left
            · (intro wS hS; go_simp <;> with_reducible rfl)
            try simp only [Act.put, List.setIfInBounds_toArray, List.set_cons_zero, List.set_cons_succ]
            refine wpAnyH_take (i := 17) (oi := { dst := some 74, op := Op.load 53 (Operand.tmp 73), type := 53, pos := "ref.go:86", after := #[{ on := 16, ground := Ground.data }], guard := none }) (v := ?_) rfl (by kernel_rfl) (by kernel_rfl) (by kernel_rfl) (fun _ _ _ h => h) (Or.inl ⟨by rfl, ?_⟩) (by assumption) ?_
            rotate_left
            · (intro wS hS; have p4 := cell_below hS p4; have e0 := cell_below hS e0; have e2 := cell_below hS e2; go_simp <;> with_reducible rfl)
            try simp only [Act.put, List.setIfInBounds_toArray, List.set_cons_zero, List.set_cons_succ]
            refine wpAnyH_take (i := 18) (oi := { dst := some 75, op := Op.convert 53 9 (Operand.tmp 74), type := 9, pos := "ref.go:86", after := #[{ on := 17, ground := Ground.data }], guard := none }) (v := ?_) rfl (by kernel_rfl) (by kernel_rfl) (by kernel_rfl) (fun _ _ _ h => h) (Or.inl ⟨by rfl, ?_⟩) (by assumption) ?_
            rotate_left
            · (intro wS hS; have hk := run_string_of (P := Try.prog) 53 9 5 Try.underlying53 Try.underlying5 Try.underlying9 (hmk.below hS); go_simp <;> with_reducible rfl)
            try simp only [Act.put, List.setIfInBounds_toArray, List.set_cons_zero, List.set_cons_succ]
            refine wpAnyH_ready (rs := [9]) (by kernel_rfl) (by simp) ?_
            refine AllReadyH.cons (o := { dst := some 66, op := Op.call { callee := Callee.value (Operand.func 86), args := #[Operand.tmp 65], argTypes := #[3] }, type := 9, pos := "ref.go:86", after := #[{ on := 8, ground := Ground.data }], guard := none }) rfl (fun K hK => ?_) AllReadyH.nil
            go_simp
            refine (KD _).out.mono ?_
            rintro e w109 ⟨rfl, hb⟩
            replace hS : (fun W => Below (wr).heap.size (wr) W) w109 := below_then hS hb (Below.size hS)
            refine hK.out _ _ hS (fun _ => ?_)
            clear hK K hb
            try simp only [Act.put, List.setIfInBounds_toArray, List.set_cons_zero, List.set_cons_succ]
            refine wpAnyH_take (i := 10) (oi := { dst := some 67, op := Op.binOp BinOp.add 9 (Operand.tmp 59) (Operand.tmp 66) 9, type := 9, pos := "ref.go:86", after := #[{ on := 2, ground := Ground.data }, { on := 9, ground := Ground.data }], guard := none }) (v := ?_) rfl (by kernel_rfl) (by kernel_rfl) (by kernel_rfl) (fun _ _ _ h => h) (Or.inl ⟨by rfl, ?_⟩) (by assumption) ?_
            rotate_left
            · (intro wS hS; go_simp <;> with_reducible rfl)
            try simp only [Act.put, List.setIfInBounds_toArray, List.set_cons_zero, List.set_cons_succ]
            refine wpAnyH_take (i := 11) (oi := { dst := some 68, op := Op.binOp BinOp.add 9 (Operand.tmp 67) (Operand.const (Value.string { data := #[32] })) 9, type := 9, pos := "ref.go:86", after := #[{ on := 10, ground := Ground.data }], guard := none }) (v := ?_) rfl (by kernel_rfl) (by kernel_rfl) (by kernel_rfl) (fun _ _ _ h => h) (Or.inl ⟨by rfl, ?_⟩) (by assumption) ?_
            rotate_left
            · (intro wS hS; go_simp <;> with_reducible rfl)
            try simp only [Act.put, List.setIfInBounds_toArray, List.set_cons_zero, List.set_cons_succ]
            refine wpAnyH_ready (rs := [19]) (by kernel_rfl) (by simp) ?_
            refine AllReadyH.cons (o := { dst := some 76, op := Op.call { callee := Callee.value (Operand.func 87), args := #[Operand.tmp 75], argTypes := #[9] }, type := 9, pos := "ref.go:86", after := #[{ on := 18, ground := Ground.data }, { on := 9, ground := Ground.chain }], guard := none }) rfl (fun K hK => ?_) AllReadyH.nil
            go_simp
            refine (KX _).out.mono ?_
            rintro e w119 ⟨rfl, hb⟩
            replace hS : (fun W => Below (wr).heap.size (wr) W) w119 := below_then hS hb (Below.size hS)
            refine hK.out _ _ hS (fun _ => ?_)
            clear hK K hb
            try simp only [Act.put, List.setIfInBounds_toArray, List.set_cons_zero, List.set_cons_succ]
            refine wpAnyH_take (i := 20) (oi := { dst := some 77, op := Op.binOp BinOp.add 9 (Operand.tmp 68) (Operand.tmp 76) 9, type := 9, pos := "ref.go:86", after := #[{ on := 11, ground := Ground.data }, { on := 19, ground := Ground.data }], guard := none }) (v := ?_) rfl (by kernel_rfl) (by kernel_rfl) (by kernel_rfl) (fun _ _ _ h => h) (Or.inl ⟨by rfl, ?_⟩) (by assumption) ?_
            rotate_left
            · (intro wS hS; go_simp <;> with_reducible rfl)
            try simp only [Act.put, List.setIfInBounds_toArray, List.set_cons_zero, List.set_cons_succ]
            refine wpAnyH_take (i := 21) (oi := { dst := some 78, op := Op.binOp BinOp.add 9 (Operand.tmp 77) (Operand.const (Value.string { data := #[10] })) 9, type := 9, pos := "ref.go:86", after := #[{ on := 20, ground := Ground.data }], guard := none }) (v := ?_) rfl (by kernel_rfl) (by kernel_rfl) (by kernel_rfl) (fun _ _ _ h => h) (Or.inl ⟨by rfl, ?_⟩) (by assumption) ?_
            rotate_left
            · (intro wS hS; go_simp <;> with_reducible rfl)
            try simp only [Act.put, List.setIfInBounds_toArray, List.set_cons_zero, List.set_cons_succ]
            refine wpAnyH_take (i := 22) (oi := { dst := some 3, op := Op.assign (Operand.tmp 78), type := 9, pos := "ref.go:86", after := #[{ on := 21, ground := Ground.data }, { on := 19, ground := Ground.chain }, { on := 0, ground := Ground.phase }, { on := 1, ground := Ground.phase }, { on := 2, ground := Ground.phase }, { on := 3, ground := Ground.phase }, { on := 4, ground := Ground.phase }, { on := 5, ground := Ground.phase }, { on := 6, ground := Ground.phase }, { on := 7, ground := Ground.phase }, { on := 8, ground := Ground.phase }, { on := 9, ground := Ground.phase }, { on := 10, ground := Ground.phase }, { on := 11, ground := Ground.phase }, { on := 12, ground := Ground.phase }, { on := 13, ground := Ground.phase }, { on := 14, ground := Ground.phase }, { on := 15, ground := Ground.phase }, { on := 16, ground := Ground.phase }, { on := 17, ground := Ground.phase }, { on := 18, ground := Ground.phase }, { on := 19, ground := Ground.phase }, { on := 20, ground := Ground.phase }, { on := 21, ground := Ground.phase }], guard := none }) (v := ?_) rfl (by kernel_rfl) (by kernel_rfl) (by kernel_rfl) (fun _ _ _ h => h) (Or.inl ⟨by rfl, ?_⟩) (by assumption) ?_
            rotate_left
            · (intro wS hS; go_simp <;> with_reducible rfl)
            try simp only [Act.put, List.setIfInBounds_toArray, List.set_cons_zero, List.set_cons_succ]
            refine wpAnyH_done (by kernel_rfl) ?_ _
            go_wp2_with fail
            go_roundw
            case rel => exact ⟨k + 1, acc ++ fl ++ [10], by go_num, congrArg Value.string hE1.out, by omega, by simp only [List.length_append, List.length_cons, List.length_nil]; omega, HW, below_trans hB hS, HMM.out.below hS, HSC.out.below hS, cell_below hS p4, cell_below hS p5⟩
            case measure => simp [intOf]; omega
          · have l1 : ¬ (9223372036854775807 < acc.length + 4) := by omega
            have l2 : ¬ (9223372036854775807 < acc.length + 4 + dt.length) := by omega
            have l3 : ¬ (9223372036854775807 < acc.length + 4 + dt.length + 1) := by omega
            have l4 : ¬ (9223372036854775807 < acc.length + 4 + dt.length + 1 + hx.length) := by omega
            have l5 : ¬ (9223372036854775807 < acc.length + 4 + dt.length + 1 + hx.length + 1) := by omega
            have hE1 : Hid ((⟨acc.toArray⟩ : ByteArray) ++ ⟨#[99, 117, 116, 32]⟩ ++ ⟨dt.toArray⟩ ++ ⟨#[32]⟩ ++ ⟨hx.toArray⟩ ++ ⟨#[10]⟩ = ⟨(acc ++ fl ++ [10]).toArray⟩) := by
              show _ = _
              rw [show (acc ++ fl ++ [10]) = acc ++ [99, 117, 116, 32] ++ dt ++ [32] ++ hx ++ [10] by rw [HF2.out, show harmW 2 = [99, 117, 116, 32] from rfl]; simp only [List.append_assoc]]
              rw [← cat_bytes, ← cat_bytes, ← cat_bytes, ← cat_bytes, ← cat_bytes]
            have hfl : fl.length ≤ 600 := by rw [HF2.out, show harmW 2 = [99, 117, 116, 32] from rfl]; simp only [List.length_append, List.length_cons, List.length_nil]; omega
            clear HF2
            go_upto_region 12 with fail
            refine wp_region_held (S := fun W => Below (wr).heap.size (wr) W) (by kernel_rfl) ?_
            change wpAnyH _ _ _ _ _ _ _ _ (wr).drew
            have hS : (fun W => Below (wr).heap.size (wr) W) (wr).drew := (Below.refl _ _).drew
            refine wpAnyH_take (i := 0) (oi := { dst := some 57, op := Op.move (Operand.tmp 3), type := 9, pos := "ref.go:86", after := #[], guard := none }) (v := ?_) rfl (by kernel_rfl) (by kernel_rfl) (by kernel_rfl) (fun _ _ _ h => h) (Or.inl ⟨by rfl, ?_⟩) (by assumption) ?_
            rotate_left
            · (intro wS hS; go_simp <;> with_reducible rfl)
            try simp only [Act.put, List.setIfInBounds_toArray, List.set_cons_zero, List.set_cons_succ]
            refine wpAnyH_take (i := 1) (oi := { dst := some 58, op := Op.move (Operand.tmp 6), type := 9, pos := "ref.go:86", after := #[], guard := none }) (v := ?_) rfl (by kernel_rfl) (by kernel_rfl) (by kernel_rfl) (fun _ _ _ h => h) (Or.inl ⟨by rfl, ?_⟩) (by assumption) ?_
            rotate_left
            · (intro wS hS; go_simp <;> with_reducible rfl)
            try simp only [Act.put, List.setIfInBounds_toArray, List.set_cons_zero, List.set_cons_succ]
            refine wpAnyH_take (i := 2) (oi := { dst := some 59, op := Op.binOp BinOp.add 9 (Operand.tmp 57) (Operand.tmp 58) 9, type := 9, pos := "ref.go:86", after := #[{ on := 0, ground := Ground.data }, { on := 1, ground := Ground.data }], guard := none }) (v := ?_) rfl (by kernel_rfl) (by kernel_rfl) (by kernel_rfl) (fun _ _ _ h => h) (Or.inl ⟨by rfl, ?_⟩) (by assumption) ?_
            rotate_left
            · (intro wS hS; go_simp <;> with_reducible rfl)
            try simp only [Act.put, List.setIfInBounds_toArray, List.set_cons_zero, List.set_cons_succ]
            refine wpAnyH_take (i := 3) (oi := { dst := some 60, op := Op.fieldAddr 73 (Operand.tmp 1) 2, type := 0, pos := "ref.go:86", after := #[], guard := none }) (v := ?_) rfl (by kernel_rfl) (by kernel_rfl) (by kernel_rfl) (fun _ _ _ h => h) (Or.inl ⟨by rfl, ?_⟩) (by assumption) ?_
            rotate_left
            · (intro wS hS; go_simp <;> with_reducible rfl)
            try simp only [Act.put, List.setIfInBounds_toArray, List.set_cons_zero, List.set_cons_succ]
            refine wpAnyH_take (i := 4) (oi := { dst := some 61, op := Op.load 66 (Operand.tmp 60), type := 66, pos := "ref.go:86", after := #[{ on := 3, ground := Ground.data }], guard := none }) (v := ?_) rfl (by kernel_rfl) (by kernel_rfl) (by kernel_rfl) (fun _ _ _ h => h) (Or.inl ⟨by rfl, ?_⟩) (by assumption) ?_
            rotate_left
            · (intro wS hS; have p4 := cell_below hS p4; have e0 := cell_below hS e0; have e2 := cell_below hS e2; go_simp <;> with_reducible rfl)
            try simp only [Act.put, List.setIfInBounds_toArray, List.set_cons_zero, List.set_cons_succ]
            refine wpAnyH_take (i := 5) (oi := { dst := some 62, op := Op.move (Operand.tmp 5), type := 3, pos := "ref.go:86", after := #[], guard := none }) (v := ?_) rfl (by kernel_rfl) (by kernel_rfl) (by kernel_rfl) (fun _ _ _ h => h) (Or.inl ⟨by rfl, ?_⟩) (by assumption) ?_
            rotate_left
            · (intro wS hS; go_simp <;> with_reducible rfl)
            try simp only [Act.put, List.setIfInBounds_toArray, List.set_cons_zero, List.set_cons_succ]
            refine wpAnyH_take (i := 6) (oi := { dst := some 63, op := Op.indexAddr 66 (Operand.tmp 61) (Operand.tmp 62), type := 0, pos := "ref.go:86", after := #[{ on := 4, ground := Ground.data }, { on := 5, ground := Ground.data }], guard := none }) (v := ?_) rfl (by kernel_rfl) (by kernel_rfl) (by kernel_rfl) (fun _ _ _ h => h) (Or.inl ⟨by rfl, ?_⟩) (by assumption) ?_
            rotate_left
            · (intro wS hS; go_simp <;> with_reducible rfl)
            try simp only [Act.put, List.setIfInBounds_toArray, List.set_cons_zero, List.set_cons_succ]
            refine wpAnyH_take (i := 7) (oi := { dst := some 64, op := Op.fieldAddr 130 (Operand.tmp 63) 0, type := 0, pos := "ref.go:86", after := #[{ on := 6, ground := Ground.data }], guard := none }) (v := ?_) rfl (by kernel_rfl) (by kernel_rfl) (by kernel_rfl) (fun _ _ _ h => h) (Or.inl ⟨by rfl, ?_⟩) (by assumption) ?_
            rotate_left
            · (intro wS hS; go_simp <;> with_reducible rfl)
            try simp only [Act.put, List.setIfInBounds_toArray, List.set_cons_zero, List.set_cons_succ]
            refine wpAnyH_take (i := 8) (oi := { dst := some 65, op := Op.load 3 (Operand.tmp 64), type := 3, pos := "ref.go:86", after := #[{ on := 7, ground := Ground.data }], guard := none }) (v := ?_) rfl (by kernel_rfl) (by kernel_rfl) (by kernel_rfl) (fun _ _ _ h => h) (Or.inl ⟨by rfl, ?_⟩) (by assumption) ?_
            rotate_left
            · (intro wS hS; have p4 := cell_below hS p4; have e0 := cell_below hS e0; have e2 := cell_below hS e2; go_simp <;> with_reducible rfl)
            try simp only [Act.put, List.setIfInBounds_toArray, List.set_cons_zero, List.set_cons_succ]
            refine wpAnyH_take (i := 12) (oi := { dst := some 69, op := Op.fieldAddr 73 (Operand.tmp 1) 2, type := 0, pos := "ref.go:86", after := #[], guard := none }) (v := ?_) rfl (by kernel_rfl) (by kernel_rfl) (by kernel_rfl) (fun _ _ _ h => h) (Or.inl ⟨by rfl, ?_⟩) (by assumption) ?_
            rotate_left
            · (intro wS hS; go_simp <;> with_reducible rfl)
            try simp only [Act.put, List.setIfInBounds_toArray, List.set_cons_zero, List.set_cons_succ]
            refine wpAnyH_take (i := 13) (oi := { dst := some 70, op := Op.load 66 (Operand.tmp 69), type := 66, pos := "ref.go:86", after := #[{ on := 12, ground := Ground.data }], guard := none }) (v := ?_) rfl (by kernel_rfl) (by kernel_rfl) (by kernel_rfl) (fun _ _ _ h => h) (Or.inl ⟨by rfl, ?_⟩) (by assumption) ?_
            rotate_left
            · (intro wS hS; have p4 := cell_below hS p4; have e0 := cell_below hS e0; have e2 := cell_below hS e2; go_simp <;> with_reducible rfl)
            try simp only [Act.put, List.setIfInBounds_toArray, List.set_cons_zero, List.set_cons_succ]
            refine wpAnyH_take (i := 14) (oi := { dst := some 71, op := Op.move (Operand.tmp 5), type := 3, pos := "ref.go:86", after := #[], guard := none }) (v := ?_) rfl (by kernel_rfl) (by kernel_rfl) (by kernel_rfl) (fun _ _ _ h => h) (Or.inl ⟨by rfl, ?_⟩) (by assumption) ?_
            rotate_left
            · (intro wS hS; go_simp <;> with_reducible rfl)
            try simp only [Act.put, List.setIfInBounds_toArray, List.set_cons_zero, List.set_cons_succ]
            refine wpAnyH_take (i := 15) (oi := { dst := some 72, op := Op.indexAddr 66 (Operand.tmp 70) (Operand.tmp 71), type := 0, pos := "ref.go:86", after := #[{ on := 13, ground := Ground.data }, { on := 14, ground := Ground.data }], guard := none }) (v := ?_) rfl (by kernel_rfl) (by kernel_rfl) (by kernel_rfl) (fun _ _ _ h => h) (Or.inl ⟨by rfl, ?_⟩) (by assumption) ?_
            rotate_left
            · (intro wS hS; go_simp <;> with_reducible rfl)
            try simp only [Act.put, List.setIfInBounds_toArray, List.set_cons_zero, List.set_cons_succ]
            refine wpAnyH_take (i := 16) (oi := { dst := some 73, op := Op.fieldAddr 130 (Operand.tmp 72) 2, type := 0, pos := "ref.go:86", after := #[{ on := 15, ground := Ground.data }], guard := none }) (v := ?_) rfl (by kernel_rfl) (by kernel_rfl) (by kernel_rfl) (fun _ _ _ h => h) (Or.inl ⟨by rfl, ?_⟩) (by assumption) ?_
            rotate_left
            · (intro wS hS; go_simp <;> with_reducible rfl)
            try simp only [Act.put, List.setIfInBounds_toArray, List.set_cons_zero, List.set_cons_succ]
            refine wpAnyH_take (i := 17) (oi := { dst := some 74, op := Op.load 53 (Operand.tmp 73), type := 53, pos := "ref.go:86", after := #[{ on := 16, ground := Ground.data }], guard := none }) (v := ?_) rfl (by kernel_rfl) (by kernel_rfl) (by kernel_rfl) (fun _ _ _ h => h) (Or.inl ⟨by rfl, ?_⟩) (by assumption) ?_
            rotate_left
            · (intro wS hS; have p4 := cell_below hS p4; have e0 := cell_below hS e0; have e2 := cell_below hS e2; go_simp <;> with_reducible rfl)
            try simp only [Act.put, List.setIfInBounds_toArray, List.set_cons_zero, List.set_cons_succ]
            refine wpAnyH_take (i := 18) (oi := { dst := some 75, op := Op.convert 53 9 (Operand.tmp 74), type := 9, pos := "ref.go:86", after := #[{ on := 17, ground := Ground.data }], guard := none }) (v := ?_) rfl (by kernel_rfl) (by kernel_rfl) (by kernel_rfl) (fun _ _ _ h => h) (Or.inl ⟨by rfl, ?_⟩) (by assumption) ?_
            rotate_left
            · (intro wS hS; have hk := run_string_of (P := Try.prog) 53 9 5 Try.underlying53 Try.underlying5 Try.underlying9 (hmk.below hS); go_simp <;> with_reducible rfl)
            try simp only [Act.put, List.setIfInBounds_toArray, List.set_cons_zero, List.set_cons_succ]
            refine wpAnyH_ready (rs := [9]) (by kernel_rfl) (by simp) ?_
            refine AllReadyH.cons (o := { dst := some 66, op := Op.call { callee := Callee.value (Operand.func 86), args := #[Operand.tmp 65], argTypes := #[3] }, type := 9, pos := "ref.go:86", after := #[{ on := 8, ground := Ground.data }], guard := none }) rfl (fun K hK => ?_) AllReadyH.nil
            go_simp
            refine (KD _).out.mono ?_
            rintro e w109 ⟨rfl, hb⟩
            replace hS : (fun W => Below (wr).heap.size (wr) W) w109 := below_then hS hb (Below.size hS)
            refine hK.out _ _ hS (fun _ => ?_)
            clear hK K hb
            try simp only [Act.put, List.setIfInBounds_toArray, List.set_cons_zero, List.set_cons_succ]
            refine wpAnyH_take (i := 10) (oi := { dst := some 67, op := Op.binOp BinOp.add 9 (Operand.tmp 59) (Operand.tmp 66) 9, type := 9, pos := "ref.go:86", after := #[{ on := 2, ground := Ground.data }, { on := 9, ground := Ground.data }], guard := none }) (v := ?_) rfl (by kernel_rfl) (by kernel_rfl) (by kernel_rfl) (fun _ _ _ h => h) (Or.inl ⟨by rfl, ?_⟩) (by assumption) ?_
            rotate_left
            · (intro wS hS; go_simp <;> with_reducible rfl)
            try simp only [Act.put, List.setIfInBounds_toArray, List.set_cons_zero, List.set_cons_succ]
            refine wpAnyH_take (i := 11) (oi := { dst := some 68, op := Op.binOp BinOp.add 9 (Operand.tmp 67) (Operand.const (Value.string { data := #[32] })) 9, type := 9, pos := "ref.go:86", after := #[{ on := 10, ground := Ground.data }], guard := none }) (v := ?_) rfl (by kernel_rfl) (by kernel_rfl) (by kernel_rfl) (fun _ _ _ h => h) (Or.inl ⟨by rfl, ?_⟩) (by assumption) ?_
            rotate_left
            · (intro wS hS; go_simp <;> with_reducible rfl)
            try simp only [Act.put, List.setIfInBounds_toArray, List.set_cons_zero, List.set_cons_succ]
            refine wpAnyH_ready (rs := [19]) (by kernel_rfl) (by simp) ?_
            refine AllReadyH.cons (o := { dst := some 76, op := Op.call { callee := Callee.value (Operand.func 87), args := #[Operand.tmp 75], argTypes := #[9] }, type := 9, pos := "ref.go:86", after := #[{ on := 18, ground := Ground.data }, { on := 9, ground := Ground.chain }], guard := none }) rfl (fun K hK => ?_) AllReadyH.nil
            go_simp
            refine (KX _).out.mono ?_
            rintro e w119 ⟨rfl, hb⟩
            replace hS : (fun W => Below (wr).heap.size (wr) W) w119 := below_then hS hb (Below.size hS)
            refine hK.out _ _ hS (fun _ => ?_)
            clear hK K hb
            try simp only [Act.put, List.setIfInBounds_toArray, List.set_cons_zero, List.set_cons_succ]
            refine wpAnyH_take (i := 20) (oi := { dst := some 77, op := Op.binOp BinOp.add 9 (Operand.tmp 68) (Operand.tmp 76) 9, type := 9, pos := "ref.go:86", after := #[{ on := 11, ground := Ground.data }, { on := 19, ground := Ground.data }], guard := none }) (v := ?_) rfl (by kernel_rfl) (by kernel_rfl) (by kernel_rfl) (fun _ _ _ h => h) (Or.inl ⟨by rfl, ?_⟩) (by assumption) ?_
            rotate_left
            · (intro wS hS; go_simp <;> with_reducible rfl)
            try simp only [Act.put, List.setIfInBounds_toArray, List.set_cons_zero, List.set_cons_succ]
            refine wpAnyH_take (i := 21) (oi := { dst := some 78, op := Op.binOp BinOp.add 9 (Operand.tmp 77) (Operand.const (Value.string { data := #[10] })) 9, type := 9, pos := "ref.go:86", after := #[{ on := 20, ground := Ground.data }], guard := none }) (v := ?_) rfl (by kernel_rfl) (by kernel_rfl) (by kernel_rfl) (fun _ _ _ h => h) (Or.inl ⟨by rfl, ?_⟩) (by assumption) ?_
            rotate_left
            · (intro wS hS; go_simp <;> with_reducible rfl)
            try simp only [Act.put, List.setIfInBounds_toArray, List.set_cons_zero, List.set_cons_succ]
            refine wpAnyH_take (i := 22) (oi := { dst := some 3, op := Op.assign (Operand.tmp 78), type := 9, pos := "ref.go:86", after := #[{ on := 21, ground := Ground.data }, { on := 19, ground := Ground.chain }, { on := 0, ground := Ground.phase }, { on := 1, ground := Ground.phase }, { on := 2, ground := Ground.phase }, { on := 3, ground := Ground.phase }, { on := 4, ground := Ground.phase }, { on := 5, ground := Ground.phase }, { on := 6, ground := Ground.phase }, { on := 7, ground := Ground.phase }, { on := 8, ground := Ground.phase }, { on := 9, ground := Ground.phase }, { on := 10, ground := Ground.phase }, { on := 11, ground := Ground.phase }, { on := 12, ground := Ground.phase }, { on := 13, ground := Ground.phase }, { on := 14, ground := Ground.phase }, { on := 15, ground := Ground.phase }, { on := 16, ground := Ground.phase }, { on := 17, ground := Ground.phase }, { on := 18, ground := Ground.phase }, { on := 19, ground := Ground.phase }, { on := 20, ground := Ground.phase }, { on := 21, ground := Ground.phase }], guard := none }) (v := ?_) rfl (by kernel_rfl) (by kernel_rfl) (by kernel_rfl) (fun _ _ _ h => h) (Or.inl ⟨by rfl, ?_⟩) (by assumption) ?_
            rotate_left
            · (intro wS hS; go_simp <;> with_reducible rfl)
            try simp only [Act.put, List.setIfInBounds_toArray, List.set_cons_zero, List.set_cons_succ]
            refine wpAnyH_done (by kernel_rfl) ?_ _
            go_wp2_with fail
            go_roundw
            case rel => exact ⟨k + 1, acc ++ fl ++ [10], by go_num, congrArg Value.string hE1.out, by omega, by simp only [List.length_append, List.length_cons, List.length_nil]; omega, HW, below_trans hB hS, HMM.out.below hS, HSC.out.below hS, cell_below hS p4, cell_below hS p5⟩
            case measure => simp [intOf]; omega
        · obtain rfl : k = f1 := by omega
          have hkn : ¬ (k : Int) < (k : Int) := by omega
          have HA2 := HA.out
          rw [List.take_of_length_le (by omega)] at HA2
          generalize fs.map ftS = fw at *
          replace HA := Lib.hid HA2
          clear HA2
          go_wp2_with fail
          go_loopw [3, 7] (fun o i wr => ∃ (l : Nat) (acc : List UInt8), i = .int .i64 l ∧ o = .string ⟨acc.toArray⟩ ∧ l ≤ s1 ∧ acc.length ≤ 68000 + l * 8200 ∧ Hid (acc = glue ([fx] ++ bw ++ fw ++ (ss.take l).map lineS)) ∧ Below w.heap.size w wr ∧ Sc3 wr bs fs ss B j b2 F k f2 S s1 s2 ∧ wr.cell? ⟨w.heap.size, 5, none⟩ = some (.slice S s1 s2)) (fun _ i _ => s1 - (intOf i).toNat)
          case atStart => exact ⟨0, acc, rfl, rfl, by omega, by omega, Lib.hid (by rw [HA.out]; simp), hB, h, p5⟩
          case round =>
            clear h hm p4 p5 hB HA hal hkn
            obtain ⟨l, acc, rfl, rfl, hl, hal, HA, hB, h, p5⟩ := hrel
            by_cases hlt : l < s1
            · obtain ⟨ad, rfl⟩ := h.s.some_of_pos (by omega)
              obtain ⟨e0, e1, e2, e3, e4⟩ := h.s.step l (by omega)
              have hso := List.all_eq_true.1 HOK.out.s ss[l] (List.getElem_mem _)
              obtain ⟨hi, hi2, -, -⟩ := step_i64 hso
              have hq1 : (l : Int) < s1 := by omega
              have HW : Hid (acc ++ lineS ss[l] ++ [10] = glue ([fx] ++ bw ++ fw ++ (ss.take (l + 1)).map lineS)) := by show _ = _; rw [glue_take lineS ss l (by omega), HA.out]
              have hll := line_len hso
              have KD := fun W => Lib.hid (r41line_any ss[l] W hi (by omega) hso)
              have hcm := h.s.cm
              have hnc := h.s.nc
              unfold maxLen at hcm
              have HSC := Lib.hid h
              clear h HA hi hi2 hso
              generalize ss[l] = s at *
              generalize lineS s = sl at *
              obtain ⟨sk, sd, sp, sa, sb⟩ := s
              dsimp only at e0 e1 e2 e3 e4 KD
              have l1 : ¬ (9223372036854775807 < acc.length + sl.length) := by omega
              have l2 : ¬ (9223372036854775807 < acc.length + sl.length + 1) := by omega
              go_wp2_with fail
              refine (KD _).out.mono ?_
              rintro e w6 ⟨rfl, hb6⟩
              replace p5 := cell_below hb6 p5
              replace hB := below_trans hB hb6
              have HSC2 := Lib.hid (HSC.out.below hb6)
              clear hb6 KD e0 e1 e2 e3 e4 HSC
              go_wp2_with fail
              go_roundw
              case rel => exact ⟨l + 1, acc ++ sl ++ [10], by go_num, by rw [← cat_bytes, ← cat_bytes], by omega, by simp only [List.length_append, List.length_cons, List.length_nil]; omega, HW, hB, HSC2.out, p5⟩
              case measure => simp [intOf]; omega
            · obtain rfl : l = s1 := by omega
              have hln : ¬ (l : Int) < (l : Int) := by omega
              have HA2 := HA.out
              rw [List.take_of_length_le (by omega)] at HA2
              have HX : Hid (tx = acc) := by show _ = _; rw [HT.out, HA2]
              clear HA HA2 HT
              go_wp2_with fail
              go_ret
              exact ⟨by rw [HX.out]; rfl, hB⟩
end Go.Proofs.Ytefipigdkdopcaa
