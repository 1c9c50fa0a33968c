/- Contract of reply.Bytes. No condition but the length's bound. -/
import Derived.Test.YtefipigdkdopcaaRep2
import Derived.Test.YtefipigdkdopcaaShelf
namespace Go.Proofs.Ytefipigdkdopcaa
open Go.RowKit

/-- Which digit from 0 to f a byte is; -1: none. -/
def hexI (b : UInt8) : Int := Lib.indexByte [48, 49, 50, 51, 52, 53, 54, 55, 56, 57, 97, 98, 99, 100, 101, 102] b
theorem indexByte_le (l : List UInt8) (b : UInt8) : -1 ≤ Lib.indexByte l b ∧ Lib.indexByte l b < l.length := by
  induction l with
  | nil => simp [Lib.indexByte]
  | cons c r ih =>
    unfold Lib.indexByte
    split
    · simp
    · split
      · simp only [List.length_cons]; omega
      · rename_i h; simp at h ⊢; omega
theorem hexI_le (b : UInt8) : -1 ≤ hexI b ∧ hexI b ≤ 15 := by
  have := indexByte_le [48, 49, 50, 51, 52, 53, 54, 55, 56, 57, 97, 98, 99, 100, 101, 102] b
  unfold hexI
  simp only [List.length_cons, List.length_nil] at this
  omega
/-- Digits read as bytes. -/
def unhexF : List UInt8 → Option (List UInt8)
  | [] => some []
  | [_] => none
  | a :: b :: r => if hexI a < 0 ∨ hexI b < 0 then none else (unhexF r).map (fun l => UInt8.ofNat (16 * hexI a + hexI b).toNat :: l)
theorem unhexF_odd : ∀ s : List UInt8, s.length % 2 = 1 → unhexF s = none
  | [], h => by simp at h
  | [_], _ => rfl
  | a :: b :: r, h => by
    unfold unhexF
    rw [unhexF_odd r (by simp only [List.length_cons] at h; omega)]
    split <;> rfl
def unPost (w : World) (r : Option (List UInt8)) (e : Ending) (w' : World) : Prop :=
  match r with
  | none => e = .returned (.tuple #[.slice none 0 0, .bool false]) ∧ Below w.heap.size w w'
  | some l => (∃ v, e = .returned (.tuple #[v, .bool true]) ∧ w'.ownsRow w.heap.size 5 1 v l.length (bs l)) ∧ Below w.heap.size w w'

set_option maxRecDepth 100000 in
set_option maxHeartbeats 2000000 in
theorem rbytes_any (s : List UInt8) (w : World) (hN : s.length ≤ 100000) : Calls Try.prog 30 #[.string ⟨s.toArray⟩] w fun e w' => unPost w (unhexF s) e w' := by
  have KI : ∀ (b : UInt8) W, Hid (Calls Try.prog 72 #[.string ⟨#[48, 49, 50, 51, 52, 53, 54, 55, 56, 57, 97, 98, 99, 100, 101, 102]⟩, .int .u8 (b.toNat : Int)] W fun e w' => e = .returned (.int .i64 (hexI b)) ∧ W = w') := fun b W => Lib.hid ((Try.strings_IndexByte ⟨#[48, 49, 50, 51, 52, 53, 54, 55, 56, 57, 97, 98, 99, 100, 101, 102]⟩ (b.toNat : Int) W).mono (fun e w' h => ⟨by
    rw [h.1]
    have : ((b.toNat : Int)).toNat.toUInt8 = b := by rw [Int.toNat_natCast]; simp
    rw [this]
    rfl, h.2.symm⟩))
  by_cases hodd : s.length % 2 = 1
  · have hm : ((s.length : Int)).tmod 2 = 1 := by
      show ((s.length % 2 : Nat) : Int) = 1
      rw [hodd]; rfl
    rw [unhexF_odd s hodd]
    clear hodd
    go_enter Try.func30, Try.ntmps30
    go_wp2_with fail
    go_ret2
    exact ⟨rfl, Below.refl _ _⟩
  · have hm : ((s.length : Int)).tmod 2 = 0 := by
      show ((s.length % 2 : Nat) : Int) = 0
      rw [show s.length % 2 = 0 by omega]; rfl
    have HI : Hid (∀ j, (∀ h : j < (⟨s.toArray⟩ : ByteArray).size, ((⟨s.toArray⟩ : ByteArray)[j]'h) = s.getD j 0) ∧ (∀ h : j < s.length, s[j]'h = s.getD j 0)) := fun j => ⟨fun h => index_list s j h, fun h => by rw [List.getD_eq_getElem?_getD, List.getElem?_eq_getElem h]; rfl⟩
    have HE := Lib.hid (show s.length % 2 = 0 by omega)
    clear hodd
    go_enter Try.func30, Try.ntmps30
    go_wp2_with fail
    go_loopw [4, 5, 6, 7] (fun v i _ _ wr => ∃ (j : Nat) (acc : List UInt8), i = .int .i64 j ∧ j ≤ s.length ∧ acc.length ≤ j ∧ Hid (j % 2 = 0 ∧ unhexF s = (unhexF (s.drop j)).map (fun l => acc ++ l)) ∧ wr.ownsRow w.heap.size 5 1 v acc.length (bs acc) ∧ Below w.heap.size w wr) (fun _ i _ _ _ => s.length - (intOf i).toNat)
    case atStart => exact ⟨0, [], rfl, by omega, by simp, ⟨rfl, by rw [List.drop_zero]; cases unhexF s <;> rfl⟩, World.ownsRow_nil _ _ _ _, Below.refl _ _⟩
    case round =>
      obtain ⟨j, acc, rfl, hj, hal, HG, hown, hB⟩ := hrel
      by_cases hlt : j < s.length
      · have hlt2 : j + 1 < s.length := by have := HE.out; have := HG.out.1; omega
        have hl1 : (j : Int) < (s.length : Int) := by omega
        have hl2 : (j : Int) + 1 < (s.length : Int) := by omega
        obtain ⟨i1, i2⟩ := HI.out j
        obtain ⟨i3, i4⟩ := HI.out (j + 1)
        have hdr : Hid (s.drop j = s.getD j 0 :: s.getD (j + 1) 0 :: s.drop (j + 2)) := by
          show _ = _
          rw [drop_getD s j hlt, drop_getD s (j + 1) hlt2]
        have K1 := KI (s.getD j 0)
        have K2 := KI (s.getD (j + 1) 0)
        have hw1 : IntKind.i64.wrap ((j : Int) + 1) = (j : Int) + 1 := by rw [IntKind.wrap_i64]; omega
        have hj0 : (0 : Int) ≤ (j : Int) + 1 := by omega
        generalize s.getD j 0 = a at *
        generalize s.getD (j + 1) 0 = b at *
        have ha := hexI_le a
        have hb := hexI_le b
        have HU : Hid (unhexF s = (if hexI a < 0 ∨ hexI b < 0 then none else (unhexF (s.drop (j + 2))).map (fun l => (acc ++ [UInt8.ofNat (16 * hexI a + hexI b).toNat]) ++ l))) := by
          show _ = _
          rw [HG.out.2, hdr.out, unhexF]
          split
          · rfl
          · cases unhexF (s.drop (j + 2)) <;> simp
        have HJ := Lib.hid HG.out.1
        clear HG hdr
        generalize hexI a = p at *
        generalize hexI b = q at *
        go_upto_region 7 with fail
        refine wp_region_held (S := fun W => Below (wr).heap.size (wr) W) (by kernel_rfl) ?_
        change wpAnyH _ _ _ _ _ _ _ _ (wr).drew
        have hS : (fun W => Below (wr).heap.size (wr) W) (wr).drew := (Below.refl _ _).drew
        refine wpAnyH_take (i := 0) (oi := { dst := some 18, op := Op.move (Operand.tmp 0), type := 9, pos := "reply.go:58", after := #[], guard := none }) (v := ?_) rfl (by kernel_rfl) (by kernel_rfl) (by kernel_rfl) (fun _ _ _ h => h) (Or.inl ⟨by rfl, ?_⟩) (by assumption) ?_
        rotate_left
        · (intro wS hS; go_simp <;> with_reducible rfl)
        try simp only [Act.put, List.setIfInBounds_toArray, List.set_cons_zero, List.set_cons_succ]
        refine wpAnyH_take (i := 1) (oi := { dst := some 19, op := Op.move (Operand.tmp 5), type := 3, pos := "reply.go:58", after := #[], guard := none }) (v := ?_) rfl (by kernel_rfl) (by kernel_rfl) (by kernel_rfl) (fun _ _ _ h => h) (Or.inl ⟨by rfl, ?_⟩) (by assumption) ?_
        rotate_left
        · (intro wS hS; go_simp <;> with_reducible rfl)
        try simp only [Act.put, List.setIfInBounds_toArray, List.set_cons_zero, List.set_cons_succ]
        refine wpAnyH_take (i := 2) (oi := { dst := some 20, op := Op.index 9 (Operand.tmp 18) (Operand.tmp 19), type := 5, pos := "reply.go:58", after := #[{ on := 0, ground := Ground.data }, { on := 1, ground := Ground.data }], guard := none }) (v := ?_) rfl (by kernel_rfl) (by kernel_rfl) (by kernel_rfl) (fun _ _ _ h => h) (Or.inl ⟨by rfl, ?_⟩) (by assumption) ?_
        rotate_left
        · (intro wS hS; go_simp <;> with_reducible rfl)
        try simp only [Act.put, List.setIfInBounds_toArray, List.set_cons_zero, List.set_cons_succ]
        refine wpAnyH_take (i := 4) (oi := { dst := some 22, op := Op.move (Operand.tmp 0), type := 9, pos := "reply.go:58", after := #[], guard := none }) (v := ?_) rfl (by kernel_rfl) (by kernel_rfl) (by kernel_rfl) (fun _ _ _ h => h) (Or.inl ⟨by rfl, ?_⟩) (by assumption) ?_
        rotate_left
        · (intro wS hS; go_simp <;> with_reducible rfl)
        try simp only [Act.put, List.setIfInBounds_toArray, List.set_cons_zero, List.set_cons_succ]
        refine wpAnyH_take (i := 5) (oi := { dst := some 23, op := Op.move (Operand.tmp 5), type := 3, pos := "reply.go:58", after := #[], guard := none }) (v := ?_) rfl (by kernel_rfl) (by kernel_rfl) (by kernel_rfl) (fun _ _ _ h => h) (Or.inl ⟨by rfl, ?_⟩) (by assumption) ?_
        rotate_left
        · (intro wS hS; go_simp <;> with_reducible rfl)
        try simp only [Act.put, List.setIfInBounds_toArray, List.set_cons_zero, List.set_cons_succ]
        refine wpAnyH_take (i := 6) (oi := { dst := some 24, op := Op.binOp BinOp.add 3 (Operand.tmp 23) (Operand.const (Value.int IntKind.i64 1)) 3, type := 3, pos := "reply.go:58", after := #[{ on := 5, ground := Ground.data }], guard := none }) (v := ?_) rfl (by kernel_rfl) (by kernel_rfl) (by kernel_rfl) (fun _ _ _ h => h) (Or.inl ⟨by rfl, ?_⟩) (by assumption) ?_
        rotate_left
        · (intro wS hS; go_simp <;> with_reducible rfl)
        try simp only [Act.put, List.setIfInBounds_toArray, List.set_cons_zero, List.set_cons_succ]
        refine wpAnyH_take (i := 7) (oi := { dst := some 25, op := Op.index 9 (Operand.tmp 22) (Operand.tmp 24), type := 5, pos := "reply.go:58", after := #[{ on := 4, ground := Ground.data }, { on := 6, ground := Ground.data }], guard := none }) (v := ?_) rfl (by kernel_rfl) (by kernel_rfl) (by kernel_rfl) (fun _ _ _ h => h) (Or.inl ⟨by rfl, ?_⟩) (by assumption) ?_
        rotate_left
        · (intro wS hS; go_simp <;> with_reducible rfl)
        try simp only [Act.put, List.setIfInBounds_toArray, List.set_cons_zero, List.set_cons_succ]
        refine wpAnyH_ready (rs := [3]) (by kernel_rfl) (by simp) ?_
        refine AllReadyH.cons (o := { dst := some 21, op := Op.call { callee := Callee.value (Operand.func 72), args := #[Operand.const (Value.string { data := #[48, 49, 50, 51, 52, 53, 54, 55, 56, 57, 97, 98, 99, 100, 101, 102] }), Operand.tmp 20], argTypes := #[9, 5] }, type := 3, pos := "reply.go:58", after := #[{ on := 2, ground := Ground.data }], guard := none }) rfl (fun K hK => ?_) AllReadyH.nil
        go_simp
        refine (K1 _).out.mono ?_
        rintro e w103 ⟨rfl, rfl⟩
        refine hK.out _ _ hS (fun _ => ?_)
        clear hK K
        try simp only [Act.put, List.setIfInBounds_toArray, List.set_cons_zero, List.set_cons_succ]
        refine wpAnyH_ready (rs := [8]) (by kernel_rfl) (by simp) ?_
        refine AllReadyH.cons (o := { dst := some 26, op := Op.call { callee := Callee.value (Operand.func 72), args := #[Operand.const (Value.string { data := #[48, 49, 50, 51, 52, 53, 54, 55, 56, 57, 97, 98, 99, 100, 101, 102] }), Operand.tmp 25], argTypes := #[9, 5] }, type := 3, pos := "reply.go:58", after := #[{ on := 7, ground := Ground.data }, { on := 3, ground := Ground.chain }], guard := none }) rfl (fun K hK => ?_) AllReadyH.nil
        go_simp
        refine (K2 _).out.mono ?_
        rintro e w108 ⟨rfl, rfl⟩
        refine hK.out _ _ hS (fun _ => ?_)
        clear hK K
        try simp only [Act.put, List.setIfInBounds_toArray, List.set_cons_zero, List.set_cons_succ]
        refine wpAnyH_take (i := 9) (oi := { dst := some 6, op := Op.assign (Operand.tmp 21), type := 3, pos := "reply.go:58", after := #[{ on := 3, ground := Ground.data }, { on := 8, ground := Ground.chain }, { on := 0, ground := Ground.phase }, { on := 1, ground := Ground.phase }, { on := 2, ground := Ground.phase }, { on := 3, ground := Ground.phase }, { on := 4, ground := Ground.textOnly Departure.lateStores }, { on := 5, ground := Ground.textOnly Departure.lateStores }, { on := 6, ground := Ground.textOnly Departure.lateStores }, { on := 7, ground := Ground.textOnly Departure.lateStores }, { on := 8, ground := Ground.textOnly Departure.lateStoresUnsure }], guard := none }) (v := ?_) rfl (by kernel_rfl) (by kernel_rfl) (by kernel_rfl) (fun _ _ _ h => h) (Or.inl ⟨by rfl, ?_⟩) (by assumption) ?_
        rotate_left
        · (intro wS hS; go_simp <;> with_reducible rfl)
        try simp only [Act.put, List.setIfInBounds_toArray, List.set_cons_zero, List.set_cons_succ]
        refine wpAnyH_take (i := 10) (oi := { dst := some 7, op := Op.assign (Operand.tmp 26), type := 3, pos := "reply.go:58", after := #[{ on := 8, ground := Ground.data }, { on := 9, ground := Ground.chain }, { on := 0, ground := Ground.phase }, { on := 1, ground := Ground.phase }, { on := 2, ground := Ground.phase }, { on := 3, ground := Ground.phase }, { on := 4, ground := Ground.phase }, { on := 5, ground := Ground.phase }, { on := 6, ground := Ground.phase }, { on := 7, ground := Ground.phase }, { on := 8, ground := Ground.phase }, { on := 9, ground := Ground.phase }], guard := none }) (v := ?_) rfl (by kernel_rfl) (by kernel_rfl) (by kernel_rfl) (fun _ _ _ h => h) (Or.inl ⟨by rfl, ?_⟩) (by assumption) ?_
        rotate_left
        · (intro wS hS; go_simp <;> with_reducible rfl)
        try simp only [Act.put, List.setIfInBounds_toArray, List.set_cons_zero, List.set_cons_succ]
        refine wpAnyH_done (by kernel_rfl) ?_ _
        have hB2 := hB.trans (below_of hS hB.size)
        have hown2 := own_below hown hS
        clear hS hown hB K1 K2 i1 i2 i3 i4
        by_cases hbad : p < 0 ∨ q < 0
        · rw [if_pos hbad] at HU
          have hbd : p < 0 ∨ (¬ p < 0 ∧ q < 0) := by omega
          clear hbad
          rcases hbd with g | ⟨g, g2⟩
          all_goals
            go_wp2_with fail
            go_ret2
            exact (by rw [HU.out]; exact ⟨rfl, hB2⟩)
        · rw [if_neg hbad] at HU
          obtain ⟨P, rfl⟩ : ∃ P : Nat, p = P := ⟨p.toNat, by omega⟩
          obtain ⟨Q, rfl⟩ : ∃ Q : Nat, q = Q := ⟨q.toNat, by omega⟩
          have g1 : ¬ ((P : Int) < 0) := by omega
          have g2 : ¬ ((Q : Int) < 0) := by omega
          have hy : (UInt8.ofNat (16 * (P : Int) + (Q : Int)).toNat).toNat = 16 * P + Q := by
            rw [UInt8.toNat_ofNat', show (16 * (P : Int) + (Q : Int)).toNat = 16 * P + Q by omega]
            exact Nat.mod_eq_of_lt (by omega)
          have hwr : IntKind.u8.wrap (16 * (P : Int) + (Q : Int)) = ((UInt8.ofNat (16 * (P : Int) + (Q : Int)).toNat).toNat : Int) := by rw [hy, IntKind.wrap_u8]; omega
          have hw2 : IntKind.i64.wrap (16 * (P : Int)) = 16 * (P : Int) := by rw [IntKind.wrap_i64]; omega
          have hw3 : IntKind.i64.wrap (16 * (P : Int) + (Q : Int)) = 16 * (P : Int) + (Q : Int) := by rw [IntKind.wrap_i64]; omega
          generalize UInt8.ofNat (16 * (P : Int) + (Q : Int)).toNat = y at *
          clear hbad hy
          have hsz := hB2.size
          go_wp2_with (first
            | (at_builtin; refine wpl_append1 rfl (.tmp 33) (.tmp 39) 53 rfl w.heap.size 5 (.int .u8 0) 1 1 Try.underlying53 info_u8r rfl (by decide) _ acc.length _ rfl hown2 #[.int .u8 (y.toNat : Int)] (0, 0) 1 rfl rfl (by simp [Value.oneCell']) (by unfold maxLen; omega) (by omega) hsz ?_; intro v5 w5 hown5 hg5; have hB5 := below_own hB2 hown2 hg5; clear hg5))
          go_roundw
          case rel => exact ⟨j + 2, acc ++ [y], by go_num, by omega, by rw [List.length_append, List.length_singleton]; omega, ⟨by have := HJ.out; omega, HU.out⟩, by rw [bs_append, List.length_append]; exact hown5, hB5⟩
          case measure => simp [intOf]; omega
      · have hl1 : ¬ (j : Int) < (s.length : Int) := by omega
        have HU : Hid (unhexF s = some acc) := by
          show _ = _
          rw [HG.out.2, List.drop_eq_nil_of_le (by omega)]
          simp [unhexF]
        clear HG
        obtain ⟨A2, c2, rfl, -, -⟩ := Rd.of_own hown
        go_wp2_with fail
        go_ret2
        exact (by rw [HU.out]; exact ⟨⟨_, rfl, hown⟩, hB⟩)
end Go.Proofs.Ytefipigdkdopcaa
