/- Contract of the reference's Put of a record. No condition but that it may be. -/
import Derived.Test.YthkabhejfkekjaaMeta3
import Derived.Test.YthkabhejfkekjaaBeRef
import Derived.Deep.DeepCutAuto
namespace Go.Proofs.Ythkabhejfkekjaa
open Go.RowKit

theorem rd_two {w : World} {e : TypeId} {x y : Int} {b c : UInt8} (h : x = (b.toNat : Int)) (h2 : y = (c.toNat : Int)) : RdB (w.alloc (.cells #[.int .u8 x, .int .u8 y] e)) (some ⟨w.heap.size, 0, none⟩) 2 2 [b, c] := by
  subst h h2; exact cells_rd' rfl (by decide)
theorem putB_one (m : Nat) (h : m < 256) : putB 1 m = [UInt8.ofNat m] := by simp [putB]
set_option maxRecDepth 100000 in
set_option maxHeartbeats 4000000 in
theorem refput26_any (id fi pr le en : Nat) (pl : Bool) (lp : Nat) (ps : List Nat) (A : Option Addr) (n c : Nat) (w : World) (hx : RdI w A n c (ints ps)) (hm : MayM id fi pr le en lp ps) :
    Calls Try.prog 68 #[recV id fi pr le en pl lp A n c] w fun e w' => e = .returned (.string ⟨(recB id fi pr le en (plN pl) ps).toArray⟩) ∧ Below w.heap.size w w' := by
  obtain ⟨hB, c0, c1, c2, c3, c4, c5, c6, c7⟩ := rec_cells w id fi pr le en pl lp A n c 91
  have hxl := hx.ilen
  rw [ints_length] at hxl
  have hn14 := hm.hn
  have h1 := hm.hid
  have h2 := hm.hfi
  have h3 := hm.hpr
  have h4 := hm.hle
  have h5 := hm.hen
  have hcm := hx.cm
  have hnc := hx.nc
  unfold maxLen at hcm
  have HR : Hid (recB id fi pr le en (plN pl) ps = recH id fi pr le en (plN pl) n ++ pgB ps n) := by show _ = _; unfold recB; rw [hxl]
  obtain ⟨pn, hpn⟩ : ∃ pn : Nat, pn = plN pl := ⟨_, rfl⟩
  have hpc : (pl = true ∧ pn = 1) ∨ (pl = false ∧ pn = 0) := by cases pl <;> simp [plN] at hpn <;> simp [hpn]
  have HH : Hid (recH id fi pr le en (plN pl) n = putB 4 id ++ putB 4 fi ++ [UInt8.ofNat pr] ++ putB 2 le ++ putB 8 en ++ [UInt8.ofNat pn, UInt8.ofNat n]) := by
    show _ = _
    unfold recH
    rw [← hpn, putB_one pr (by omega), putB_one pn (by rcases hpc with h | h <;> omega), putB_one n (by omega)]
    simp
  have B1 := fun W => Lib.hid (refbytes_any 4 id W (by omega))
  have B2 := fun W => Lib.hid (refbytes_any 4 fi W (by omega))
  have B3 := fun W => Lib.hid (refbytes_any 2 le W (by omega))
  have B4 := fun W => Lib.hid (refbytes_any 8 en W h5)
  rw [show wid 4 = 4 from rfl] at B1 B2
  rw [show wid 2 = 2 from rfl] at B3
  rw [show wid 8 = 8 from rfl] at B4
  have l1 := putB_length 4 id
  have l2 := putB_length 4 fi
  have l3 := putB_length 2 le
  have l4 := putB_length 8 en
  have hhl := recH_length id fi pr le en (plN pl) n
  have e1 : IntKind.u8.wrap (pr : Int) = pr := by simp [IntKind.wrap, IntKind.signed, IntKind.bits]; omega
  have e2 : IntKind.u64.wrap (le : Int) = le := by rw [wrap_u64]; omega
  have e3 : IntKind.u8.wrap (n : Int) = n := by simp [IntKind.wrap, IntKind.signed, IntKind.bits]; omega
  have v1 : (pr : Int) = ((UInt8.ofNat pr).toNat : Int) := by rw [UInt8.toNat_ofNat']; omega
  have v3 : (n : Int) = ((UInt8.ofNat n).toNat : Int) := by rw [UInt8.toNat_ofNat']; omega
  have hpg : ∀ i, i < n → ps.getD i 0 ≤ 65535 := fun i hi => by
    rw [List.getD_eq_getElem?_getD, List.getElem?_eq_getElem (by omega)]
    exact (hm.hps _ (List.getElem_mem (by omega))).2
  clear hm h1 h2 h3 h4 h5 hpn
  generalize recH id fi pr le en (plN pl) n = rh at *
  generalize recB id fi pr le en (plN pl) ps = rb at *
  generalize putB 4 id = b1 at *
  generalize putB 4 fi = b2 at *
  generalize putB 2 le = b3 at *
  generalize putB 8 en = b4 at *
  replace hx := hx.below hB
  have v2 : (pn : Int) = ((UInt8.ofNat pn).toNat : Int) := by rw [UInt8.toNat_ofNat']; rcases hpc with h | h <;> omega
  have hcat : (⟨b1.toArray⟩ : ByteArray) ++ ⟨b2.toArray⟩ ++ ⟨[UInt8.ofNat pr].toArray⟩ ++ ⟨b3.toArray⟩ ++ ⟨b4.toArray⟩ ++ ⟨[UInt8.ofNat pn, UInt8.ofNat n].toArray⟩ = ⟨rh.toArray⟩ := by
    have hc : ∀ xs ys : List UInt8, (⟨xs.toArray⟩ : ByteArray) ++ ⟨ys.toArray⟩ = ⟨(xs ++ ys).toArray⟩ := cat_bytes
    rw [HH.out]
    simp only [hc]
  clear HH
  generalize UInt8.ofNat pr = ub1 at *
  generalize UInt8.ofNat n = ub3 at *
  generalize UInt8.ofNat pn = ub2 at *
  have H1 := Lib.hid v1
  have H2 := Lib.hid v2
  have H3 := Lib.hid v3
  clear v1 v2 v3
  go_enter Try.func68, Try.ntmps68
  go_upto_if 7 with fail
  generalize w.alloc (.cells (recCs id fi pr le en pl lp A n c) 91) = w0 at *
  go_cut [3] (fun s3 wx => s3 = .int .u8 (pn : Int) ∧ wx = w0)
  case first =>
    rcases hpc with ⟨rfl, rfl⟩ | ⟨rfl, rfl⟩
    all_goals
      go_wp2_with fail
      go_meet
      exact ⟨rfl, rfl⟩
  obtain ⟨rfl, rfl⟩ := hcut
  generalize wc = w0 at *
  clear hpc
  go_upto_region 4 with fail
  go_cut [4] (fun s4 wx => s4 = .string ⟨rh.toArray⟩ ∧ Below w0.heap.size w0 wx)
  case first =>
    clear hB hx HR hpg hhl c5 c6
    refine wp_region_held (S := fun W => Below w0.heap.size w0 W) (by kernel_rfl) ?_
    change wpAnyH _ _ _ _ _ _ _ _ (w0).drew
    have hS : (fun W => Below w0.heap.size w0 W) (w0).drew := (Below.refl _ _).drew
    have hT : Below w0.heap.size w0 (w0).drew := (Below.refl _ _).drew
    generalize (w0).drew = x0 at hS hT ⊢
    refine wpAnyH_stronger (S' := fun W => Below x0.heap.size x0 W) (fun W h => below_then hS h (Below.size hS)) _ _ _ _ ?_
    replace c0 := cell_below hT c0
    replace c1 := cell_below hT c1
    replace c2 := cell_below hT c2
    replace c3 := cell_below hT c3
    replace c4 := cell_below hT c4
    replace c7 := cell_below hT c7
    clear hS
    have hS : (fun W => Below x0.heap.size x0 W) x0 := Below.refl _ _
    refine wpAnyH_take (i := 0) (oi := { dst := some 8, op := Op.fieldAddr 91 (Operand.tmp 1) 0, type := 0, pos := "ref.go:28", after := #[], guard := none }) (v := ?_) rfl (by kernel_rfl) (by kernel_rfl) (by kernel_rfl) (fun _ _ _ h => h) (Or.inl ⟨by rfl, ?_⟩) (by assumption) ?_
    rotate_left
    · (intro wS hS; go_simp <;> with_reducible rfl)
    try simp only [Act.put, List.setIfInBounds_toArray, List.set_cons_zero, List.set_cons_succ]
    refine wpAnyH_take (i := 1) (oi := { dst := some 9, op := Op.load 24 (Operand.tmp 8), type := 24, pos := "ref.go:28", after := #[{ on := 0, ground := Ground.data }], guard := none }) (v := ?_) rfl (by kernel_rfl) (by kernel_rfl) (by kernel_rfl) (fun _ _ _ h => h) (Or.inl ⟨by rfl, ?_⟩) (by assumption) ?_
    rotate_left
    · (intro wS hS; have c0 := cell_below hS c0; have c1 := cell_below hS c1; have c2 := cell_below hS c2; have c3 := cell_below hS c3; have c4 := cell_below hS c4; have c7 := cell_below hS c7; go_simp <;> with_reducible rfl)
    try simp only [Act.put, List.setIfInBounds_toArray, List.set_cons_zero, List.set_cons_succ]
    refine wpAnyH_take (i := 4) (oi := { dst := some 12, op := Op.fieldAddr 91 (Operand.tmp 1) 1, type := 0, pos := "ref.go:28", after := #[], guard := none }) (v := ?_) rfl (by kernel_rfl) (by kernel_rfl) (by kernel_rfl) (fun _ _ _ h => h) (Or.inl ⟨by rfl, ?_⟩) (by assumption) ?_
    rotate_left
    · (intro wS hS; go_simp <;> with_reducible rfl)
    try simp only [Act.put, List.setIfInBounds_toArray, List.set_cons_zero, List.set_cons_succ]
    refine wpAnyH_take (i := 5) (oi := { dst := some 13, op := Op.load 24 (Operand.tmp 12), type := 24, pos := "ref.go:28", after := #[{ on := 4, ground := Ground.data }], guard := none }) (v := ?_) rfl (by kernel_rfl) (by kernel_rfl) (by kernel_rfl) (fun _ _ _ h => h) (Or.inl ⟨by rfl, ?_⟩) (by assumption) ?_
    rotate_left
    · (intro wS hS; have c0 := cell_below hS c0; have c1 := cell_below hS c1; have c2 := cell_below hS c2; have c3 := cell_below hS c3; have c4 := cell_below hS c4; have c7 := cell_below hS c7; go_simp <;> with_reducible rfl)
    try simp only [Act.put, List.setIfInBounds_toArray, List.set_cons_zero, List.set_cons_succ]
    refine wpAnyH_take (i := 9) (oi := { dst := some 17, op := Op.fieldAddr 91 (Operand.tmp 1) 2, type := 0, pos := "ref.go:28", after := #[], guard := none }) (v := ?_) rfl (by kernel_rfl) (by kernel_rfl) (by kernel_rfl) (fun _ _ _ h => h) (Or.inl ⟨by rfl, ?_⟩) (by assumption) ?_
    rotate_left
    · (intro wS hS; go_simp <;> with_reducible rfl)
    try simp only [Act.put, List.setIfInBounds_toArray, List.set_cons_zero, List.set_cons_succ]
    refine wpAnyH_take (i := 10) (oi := { dst := some 18, op := Op.load 3 (Operand.tmp 17), type := 3, pos := "ref.go:28", after := #[{ on := 9, ground := Ground.data }], guard := none }) (v := ?_) rfl (by kernel_rfl) (by kernel_rfl) (by kernel_rfl) (fun _ _ _ h => h) (Or.inl ⟨by rfl, ?_⟩) (by assumption) ?_
    rotate_left
    · (intro wS hS; have c0 := cell_below hS c0; have c1 := cell_below hS c1; have c2 := cell_below hS c2; have c3 := cell_below hS c3; have c4 := cell_below hS c4; have c7 := cell_below hS c7; go_simp <;> with_reducible rfl)
    try simp only [Act.put, List.setIfInBounds_toArray, List.set_cons_zero, List.set_cons_succ]
    refine wpAnyH_take (i := 11) (oi := { dst := some 19, op := Op.convert 3 5 (Operand.tmp 18), type := 5, pos := "ref.go:28", after := #[{ on := 10, ground := Ground.data }], guard := none }) (v := ?_) rfl (by kernel_rfl) (by kernel_rfl) (by kernel_rfl) (fun _ _ _ h => h) (Or.inl ⟨by rfl, ?_⟩) (by assumption) ?_
    rotate_left
    · (intro wS hS; go_simp <;> with_reducible rfl)
    try simp only [Act.put, List.setIfInBounds_toArray, List.set_cons_zero, List.set_cons_succ]
    refine wpAnyH_take (i := 15) (oi := { dst := some 23, op := Op.fieldAddr 91 (Operand.tmp 1) 3, type := 0, pos := "ref.go:28", after := #[], guard := none }) (v := ?_) rfl (by kernel_rfl) (by kernel_rfl) (by kernel_rfl) (fun _ _ _ h => h) (Or.inl ⟨by rfl, ?_⟩) (by assumption) ?_
    rotate_left
    · (intro wS hS; go_simp <;> with_reducible rfl)
    try simp only [Act.put, List.setIfInBounds_toArray, List.set_cons_zero, List.set_cons_succ]
    refine wpAnyH_take (i := 16) (oi := { dst := some 24, op := Op.load 3 (Operand.tmp 23), type := 3, pos := "ref.go:28", after := #[{ on := 15, ground := Ground.data }], guard := none }) (v := ?_) rfl (by kernel_rfl) (by kernel_rfl) (by kernel_rfl) (fun _ _ _ h => h) (Or.inl ⟨by rfl, ?_⟩) (by assumption) ?_
    rotate_left
    · (intro wS hS; have c0 := cell_below hS c0; have c1 := cell_below hS c1; have c2 := cell_below hS c2; have c3 := cell_below hS c3; have c4 := cell_below hS c4; have c7 := cell_below hS c7; go_simp <;> with_reducible rfl)
    try simp only [Act.put, List.setIfInBounds_toArray, List.set_cons_zero, List.set_cons_succ]
    refine wpAnyH_take (i := 17) (oi := { dst := some 25, op := Op.convert 3 24 (Operand.tmp 24), type := 24, pos := "ref.go:28", after := #[{ on := 16, ground := Ground.data }], guard := none }) (v := ?_) rfl (by kernel_rfl) (by kernel_rfl) (by kernel_rfl) (fun _ _ _ h => h) (Or.inl ⟨by rfl, ?_⟩) (by assumption) ?_
    rotate_left
    · (intro wS hS; go_simp <;> with_reducible rfl)
    try simp only [Act.put, List.setIfInBounds_toArray, List.set_cons_zero, List.set_cons_succ]
    refine wpAnyH_take (i := 21) (oi := { dst := some 29, op := Op.fieldAddr 91 (Operand.tmp 1) 4, type := 0, pos := "ref.go:28", after := #[], guard := none }) (v := ?_) rfl (by kernel_rfl) (by kernel_rfl) (by kernel_rfl) (fun _ _ _ h => h) (Or.inl ⟨by rfl, ?_⟩) (by assumption) ?_
    rotate_left
    · (intro wS hS; go_simp <;> with_reducible rfl)
    try simp only [Act.put, List.setIfInBounds_toArray, List.set_cons_zero, List.set_cons_succ]
    refine wpAnyH_take (i := 22) (oi := { dst := some 30, op := Op.load 24 (Operand.tmp 29), type := 24, pos := "ref.go:28", after := #[{ on := 21, ground := Ground.data }], guard := none }) (v := ?_) rfl (by kernel_rfl) (by kernel_rfl) (by kernel_rfl) (fun _ _ _ h => h) (Or.inl ⟨by rfl, ?_⟩) (by assumption) ?_
    rotate_left
    · (intro wS hS; have c0 := cell_below hS c0; have c1 := cell_below hS c1; have c2 := cell_below hS c2; have c3 := cell_below hS c3; have c4 := cell_below hS c4; have c7 := cell_below hS c7; go_simp <;> with_reducible rfl)
    try simp only [Act.put, List.setIfInBounds_toArray, List.set_cons_zero, List.set_cons_succ]
    refine wpAnyH_take (i := 26) (oi := { dst := some 34, op := Op.move (Operand.tmp 3), type := 5, pos := "ref.go:28", after := #[], guard := none }) (v := ?_) rfl (by kernel_rfl) (by kernel_rfl) (by kernel_rfl) (fun _ _ _ h => h) (Or.inl ⟨by rfl, ?_⟩) (by assumption) ?_
    rotate_left
    · (intro wS hS; go_simp <;> with_reducible rfl)
    try simp only [Act.put, List.setIfInBounds_toArray, List.set_cons_zero, List.set_cons_succ]
    refine wpAnyH_take (i := 27) (oi := { dst := some 35, op := Op.fieldAddr 91 (Operand.tmp 1) 7, type := 0, pos := "ref.go:28", after := #[], guard := none }) (v := ?_) rfl (by kernel_rfl) (by kernel_rfl) (by kernel_rfl) (fun _ _ _ h => h) (Or.inl ⟨by rfl, ?_⟩) (by assumption) ?_
    rotate_left
    · (intro wS hS; go_simp <;> with_reducible rfl)
    try simp only [Act.put, List.setIfInBounds_toArray, List.set_cons_zero, List.set_cons_succ]
    refine wpAnyH_take (i := 28) (oi := { dst := some 36, op := Op.load 89 (Operand.tmp 35), type := 89, pos := "ref.go:28", after := #[{ on := 27, ground := Ground.data }], guard := none }) (v := ?_) rfl (by kernel_rfl) (by kernel_rfl) (by kernel_rfl) (fun _ _ _ h => h) (Or.inl ⟨by rfl, ?_⟩) (by assumption) ?_
    rotate_left
    · (intro wS hS; have c0 := cell_below hS c0; have c1 := cell_below hS c1; have c2 := cell_below hS c2; have c3 := cell_below hS c3; have c4 := cell_below hS c4; have c7 := cell_below hS c7; go_simp <;> with_reducible rfl)
    try simp only [Act.put, List.setIfInBounds_toArray, List.set_cons_zero, List.set_cons_succ]
    refine wpAnyH_take (i := 29) (oi := { dst := some 37, op := Op.call { callee := Callee.builtin Builtin.len, args := #[Operand.tmp 36], argTypes := #[89] }, type := 3, pos := "ref.go:28", after := #[{ on := 28, ground := Ground.data }], guard := none }) (v := ?_) rfl (by kernel_rfl) (by kernel_rfl) (by kernel_rfl) (fun _ _ _ h => h) (Or.inl ⟨by rfl, ?_⟩) (by assumption) ?_
    rotate_left
    · (intro wS hS; go_simp <;> with_reducible rfl)
    try simp only [Act.put, List.setIfInBounds_toArray, List.set_cons_zero, List.set_cons_succ]
    refine wpAnyH_take (i := 30) (oi := { dst := some 38, op := Op.convert 3 5 (Operand.tmp 37), type := 5, pos := "ref.go:28", after := #[{ on := 29, ground := Ground.data }], guard := none }) (v := ?_) rfl (by kernel_rfl) (by kernel_rfl) (by kernel_rfl) (fun _ _ _ h => h) (Or.inl ⟨by rfl, ?_⟩) (by assumption) ?_
    rotate_left
    · (intro wS hS; go_simp <;> with_reducible rfl)
    try simp only [Act.put, List.setIfInBounds_toArray, List.set_cons_zero, List.set_cons_succ]
    clear c0 c1 c2 c3 c4 c7
    refine wpAnyH_ready (rs := [2, 12, 31]) (by kernel_rfl) (by simp) ?_
    refine AllReadyH.cons rfl (fun K hK => ?_) (AllReadyH.cons rfl (fun K hK => ?_) (AllReadyH.cons rfl (fun K hK => ?_) (AllReadyH.nil)))
    go_simp
    refine (B1 _).out.mono ?_
    rintro e x1 ⟨v, rfl, how, hb⟩
    obtain ⟨A5, cc5, rfl, hr5, -⟩ := Rd.of_own how
    have hS2 : (fun W => Below x0.heap.size x0 W) x1 := below_then hS hb (Below.size hS)
    refine hK.out _ _ hS2 (fun _ => ?_)
    clear hK K
    try simp only [Act.put, List.setIfInBounds_toArray, List.set_cons_zero, List.set_cons_succ]
    refine wpAnyH_stronger (S' := fun W => Below x1.heap.size x1 W) (fun W h => below_then hS2 h (Below.size hS2)) _ _ _ _ ?_
    replace hT := below_trans hT hb
    clear hS hS2 hb how
    have hS : (fun W => Below x1.heap.size x1 W) x1 := Below.refl _ _
    refine wpAnyH_take (i := 3) (oi := { dst := some 11, op := Op.convert 22 9 (Operand.tmp 10), type := 9, pos := "ref.go:28", after := #[{ on := 2, ground := Ground.data }], guard := none }) (v := ?_) rfl (by kernel_rfl) (by kernel_rfl) (by kernel_rfl) (fun _ _ _ h => h) (Or.inl ⟨by rfl, ?_⟩) (by assumption) ?_
    rotate_left
    · (intro wS hS; have hk := run_string_of (P := Try.prog) 22 9 5 Try.underlying22 Try.underlying5 Try.underlying9 (hr5.below hS); go_simp <;> with_reducible rfl)
    try simp only [Act.put, List.setIfInBounds_toArray, List.set_cons_zero, List.set_cons_succ]
    clear hr5
    refine wpAnyH_ready (rs := [6, 12, 31]) (by kernel_rfl) (by simp) ?_
    refine AllReadyH.cons rfl (fun K hK => ?_) (AllReadyH.cons rfl (fun K hK => ?_) (AllReadyH.cons rfl (fun K hK => ?_) (AllReadyH.nil)))
    go_simp
    refine (B2 _).out.mono ?_
    rintro e x2 ⟨v, rfl, how, hb⟩
    obtain ⟨A5, cc5, rfl, hr5, -⟩ := Rd.of_own how
    have hS2 : (fun W => Below x1.heap.size x1 W) x2 := below_then hS hb (Below.size hS)
    refine hK.out _ _ hS2 (fun _ => ?_)
    clear hK K
    try simp only [Act.put, List.setIfInBounds_toArray, List.set_cons_zero, List.set_cons_succ]
    refine wpAnyH_stronger (S' := fun W => Below x2.heap.size x2 W) (fun W h => below_then hS2 h (Below.size hS2)) _ _ _ _ ?_
    replace hT := below_trans hT hb
    clear hS hS2 hb how
    have hS : (fun W => Below x2.heap.size x2 W) x2 := Below.refl _ _
    refine wpAnyH_take (i := 7) (oi := { dst := some 15, op := Op.convert 22 9 (Operand.tmp 14), type := 9, pos := "ref.go:28", after := #[{ on := 6, ground := Ground.data }], guard := none }) (v := ?_) rfl (by kernel_rfl) (by kernel_rfl) (by kernel_rfl) (fun _ _ _ h => h) (Or.inl ⟨by rfl, ?_⟩) (by assumption) ?_
    rotate_left
    · (intro wS hS; have hk := run_string_of (P := Try.prog) 22 9 5 Try.underlying22 Try.underlying5 Try.underlying9 (hr5.below hS); go_simp <;> with_reducible rfl)
    try simp only [Act.put, List.setIfInBounds_toArray, List.set_cons_zero, List.set_cons_succ]
    clear hr5
    refine wpAnyH_take (i := 8) (oi := { dst := some 16, op := Op.binOp BinOp.add 9 (Operand.tmp 11) (Operand.tmp 15) 9, type := 9, pos := "ref.go:28", after := #[{ on := 3, ground := Ground.data }, { on := 7, ground := Ground.data }], guard := none }) (v := ?_) rfl (by kernel_rfl) (by kernel_rfl) (by kernel_rfl) (fun _ _ _ h => h) (Or.inl ⟨by rfl, ?_⟩) (by assumption) ?_
    rotate_left
    · (intro wS hS; go_simp <;> with_reducible rfl)
    try simp only [Act.put, List.setIfInBounds_toArray, List.set_cons_zero, List.set_cons_succ]
    refine wpAnyH_ready (rs := [12, 18, 31]) (by kernel_rfl) (by simp) ?_
    refine AllReadyH.cons rfl (fun K hK => ?_) (AllReadyH.cons rfl (fun K hK => ?_) (AllReadyH.cons rfl (fun K hK => ?_) (AllReadyH.nil)))
    go_simp
    have hb := (one_cells x2 #[.int .u8 (pr : Int)] 5).1
    have hr5 := rd_one H1.out (w := x2) (e := 5)
    have hS2 : (fun W => Below x2.heap.size x2 W) (x2.alloc (.cells #[.int .u8 (pr : Int)] 5)) := Below.alloc hS (Below.size hS) _
    refine hK.out _ _ hS2 (fun _ => ?_)
    clear hK K
    try simp only [Act.put, List.setIfInBounds_toArray, List.set_cons_zero, List.set_cons_succ]
    refine wpAnyH_stronger (S' := fun W => Below (x2.alloc (.cells #[.int .u8 (pr : Int)] 5)).heap.size (x2.alloc (.cells #[.int .u8 (pr : Int)] 5)) W) (fun W h => below_then hS2 h (Below.size hS2)) _ _ _ _ ?_
    replace hT := below_trans hT hb
    clear hS hS2 hb
    generalize x2.alloc (.cells #[.int .u8 (pr : Int)] 5) = x3 at *
    have hS : (fun W => Below x3.heap.size x3 W) x3 := Below.refl _ _
    refine wpAnyH_take (i := 13) (oi := { dst := some 21, op := Op.convert 22 9 (Operand.tmp 20), type := 9, pos := "ref.go:28", after := #[{ on := 12, ground := Ground.data }], guard := none }) (v := ?_) rfl (by kernel_rfl) (by kernel_rfl) (by kernel_rfl) (fun _ _ _ h => h) (Or.inl ⟨by rfl, ?_⟩) (by assumption) ?_
    rotate_left
    · (intro wS hS; have hk := run_string_of (P := Try.prog) 22 9 5 Try.underlying22 Try.underlying5 Try.underlying9 (hr5.below hS); go_simp <;> with_reducible rfl)
    try simp only [Act.put, List.setIfInBounds_toArray, List.set_cons_zero, List.set_cons_succ]
    clear hr5
    refine wpAnyH_take (i := 14) (oi := { dst := some 22, op := Op.binOp BinOp.add 9 (Operand.tmp 16) (Operand.tmp 21) 9, type := 9, pos := "ref.go:28", after := #[{ on := 8, ground := Ground.data }, { on := 13, ground := Ground.data }], guard := none }) (v := ?_) rfl (by kernel_rfl) (by kernel_rfl) (by kernel_rfl) (fun _ _ _ h => h) (Or.inl ⟨by rfl, ?_⟩) (by assumption) ?_
    rotate_left
    · (intro wS hS; go_simp <;> with_reducible rfl)
    try simp only [Act.put, List.setIfInBounds_toArray, List.set_cons_zero, List.set_cons_succ]
    refine wpAnyH_ready (rs := [18, 31]) (by kernel_rfl) (by simp) ?_
    refine AllReadyH.cons rfl (fun K hK => ?_) (AllReadyH.cons rfl (fun K hK => ?_) (AllReadyH.nil))
    go_simp
    refine (B3 _).out.mono ?_
    rintro e x4 ⟨v, rfl, how, hb⟩
    obtain ⟨A5, cc5, rfl, hr5, -⟩ := Rd.of_own how
    have hS2 : (fun W => Below x3.heap.size x3 W) x4 := below_then hS hb (Below.size hS)
    refine hK.out _ _ hS2 (fun _ => ?_)
    clear hK K
    try simp only [Act.put, List.setIfInBounds_toArray, List.set_cons_zero, List.set_cons_succ]
    refine wpAnyH_stronger (S' := fun W => Below x4.heap.size x4 W) (fun W h => below_then hS2 h (Below.size hS2)) _ _ _ _ ?_
    replace hT := below_trans hT hb
    clear hS hS2 hb how
    have hS : (fun W => Below x4.heap.size x4 W) x4 := Below.refl _ _
    refine wpAnyH_take (i := 19) (oi := { dst := some 27, op := Op.convert 22 9 (Operand.tmp 26), type := 9, pos := "ref.go:28", after := #[{ on := 18, ground := Ground.data }], guard := none }) (v := ?_) rfl (by kernel_rfl) (by kernel_rfl) (by kernel_rfl) (fun _ _ _ h => h) (Or.inl ⟨by rfl, ?_⟩) (by assumption) ?_
    rotate_left
    · (intro wS hS; have hk := run_string_of (P := Try.prog) 22 9 5 Try.underlying22 Try.underlying5 Try.underlying9 (hr5.below hS); go_simp <;> with_reducible rfl)
    try simp only [Act.put, List.setIfInBounds_toArray, List.set_cons_zero, List.set_cons_succ]
    clear hr5
    refine wpAnyH_take (i := 20) (oi := { dst := some 28, op := Op.binOp BinOp.add 9 (Operand.tmp 22) (Operand.tmp 27) 9, type := 9, pos := "ref.go:28", after := #[{ on := 14, ground := Ground.data }, { on := 19, ground := Ground.data }], guard := none }) (v := ?_) rfl (by kernel_rfl) (by kernel_rfl) (by kernel_rfl) (fun _ _ _ h => h) (Or.inl ⟨by rfl, ?_⟩) (by assumption) ?_
    rotate_left
    · (intro wS hS; go_simp <;> with_reducible rfl)
    try simp only [Act.put, List.setIfInBounds_toArray, List.set_cons_zero, List.set_cons_succ]
    refine wpAnyH_ready (rs := [23, 31]) (by kernel_rfl) (by simp) ?_
    refine AllReadyH.cons rfl (fun K hK => ?_) (AllReadyH.cons rfl (fun K hK => ?_) (AllReadyH.nil))
    go_simp
    refine (B4 _).out.mono ?_
    rintro e x5 ⟨v, rfl, how, hb⟩
    obtain ⟨A5, cc5, rfl, hr5, -⟩ := Rd.of_own how
    have hS2 : (fun W => Below x4.heap.size x4 W) x5 := below_then hS hb (Below.size hS)
    refine hK.out _ _ hS2 (fun _ => ?_)
    clear hK K
    try simp only [Act.put, List.setIfInBounds_toArray, List.set_cons_zero, List.set_cons_succ]
    refine wpAnyH_stronger (S' := fun W => Below x5.heap.size x5 W) (fun W h => below_then hS2 h (Below.size hS2)) _ _ _ _ ?_
    replace hT := below_trans hT hb
    clear hS hS2 hb how
    have hS : (fun W => Below x5.heap.size x5 W) x5 := Below.refl _ _
    refine wpAnyH_take (i := 24) (oi := { dst := some 32, op := Op.convert 22 9 (Operand.tmp 31), type := 9, pos := "ref.go:28", after := #[{ on := 23, ground := Ground.data }], guard := none }) (v := ?_) rfl (by kernel_rfl) (by kernel_rfl) (by kernel_rfl) (fun _ _ _ h => h) (Or.inl ⟨by rfl, ?_⟩) (by assumption) ?_
    rotate_left
    · (intro wS hS; have hk := run_string_of (P := Try.prog) 22 9 5 Try.underlying22 Try.underlying5 Try.underlying9 (hr5.below hS); go_simp <;> with_reducible rfl)
    try simp only [Act.put, List.setIfInBounds_toArray, List.set_cons_zero, List.set_cons_succ]
    clear hr5
    refine wpAnyH_take (i := 25) (oi := { dst := some 33, op := Op.binOp BinOp.add 9 (Operand.tmp 28) (Operand.tmp 32) 9, type := 9, pos := "ref.go:28", after := #[{ on := 20, ground := Ground.data }, { on := 24, ground := Ground.data }], guard := none }) (v := ?_) rfl (by kernel_rfl) (by kernel_rfl) (by kernel_rfl) (fun _ _ _ h => h) (Or.inl ⟨by rfl, ?_⟩) (by assumption) ?_
    rotate_left
    · (intro wS hS; go_simp <;> with_reducible rfl)
    try simp only [Act.put, List.setIfInBounds_toArray, List.set_cons_zero, List.set_cons_succ]
    refine wpAnyH_ready (rs := [31]) (by kernel_rfl) (by simp) ?_
    refine AllReadyH.cons rfl (fun K hK => ?_) (AllReadyH.nil)
    go_simp
    have hb := (one_cells x5 #[.int .u8 (pn : Int), .int .u8 (n : Int)] 5).1
    have hr5 := rd_two H2.out H3.out (w := x5) (e := 5)
    have hS2 : (fun W => Below x5.heap.size x5 W) (x5.alloc (.cells #[.int .u8 (pn : Int), .int .u8 (n : Int)] 5)) := Below.alloc hS (Below.size hS) _
    refine hK.out _ _ hS2 (fun _ => ?_)
    clear hK K
    try simp only [Act.put, List.setIfInBounds_toArray, List.set_cons_zero, List.set_cons_succ]
    refine wpAnyH_stronger (S' := fun W => Below (x5.alloc (.cells #[.int .u8 (pn : Int), .int .u8 (n : Int)] 5)).heap.size (x5.alloc (.cells #[.int .u8 (pn : Int), .int .u8 (n : Int)] 5)) W) (fun W h => below_then hS2 h (Below.size hS2)) _ _ _ _ ?_
    replace hT := below_trans hT hb
    clear hS hS2 hb
    generalize x5.alloc (.cells #[.int .u8 (pn : Int), .int .u8 (n : Int)] 5) = x6 at *
    have hS : (fun W => Below x6.heap.size x6 W) x6 := Below.refl _ _
    refine wpAnyH_take (i := 32) (oi := { dst := some 40, op := Op.convert 22 9 (Operand.tmp 39), type := 9, pos := "ref.go:28", after := #[{ on := 31, ground := Ground.data }], guard := none }) (v := ?_) rfl (by kernel_rfl) (by kernel_rfl) (by kernel_rfl) (fun _ _ _ h => h) (Or.inl ⟨by rfl, ?_⟩) (by assumption) ?_
    rotate_left
    · (intro wS hS; have hk := run_string_of (P := Try.prog) 22 9 5 Try.underlying22 Try.underlying5 Try.underlying9 (hr5.below hS); go_simp <;> with_reducible rfl)
    try simp only [Act.put, List.setIfInBounds_toArray, List.set_cons_zero, List.set_cons_succ]
    clear hr5
    rotate_left
    go_simp
    have hb := (one_cells x4 #[.int .u8 (pn : Int), .int .u8 (n : Int)] 5).1
    have hr5 := rd_two H2.out H3.out (w := x4) (e := 5)
    have hS2 : (fun W => Below x4.heap.size x4 W) (x4.alloc (.cells #[.int .u8 (pn : Int), .int .u8 (n : Int)] 5)) := Below.alloc hS (Below.size hS) _
    refine hK.out _ _ hS2 (fun _ => ?_)
    clear hK K
    try simp only [Act.put, List.setIfInBounds_toArray, List.set_cons_zero, List.set_cons_succ]
    refine wpAnyH_stronger (S' := fun W => Below (x4.alloc (.cells #[.int .u8 (pn : Int), .int .u8 (n : Int)] 5)).heap.size (x4.alloc (.cells #[.int .u8 (pn : Int), .int .u8 (n : Int)] 5)) W) (fun W h => below_then hS2 h (Below.size hS2)) _ _ _ _ ?_
    replace hT := below_trans hT hb
    clear hS hS2 hb
    generalize x4.alloc (.cells #[.int .u8 (pn : Int), .int .u8 (n : Int)] 5) = x5 at *
    have hS : (fun W => Below x5.heap.size x5 W) x5 := Below.refl _ _
    refine wpAnyH_take (i := 32) (oi := { dst := some 40, op := Op.convert 22 9 (Operand.tmp 39), type := 9, pos := "ref.go:28", after := #[{ on := 31, ground := Ground.data }], guard := none }) (v := ?_) rfl (by kernel_rfl) (by kernel_rfl) (by kernel_rfl) (fun _ _ _ h => h) (Or.inl ⟨by rfl, ?_⟩) (by assumption) ?_
    rotate_left
    · (intro wS hS; have hk := run_string_of (P := Try.prog) 22 9 5 Try.underlying22 Try.underlying5 Try.underlying9 (hr5.below hS); go_simp <;> with_reducible rfl)
    try simp only [Act.put, List.setIfInBounds_toArray, List.set_cons_zero, List.set_cons_succ]
    clear hr5
    refine wpAnyH_ready (rs := [23]) (by kernel_rfl) (by simp) ?_
    refine AllReadyH.cons rfl (fun K hK => ?_) (AllReadyH.nil)
    go_simp
    refine (B4 _).out.mono ?_
    rintro e x6 ⟨v, rfl, how, hb⟩
    obtain ⟨A5, cc5, rfl, hr5, -⟩ := Rd.of_own how
    have hS2 : (fun W => Below x5.heap.size x5 W) x6 := below_then hS hb (Below.size hS)
    refine hK.out _ _ hS2 (fun _ => ?_)
    clear hK K
    try simp only [Act.put, List.setIfInBounds_toArray, List.set_cons_zero, List.set_cons_succ]
    refine wpAnyH_stronger (S' := fun W => Below x6.heap.size x6 W) (fun W h => below_then hS2 h (Below.size hS2)) _ _ _ _ ?_
    replace hT := below_trans hT hb
    clear hS hS2 hb how
    have hS : (fun W => Below x6.heap.size x6 W) x6 := Below.refl _ _
    refine wpAnyH_take (i := 24) (oi := { dst := some 32, op := Op.convert 22 9 (Operand.tmp 31), type := 9, pos := "ref.go:28", after := #[{ on := 23, ground := Ground.data }], guard := none }) (v := ?_) rfl (by kernel_rfl) (by kernel_rfl) (by kernel_rfl) (fun _ _ _ h => h) (Or.inl ⟨by rfl, ?_⟩) (by assumption) ?_
    rotate_left
    · (intro wS hS; have hk := run_string_of (P := Try.prog) 22 9 5 Try.underlying22 Try.underlying5 Try.underlying9 (hr5.below hS); go_simp <;> with_reducible rfl)
    try simp only [Act.put, List.setIfInBounds_toArray, List.set_cons_zero, List.set_cons_succ]
    clear hr5
    refine wpAnyH_take (i := 25) (oi := { dst := some 33, op := Op.binOp BinOp.add 9 (Operand.tmp 28) (Operand.tmp 32) 9, type := 9, pos := "ref.go:28", after := #[{ on := 20, ground := Ground.data }, { on := 24, ground := Ground.data }], guard := none }) (v := ?_) rfl (by kernel_rfl) (by kernel_rfl) (by kernel_rfl) (fun _ _ _ h => h) (Or.inl ⟨by rfl, ?_⟩) (by assumption) ?_
    rotate_left
    · (intro wS hS; go_simp <;> with_reducible rfl)
    try simp only [Act.put, List.setIfInBounds_toArray, List.set_cons_zero, List.set_cons_succ]
    rotate_left
    go_simp
    have hb := (one_cells x3 #[.int .u8 (pn : Int), .int .u8 (n : Int)] 5).1
    have hr5 := rd_two H2.out H3.out (w := x3) (e := 5)
    have hS2 : (fun W => Below x3.heap.size x3 W) (x3.alloc (.cells #[.int .u8 (pn : Int), .int .u8 (n : Int)] 5)) := Below.alloc hS (Below.size hS) _
    refine hK.out _ _ hS2 (fun _ => ?_)
    clear hK K
    try simp only [Act.put, List.setIfInBounds_toArray, List.set_cons_zero, List.set_cons_succ]
    refine wpAnyH_stronger (S' := fun W => Below (x3.alloc (.cells #[.int .u8 (pn : Int), .int .u8 (n : Int)] 5)).heap.size (x3.alloc (.cells #[.int .u8 (pn : Int), .int .u8 (n : Int)] 5)) W) (fun W h => below_then hS2 h (Below.size hS2)) _ _ _ _ ?_
    replace hT := below_trans hT hb
    clear hS hS2 hb
    generalize x3.alloc (.cells #[.int .u8 (pn : Int), .int .u8 (n : Int)] 5) = x4 at *
    have hS : (fun W => Below x4.heap.size x4 W) x4 := Below.refl _ _
    refine wpAnyH_take (i := 32) (oi := { dst := some 40, op := Op.convert 22 9 (Operand.tmp 39), type := 9, pos := "ref.go:28", after := #[{ on := 31, ground := Ground.data }], guard := none }) (v := ?_) rfl (by kernel_rfl) (by kernel_rfl) (by kernel_rfl) (fun _ _ _ h => h) (Or.inl ⟨by rfl, ?_⟩) (by assumption) ?_
    rotate_left
    · (intro wS hS; have hk := run_string_of (P := Try.prog) 22 9 5 Try.underlying22 Try.underlying5 Try.underlying9 (hr5.below hS); go_simp <;> with_reducible rfl)
    try simp only [Act.put, List.setIfInBounds_toArray, List.set_cons_zero, List.set_cons_succ]
    clear hr5
    refine wpAnyH_ready (rs := [18]) (by kernel_rfl) (by simp) ?_
    refine AllReadyH.cons rfl (fun K hK => ?_) (AllReadyH.nil)
    go_simp
    refine (B3 _).out.mono ?_
    rintro e x5 ⟨v, rfl, how, hb⟩
    obtain ⟨A5, cc5, rfl, hr5, -⟩ := Rd.of_own how
    have hS2 : (fun W => Below x4.heap.size x4 W) x5 := below_then hS hb (Below.size hS)
    refine hK.out _ _ hS2 (fun _ => ?_)
    clear hK K
    try simp only [Act.put, List.setIfInBounds_toArray, List.set_cons_zero, List.set_cons_succ]
    refine wpAnyH_stronger (S' := fun W => Below x5.heap.size x5 W) (fun W h => below_then hS2 h (Below.size hS2)) _ _ _ _ ?_
    replace hT := below_trans hT hb
    clear hS hS2 hb how
    have hS : (fun W => Below x5.heap.size x5 W) x5 := Below.refl _ _
    refine wpAnyH_take (i := 19) (oi := { dst := some 27, op := Op.convert 22 9 (Operand.tmp 26), type := 9, pos := "ref.go:28", after := #[{ on := 18, ground := Ground.data }], guard := none }) (v := ?_) rfl (by kernel_rfl) (by kernel_rfl) (by kernel_rfl) (fun _ _ _ h => h) (Or.inl ⟨by rfl, ?_⟩) (by assumption) ?_
    rotate_left
    · (intro wS hS; have hk := run_string_of (P := Try.prog) 22 9 5 Try.underlying22 Try.underlying5 Try.underlying9 (hr5.below hS); go_simp <;> with_reducible rfl)
    try simp only [Act.put, List.setIfInBounds_toArray, List.set_cons_zero, List.set_cons_succ]
    clear hr5
    refine wpAnyH_take (i := 20) (oi := { dst := some 28, op := Op.binOp BinOp.add 9 (Operand.tmp 22) (Operand.tmp 27) 9, type := 9, pos := "ref.go:28", after := #[{ on := 14, ground := Ground.data }, { on := 19, ground := Ground.data }], guard := none }) (v := ?_) rfl (by kernel_rfl) (by kernel_rfl) (by kernel_rfl) (fun _ _ _ h => h) (Or.inl ⟨by rfl, ?_⟩) (by assumption) ?_
    rotate_left
    · (intro wS hS; go_simp <;> with_reducible rfl)
    try simp only [Act.put, List.setIfInBounds_toArray, List.set_cons_zero, List.set_cons_succ]
    refine wpAnyH_ready (rs := [23]) (by kernel_rfl) (by simp) ?_
    refine AllReadyH.cons rfl (fun K hK => ?_) (AllReadyH.nil)
    go_simp
    refine (B4 _).out.mono ?_
    rintro e x6 ⟨v, rfl, how, hb⟩
    obtain ⟨A5, cc5, rfl, hr5, -⟩ := Rd.of_own how
    have hS2 : (fun W => Below x5.heap.size x5 W) x6 := below_then hS hb (Below.size hS)
    refine hK.out _ _ hS2 (fun _ => ?_)
    clear hK K
    try simp only [Act.put, List.setIfInBounds_toArray, List.set_cons_zero, List.set_cons_succ]
    refine wpAnyH_stronger (S' := fun W => Below x6.heap.size x6 W) (fun W h => below_then hS2 h (Below.size hS2)) _ _ _ _ ?_
    replace hT := below_trans hT hb
    clear hS hS2 hb how
    have hS : (fun W => Below x6.heap.size x6 W) x6 := Below.refl _ _
    refine wpAnyH_take (i := 24) (oi := { dst := some 32, op := Op.convert 22 9 (Operand.tmp 31), type := 9, pos := "ref.go:28", after := #[{ on := 23, ground := Ground.data }], guard := none }) (v := ?_) rfl (by kernel_rfl) (by kernel_rfl) (by kernel_rfl) (fun _ _ _ h => h) (Or.inl ⟨by rfl, ?_⟩) (by assumption) ?_
    rotate_left
    · (intro wS hS; have hk := run_string_of (P := Try.prog) 22 9 5 Try.underlying22 Try.underlying5 Try.underlying9 (hr5.below hS); go_simp <;> with_reducible rfl)
    try simp only [Act.put, List.setIfInBounds_toArray, List.set_cons_zero, List.set_cons_succ]
    clear hr5
    refine wpAnyH_take (i := 25) (oi := { dst := some 33, op := Op.binOp BinOp.add 9 (Operand.tmp 28) (Operand.tmp 32) 9, type := 9, pos := "ref.go:28", after := #[{ on := 20, ground := Ground.data }, { on := 24, ground := Ground.data }], guard := none }) (v := ?_) rfl (by kernel_rfl) (by kernel_rfl) (by kernel_rfl) (fun _ _ _ h => h) (Or.inl ⟨by rfl, ?_⟩) (by assumption) ?_
    rotate_left
    · (intro wS hS; go_simp <;> with_reducible rfl)
    try simp only [Act.put, List.setIfInBounds_toArray, List.set_cons_zero, List.set_cons_succ]
    rotate_left
    go_simp
    refine (B3 _).out.mono ?_
    rintro e x3 ⟨v, rfl, how, hb⟩
    obtain ⟨A5, cc5, rfl, hr5, -⟩ := Rd.of_own how
    have hS2 : (fun W => Below x2.heap.size x2 W) x3 := below_then hS hb (Below.size hS)
    refine hK.out _ _ hS2 (fun _ => ?_)
    clear hK K
    try simp only [Act.put, List.setIfInBounds_toArray, List.set_cons_zero, List.set_cons_succ]
    refine wpAnyH_stronger (S' := fun W => Below x3.heap.size x3 W) (fun W h => below_then hS2 h (Below.size hS2)) _ _ _ _ ?_
    replace hT := below_trans hT hb
    clear hS hS2 hb how
    have hS : (fun W => Below x3.heap.size x3 W) x3 := Below.refl _ _
    refine wpAnyH_take (i := 19) (oi := { dst := some 27, op := Op.convert 22 9 (Operand.tmp 26), type := 9, pos := "ref.go:28", after := #[{ on := 18, ground := Ground.data }], guard := none }) (v := ?_) rfl (by kernel_rfl) (by kernel_rfl) (by kernel_rfl) (fun _ _ _ h => h) (Or.inl ⟨by rfl, ?_⟩) (by assumption) ?_
    rotate_left
    · (intro wS hS; have hk := run_string_of (P := Try.prog) 22 9 5 Try.underlying22 Try.underlying5 Try.underlying9 (hr5.below hS); go_simp <;> with_reducible rfl)
    try simp only [Act.put, List.setIfInBounds_toArray, List.set_cons_zero, List.set_cons_succ]
    clear hr5
    refine wpAnyH_ready (rs := [12, 23, 31]) (by kernel_rfl) (by simp) ?_
    refine AllReadyH.cons rfl (fun K hK => ?_) (AllReadyH.cons rfl (fun K hK => ?_) (AllReadyH.cons rfl (fun K hK => ?_) (AllReadyH.nil)))
    go_simp
    have hb := (one_cells x3 #[.int .u8 (pr : Int)] 5).1
    have hr5 := rd_one H1.out (w := x3) (e := 5)
    have hS2 : (fun W => Below x3.heap.size x3 W) (x3.alloc (.cells #[.int .u8 (pr : Int)] 5)) := Below.alloc hS (Below.size hS) _
    refine hK.out _ _ hS2 (fun _ => ?_)
    clear hK K
    try simp only [Act.put, List.setIfInBounds_toArray, List.set_cons_zero, List.set_cons_succ]
    refine wpAnyH_stronger (S' := fun W => Below (x3.alloc (.cells #[.int .u8 (pr : Int)] 5)).heap.size (x3.alloc (.cells #[.int .u8 (pr : Int)] 5)) W) (fun W h => below_then hS2 h (Below.size hS2)) _ _ _ _ ?_
    replace hT := below_trans hT hb
    clear hS hS2 hb
    generalize x3.alloc (.cells #[.int .u8 (pr : Int)] 5) = x4 at *
    have hS : (fun W => Below x4.heap.size x4 W) x4 := Below.refl _ _
    refine wpAnyH_take (i := 13) (oi := { dst := some 21, op := Op.convert 22 9 (Operand.tmp 20), type := 9, pos := "ref.go:28", after := #[{ on := 12, ground := Ground.data }], guard := none }) (v := ?_) rfl (by kernel_rfl) (by kernel_rfl) (by kernel_rfl) (fun _ _ _ h => h) (Or.inl ⟨by rfl, ?_⟩) (by assumption) ?_
    rotate_left
    · (intro wS hS; have hk := run_string_of (P := Try.prog) 22 9 5 Try.underlying22 Try.underlying5 Try.underlying9 (hr5.below hS); go_simp <;> with_reducible rfl)
    try simp only [Act.put, List.setIfInBounds_toArray, List.set_cons_zero, List.set_cons_succ]
    clear hr5
    refine wpAnyH_take (i := 14) (oi := { dst := some 22, op := Op.binOp BinOp.add 9 (Operand.tmp 16) (Operand.tmp 21) 9, type := 9, pos := "ref.go:28", after := #[{ on := 8, ground := Ground.data }, { on := 13, ground := Ground.data }], guard := none }) (v := ?_) rfl (by kernel_rfl) (by kernel_rfl) (by kernel_rfl) (fun _ _ _ h => h) (Or.inl ⟨by rfl, ?_⟩) (by assumption) ?_
    rotate_left
    · (intro wS hS; go_simp <;> with_reducible rfl)
    try simp only [Act.put, List.setIfInBounds_toArray, List.set_cons_zero, List.set_cons_succ]
    refine wpAnyH_take (i := 20) (oi := { dst := some 28, op := Op.binOp BinOp.add 9 (Operand.tmp 22) (Operand.tmp 27) 9, type := 9, pos := "ref.go:28", after := #[{ on := 14, ground := Ground.data }, { on := 19, ground := Ground.data }], guard := none }) (v := ?_) rfl (by kernel_rfl) (by kernel_rfl) (by kernel_rfl) (fun _ _ _ h => h) (Or.inl ⟨by rfl, ?_⟩) (by assumption) ?_
    rotate_left
    · (intro wS hS; go_simp <;> with_reducible rfl)
    try simp only [Act.put, List.setIfInBounds_toArray, List.set_cons_zero, List.set_cons_succ]
    refine wpAnyH_ready (rs := [23, 31]) (by kernel_rfl) (by simp) ?_
    refine AllReadyH.cons rfl (fun K hK => ?_) (AllReadyH.cons rfl (fun K hK => ?_) (AllReadyH.nil))
    go_simp
    refine (B4 _).out.mono ?_
    rintro e x5 ⟨v, rfl, how, hb⟩
    obtain ⟨A5, cc5, rfl, hr5, -⟩ := Rd.of_own how
    have hS2 : (fun W => Below x4.heap.size x4 W) x5 := below_then hS hb (Below.size hS)
    refine hK.out _ _ hS2 (fun _ => ?_)
    clear hK K
    try simp only [Act.put, List.setIfInBounds_toArray, List.set_cons_zero, List.set_cons_succ]
    refine wpAnyH_stronger (S' := fun W => Below x5.heap.size x5 W) (fun W h => below_then hS2 h (Below.size hS2)) _ _ _ _ ?_
    replace hT := below_trans hT hb
    clear hS hS2 hb how
    have hS : (fun W => Below x5.heap.size x5 W) x5 := Below.refl _ _
    refine wpAnyH_take (i := 24) (oi := { dst := some 32, op := Op.convert 22 9 (Operand.tmp 31), type := 9, pos := "ref.go:28", after := #[{ on := 23, ground := Ground.data }], guard := none }) (v := ?_) rfl (by kernel_rfl) (by kernel_rfl) (by kernel_rfl) (fun _ _ _ h => h) (Or.inl ⟨by rfl, ?_⟩) (by assumption) ?_
    rotate_left
    · (intro wS hS; have hk := run_string_of (P := Try.prog) 22 9 5 Try.underlying22 Try.underlying5 Try.underlying9 (hr5.below hS); go_simp <;> with_reducible rfl)
    try simp only [Act.put, List.setIfInBounds_toArray, List.set_cons_zero, List.set_cons_succ]
    clear hr5
    refine wpAnyH_take (i := 25) (oi := { dst := some 33, op := Op.binOp BinOp.add 9 (Operand.tmp 28) (Operand.tmp 32) 9, type := 9, pos := "ref.go:28", after := #[{ on := 20, ground := Ground.data }, { on := 24, ground := Ground.data }], guard := none }) (v := ?_) rfl (by kernel_rfl) (by kernel_rfl) (by kernel_rfl) (fun _ _ _ h => h) (Or.inl ⟨by rfl, ?_⟩) (by assumption) ?_
    rotate_left
    · (intro wS hS; go_simp <;> with_reducible rfl)
    try simp only [Act.put, List.setIfInBounds_toArray, List.set_cons_zero, List.set_cons_succ]
    refine wpAnyH_ready (rs := [31]) (by kernel_rfl) (by simp) ?_
    refine AllReadyH.cons rfl (fun K hK => ?_) (AllReadyH.nil)
    go_simp
    have hb := (one_cells x5 #[.int .u8 (pn : Int), .int .u8 (n : Int)] 5).1
    have hr5 := rd_two H2.out H3.out (w := x5) (e := 5)
    have hS2 : (fun W => Below x5.heap.size x5 W) (x5.alloc (.cells #[.int .u8 (pn : Int), .int .u8 (n : Int)] 5)) := Below.alloc hS (Below.size hS) _
    refine hK.out _ _ hS2 (fun _ => ?_)
    clear hK K
    try simp only [Act.put, List.setIfInBounds_toArray, List.set_cons_zero, List.set_cons_succ]
    refine wpAnyH_stronger (S' := fun W => Below (x5.alloc (.cells #[.int .u8 (pn : Int), .int .u8 (n : Int)] 5)).heap.size (x5.alloc (.cells #[.int .u8 (pn : Int), .int .u8 (n : Int)] 5)) W) (fun W h => below_then hS2 h (Below.size hS2)) _ _ _ _ ?_
    replace hT := below_trans hT hb
    clear hS hS2 hb
    generalize x5.alloc (.cells #[.int .u8 (pn : Int), .int .u8 (n : Int)] 5) = x6 at *
    have hS : (fun W => Below x6.heap.size x6 W) x6 := Below.refl _ _
    refine wpAnyH_take (i := 32) (oi := { dst := some 40, op := Op.convert 22 9 (Operand.tmp 39), type := 9, pos := "ref.go:28", after := #[{ on := 31, ground := Ground.data }], guard := none }) (v := ?_) rfl (by kernel_rfl) (by kernel_rfl) (by kernel_rfl) (fun _ _ _ h => h) (Or.inl ⟨by rfl, ?_⟩) (by assumption) ?_
    rotate_left
    · (intro wS hS; have hk := run_string_of (P := Try.prog) 22 9 5 Try.underlying22 Try.underlying5 Try.underlying9 (hr5.below hS); go_simp <;> with_reducible rfl)
    try simp only [Act.put, List.setIfInBounds_toArray, List.set_cons_zero, List.set_cons_succ]
    clear hr5
    rotate_left
    go_simp
    have hb := (one_cells x4 #[.int .u8 (pn : Int), .int .u8 (n : Int)] 5).1
    have hr5 := rd_two H2.out H3.out (w := x4) (e := 5)
    have hS2 : (fun W => Below x4.heap.size x4 W) (x4.alloc (.cells #[.int .u8 (pn : Int), .int .u8 (n : Int)] 5)) := Below.alloc hS (Below.size hS) _
    refine hK.out _ _ hS2 (fun _ => ?_)
    clear hK K
    try simp only [Act.put, List.setIfInBounds_toArray, List.set_cons_zero, List.set_cons_succ]
    refine wpAnyH_stronger (S' := fun W => Below (x4.alloc (.cells #[.int .u8 (pn : Int), .int .u8 (n : Int)] 5)).heap.size (x4.alloc (.cells #[.int .u8 (pn : Int), .int .u8 (n : Int)] 5)) W) (fun W h => below_then hS2 h (Below.size hS2)) _ _ _ _ ?_
    replace hT := below_trans hT hb
    clear hS hS2 hb
    generalize x4.alloc (.cells #[.int .u8 (pn : Int), .int .u8 (n : Int)] 5) = x5 at *
    have hS : (fun W => Below x5.heap.size x5 W) x5 := Below.refl _ _
    refine wpAnyH_take (i := 32) (oi := { dst := some 40, op := Op.convert 22 9 (Operand.tmp 39), type := 9, pos := "ref.go:28", after := #[{ on := 31, ground := Ground.data }], guard := none }) (v := ?_) rfl (by kernel_rfl) (by kernel_rfl) (by kernel_rfl) (fun _ _ _ h => h) (Or.inl ⟨by rfl, ?_⟩) (by assumption) ?_
    rotate_left
    · (intro wS hS; have hk := run_string_of (P := Try.prog) 22 9 5 Try.underlying22 Try.underlying5 Try.underlying9 (hr5.below hS); go_simp <;> with_reducible rfl)
    try simp only [Act.put, List.setIfInBounds_toArray, List.set_cons_zero, List.set_cons_succ]
    clear hr5
    refine wpAnyH_ready (rs := [23]) (by kernel_rfl) (by simp) ?_
    refine AllReadyH.cons rfl (fun K hK => ?_) (AllReadyH.nil)
    go_simp
    refine (B4 _).out.mono ?_
    rintro e x6 ⟨v, rfl, how, hb⟩
    obtain ⟨A5, cc5, rfl, hr5, -⟩ := Rd.of_own how
    have hS2 : (fun W => Below x5.heap.size x5 W) x6 := below_then hS hb (Below.size hS)
    refine hK.out _ _ hS2 (fun _ => ?_)
    clear hK K
    try simp only [Act.put, List.setIfInBounds_toArray, List.set_cons_zero, List.set_cons_succ]
    refine wpAnyH_stronger (S' := fun W => Below x6.heap.size x6 W) (fun W h => below_then hS2 h (Below.size hS2)) _ _ _ _ ?_
    replace hT := below_trans hT hb
    clear hS hS2 hb how
    have hS : (fun W => Below x6.heap.size x6 W) x6 := Below.refl _ _
    refine wpAnyH_take (i := 24) (oi := { dst := some 32, op := Op.convert 22 9 (Operand.tmp 31), type := 9, pos := "ref.go:28", after := #[{ on := 23, ground := Ground.data }], guard := none }) (v := ?_) rfl (by kernel_rfl) (by kernel_rfl) (by kernel_rfl) (fun _ _ _ h => h) (Or.inl ⟨by rfl, ?_⟩) (by assumption) ?_
    rotate_left
    · (intro wS hS; have hk := run_string_of (P := Try.prog) 22 9 5 Try.underlying22 Try.underlying5 Try.underlying9 (hr5.below hS); go_simp <;> with_reducible rfl)
    try simp only [Act.put, List.setIfInBounds_toArray, List.set_cons_zero, List.set_cons_succ]
    clear hr5
    refine wpAnyH_take (i := 25) (oi := { dst := some 33, op := Op.binOp BinOp.add 9 (Operand.tmp 28) (Operand.tmp 32) 9, type := 9, pos := "ref.go:28", after := #[{ on := 20, ground := Ground.data }, { on := 24, ground := Ground.data }], guard := none }) (v := ?_) rfl (by kernel_rfl) (by kernel_rfl) (by kernel_rfl) (fun _ _ _ h => h) (Or.inl ⟨by rfl, ?_⟩) (by assumption) ?_
    rotate_left
    · (intro wS hS; go_simp <;> with_reducible rfl)
    try simp only [Act.put, List.setIfInBounds_toArray, List.set_cons_zero, List.set_cons_succ]
    rotate_left
    go_simp
    refine (B4 _).out.mono ?_
    rintro e x4 ⟨v, rfl, how, hb⟩
    obtain ⟨A5, cc5, rfl, hr5, -⟩ := Rd.of_own how
    have hS2 : (fun W => Below x3.heap.size x3 W) x4 := below_then hS hb (Below.size hS)
    refine hK.out _ _ hS2 (fun _ => ?_)
    clear hK K
    try simp only [Act.put, List.setIfInBounds_toArray, List.set_cons_zero, List.set_cons_succ]
    refine wpAnyH_stronger (S' := fun W => Below x4.heap.size x4 W) (fun W h => below_then hS2 h (Below.size hS2)) _ _ _ _ ?_
    replace hT := below_trans hT hb
    clear hS hS2 hb how
    have hS : (fun W => Below x4.heap.size x4 W) x4 := Below.refl _ _
    refine wpAnyH_take (i := 24) (oi := { dst := some 32, op := Op.convert 22 9 (Operand.tmp 31), type := 9, pos := "ref.go:28", after := #[{ on := 23, ground := Ground.data }], guard := none }) (v := ?_) rfl (by kernel_rfl) (by kernel_rfl) (by kernel_rfl) (fun _ _ _ h => h) (Or.inl ⟨by rfl, ?_⟩) (by assumption) ?_
    rotate_left
    · (intro wS hS; have hk := run_string_of (P := Try.prog) 22 9 5 Try.underlying22 Try.underlying5 Try.underlying9 (hr5.below hS); go_simp <;> with_reducible rfl)
    try simp only [Act.put, List.setIfInBounds_toArray, List.set_cons_zero, List.set_cons_succ]
    clear hr5
    refine wpAnyH_ready (rs := [12, 31]) (by kernel_rfl) (by simp) ?_
    refine AllReadyH.cons rfl (fun K hK => ?_) (AllReadyH.cons rfl (fun K hK => ?_) (AllReadyH.nil))
    go_simp
    have hb := (one_cells x4 #[.int .u8 (pr : Int)] 5).1
    have hr5 := rd_one H1.out (w := x4) (e := 5)
    have hS2 : (fun W => Below x4.heap.size x4 W) (x4.alloc (.cells #[.int .u8 (pr : Int)] 5)) := Below.alloc hS (Below.size hS) _
    refine hK.out _ _ hS2 (fun _ => ?_)
    clear hK K
    try simp only [Act.put, List.setIfInBounds_toArray, List.set_cons_zero, List.set_cons_succ]
    refine wpAnyH_stronger (S' := fun W => Below (x4.alloc (.cells #[.int .u8 (pr : Int)] 5)).heap.size (x4.alloc (.cells #[.int .u8 (pr : Int)] 5)) W) (fun W h => below_then hS2 h (Below.size hS2)) _ _ _ _ ?_
    replace hT := below_trans hT hb
    clear hS hS2 hb
    generalize x4.alloc (.cells #[.int .u8 (pr : Int)] 5) = x5 at *
    have hS : (fun W => Below x5.heap.size x5 W) x5 := Below.refl _ _
    refine wpAnyH_take (i := 13) (oi := { dst := some 21, op := Op.convert 22 9 (Operand.tmp 20), type := 9, pos := "ref.go:28", after := #[{ on := 12, ground := Ground.data }], guard := none }) (v := ?_) rfl (by kernel_rfl) (by kernel_rfl) (by kernel_rfl) (fun _ _ _ h => h) (Or.inl ⟨by rfl, ?_⟩) (by assumption) ?_
    rotate_left
    · (intro wS hS; have hk := run_string_of (P := Try.prog) 22 9 5 Try.underlying22 Try.underlying5 Try.underlying9 (hr5.below hS); go_simp <;> with_reducible rfl)
    try simp only [Act.put, List.setIfInBounds_toArray, List.set_cons_zero, List.set_cons_succ]
    clear hr5
    refine wpAnyH_take (i := 14) (oi := { dst := some 22, op := Op.binOp BinOp.add 9 (Operand.tmp 16) (Operand.tmp 21) 9, type := 9, pos := "ref.go:28", after := #[{ on := 8, ground := Ground.data }, { on := 13, ground := Ground.data }], guard := none }) (v := ?_) rfl (by kernel_rfl) (by kernel_rfl) (by kernel_rfl) (fun _ _ _ h => h) (Or.inl ⟨by rfl, ?_⟩) (by assumption) ?_
    rotate_left
    · (intro wS hS; go_simp <;> with_reducible rfl)
    try simp only [Act.put, List.setIfInBounds_toArray, List.set_cons_zero, List.set_cons_succ]
    refine wpAnyH_take (i := 20) (oi := { dst := some 28, op := Op.binOp BinOp.add 9 (Operand.tmp 22) (Operand.tmp 27) 9, type := 9, pos := "ref.go:28", after := #[{ on := 14, ground := Ground.data }, { on := 19, ground := Ground.data }], guard := none }) (v := ?_) rfl (by kernel_rfl) (by kernel_rfl) (by kernel_rfl) (fun _ _ _ h => h) (Or.inl ⟨by rfl, ?_⟩) (by assumption) ?_
    rotate_left
    · (intro wS hS; go_simp <;> with_reducible rfl)
    try simp only [Act.put, List.setIfInBounds_toArray, List.set_cons_zero, List.set_cons_succ]
    refine wpAnyH_take (i := 25) (oi := { dst := some 33, op := Op.binOp BinOp.add 9 (Operand.tmp 28) (Operand.tmp 32) 9, type := 9, pos := "ref.go:28", after := #[{ on := 20, ground := Ground.data }, { on := 24, ground := Ground.data }], guard := none }) (v := ?_) rfl (by kernel_rfl) (by kernel_rfl) (by kernel_rfl) (fun _ _ _ h => h) (Or.inl ⟨by rfl, ?_⟩) (by assumption) ?_
    rotate_left
    · (intro wS hS; go_simp <;> with_reducible rfl)
    try simp only [Act.put, List.setIfInBounds_toArray, List.set_cons_zero, List.set_cons_succ]
    refine wpAnyH_ready (rs := [31]) (by kernel_rfl) (by simp) ?_
    refine AllReadyH.cons rfl (fun K hK => ?_) (AllReadyH.nil)
    go_simp
    have hb := (one_cells x5 #[.int .u8 (pn : Int), .int .u8 (n : Int)] 5).1
    have hr5 := rd_two H2.out H3.out (w := x5) (e := 5)
    have hS2 : (fun W => Below x5.heap.size x5 W) (x5.alloc (.cells #[.int .u8 (pn : Int), .int .u8 (n : Int)] 5)) := Below.alloc hS (Below.size hS) _
    refine hK.out _ _ hS2 (fun _ => ?_)
    clear hK K
    try simp only [Act.put, List.setIfInBounds_toArray, List.set_cons_zero, List.set_cons_succ]
    refine wpAnyH_stronger (S' := fun W => Below (x5.alloc (.cells #[.int .u8 (pn : Int), .int .u8 (n : Int)] 5)).heap.size (x5.alloc (.cells #[.int .u8 (pn : Int), .int .u8 (n : Int)] 5)) W) (fun W h => below_then hS2 h (Below.size hS2)) _ _ _ _ ?_
    replace hT := below_trans hT hb
    clear hS hS2 hb
    generalize x5.alloc (.cells #[.int .u8 (pn : Int), .int .u8 (n : Int)] 5) = x6 at *
    have hS : (fun W => Below x6.heap.size x6 W) x6 := Below.refl _ _
    refine wpAnyH_take (i := 32) (oi := { dst := some 40, op := Op.convert 22 9 (Operand.tmp 39), type := 9, pos := "ref.go:28", after := #[{ on := 31, ground := Ground.data }], guard := none }) (v := ?_) rfl (by kernel_rfl) (by kernel_rfl) (by kernel_rfl) (fun _ _ _ h => h) (Or.inl ⟨by rfl, ?_⟩) (by assumption) ?_
    rotate_left
    · (intro wS hS; have hk := run_string_of (P := Try.prog) 22 9 5 Try.underlying22 Try.underlying5 Try.underlying9 (hr5.below hS); go_simp <;> with_reducible rfl)
    try simp only [Act.put, List.setIfInBounds_toArray, List.set_cons_zero, List.set_cons_succ]
    clear hr5
    rotate_left
    go_simp
    have hb := (one_cells x4 #[.int .u8 (pn : Int), .int .u8 (n : Int)] 5).1
    have hr5 := rd_two H2.out H3.out (w := x4) (e := 5)
    have hS2 : (fun W => Below x4.heap.size x4 W) (x4.alloc (.cells #[.int .u8 (pn : Int), .int .u8 (n : Int)] 5)) := Below.alloc hS (Below.size hS) _
    refine hK.out _ _ hS2 (fun _ => ?_)
    clear hK K
    try simp only [Act.put, List.setIfInBounds_toArray, List.set_cons_zero, List.set_cons_succ]
    refine wpAnyH_stronger (S' := fun W => Below (x4.alloc (.cells #[.int .u8 (pn : Int), .int .u8 (n : Int)] 5)).heap.size (x4.alloc (.cells #[.int .u8 (pn : Int), .int .u8 (n : Int)] 5)) W) (fun W h => below_then hS2 h (Below.size hS2)) _ _ _ _ ?_
    replace hT := below_trans hT hb
    clear hS hS2 hb
    generalize x4.alloc (.cells #[.int .u8 (pn : Int), .int .u8 (n : Int)] 5) = x5 at *
    have hS : (fun W => Below x5.heap.size x5 W) x5 := Below.refl _ _
    refine wpAnyH_take (i := 32) (oi := { dst := some 40, op := Op.convert 22 9 (Operand.tmp 39), type := 9, pos := "ref.go:28", after := #[{ on := 31, ground := Ground.data }], guard := none }) (v := ?_) rfl (by kernel_rfl) (by kernel_rfl) (by kernel_rfl) (fun _ _ _ h => h) (Or.inl ⟨by rfl, ?_⟩) (by assumption) ?_
    rotate_left
    · (intro wS hS; have hk := run_string_of (P := Try.prog) 22 9 5 Try.underlying22 Try.underlying5 Try.underlying9 (hr5.below hS); go_simp <;> with_reducible rfl)
    try simp only [Act.put, List.setIfInBounds_toArray, List.set_cons_zero, List.set_cons_succ]
    clear hr5
    refine wpAnyH_ready (rs := [12]) (by kernel_rfl) (by simp) ?_
    refine AllReadyH.cons rfl (fun K hK => ?_) (AllReadyH.nil)
    go_simp
    have hb := (one_cells x5 #[.int .u8 (pr : Int)] 5).1
    have hr5 := rd_one H1.out (w := x5) (e := 5)
    have hS2 : (fun W => Below x5.heap.size x5 W) (x5.alloc (.cells #[.int .u8 (pr : Int)] 5)) := Below.alloc hS (Below.size hS) _
    refine hK.out _ _ hS2 (fun _ => ?_)
    clear hK K
    try simp only [Act.put, List.setIfInBounds_toArray, List.set_cons_zero, List.set_cons_succ]
    refine wpAnyH_stronger (S' := fun W => Below (x5.alloc (.cells #[.int .u8 (pr : Int)] 5)).heap.size (x5.alloc (.cells #[.int .u8 (pr : Int)] 5)) W) (fun W h => below_then hS2 h (Below.size hS2)) _ _ _ _ ?_
    replace hT := below_trans hT hb
    clear hS hS2 hb
    generalize x5.alloc (.cells #[.int .u8 (pr : Int)] 5) = x6 at *
    have hS : (fun W => Below x6.heap.size x6 W) x6 := Below.refl _ _
    refine wpAnyH_take (i := 13) (oi := { dst := some 21, op := Op.convert 22 9 (Operand.tmp 20), type := 9, pos := "ref.go:28", after := #[{ on := 12, ground := Ground.data }], guard := none }) (v := ?_) rfl (by kernel_rfl) (by kernel_rfl) (by kernel_rfl) (fun _ _ _ h => h) (Or.inl ⟨by rfl, ?_⟩) (by assumption) ?_
    rotate_left
    · (intro wS hS; have hk := run_string_of (P := Try.prog) 22 9 5 Try.underlying22 Try.underlying5 Try.underlying9 (hr5.below hS); go_simp <;> with_reducible rfl)
    try simp only [Act.put, List.setIfInBounds_toArray, List.set_cons_zero, List.set_cons_succ]
    clear hr5
    refine wpAnyH_take (i := 14) (oi := { dst := some 22, op := Op.binOp BinOp.add 9 (Operand.tmp 16) (Operand.tmp 21) 9, type := 9, pos := "ref.go:28", after := #[{ on := 8, ground := Ground.data }, { on := 13, ground := Ground.data }], guard := none }) (v := ?_) rfl (by kernel_rfl) (by kernel_rfl) (by kernel_rfl) (fun _ _ _ h => h) (Or.inl ⟨by rfl, ?_⟩) (by assumption) ?_
    rotate_left
    · (intro wS hS; go_simp <;> with_reducible rfl)
    try simp only [Act.put, List.setIfInBounds_toArray, List.set_cons_zero, List.set_cons_succ]
    refine wpAnyH_take (i := 20) (oi := { dst := some 28, op := Op.binOp BinOp.add 9 (Operand.tmp 22) (Operand.tmp 27) 9, type := 9, pos := "ref.go:28", after := #[{ on := 14, ground := Ground.data }, { on := 19, ground := Ground.data }], guard := none }) (v := ?_) rfl (by kernel_rfl) (by kernel_rfl) (by kernel_rfl) (fun _ _ _ h => h) (Or.inl ⟨by rfl, ?_⟩) (by assumption) ?_
    rotate_left
    · (intro wS hS; go_simp <;> with_reducible rfl)
    try simp only [Act.put, List.setIfInBounds_toArray, List.set_cons_zero, List.set_cons_succ]
    refine wpAnyH_take (i := 25) (oi := { dst := some 33, op := Op.binOp BinOp.add 9 (Operand.tmp 28) (Operand.tmp 32) 9, type := 9, pos := "ref.go:28", after := #[{ on := 20, ground := Ground.data }, { on := 24, ground := Ground.data }], guard := none }) (v := ?_) rfl (by kernel_rfl) (by kernel_rfl) (by kernel_rfl) (fun _ _ _ h => h) (Or.inl ⟨by rfl, ?_⟩) (by assumption) ?_
    rotate_left
    · (intro wS hS; go_simp <;> with_reducible rfl)
    try simp only [Act.put, List.setIfInBounds_toArray, List.set_cons_zero, List.set_cons_succ]
    rotate_left
    go_simp
    have hb := (one_cells x3 #[.int .u8 (pn : Int), .int .u8 (n : Int)] 5).1
    have hr5 := rd_two H2.out H3.out (w := x3) (e := 5)
    have hS2 : (fun W => Below x3.heap.size x3 W) (x3.alloc (.cells #[.int .u8 (pn : Int), .int .u8 (n : Int)] 5)) := Below.alloc hS (Below.size hS) _
    refine hK.out _ _ hS2 (fun _ => ?_)
    clear hK K
    try simp only [Act.put, List.setIfInBounds_toArray, List.set_cons_zero, List.set_cons_succ]
    refine wpAnyH_stronger (S' := fun W => Below (x3.alloc (.cells #[.int .u8 (pn : Int), .int .u8 (n : Int)] 5)).heap.size (x3.alloc (.cells #[.int .u8 (pn : Int), .int .u8 (n : Int)] 5)) W) (fun W h => below_then hS2 h (Below.size hS2)) _ _ _ _ ?_
    replace hT := below_trans hT hb
    clear hS hS2 hb
    generalize x3.alloc (.cells #[.int .u8 (pn : Int), .int .u8 (n : Int)] 5) = x4 at *
    have hS : (fun W => Below x4.heap.size x4 W) x4 := Below.refl _ _
    refine wpAnyH_take (i := 32) (oi := { dst := some 40, op := Op.convert 22 9 (Operand.tmp 39), type := 9, pos := "ref.go:28", after := #[{ on := 31, ground := Ground.data }], guard := none }) (v := ?_) rfl (by kernel_rfl) (by kernel_rfl) (by kernel_rfl) (fun _ _ _ h => h) (Or.inl ⟨by rfl, ?_⟩) (by assumption) ?_
    rotate_left
    · (intro wS hS; have hk := run_string_of (P := Try.prog) 22 9 5 Try.underlying22 Try.underlying5 Try.underlying9 (hr5.below hS); go_simp <;> with_reducible rfl)
    try simp only [Act.put, List.setIfInBounds_toArray, List.set_cons_zero, List.set_cons_succ]
    clear hr5
    refine wpAnyH_ready (rs := [12, 23]) (by kernel_rfl) (by simp) ?_
    refine AllReadyH.cons rfl (fun K hK => ?_) (AllReadyH.cons rfl (fun K hK => ?_) (AllReadyH.nil))
    go_simp
    have hb := (one_cells x4 #[.int .u8 (pr : Int)] 5).1
    have hr5 := rd_one H1.out (w := x4) (e := 5)
    have hS2 : (fun W => Below x4.heap.size x4 W) (x4.alloc (.cells #[.int .u8 (pr : Int)] 5)) := Below.alloc hS (Below.size hS) _
    refine hK.out _ _ hS2 (fun _ => ?_)
    clear hK K
    try simp only [Act.put, List.setIfInBounds_toArray, List.set_cons_zero, List.set_cons_succ]
    refine wpAnyH_stronger (S' := fun W => Below (x4.alloc (.cells #[.int .u8 (pr : Int)] 5)).heap.size (x4.alloc (.cells #[.int .u8 (pr : Int)] 5)) W) (fun W h => below_then hS2 h (Below.size hS2)) _ _ _ _ ?_
    replace hT := below_trans hT hb
    clear hS hS2 hb
    generalize x4.alloc (.cells #[.int .u8 (pr : Int)] 5) = x5 at *
    have hS : (fun W => Below x5.heap.size x5 W) x5 := Below.refl _ _
    refine wpAnyH_take (i := 13) (oi := { dst := some 21, op := Op.convert 22 9 (Operand.tmp 20), type := 9, pos := "ref.go:28", after := #[{ on := 12, ground := Ground.data }], guard := none }) (v := ?_) rfl (by kernel_rfl) (by kernel_rfl) (by kernel_rfl) (fun _ _ _ h => h) (Or.inl ⟨by rfl, ?_⟩) (by assumption) ?_
    rotate_left
    · (intro wS hS; have hk := run_string_of (P := Try.prog) 22 9 5 Try.underlying22 Try.underlying5 Try.underlying9 (hr5.below hS); go_simp <;> with_reducible rfl)
    try simp only [Act.put, List.setIfInBounds_toArray, List.set_cons_zero, List.set_cons_succ]
    clear hr5
    refine wpAnyH_take (i := 14) (oi := { dst := some 22, op := Op.binOp BinOp.add 9 (Operand.tmp 16) (Operand.tmp 21) 9, type := 9, pos := "ref.go:28", after := #[{ on := 8, ground := Ground.data }, { on := 13, ground := Ground.data }], guard := none }) (v := ?_) rfl (by kernel_rfl) (by kernel_rfl) (by kernel_rfl) (fun _ _ _ h => h) (Or.inl ⟨by rfl, ?_⟩) (by assumption) ?_
    rotate_left
    · (intro wS hS; go_simp <;> with_reducible rfl)
    try simp only [Act.put, List.setIfInBounds_toArray, List.set_cons_zero, List.set_cons_succ]
    refine wpAnyH_take (i := 20) (oi := { dst := some 28, op := Op.binOp BinOp.add 9 (Operand.tmp 22) (Operand.tmp 27) 9, type := 9, pos := "ref.go:28", after := #[{ on := 14, ground := Ground.data }, { on := 19, ground := Ground.data }], guard := none }) (v := ?_) rfl (by kernel_rfl) (by kernel_rfl) (by kernel_rfl) (fun _ _ _ h => h) (Or.inl ⟨by rfl, ?_⟩) (by assumption) ?_
    rotate_left
    · (intro wS hS; go_simp <;> with_reducible rfl)
    try simp only [Act.put, List.setIfInBounds_toArray, List.set_cons_zero, List.set_cons_succ]
    refine wpAnyH_ready (rs := [23]) (by kernel_rfl) (by simp) ?_
    refine AllReadyH.cons rfl (fun K hK => ?_) (AllReadyH.nil)
    go_simp
    refine (B4 _).out.mono ?_
    rintro e x6 ⟨v, rfl, how, hb⟩
    obtain ⟨A5, cc5, rfl, hr5, -⟩ := Rd.of_own how
    have hS2 : (fun W => Below x5.heap.size x5 W) x6 := below_then hS hb (Below.size hS)
    refine hK.out _ _ hS2 (fun _ => ?_)
    clear hK K
    try simp only [Act.put, List.setIfInBounds_toArray, List.set_cons_zero, List.set_cons_succ]
    refine wpAnyH_stronger (S' := fun W => Below x6.heap.size x6 W) (fun W h => below_then hS2 h (Below.size hS2)) _ _ _ _ ?_
    replace hT := below_trans hT hb
    clear hS hS2 hb how
    have hS : (fun W => Below x6.heap.size x6 W) x6 := Below.refl _ _
    refine wpAnyH_take (i := 24) (oi := { dst := some 32, op := Op.convert 22 9 (Operand.tmp 31), type := 9, pos := "ref.go:28", after := #[{ on := 23, ground := Ground.data }], guard := none }) (v := ?_) rfl (by kernel_rfl) (by kernel_rfl) (by kernel_rfl) (fun _ _ _ h => h) (Or.inl ⟨by rfl, ?_⟩) (by assumption) ?_
    rotate_left
    · (intro wS hS; have hk := run_string_of (P := Try.prog) 22 9 5 Try.underlying22 Try.underlying5 Try.underlying9 (hr5.below hS); go_simp <;> with_reducible rfl)
    try simp only [Act.put, List.setIfInBounds_toArray, List.set_cons_zero, List.set_cons_succ]
    clear hr5
    refine wpAnyH_take (i := 25) (oi := { dst := some 33, op := Op.binOp BinOp.add 9 (Operand.tmp 28) (Operand.tmp 32) 9, type := 9, pos := "ref.go:28", after := #[{ on := 20, ground := Ground.data }, { on := 24, ground := Ground.data }], guard := none }) (v := ?_) rfl (by kernel_rfl) (by kernel_rfl) (by kernel_rfl) (fun _ _ _ h => h) (Or.inl ⟨by rfl, ?_⟩) (by assumption) ?_
    rotate_left
    · (intro wS hS; go_simp <;> with_reducible rfl)
    try simp only [Act.put, List.setIfInBounds_toArray, List.set_cons_zero, List.set_cons_succ]
    rotate_left
    go_simp
    refine (B4 _).out.mono ?_
    rintro e x5 ⟨v, rfl, how, hb⟩
    obtain ⟨A5, cc5, rfl, hr5, -⟩ := Rd.of_own how
    have hS2 : (fun W => Below x4.heap.size x4 W) x5 := below_then hS hb (Below.size hS)
    refine hK.out _ _ hS2 (fun _ => ?_)
    clear hK K
    try simp only [Act.put, List.setIfInBounds_toArray, List.set_cons_zero, List.set_cons_succ]
    refine wpAnyH_stronger (S' := fun W => Below x5.heap.size x5 W) (fun W h => below_then hS2 h (Below.size hS2)) _ _ _ _ ?_
    replace hT := below_trans hT hb
    clear hS hS2 hb how
    have hS : (fun W => Below x5.heap.size x5 W) x5 := Below.refl _ _
    refine wpAnyH_take (i := 24) (oi := { dst := some 32, op := Op.convert 22 9 (Operand.tmp 31), type := 9, pos := "ref.go:28", after := #[{ on := 23, ground := Ground.data }], guard := none }) (v := ?_) rfl (by kernel_rfl) (by kernel_rfl) (by kernel_rfl) (fun _ _ _ h => h) (Or.inl ⟨by rfl, ?_⟩) (by assumption) ?_
    rotate_left
    · (intro wS hS; have hk := run_string_of (P := Try.prog) 22 9 5 Try.underlying22 Try.underlying5 Try.underlying9 (hr5.below hS); go_simp <;> with_reducible rfl)
    try simp only [Act.put, List.setIfInBounds_toArray, List.set_cons_zero, List.set_cons_succ]
    clear hr5
    refine wpAnyH_ready (rs := [12]) (by kernel_rfl) (by simp) ?_
    refine AllReadyH.cons rfl (fun K hK => ?_) (AllReadyH.nil)
    go_simp
    have hb := (one_cells x5 #[.int .u8 (pr : Int)] 5).1
    have hr5 := rd_one H1.out (w := x5) (e := 5)
    have hS2 : (fun W => Below x5.heap.size x5 W) (x5.alloc (.cells #[.int .u8 (pr : Int)] 5)) := Below.alloc hS (Below.size hS) _
    refine hK.out _ _ hS2 (fun _ => ?_)
    clear hK K
    try simp only [Act.put, List.setIfInBounds_toArray, List.set_cons_zero, List.set_cons_succ]
    refine wpAnyH_stronger (S' := fun W => Below (x5.alloc (.cells #[.int .u8 (pr : Int)] 5)).heap.size (x5.alloc (.cells #[.int .u8 (pr : Int)] 5)) W) (fun W h => below_then hS2 h (Below.size hS2)) _ _ _ _ ?_
    replace hT := below_trans hT hb
    clear hS hS2 hb
    generalize x5.alloc (.cells #[.int .u8 (pr : Int)] 5) = x6 at *
    have hS : (fun W => Below x6.heap.size x6 W) x6 := Below.refl _ _
    refine wpAnyH_take (i := 13) (oi := { dst := some 21, op := Op.convert 22 9 (Operand.tmp 20), type := 9, pos := "ref.go:28", after := #[{ on := 12, ground := Ground.data }], guard := none }) (v := ?_) rfl (by kernel_rfl) (by kernel_rfl) (by kernel_rfl) (fun _ _ _ h => h) (Or.inl ⟨by rfl, ?_⟩) (by assumption) ?_
    rotate_left
    · (intro wS hS; have hk := run_string_of (P := Try.prog) 22 9 5 Try.underlying22 Try.underlying5 Try.underlying9 (hr5.below hS); go_simp <;> with_reducible rfl)
    try simp only [Act.put, List.setIfInBounds_toArray, List.set_cons_zero, List.set_cons_succ]
    clear hr5
    refine wpAnyH_take (i := 14) (oi := { dst := some 22, op := Op.binOp BinOp.add 9 (Operand.tmp 16) (Operand.tmp 21) 9, type := 9, pos := "ref.go:28", after := #[{ on := 8, ground := Ground.data }, { on := 13, ground := Ground.data }], guard := none }) (v := ?_) rfl (by kernel_rfl) (by kernel_rfl) (by kernel_rfl) (fun _ _ _ h => h) (Or.inl ⟨by rfl, ?_⟩) (by assumption) ?_
    rotate_left
    · (intro wS hS; go_simp <;> with_reducible rfl)
    try simp only [Act.put, List.setIfInBounds_toArray, List.set_cons_zero, List.set_cons_succ]
    refine wpAnyH_take (i := 20) (oi := { dst := some 28, op := Op.binOp BinOp.add 9 (Operand.tmp 22) (Operand.tmp 27) 9, type := 9, pos := "ref.go:28", after := #[{ on := 14, ground := Ground.data }, { on := 19, ground := Ground.data }], guard := none }) (v := ?_) rfl (by kernel_rfl) (by kernel_rfl) (by kernel_rfl) (fun _ _ _ h => h) (Or.inl ⟨by rfl, ?_⟩) (by assumption) ?_
    rotate_left
    · (intro wS hS; go_simp <;> with_reducible rfl)
    try simp only [Act.put, List.setIfInBounds_toArray, List.set_cons_zero, List.set_cons_succ]
    refine wpAnyH_take (i := 25) (oi := { dst := some 33, op := Op.binOp BinOp.add 9 (Operand.tmp 28) (Operand.tmp 32) 9, type := 9, pos := "ref.go:28", after := #[{ on := 20, ground := Ground.data }, { on := 24, ground := Ground.data }], guard := none }) (v := ?_) rfl (by kernel_rfl) (by kernel_rfl) (by kernel_rfl) (fun _ _ _ h => h) (Or.inl ⟨by rfl, ?_⟩) (by assumption) ?_
    rotate_left
    · (intro wS hS; go_simp <;> with_reducible rfl)
    try simp only [Act.put, List.setIfInBounds_toArray, List.set_cons_zero, List.set_cons_succ]
    rotate_left
    go_simp
    have hb := (one_cells x2 #[.int .u8 (pn : Int), .int .u8 (n : Int)] 5).1
    have hr5 := rd_two H2.out H3.out (w := x2) (e := 5)
    have hS2 : (fun W => Below x2.heap.size x2 W) (x2.alloc (.cells #[.int .u8 (pn : Int), .int .u8 (n : Int)] 5)) := Below.alloc hS (Below.size hS) _
    refine hK.out _ _ hS2 (fun _ => ?_)
    clear hK K
    try simp only [Act.put, List.setIfInBounds_toArray, List.set_cons_zero, List.set_cons_succ]
    refine wpAnyH_stronger (S' := fun W => Below (x2.alloc (.cells #[.int .u8 (pn : Int), .int .u8 (n : Int)] 5)).heap.size (x2.alloc (.cells #[.int .u8 (pn : Int), .int .u8 (n : Int)] 5)) W) (fun W h => below_then hS2 h (Below.size hS2)) _ _ _ _ ?_
    replace hT := below_trans hT hb
    clear hS hS2 hb
    generalize x2.alloc (.cells #[.int .u8 (pn : Int), .int .u8 (n : Int)] 5) = x3 at *
    have hS : (fun W => Below x3.heap.size x3 W) x3 := Below.refl _ _
    refine wpAnyH_take (i := 32) (oi := { dst := some 40, op := Op.convert 22 9 (Operand.tmp 39), type := 9, pos := "ref.go:28", after := #[{ on := 31, ground := Ground.data }], guard := none }) (v := ?_) rfl (by kernel_rfl) (by kernel_rfl) (by kernel_rfl) (fun _ _ _ h => h) (Or.inl ⟨by rfl, ?_⟩) (by assumption) ?_
    rotate_left
    · (intro wS hS; have hk := run_string_of (P := Try.prog) 22 9 5 Try.underlying22 Try.underlying5 Try.underlying9 (hr5.below hS); go_simp <;> with_reducible rfl)
    try simp only [Act.put, List.setIfInBounds_toArray, List.set_cons_zero, List.set_cons_succ]
    clear hr5
    refine wpAnyH_ready (rs := [12, 18]) (by kernel_rfl) (by simp) ?_
    refine AllReadyH.cons rfl (fun K hK => ?_) (AllReadyH.cons rfl (fun K hK => ?_) (AllReadyH.nil))
    go_simp
    have hb := (one_cells x3 #[.int .u8 (pr : Int)] 5).1
    have hr5 := rd_one H1.out (w := x3) (e := 5)
    have hS2 : (fun W => Below x3.heap.size x3 W) (x3.alloc (.cells #[.int .u8 (pr : Int)] 5)) := Below.alloc hS (Below.size hS) _
    refine hK.out _ _ hS2 (fun _ => ?_)
    clear hK K
    try simp only [Act.put, List.setIfInBounds_toArray, List.set_cons_zero, List.set_cons_succ]
    refine wpAnyH_stronger (S' := fun W => Below (x3.alloc (.cells #[.int .u8 (pr : Int)] 5)).heap.size (x3.alloc (.cells #[.int .u8 (pr : Int)] 5)) W) (fun W h => below_then hS2 h (Below.size hS2)) _ _ _ _ ?_
    replace hT := below_trans hT hb
    clear hS hS2 hb
    generalize x3.alloc (.cells #[.int .u8 (pr : Int)] 5) = x4 at *
    have hS : (fun W => Below x4.heap.size x4 W) x4 := Below.refl _ _
    refine wpAnyH_take (i := 13) (oi := { dst := some 21, op := Op.convert 22 9 (Operand.tmp 20), type := 9, pos := "ref.go:28", after := #[{ on := 12, ground := Ground.data }], guard := none }) (v := ?_) rfl (by kernel_rfl) (by kernel_rfl) (by kernel_rfl) (fun _ _ _ h => h) (Or.inl ⟨by rfl, ?_⟩) (by assumption) ?_
    rotate_left
    · (intro wS hS; have hk := run_string_of (P := Try.prog) 22 9 5 Try.underlying22 Try.underlying5 Try.underlying9 (hr5.below hS); go_simp <;> with_reducible rfl)
    try simp only [Act.put, List.setIfInBounds_toArray, List.set_cons_zero, List.set_cons_succ]
    clear hr5
    refine wpAnyH_take (i := 14) (oi := { dst := some 22, op := Op.binOp BinOp.add 9 (Operand.tmp 16) (Operand.tmp 21) 9, type := 9, pos := "ref.go:28", after := #[{ on := 8, ground := Ground.data }, { on := 13, ground := Ground.data }], guard := none }) (v := ?_) rfl (by kernel_rfl) (by kernel_rfl) (by kernel_rfl) (fun _ _ _ h => h) (Or.inl ⟨by rfl, ?_⟩) (by assumption) ?_
    rotate_left
    · (intro wS hS; go_simp <;> with_reducible rfl)
    try simp only [Act.put, List.setIfInBounds_toArray, List.set_cons_zero, List.set_cons_succ]
    refine wpAnyH_ready (rs := [18]) (by kernel_rfl) (by simp) ?_
    refine AllReadyH.cons rfl (fun K hK => ?_) (AllReadyH.nil)
    go_simp
    refine (B3 _).out.mono ?_
    rintro e x5 ⟨v, rfl, how, hb⟩
    obtain ⟨A5, cc5, rfl, hr5, -⟩ := Rd.of_own how
    have hS2 : (fun W => Below x4.heap.size x4 W) x5 := below_then hS hb (Below.size hS)
    refine hK.out _ _ hS2 (fun _ => ?_)
    clear hK K
    try simp only [Act.put, List.setIfInBounds_toArray, List.set_cons_zero, List.set_cons_succ]
    refine wpAnyH_stronger (S' := fun W => Below x5.heap.size x5 W) (fun W h => below_then hS2 h (Below.size hS2)) _ _ _ _ ?_
    replace hT := below_trans hT hb
    clear hS hS2 hb how
    have hS : (fun W => Below x5.heap.size x5 W) x5 := Below.refl _ _
    refine wpAnyH_take (i := 19) (oi := { dst := some 27, op := Op.convert 22 9 (Operand.tmp 26), type := 9, pos := "ref.go:28", after := #[{ on := 18, ground := Ground.data }], guard := none }) (v := ?_) rfl (by kernel_rfl) (by kernel_rfl) (by kernel_rfl) (fun _ _ _ h => h) (Or.inl ⟨by rfl, ?_⟩) (by assumption) ?_
    rotate_left
    · (intro wS hS; have hk := run_string_of (P := Try.prog) 22 9 5 Try.underlying22 Try.underlying5 Try.underlying9 (hr5.below hS); go_simp <;> with_reducible rfl)
    try simp only [Act.put, List.setIfInBounds_toArray, List.set_cons_zero, List.set_cons_succ]
    clear hr5
    refine wpAnyH_take (i := 20) (oi := { dst := some 28, op := Op.binOp BinOp.add 9 (Operand.tmp 22) (Operand.tmp 27) 9, type := 9, pos := "ref.go:28", after := #[{ on := 14, ground := Ground.data }, { on := 19, ground := Ground.data }], guard := none }) (v := ?_) rfl (by kernel_rfl) (by kernel_rfl) (by kernel_rfl) (fun _ _ _ h => h) (Or.inl ⟨by rfl, ?_⟩) (by assumption) ?_
    rotate_left
    · (intro wS hS; go_simp <;> with_reducible rfl)
    try simp only [Act.put, List.setIfInBounds_toArray, List.set_cons_zero, List.set_cons_succ]
    refine wpAnyH_ready (rs := [23]) (by kernel_rfl) (by simp) ?_
    refine AllReadyH.cons rfl (fun K hK => ?_) (AllReadyH.nil)
    go_simp
    refine (B4 _).out.mono ?_
    rintro e x6 ⟨v, rfl, how, hb⟩
    obtain ⟨A5, cc5, rfl, hr5, -⟩ := Rd.of_own how
    have hS2 : (fun W => Below x5.heap.size x5 W) x6 := below_then hS hb (Below.size hS)
    refine hK.out _ _ hS2 (fun _ => ?_)
    clear hK K
    try simp only [Act.put, List.setIfInBounds_toArray, List.set_cons_zero, List.set_cons_succ]
    refine wpAnyH_stronger (S' := fun W => Below x6.heap.size x6 W) (fun W h => below_then hS2 h (Below.size hS2)) _ _ _ _ ?_
    replace hT := below_trans hT hb
    clear hS hS2 hb how
    have hS : (fun W => Below x6.heap.size x6 W) x6 := Below.refl _ _
    refine wpAnyH_take (i := 24) (oi := { dst := some 32, op := Op.convert 22 9 (Operand.tmp 31), type := 9, pos := "ref.go:28", after := #[{ on := 23, ground := Ground.data }], guard := none }) (v := ?_) rfl (by kernel_rfl) (by kernel_rfl) (by kernel_rfl) (fun _ _ _ h => h) (Or.inl ⟨by rfl, ?_⟩) (by assumption) ?_
    rotate_left
    · (intro wS hS; have hk := run_string_of (P := Try.prog) 22 9 5 Try.underlying22 Try.underlying5 Try.underlying9 (hr5.below hS); go_simp <;> with_reducible rfl)
    try simp only [Act.put, List.setIfInBounds_toArray, List.set_cons_zero, List.set_cons_succ]
    clear hr5
    refine wpAnyH_take (i := 25) (oi := { dst := some 33, op := Op.binOp BinOp.add 9 (Operand.tmp 28) (Operand.tmp 32) 9, type := 9, pos := "ref.go:28", after := #[{ on := 20, ground := Ground.data }, { on := 24, ground := Ground.data }], guard := none }) (v := ?_) rfl (by kernel_rfl) (by kernel_rfl) (by kernel_rfl) (fun _ _ _ h => h) (Or.inl ⟨by rfl, ?_⟩) (by assumption) ?_
    rotate_left
    · (intro wS hS; go_simp <;> with_reducible rfl)
    try simp only [Act.put, List.setIfInBounds_toArray, List.set_cons_zero, List.set_cons_succ]
    rotate_left
    go_simp
    refine (B3 _).out.mono ?_
    rintro e x4 ⟨v, rfl, how, hb⟩
    obtain ⟨A5, cc5, rfl, hr5, -⟩ := Rd.of_own how
    have hS2 : (fun W => Below x3.heap.size x3 W) x4 := below_then hS hb (Below.size hS)
    refine hK.out _ _ hS2 (fun _ => ?_)
    clear hK K
    try simp only [Act.put, List.setIfInBounds_toArray, List.set_cons_zero, List.set_cons_succ]
    refine wpAnyH_stronger (S' := fun W => Below x4.heap.size x4 W) (fun W h => below_then hS2 h (Below.size hS2)) _ _ _ _ ?_
    replace hT := below_trans hT hb
    clear hS hS2 hb how
    have hS : (fun W => Below x4.heap.size x4 W) x4 := Below.refl _ _
    refine wpAnyH_take (i := 19) (oi := { dst := some 27, op := Op.convert 22 9 (Operand.tmp 26), type := 9, pos := "ref.go:28", after := #[{ on := 18, ground := Ground.data }], guard := none }) (v := ?_) rfl (by kernel_rfl) (by kernel_rfl) (by kernel_rfl) (fun _ _ _ h => h) (Or.inl ⟨by rfl, ?_⟩) (by assumption) ?_
    rotate_left
    · (intro wS hS; have hk := run_string_of (P := Try.prog) 22 9 5 Try.underlying22 Try.underlying5 Try.underlying9 (hr5.below hS); go_simp <;> with_reducible rfl)
    try simp only [Act.put, List.setIfInBounds_toArray, List.set_cons_zero, List.set_cons_succ]
    clear hr5
    refine wpAnyH_ready (rs := [12, 23]) (by kernel_rfl) (by simp) ?_
    refine AllReadyH.cons rfl (fun K hK => ?_) (AllReadyH.cons rfl (fun K hK => ?_) (AllReadyH.nil))
    go_simp
    have hb := (one_cells x4 #[.int .u8 (pr : Int)] 5).1
    have hr5 := rd_one H1.out (w := x4) (e := 5)
    have hS2 : (fun W => Below x4.heap.size x4 W) (x4.alloc (.cells #[.int .u8 (pr : Int)] 5)) := Below.alloc hS (Below.size hS) _
    refine hK.out _ _ hS2 (fun _ => ?_)
    clear hK K
    try simp only [Act.put, List.setIfInBounds_toArray, List.set_cons_zero, List.set_cons_succ]
    refine wpAnyH_stronger (S' := fun W => Below (x4.alloc (.cells #[.int .u8 (pr : Int)] 5)).heap.size (x4.alloc (.cells #[.int .u8 (pr : Int)] 5)) W) (fun W h => below_then hS2 h (Below.size hS2)) _ _ _ _ ?_
    replace hT := below_trans hT hb
    clear hS hS2 hb
    generalize x4.alloc (.cells #[.int .u8 (pr : Int)] 5) = x5 at *
    have hS : (fun W => Below x5.heap.size x5 W) x5 := Below.refl _ _
    refine wpAnyH_take (i := 13) (oi := { dst := some 21, op := Op.convert 22 9 (Operand.tmp 20), type := 9, pos := "ref.go:28", after := #[{ on := 12, ground := Ground.data }], guard := none }) (v := ?_) rfl (by kernel_rfl) (by kernel_rfl) (by kernel_rfl) (fun _ _ _ h => h) (Or.inl ⟨by rfl, ?_⟩) (by assumption) ?_
    rotate_left
    · (intro wS hS; have hk := run_string_of (P := Try.prog) 22 9 5 Try.underlying22 Try.underlying5 Try.underlying9 (hr5.below hS); go_simp <;> with_reducible rfl)
    try simp only [Act.put, List.setIfInBounds_toArray, List.set_cons_zero, List.set_cons_succ]
    clear hr5
    refine wpAnyH_take (i := 14) (oi := { dst := some 22, op := Op.binOp BinOp.add 9 (Operand.tmp 16) (Operand.tmp 21) 9, type := 9, pos := "ref.go:28", after := #[{ on := 8, ground := Ground.data }, { on := 13, ground := Ground.data }], guard := none }) (v := ?_) rfl (by kernel_rfl) (by kernel_rfl) (by kernel_rfl) (fun _ _ _ h => h) (Or.inl ⟨by rfl, ?_⟩) (by assumption) ?_
    rotate_left
    · (intro wS hS; go_simp <;> with_reducible rfl)
    try simp only [Act.put, List.setIfInBounds_toArray, List.set_cons_zero, List.set_cons_succ]
    refine wpAnyH_take (i := 20) (oi := { dst := some 28, op := Op.binOp BinOp.add 9 (Operand.tmp 22) (Operand.tmp 27) 9, type := 9, pos := "ref.go:28", after := #[{ on := 14, ground := Ground.data }, { on := 19, ground := Ground.data }], guard := none }) (v := ?_) rfl (by kernel_rfl) (by kernel_rfl) (by kernel_rfl) (fun _ _ _ h => h) (Or.inl ⟨by rfl, ?_⟩) (by assumption) ?_
    rotate_left
    · (intro wS hS; go_simp <;> with_reducible rfl)
    try simp only [Act.put, List.setIfInBounds_toArray, List.set_cons_zero, List.set_cons_succ]
    refine wpAnyH_ready (rs := [23]) (by kernel_rfl) (by simp) ?_
    refine AllReadyH.cons rfl (fun K hK => ?_) (AllReadyH.nil)
    go_simp
    refine (B4 _).out.mono ?_
    rintro e x6 ⟨v, rfl, how, hb⟩
    obtain ⟨A5, cc5, rfl, hr5, -⟩ := Rd.of_own how
    have hS2 : (fun W => Below x5.heap.size x5 W) x6 := below_then hS hb (Below.size hS)
    refine hK.out _ _ hS2 (fun _ => ?_)
    clear hK K
    try simp only [Act.put, List.setIfInBounds_toArray, List.set_cons_zero, List.set_cons_succ]
    refine wpAnyH_stronger (S' := fun W => Below x6.heap.size x6 W) (fun W h => below_then hS2 h (Below.size hS2)) _ _ _ _ ?_
    replace hT := below_trans hT hb
    clear hS hS2 hb how
    have hS : (fun W => Below x6.heap.size x6 W) x6 := Below.refl _ _
    refine wpAnyH_take (i := 24) (oi := { dst := some 32, op := Op.convert 22 9 (Operand.tmp 31), type := 9, pos := "ref.go:28", after := #[{ on := 23, ground := Ground.data }], guard := none }) (v := ?_) rfl (by kernel_rfl) (by kernel_rfl) (by kernel_rfl) (fun _ _ _ h => h) (Or.inl ⟨by rfl, ?_⟩) (by assumption) ?_
    rotate_left
    · (intro wS hS; have hk := run_string_of (P := Try.prog) 22 9 5 Try.underlying22 Try.underlying5 Try.underlying9 (hr5.below hS); go_simp <;> with_reducible rfl)
    try simp only [Act.put, List.setIfInBounds_toArray, List.set_cons_zero, List.set_cons_succ]
    clear hr5
    refine wpAnyH_take (i := 25) (oi := { dst := some 33, op := Op.binOp BinOp.add 9 (Operand.tmp 28) (Operand.tmp 32) 9, type := 9, pos := "ref.go:28", after := #[{ on := 20, ground := Ground.data }, { on := 24, ground := Ground.data }], guard := none }) (v := ?_) rfl (by kernel_rfl) (by kernel_rfl) (by kernel_rfl) (fun _ _ _ h => h) (Or.inl ⟨by rfl, ?_⟩) (by assumption) ?_
    rotate_left
    · (intro wS hS; go_simp <;> with_reducible rfl)
    try simp only [Act.put, List.setIfInBounds_toArray, List.set_cons_zero, List.set_cons_succ]
    rotate_left
    go_simp
    refine (B4 _).out.mono ?_
    rintro e x5 ⟨v, rfl, how, hb⟩
    obtain ⟨A5, cc5, rfl, hr5, -⟩ := Rd.of_own how
    have hS2 : (fun W => Below x4.heap.size x4 W) x5 := below_then hS hb (Below.size hS)
    refine hK.out _ _ hS2 (fun _ => ?_)
    clear hK K
    try simp only [Act.put, List.setIfInBounds_toArray, List.set_cons_zero, List.set_cons_succ]
    refine wpAnyH_stronger (S' := fun W => Below x5.heap.size x5 W) (fun W h => below_then hS2 h (Below.size hS2)) _ _ _ _ ?_
    replace hT := below_trans hT hb
    clear hS hS2 hb how
    have hS : (fun W => Below x5.heap.size x5 W) x5 := Below.refl _ _
    refine wpAnyH_take (i := 24) (oi := { dst := some 32, op := Op.convert 22 9 (Operand.tmp 31), type := 9, pos := "ref.go:28", after := #[{ on := 23, ground := Ground.data }], guard := none }) (v := ?_) rfl (by kernel_rfl) (by kernel_rfl) (by kernel_rfl) (fun _ _ _ h => h) (Or.inl ⟨by rfl, ?_⟩) (by assumption) ?_
    rotate_left
    · (intro wS hS; have hk := run_string_of (P := Try.prog) 22 9 5 Try.underlying22 Try.underlying5 Try.underlying9 (hr5.below hS); go_simp <;> with_reducible rfl)
    try simp only [Act.put, List.setIfInBounds_toArray, List.set_cons_zero, List.set_cons_succ]
    clear hr5
    refine wpAnyH_ready (rs := [12]) (by kernel_rfl) (by simp) ?_
    refine AllReadyH.cons rfl (fun K hK => ?_) (AllReadyH.nil)
    go_simp
    have hb := (one_cells x5 #[.int .u8 (pr : Int)] 5).1
    have hr5 := rd_one H1.out (w := x5) (e := 5)
    have hS2 : (fun W => Below x5.heap.size x5 W) (x5.alloc (.cells #[.int .u8 (pr : Int)] 5)) := Below.alloc hS (Below.size hS) _
    refine hK.out _ _ hS2 (fun _ => ?_)
    clear hK K
    try simp only [Act.put, List.setIfInBounds_toArray, List.set_cons_zero, List.set_cons_succ]
    refine wpAnyH_stronger (S' := fun W => Below (x5.alloc (.cells #[.int .u8 (pr : Int)] 5)).heap.size (x5.alloc (.cells #[.int .u8 (pr : Int)] 5)) W) (fun W h => below_then hS2 h (Below.size hS2)) _ _ _ _ ?_
    replace hT := below_trans hT hb
    clear hS hS2 hb
    generalize x5.alloc (.cells #[.int .u8 (pr : Int)] 5) = x6 at *
    have hS : (fun W => Below x6.heap.size x6 W) x6 := Below.refl _ _
    refine wpAnyH_take (i := 13) (oi := { dst := some 21, op := Op.convert 22 9 (Operand.tmp 20), type := 9, pos := "ref.go:28", after := #[{ on := 12, ground := Ground.data }], guard := none }) (v := ?_) rfl (by kernel_rfl) (by kernel_rfl) (by kernel_rfl) (fun _ _ _ h => h) (Or.inl ⟨by rfl, ?_⟩) (by assumption) ?_
    rotate_left
    · (intro wS hS; have hk := run_string_of (P := Try.prog) 22 9 5 Try.underlying22 Try.underlying5 Try.underlying9 (hr5.below hS); go_simp <;> with_reducible rfl)
    try simp only [Act.put, List.setIfInBounds_toArray, List.set_cons_zero, List.set_cons_succ]
    clear hr5
    refine wpAnyH_take (i := 14) (oi := { dst := some 22, op := Op.binOp BinOp.add 9 (Operand.tmp 16) (Operand.tmp 21) 9, type := 9, pos := "ref.go:28", after := #[{ on := 8, ground := Ground.data }, { on := 13, ground := Ground.data }], guard := none }) (v := ?_) rfl (by kernel_rfl) (by kernel_rfl) (by kernel_rfl) (fun _ _ _ h => h) (Or.inl ⟨by rfl, ?_⟩) (by assumption) ?_
    rotate_left
    · (intro wS hS; go_simp <;> with_reducible rfl)
    try simp only [Act.put, List.setIfInBounds_toArray, List.set_cons_zero, List.set_cons_succ]
    refine wpAnyH_take (i := 20) (oi := { dst := some 28, op := Op.binOp BinOp.add 9 (Operand.tmp 22) (Operand.tmp 27) 9, type := 9, pos := "ref.go:28", after := #[{ on := 14, ground := Ground.data }, { on := 19, ground := Ground.data }], guard := none }) (v := ?_) rfl (by kernel_rfl) (by kernel_rfl) (by kernel_rfl) (fun _ _ _ h => h) (Or.inl ⟨by rfl, ?_⟩) (by assumption) ?_
    rotate_left
    · (intro wS hS; go_simp <;> with_reducible rfl)
    try simp only [Act.put, List.setIfInBounds_toArray, List.set_cons_zero, List.set_cons_succ]
    refine wpAnyH_take (i := 25) (oi := { dst := some 33, op := Op.binOp BinOp.add 9 (Operand.tmp 28) (Operand.tmp 32) 9, type := 9, pos := "ref.go:28", after := #[{ on := 20, ground := Ground.data }, { on := 24, ground := Ground.data }], guard := none }) (v := ?_) rfl (by kernel_rfl) (by kernel_rfl) (by kernel_rfl) (fun _ _ _ h => h) (Or.inl ⟨by rfl, ?_⟩) (by assumption) ?_
    rotate_left
    · (intro wS hS; go_simp <;> with_reducible rfl)
    try simp only [Act.put, List.setIfInBounds_toArray, List.set_cons_zero, List.set_cons_succ]
    rotate_left
    go_simp
    have hb := (one_cells x1 #[.int .u8 (pr : Int)] 5).1
    have hr5 := rd_one H1.out (w := x1) (e := 5)
    have hS2 : (fun W => Below x1.heap.size x1 W) (x1.alloc (.cells #[.int .u8 (pr : Int)] 5)) := Below.alloc hS (Below.size hS) _
    refine hK.out _ _ hS2 (fun _ => ?_)
    clear hK K
    try simp only [Act.put, List.setIfInBounds_toArray, List.set_cons_zero, List.set_cons_succ]
    refine wpAnyH_stronger (S' := fun W => Below (x1.alloc (.cells #[.int .u8 (pr : Int)] 5)).heap.size (x1.alloc (.cells #[.int .u8 (pr : Int)] 5)) W) (fun W h => below_then hS2 h (Below.size hS2)) _ _ _ _ ?_
    replace hT := below_trans hT hb
    clear hS hS2 hb
    generalize x1.alloc (.cells #[.int .u8 (pr : Int)] 5) = x2 at *
    have hS : (fun W => Below x2.heap.size x2 W) x2 := Below.refl _ _
    refine wpAnyH_take (i := 13) (oi := { dst := some 21, op := Op.convert 22 9 (Operand.tmp 20), type := 9, pos := "ref.go:28", after := #[{ on := 12, ground := Ground.data }], guard := none }) (v := ?_) rfl (by kernel_rfl) (by kernel_rfl) (by kernel_rfl) (fun _ _ _ h => h) (Or.inl ⟨by rfl, ?_⟩) (by assumption) ?_
    rotate_left
    · (intro wS hS; have hk := run_string_of (P := Try.prog) 22 9 5 Try.underlying22 Try.underlying5 Try.underlying9 (hr5.below hS); go_simp <;> with_reducible rfl)
    try simp only [Act.put, List.setIfInBounds_toArray, List.set_cons_zero, List.set_cons_succ]
    clear hr5
    refine wpAnyH_ready (rs := [6, 31]) (by kernel_rfl) (by simp) ?_
    refine AllReadyH.cons rfl (fun K hK => ?_) (AllReadyH.cons rfl (fun K hK => ?_) (AllReadyH.nil))
    go_simp
    refine (B2 _).out.mono ?_
    rintro e x3 ⟨v, rfl, how, hb⟩
    obtain ⟨A5, cc5, rfl, hr5, -⟩ := Rd.of_own how
    have hS2 : (fun W => Below x2.heap.size x2 W) x3 := below_then hS hb (Below.size hS)
    refine hK.out _ _ hS2 (fun _ => ?_)
    clear hK K
    try simp only [Act.put, List.setIfInBounds_toArray, List.set_cons_zero, List.set_cons_succ]
    refine wpAnyH_stronger (S' := fun W => Below x3.heap.size x3 W) (fun W h => below_then hS2 h (Below.size hS2)) _ _ _ _ ?_
    replace hT := below_trans hT hb
    clear hS hS2 hb how
    have hS : (fun W => Below x3.heap.size x3 W) x3 := Below.refl _ _
    refine wpAnyH_take (i := 7) (oi := { dst := some 15, op := Op.convert 22 9 (Operand.tmp 14), type := 9, pos := "ref.go:28", after := #[{ on := 6, ground := Ground.data }], guard := none }) (v := ?_) rfl (by kernel_rfl) (by kernel_rfl) (by kernel_rfl) (fun _ _ _ h => h) (Or.inl ⟨by rfl, ?_⟩) (by assumption) ?_
    rotate_left
    · (intro wS hS; have hk := run_string_of (P := Try.prog) 22 9 5 Try.underlying22 Try.underlying5 Try.underlying9 (hr5.below hS); go_simp <;> with_reducible rfl)
    try simp only [Act.put, List.setIfInBounds_toArray, List.set_cons_zero, List.set_cons_succ]
    clear hr5
    refine wpAnyH_take (i := 8) (oi := { dst := some 16, op := Op.binOp BinOp.add 9 (Operand.tmp 11) (Operand.tmp 15) 9, type := 9, pos := "ref.go:28", after := #[{ on := 3, ground := Ground.data }, { on := 7, ground := Ground.data }], guard := none }) (v := ?_) rfl (by kernel_rfl) (by kernel_rfl) (by kernel_rfl) (fun _ _ _ h => h) (Or.inl ⟨by rfl, ?_⟩) (by assumption) ?_
    rotate_left
    · (intro wS hS; go_simp <;> with_reducible rfl)
    try simp only [Act.put, List.setIfInBounds_toArray, List.set_cons_zero, List.set_cons_succ]
    refine wpAnyH_take (i := 14) (oi := { dst := some 22, op := Op.binOp BinOp.add 9 (Operand.tmp 16) (Operand.tmp 21) 9, type := 9, pos := "ref.go:28", after := #[{ on := 8, ground := Ground.data }, { on := 13, ground := Ground.data }], guard := none }) (v := ?_) rfl (by kernel_rfl) (by kernel_rfl) (by kernel_rfl) (fun _ _ _ h => h) (Or.inl ⟨by rfl, ?_⟩) (by assumption) ?_
    rotate_left
    · (intro wS hS; go_simp <;> with_reducible rfl)
    try simp only [Act.put, List.setIfInBounds_toArray, List.set_cons_zero, List.set_cons_succ]
    refine wpAnyH_ready (rs := [18, 31]) (by kernel_rfl) (by simp) ?_
    refine AllReadyH.cons rfl (fun K hK => ?_) (AllReadyH.cons rfl (fun K hK => ?_) (AllReadyH.nil))
    go_simp
    refine (B3 _).out.mono ?_
    rintro e x4 ⟨v, rfl, how, hb⟩
    obtain ⟨A5, cc5, rfl, hr5, -⟩ := Rd.of_own how
    have hS2 : (fun W => Below x3.heap.size x3 W) x4 := below_then hS hb (Below.size hS)
    refine hK.out _ _ hS2 (fun _ => ?_)
    clear hK K
    try simp only [Act.put, List.setIfInBounds_toArray, List.set_cons_zero, List.set_cons_succ]
    refine wpAnyH_stronger (S' := fun W => Below x4.heap.size x4 W) (fun W h => below_then hS2 h (Below.size hS2)) _ _ _ _ ?_
    replace hT := below_trans hT hb
    clear hS hS2 hb how
    have hS : (fun W => Below x4.heap.size x4 W) x4 := Below.refl _ _
    refine wpAnyH_take (i := 19) (oi := { dst := some 27, op := Op.convert 22 9 (Operand.tmp 26), type := 9, pos := "ref.go:28", after := #[{ on := 18, ground := Ground.data }], guard := none }) (v := ?_) rfl (by kernel_rfl) (by kernel_rfl) (by kernel_rfl) (fun _ _ _ h => h) (Or.inl ⟨by rfl, ?_⟩) (by assumption) ?_
    rotate_left
    · (intro wS hS; have hk := run_string_of (P := Try.prog) 22 9 5 Try.underlying22 Try.underlying5 Try.underlying9 (hr5.below hS); go_simp <;> with_reducible rfl)
    try simp only [Act.put, List.setIfInBounds_toArray, List.set_cons_zero, List.set_cons_succ]
    clear hr5
    refine wpAnyH_take (i := 20) (oi := { dst := some 28, op := Op.binOp BinOp.add 9 (Operand.tmp 22) (Operand.tmp 27) 9, type := 9, pos := "ref.go:28", after := #[{ on := 14, ground := Ground.data }, { on := 19, ground := Ground.data }], guard := none }) (v := ?_) rfl (by kernel_rfl) (by kernel_rfl) (by kernel_rfl) (fun _ _ _ h => h) (Or.inl ⟨by rfl, ?_⟩) (by assumption) ?_
    rotate_left
    · (intro wS hS; go_simp <;> with_reducible rfl)
    try simp only [Act.put, List.setIfInBounds_toArray, List.set_cons_zero, List.set_cons_succ]
    refine wpAnyH_ready (rs := [23, 31]) (by kernel_rfl) (by simp) ?_
    refine AllReadyH.cons rfl (fun K hK => ?_) (AllReadyH.cons rfl (fun K hK => ?_) (AllReadyH.nil))
    go_simp
    refine (B4 _).out.mono ?_
    rintro e x5 ⟨v, rfl, how, hb⟩
    obtain ⟨A5, cc5, rfl, hr5, -⟩ := Rd.of_own how
    have hS2 : (fun W => Below x4.heap.size x4 W) x5 := below_then hS hb (Below.size hS)
    refine hK.out _ _ hS2 (fun _ => ?_)
    clear hK K
    try simp only [Act.put, List.setIfInBounds_toArray, List.set_cons_zero, List.set_cons_succ]
    refine wpAnyH_stronger (S' := fun W => Below x5.heap.size x5 W) (fun W h => below_then hS2 h (Below.size hS2)) _ _ _ _ ?_
    replace hT := below_trans hT hb
    clear hS hS2 hb how
    have hS : (fun W => Below x5.heap.size x5 W) x5 := Below.refl _ _
    refine wpAnyH_take (i := 24) (oi := { dst := some 32, op := Op.convert 22 9 (Operand.tmp 31), type := 9, pos := "ref.go:28", after := #[{ on := 23, ground := Ground.data }], guard := none }) (v := ?_) rfl (by kernel_rfl) (by kernel_rfl) (by kernel_rfl) (fun _ _ _ h => h) (Or.inl ⟨by rfl, ?_⟩) (by assumption) ?_
    rotate_left
    · (intro wS hS; have hk := run_string_of (P := Try.prog) 22 9 5 Try.underlying22 Try.underlying5 Try.underlying9 (hr5.below hS); go_simp <;> with_reducible rfl)
    try simp only [Act.put, List.setIfInBounds_toArray, List.set_cons_zero, List.set_cons_succ]
    clear hr5
    refine wpAnyH_take (i := 25) (oi := { dst := some 33, op := Op.binOp BinOp.add 9 (Operand.tmp 28) (Operand.tmp 32) 9, type := 9, pos := "ref.go:28", after := #[{ on := 20, ground := Ground.data }, { on := 24, ground := Ground.data }], guard := none }) (v := ?_) rfl (by kernel_rfl) (by kernel_rfl) (by kernel_rfl) (fun _ _ _ h => h) (Or.inl ⟨by rfl, ?_⟩) (by assumption) ?_
    rotate_left
    · (intro wS hS; go_simp <;> with_reducible rfl)
    try simp only [Act.put, List.setIfInBounds_toArray, List.set_cons_zero, List.set_cons_succ]
    refine wpAnyH_ready (rs := [31]) (by kernel_rfl) (by simp) ?_
    refine AllReadyH.cons rfl (fun K hK => ?_) (AllReadyH.nil)
    go_simp
    have hb := (one_cells x5 #[.int .u8 (pn : Int), .int .u8 (n : Int)] 5).1
    have hr5 := rd_two H2.out H3.out (w := x5) (e := 5)
    have hS2 : (fun W => Below x5.heap.size x5 W) (x5.alloc (.cells #[.int .u8 (pn : Int), .int .u8 (n : Int)] 5)) := Below.alloc hS (Below.size hS) _
    refine hK.out _ _ hS2 (fun _ => ?_)
    clear hK K
    try simp only [Act.put, List.setIfInBounds_toArray, List.set_cons_zero, List.set_cons_succ]
    refine wpAnyH_stronger (S' := fun W => Below (x5.alloc (.cells #[.int .u8 (pn : Int), .int .u8 (n : Int)] 5)).heap.size (x5.alloc (.cells #[.int .u8 (pn : Int), .int .u8 (n : Int)] 5)) W) (fun W h => below_then hS2 h (Below.size hS2)) _ _ _ _ ?_
    replace hT := below_trans hT hb
    clear hS hS2 hb
    generalize x5.alloc (.cells #[.int .u8 (pn : Int), .int .u8 (n : Int)] 5) = x6 at *
    have hS : (fun W => Below x6.heap.size x6 W) x6 := Below.refl _ _
    refine wpAnyH_take (i := 32) (oi := { dst := some 40, op := Op.convert 22 9 (Operand.tmp 39), type := 9, pos := "ref.go:28", after := #[{ on := 31, ground := Ground.data }], guard := none }) (v := ?_) rfl (by kernel_rfl) (by kernel_rfl) (by kernel_rfl) (fun _ _ _ h => h) (Or.inl ⟨by rfl, ?_⟩) (by assumption) ?_
    rotate_left
    · (intro wS hS; have hk := run_string_of (P := Try.prog) 22 9 5 Try.underlying22 Try.underlying5 Try.underlying9 (hr5.below hS); go_simp <;> with_reducible rfl)
    try simp only [Act.put, List.setIfInBounds_toArray, List.set_cons_zero, List.set_cons_succ]
    clear hr5
    rotate_left
    go_simp
    have hb := (one_cells x4 #[.int .u8 (pn : Int), .int .u8 (n : Int)] 5).1
    have hr5 := rd_two H2.out H3.out (w := x4) (e := 5)
    have hS2 : (fun W => Below x4.heap.size x4 W) (x4.alloc (.cells #[.int .u8 (pn : Int), .int .u8 (n : Int)] 5)) := Below.alloc hS (Below.size hS) _
    refine hK.out _ _ hS2 (fun _ => ?_)
    clear hK K
    try simp only [Act.put, List.setIfInBounds_toArray, List.set_cons_zero, List.set_cons_succ]
    refine wpAnyH_stronger (S' := fun W => Below (x4.alloc (.cells #[.int .u8 (pn : Int), .int .u8 (n : Int)] 5)).heap.size (x4.alloc (.cells #[.int .u8 (pn : Int), .int .u8 (n : Int)] 5)) W) (fun W h => below_then hS2 h (Below.size hS2)) _ _ _ _ ?_
    replace hT := below_trans hT hb
    clear hS hS2 hb
    generalize x4.alloc (.cells #[.int .u8 (pn : Int), .int .u8 (n : Int)] 5) = x5 at *
    have hS : (fun W => Below x5.heap.size x5 W) x5 := Below.refl _ _
    refine wpAnyH_take (i := 32) (oi := { dst := some 40, op := Op.convert 22 9 (Operand.tmp 39), type := 9, pos := "ref.go:28", after := #[{ on := 31, ground := Ground.data }], guard := none }) (v := ?_) rfl (by kernel_rfl) (by kernel_rfl) (by kernel_rfl) (fun _ _ _ h => h) (Or.inl ⟨by rfl, ?_⟩) (by assumption) ?_
    rotate_left
    · (intro wS hS; have hk := run_string_of (P := Try.prog) 22 9 5 Try.underlying22 Try.underlying5 Try.underlying9 (hr5.below hS); go_simp <;> with_reducible rfl)
    try simp only [Act.put, List.setIfInBounds_toArray, List.set_cons_zero, List.set_cons_succ]
    clear hr5
    refine wpAnyH_ready (rs := [23]) (by kernel_rfl) (by simp) ?_
    refine AllReadyH.cons rfl (fun K hK => ?_) (AllReadyH.nil)
    go_simp
    refine (B4 _).out.mono ?_
    rintro e x6 ⟨v, rfl, how, hb⟩
    obtain ⟨A5, cc5, rfl, hr5, -⟩ := Rd.of_own how
    have hS2 : (fun W => Below x5.heap.size x5 W) x6 := below_then hS hb (Below.size hS)
    refine hK.out _ _ hS2 (fun _ => ?_)
    clear hK K
    try simp only [Act.put, List.setIfInBounds_toArray, List.set_cons_zero, List.set_cons_succ]
    refine wpAnyH_stronger (S' := fun W => Below x6.heap.size x6 W) (fun W h => below_then hS2 h (Below.size hS2)) _ _ _ _ ?_
    replace hT := below_trans hT hb
    clear hS hS2 hb how
    have hS : (fun W => Below x6.heap.size x6 W) x6 := Below.refl _ _
    refine wpAnyH_take (i := 24) (oi := { dst := some 32, op := Op.convert 22 9 (Operand.tmp 31), type := 9, pos := "ref.go:28", after := #[{ on := 23, ground := Ground.data }], guard := none }) (v := ?_) rfl (by kernel_rfl) (by kernel_rfl) (by kernel_rfl) (fun _ _ _ h => h) (Or.inl ⟨by rfl, ?_⟩) (by assumption) ?_
    rotate_left
    · (intro wS hS; have hk := run_string_of (P := Try.prog) 22 9 5 Try.underlying22 Try.underlying5 Try.underlying9 (hr5.below hS); go_simp <;> with_reducible rfl)
    try simp only [Act.put, List.setIfInBounds_toArray, List.set_cons_zero, List.set_cons_succ]
    clear hr5
    refine wpAnyH_take (i := 25) (oi := { dst := some 33, op := Op.binOp BinOp.add 9 (Operand.tmp 28) (Operand.tmp 32) 9, type := 9, pos := "ref.go:28", after := #[{ on := 20, ground := Ground.data }, { on := 24, ground := Ground.data }], guard := none }) (v := ?_) rfl (by kernel_rfl) (by kernel_rfl) (by kernel_rfl) (fun _ _ _ h => h) (Or.inl ⟨by rfl, ?_⟩) (by assumption) ?_
    rotate_left
    · (intro wS hS; go_simp <;> with_reducible rfl)
    try simp only [Act.put, List.setIfInBounds_toArray, List.set_cons_zero, List.set_cons_succ]
    rotate_left
    go_simp
    have hb := (one_cells x3 #[.int .u8 (pn : Int), .int .u8 (n : Int)] 5).1
    have hr5 := rd_two H2.out H3.out (w := x3) (e := 5)
    have hS2 : (fun W => Below x3.heap.size x3 W) (x3.alloc (.cells #[.int .u8 (pn : Int), .int .u8 (n : Int)] 5)) := Below.alloc hS (Below.size hS) _
    refine hK.out _ _ hS2 (fun _ => ?_)
    clear hK K
    try simp only [Act.put, List.setIfInBounds_toArray, List.set_cons_zero, List.set_cons_succ]
    refine wpAnyH_stronger (S' := fun W => Below (x3.alloc (.cells #[.int .u8 (pn : Int), .int .u8 (n : Int)] 5)).heap.size (x3.alloc (.cells #[.int .u8 (pn : Int), .int .u8 (n : Int)] 5)) W) (fun W h => below_then hS2 h (Below.size hS2)) _ _ _ _ ?_
    replace hT := below_trans hT hb
    clear hS hS2 hb
    generalize x3.alloc (.cells #[.int .u8 (pn : Int), .int .u8 (n : Int)] 5) = x4 at *
    have hS : (fun W => Below x4.heap.size x4 W) x4 := Below.refl _ _
    refine wpAnyH_take (i := 32) (oi := { dst := some 40, op := Op.convert 22 9 (Operand.tmp 39), type := 9, pos := "ref.go:28", after := #[{ on := 31, ground := Ground.data }], guard := none }) (v := ?_) rfl (by kernel_rfl) (by kernel_rfl) (by kernel_rfl) (fun _ _ _ h => h) (Or.inl ⟨by rfl, ?_⟩) (by assumption) ?_
    rotate_left
    · (intro wS hS; have hk := run_string_of (P := Try.prog) 22 9 5 Try.underlying22 Try.underlying5 Try.underlying9 (hr5.below hS); go_simp <;> with_reducible rfl)
    try simp only [Act.put, List.setIfInBounds_toArray, List.set_cons_zero, List.set_cons_succ]
    clear hr5
    refine wpAnyH_ready (rs := [18]) (by kernel_rfl) (by simp) ?_
    refine AllReadyH.cons rfl (fun K hK => ?_) (AllReadyH.nil)
    go_simp
    refine (B3 _).out.mono ?_
    rintro e x5 ⟨v, rfl, how, hb⟩
    obtain ⟨A5, cc5, rfl, hr5, -⟩ := Rd.of_own how
    have hS2 : (fun W => Below x4.heap.size x4 W) x5 := below_then hS hb (Below.size hS)
    refine hK.out _ _ hS2 (fun _ => ?_)
    clear hK K
    try simp only [Act.put, List.setIfInBounds_toArray, List.set_cons_zero, List.set_cons_succ]
    refine wpAnyH_stronger (S' := fun W => Below x5.heap.size x5 W) (fun W h => below_then hS2 h (Below.size hS2)) _ _ _ _ ?_
    replace hT := below_trans hT hb
    clear hS hS2 hb how
    have hS : (fun W => Below x5.heap.size x5 W) x5 := Below.refl _ _
    refine wpAnyH_take (i := 19) (oi := { dst := some 27, op := Op.convert 22 9 (Operand.tmp 26), type := 9, pos := "ref.go:28", after := #[{ on := 18, ground := Ground.data }], guard := none }) (v := ?_) rfl (by kernel_rfl) (by kernel_rfl) (by kernel_rfl) (fun _ _ _ h => h) (Or.inl ⟨by rfl, ?_⟩) (by assumption) ?_
    rotate_left
    · (intro wS hS; have hk := run_string_of (P := Try.prog) 22 9 5 Try.underlying22 Try.underlying5 Try.underlying9 (hr5.below hS); go_simp <;> with_reducible rfl)
    try simp only [Act.put, List.setIfInBounds_toArray, List.set_cons_zero, List.set_cons_succ]
    clear hr5
    refine wpAnyH_take (i := 20) (oi := { dst := some 28, op := Op.binOp BinOp.add 9 (Operand.tmp 22) (Operand.tmp 27) 9, type := 9, pos := "ref.go:28", after := #[{ on := 14, ground := Ground.data }, { on := 19, ground := Ground.data }], guard := none }) (v := ?_) rfl (by kernel_rfl) (by kernel_rfl) (by kernel_rfl) (fun _ _ _ h => h) (Or.inl ⟨by rfl, ?_⟩) (by assumption) ?_
    rotate_left
    · (intro wS hS; go_simp <;> with_reducible rfl)
    try simp only [Act.put, List.setIfInBounds_toArray, List.set_cons_zero, List.set_cons_succ]
    refine wpAnyH_ready (rs := [23]) (by kernel_rfl) (by simp) ?_
    refine AllReadyH.cons rfl (fun K hK => ?_) (AllReadyH.nil)
    go_simp
    refine (B4 _).out.mono ?_
    rintro e x6 ⟨v, rfl, how, hb⟩
    obtain ⟨A5, cc5, rfl, hr5, -⟩ := Rd.of_own how
    have hS2 : (fun W => Below x5.heap.size x5 W) x6 := below_then hS hb (Below.size hS)
    refine hK.out _ _ hS2 (fun _ => ?_)
    clear hK K
    try simp only [Act.put, List.setIfInBounds_toArray, List.set_cons_zero, List.set_cons_succ]
    refine wpAnyH_stronger (S' := fun W => Below x6.heap.size x6 W) (fun W h => below_then hS2 h (Below.size hS2)) _ _ _ _ ?_
    replace hT := below_trans hT hb
    clear hS hS2 hb how
    have hS : (fun W => Below x6.heap.size x6 W) x6 := Below.refl _ _
    refine wpAnyH_take (i := 24) (oi := { dst := some 32, op := Op.convert 22 9 (Operand.tmp 31), type := 9, pos := "ref.go:28", after := #[{ on := 23, ground := Ground.data }], guard := none }) (v := ?_) rfl (by kernel_rfl) (by kernel_rfl) (by kernel_rfl) (fun _ _ _ h => h) (Or.inl ⟨by rfl, ?_⟩) (by assumption) ?_
    rotate_left
    · (intro wS hS; have hk := run_string_of (P := Try.prog) 22 9 5 Try.underlying22 Try.underlying5 Try.underlying9 (hr5.below hS); go_simp <;> with_reducible rfl)
    try simp only [Act.put, List.setIfInBounds_toArray, List.set_cons_zero, List.set_cons_succ]
    clear hr5
    refine wpAnyH_take (i := 25) (oi := { dst := some 33, op := Op.binOp BinOp.add 9 (Operand.tmp 28) (Operand.tmp 32) 9, type := 9, pos := "ref.go:28", after := #[{ on := 20, ground := Ground.data }, { on := 24, ground := Ground.data }], guard := none }) (v := ?_) rfl (by kernel_rfl) (by kernel_rfl) (by kernel_rfl) (fun _ _ _ h => h) (Or.inl ⟨by rfl, ?_⟩) (by assumption) ?_
    rotate_left
    · (intro wS hS; go_simp <;> with_reducible rfl)
    try simp only [Act.put, List.setIfInBounds_toArray, List.set_cons_zero, List.set_cons_succ]
    rotate_left
    go_simp
    have hb := (one_cells x2 #[.int .u8 (pn : Int), .int .u8 (n : Int)] 5).1
    have hr5 := rd_two H2.out H3.out (w := x2) (e := 5)
    have hS2 : (fun W => Below x2.heap.size x2 W) (x2.alloc (.cells #[.int .u8 (pn : Int), .int .u8 (n : Int)] 5)) := Below.alloc hS (Below.size hS) _
    refine hK.out _ _ hS2 (fun _ => ?_)
    clear hK K
    try simp only [Act.put, List.setIfInBounds_toArray, List.set_cons_zero, List.set_cons_succ]
    refine wpAnyH_stronger (S' := fun W => Below (x2.alloc (.cells #[.int .u8 (pn : Int), .int .u8 (n : Int)] 5)).heap.size (x2.alloc (.cells #[.int .u8 (pn : Int), .int .u8 (n : Int)] 5)) W) (fun W h => below_then hS2 h (Below.size hS2)) _ _ _ _ ?_
    replace hT := below_trans hT hb
    clear hS hS2 hb
    generalize x2.alloc (.cells #[.int .u8 (pn : Int), .int .u8 (n : Int)] 5) = x3 at *
    have hS : (fun W => Below x3.heap.size x3 W) x3 := Below.refl _ _
    refine wpAnyH_take (i := 32) (oi := { dst := some 40, op := Op.convert 22 9 (Operand.tmp 39), type := 9, pos := "ref.go:28", after := #[{ on := 31, ground := Ground.data }], guard := none }) (v := ?_) rfl (by kernel_rfl) (by kernel_rfl) (by kernel_rfl) (fun _ _ _ h => h) (Or.inl ⟨by rfl, ?_⟩) (by assumption) ?_
    rotate_left
    · (intro wS hS; have hk := run_string_of (P := Try.prog) 22 9 5 Try.underlying22 Try.underlying5 Try.underlying9 (hr5.below hS); go_simp <;> with_reducible rfl)
    try simp only [Act.put, List.setIfInBounds_toArray, List.set_cons_zero, List.set_cons_succ]
    clear hr5
    refine wpAnyH_ready (rs := [6]) (by kernel_rfl) (by simp) ?_
    refine AllReadyH.cons rfl (fun K hK => ?_) (AllReadyH.nil)
    go_simp
    refine (B2 _).out.mono ?_
    rintro e x4 ⟨v, rfl, how, hb⟩
    obtain ⟨A5, cc5, rfl, hr5, -⟩ := Rd.of_own how
    have hS2 : (fun W => Below x3.heap.size x3 W) x4 := below_then hS hb (Below.size hS)
    refine hK.out _ _ hS2 (fun _ => ?_)
    clear hK K
    try simp only [Act.put, List.setIfInBounds_toArray, List.set_cons_zero, List.set_cons_succ]
    refine wpAnyH_stronger (S' := fun W => Below x4.heap.size x4 W) (fun W h => below_then hS2 h (Below.size hS2)) _ _ _ _ ?_
    replace hT := below_trans hT hb
    clear hS hS2 hb how
    have hS : (fun W => Below x4.heap.size x4 W) x4 := Below.refl _ _
    refine wpAnyH_take (i := 7) (oi := { dst := some 15, op := Op.convert 22 9 (Operand.tmp 14), type := 9, pos := "ref.go:28", after := #[{ on := 6, ground := Ground.data }], guard := none }) (v := ?_) rfl (by kernel_rfl) (by kernel_rfl) (by kernel_rfl) (fun _ _ _ h => h) (Or.inl ⟨by rfl, ?_⟩) (by assumption) ?_
    rotate_left
    · (intro wS hS; have hk := run_string_of (P := Try.prog) 22 9 5 Try.underlying22 Try.underlying5 Try.underlying9 (hr5.below hS); go_simp <;> with_reducible rfl)
    try simp only [Act.put, List.setIfInBounds_toArray, List.set_cons_zero, List.set_cons_succ]
    clear hr5
    refine wpAnyH_take (i := 8) (oi := { dst := some 16, op := Op.binOp BinOp.add 9 (Operand.tmp 11) (Operand.tmp 15) 9, type := 9, pos := "ref.go:28", after := #[{ on := 3, ground := Ground.data }, { on := 7, ground := Ground.data }], guard := none }) (v := ?_) rfl (by kernel_rfl) (by kernel_rfl) (by kernel_rfl) (fun _ _ _ h => h) (Or.inl ⟨by rfl, ?_⟩) (by assumption) ?_
    rotate_left
    · (intro wS hS; go_simp <;> with_reducible rfl)
    try simp only [Act.put, List.setIfInBounds_toArray, List.set_cons_zero, List.set_cons_succ]
    refine wpAnyH_take (i := 14) (oi := { dst := some 22, op := Op.binOp BinOp.add 9 (Operand.tmp 16) (Operand.tmp 21) 9, type := 9, pos := "ref.go:28", after := #[{ on := 8, ground := Ground.data }, { on := 13, ground := Ground.data }], guard := none }) (v := ?_) rfl (by kernel_rfl) (by kernel_rfl) (by kernel_rfl) (fun _ _ _ h => h) (Or.inl ⟨by rfl, ?_⟩) (by assumption) ?_
    rotate_left
    · (intro wS hS; go_simp <;> with_reducible rfl)
    try simp only [Act.put, List.setIfInBounds_toArray, List.set_cons_zero, List.set_cons_succ]
    refine wpAnyH_ready (rs := [18]) (by kernel_rfl) (by simp) ?_
    refine AllReadyH.cons rfl (fun K hK => ?_) (AllReadyH.nil)
    go_simp
    refine (B3 _).out.mono ?_
    rintro e x5 ⟨v, rfl, how, hb⟩
    obtain ⟨A5, cc5, rfl, hr5, -⟩ := Rd.of_own how
    have hS2 : (fun W => Below x4.heap.size x4 W) x5 := below_then hS hb (Below.size hS)
    refine hK.out _ _ hS2 (fun _ => ?_)
    clear hK K
    try simp only [Act.put, List.setIfInBounds_toArray, List.set_cons_zero, List.set_cons_succ]
    refine wpAnyH_stronger (S' := fun W => Below x5.heap.size x5 W) (fun W h => below_then hS2 h (Below.size hS2)) _ _ _ _ ?_
    replace hT := below_trans hT hb
    clear hS hS2 hb how
    have hS : (fun W => Below x5.heap.size x5 W) x5 := Below.refl _ _
    refine wpAnyH_take (i := 19) (oi := { dst := some 27, op := Op.convert 22 9 (Operand.tmp 26), type := 9, pos := "ref.go:28", after := #[{ on := 18, ground := Ground.data }], guard := none }) (v := ?_) rfl (by kernel_rfl) (by kernel_rfl) (by kernel_rfl) (fun _ _ _ h => h) (Or.inl ⟨by rfl, ?_⟩) (by assumption) ?_
    rotate_left
    · (intro wS hS; have hk := run_string_of (P := Try.prog) 22 9 5 Try.underlying22 Try.underlying5 Try.underlying9 (hr5.below hS); go_simp <;> with_reducible rfl)
    try simp only [Act.put, List.setIfInBounds_toArray, List.set_cons_zero, List.set_cons_succ]
    clear hr5
    refine wpAnyH_take (i := 20) (oi := { dst := some 28, op := Op.binOp BinOp.add 9 (Operand.tmp 22) (Operand.tmp 27) 9, type := 9, pos := "ref.go:28", after := #[{ on := 14, ground := Ground.data }, { on := 19, ground := Ground.data }], guard := none }) (v := ?_) rfl (by kernel_rfl) (by kernel_rfl) (by kernel_rfl) (fun _ _ _ h => h) (Or.inl ⟨by rfl, ?_⟩) (by assumption) ?_
    rotate_left
    · (intro wS hS; go_simp <;> with_reducible rfl)
    try simp only [Act.put, List.setIfInBounds_toArray, List.set_cons_zero, List.set_cons_succ]
    refine wpAnyH_ready (rs := [23]) (by kernel_rfl) (by simp) ?_
    refine AllReadyH.cons rfl (fun K hK => ?_) (AllReadyH.nil)
    go_simp
    refine (B4 _).out.mono ?_
    rintro e x6 ⟨v, rfl, how, hb⟩
    obtain ⟨A5, cc5, rfl, hr5, -⟩ := Rd.of_own how
    have hS2 : (fun W => Below x5.heap.size x5 W) x6 := below_then hS hb (Below.size hS)
    refine hK.out _ _ hS2 (fun _ => ?_)
    clear hK K
    try simp only [Act.put, List.setIfInBounds_toArray, List.set_cons_zero, List.set_cons_succ]
    refine wpAnyH_stronger (S' := fun W => Below x6.heap.size x6 W) (fun W h => below_then hS2 h (Below.size hS2)) _ _ _ _ ?_
    replace hT := below_trans hT hb
    clear hS hS2 hb how
    have hS : (fun W => Below x6.heap.size x6 W) x6 := Below.refl _ _
    refine wpAnyH_take (i := 24) (oi := { dst := some 32, op := Op.convert 22 9 (Operand.tmp 31), type := 9, pos := "ref.go:28", after := #[{ on := 23, ground := Ground.data }], guard := none }) (v := ?_) rfl (by kernel_rfl) (by kernel_rfl) (by kernel_rfl) (fun _ _ _ h => h) (Or.inl ⟨by rfl, ?_⟩) (by assumption) ?_
    rotate_left
    · (intro wS hS; have hk := run_string_of (P := Try.prog) 22 9 5 Try.underlying22 Try.underlying5 Try.underlying9 (hr5.below hS); go_simp <;> with_reducible rfl)
    try simp only [Act.put, List.setIfInBounds_toArray, List.set_cons_zero, List.set_cons_succ]
    clear hr5
    refine wpAnyH_take (i := 25) (oi := { dst := some 33, op := Op.binOp BinOp.add 9 (Operand.tmp 28) (Operand.tmp 32) 9, type := 9, pos := "ref.go:28", after := #[{ on := 20, ground := Ground.data }, { on := 24, ground := Ground.data }], guard := none }) (v := ?_) rfl (by kernel_rfl) (by kernel_rfl) (by kernel_rfl) (fun _ _ _ h => h) (Or.inl ⟨by rfl, ?_⟩) (by assumption) ?_
    rotate_left
    · (intro wS hS; go_simp <;> with_reducible rfl)
    try simp only [Act.put, List.setIfInBounds_toArray, List.set_cons_zero, List.set_cons_succ]
    rotate_left
    go_simp
    have hb := (one_cells x1 #[.int .u8 (pn : Int), .int .u8 (n : Int)] 5).1
    have hr5 := rd_two H2.out H3.out (w := x1) (e := 5)
    have hS2 : (fun W => Below x1.heap.size x1 W) (x1.alloc (.cells #[.int .u8 (pn : Int), .int .u8 (n : Int)] 5)) := Below.alloc hS (Below.size hS) _
    refine hK.out _ _ hS2 (fun _ => ?_)
    clear hK K
    try simp only [Act.put, List.setIfInBounds_toArray, List.set_cons_zero, List.set_cons_succ]
    refine wpAnyH_stronger (S' := fun W => Below (x1.alloc (.cells #[.int .u8 (pn : Int), .int .u8 (n : Int)] 5)).heap.size (x1.alloc (.cells #[.int .u8 (pn : Int), .int .u8 (n : Int)] 5)) W) (fun W h => below_then hS2 h (Below.size hS2)) _ _ _ _ ?_
    replace hT := below_trans hT hb
    clear hS hS2 hb
    generalize x1.alloc (.cells #[.int .u8 (pn : Int), .int .u8 (n : Int)] 5) = x2 at *
    have hS : (fun W => Below x2.heap.size x2 W) x2 := Below.refl _ _
    refine wpAnyH_take (i := 32) (oi := { dst := some 40, op := Op.convert 22 9 (Operand.tmp 39), type := 9, pos := "ref.go:28", after := #[{ on := 31, ground := Ground.data }], guard := none }) (v := ?_) rfl (by kernel_rfl) (by kernel_rfl) (by kernel_rfl) (fun _ _ _ h => h) (Or.inl ⟨by rfl, ?_⟩) (by assumption) ?_
    rotate_left
    · (intro wS hS; have hk := run_string_of (P := Try.prog) 22 9 5 Try.underlying22 Try.underlying5 Try.underlying9 (hr5.below hS); go_simp <;> with_reducible rfl)
    try simp only [Act.put, List.setIfInBounds_toArray, List.set_cons_zero, List.set_cons_succ]
    clear hr5
    refine wpAnyH_ready (rs := [6, 12]) (by kernel_rfl) (by simp) ?_
    refine AllReadyH.cons rfl (fun K hK => ?_) (AllReadyH.cons rfl (fun K hK => ?_) (AllReadyH.nil))
    go_simp
    refine (B2 _).out.mono ?_
    rintro e x3 ⟨v, rfl, how, hb⟩
    obtain ⟨A5, cc5, rfl, hr5, -⟩ := Rd.of_own how
    have hS2 : (fun W => Below x2.heap.size x2 W) x3 := below_then hS hb (Below.size hS)
    refine hK.out _ _ hS2 (fun _ => ?_)
    clear hK K
    try simp only [Act.put, List.setIfInBounds_toArray, List.set_cons_zero, List.set_cons_succ]
    refine wpAnyH_stronger (S' := fun W => Below x3.heap.size x3 W) (fun W h => below_then hS2 h (Below.size hS2)) _ _ _ _ ?_
    replace hT := below_trans hT hb
    clear hS hS2 hb how
    have hS : (fun W => Below x3.heap.size x3 W) x3 := Below.refl _ _
    refine wpAnyH_take (i := 7) (oi := { dst := some 15, op := Op.convert 22 9 (Operand.tmp 14), type := 9, pos := "ref.go:28", after := #[{ on := 6, ground := Ground.data }], guard := none }) (v := ?_) rfl (by kernel_rfl) (by kernel_rfl) (by kernel_rfl) (fun _ _ _ h => h) (Or.inl ⟨by rfl, ?_⟩) (by assumption) ?_
    rotate_left
    · (intro wS hS; have hk := run_string_of (P := Try.prog) 22 9 5 Try.underlying22 Try.underlying5 Try.underlying9 (hr5.below hS); go_simp <;> with_reducible rfl)
    try simp only [Act.put, List.setIfInBounds_toArray, List.set_cons_zero, List.set_cons_succ]
    clear hr5
    refine wpAnyH_take (i := 8) (oi := { dst := some 16, op := Op.binOp BinOp.add 9 (Operand.tmp 11) (Operand.tmp 15) 9, type := 9, pos := "ref.go:28", after := #[{ on := 3, ground := Ground.data }, { on := 7, ground := Ground.data }], guard := none }) (v := ?_) rfl (by kernel_rfl) (by kernel_rfl) (by kernel_rfl) (fun _ _ _ h => h) (Or.inl ⟨by rfl, ?_⟩) (by assumption) ?_
    rotate_left
    · (intro wS hS; go_simp <;> with_reducible rfl)
    try simp only [Act.put, List.setIfInBounds_toArray, List.set_cons_zero, List.set_cons_succ]
    refine wpAnyH_ready (rs := [12, 18]) (by kernel_rfl) (by simp) ?_
    refine AllReadyH.cons rfl (fun K hK => ?_) (AllReadyH.cons rfl (fun K hK => ?_) (AllReadyH.nil))
    go_simp
    have hb := (one_cells x3 #[.int .u8 (pr : Int)] 5).1
    have hr5 := rd_one H1.out (w := x3) (e := 5)
    have hS2 : (fun W => Below x3.heap.size x3 W) (x3.alloc (.cells #[.int .u8 (pr : Int)] 5)) := Below.alloc hS (Below.size hS) _
    refine hK.out _ _ hS2 (fun _ => ?_)
    clear hK K
    try simp only [Act.put, List.setIfInBounds_toArray, List.set_cons_zero, List.set_cons_succ]
    refine wpAnyH_stronger (S' := fun W => Below (x3.alloc (.cells #[.int .u8 (pr : Int)] 5)).heap.size (x3.alloc (.cells #[.int .u8 (pr : Int)] 5)) W) (fun W h => below_then hS2 h (Below.size hS2)) _ _ _ _ ?_
    replace hT := below_trans hT hb
    clear hS hS2 hb
    generalize x3.alloc (.cells #[.int .u8 (pr : Int)] 5) = x4 at *
    have hS : (fun W => Below x4.heap.size x4 W) x4 := Below.refl _ _
    refine wpAnyH_take (i := 13) (oi := { dst := some 21, op := Op.convert 22 9 (Operand.tmp 20), type := 9, pos := "ref.go:28", after := #[{ on := 12, ground := Ground.data }], guard := none }) (v := ?_) rfl (by kernel_rfl) (by kernel_rfl) (by kernel_rfl) (fun _ _ _ h => h) (Or.inl ⟨by rfl, ?_⟩) (by assumption) ?_
    rotate_left
    · (intro wS hS; have hk := run_string_of (P := Try.prog) 22 9 5 Try.underlying22 Try.underlying5 Try.underlying9 (hr5.below hS); go_simp <;> with_reducible rfl)
    try simp only [Act.put, List.setIfInBounds_toArray, List.set_cons_zero, List.set_cons_succ]
    clear hr5
    refine wpAnyH_take (i := 14) (oi := { dst := some 22, op := Op.binOp BinOp.add 9 (Operand.tmp 16) (Operand.tmp 21) 9, type := 9, pos := "ref.go:28", after := #[{ on := 8, ground := Ground.data }, { on := 13, ground := Ground.data }], guard := none }) (v := ?_) rfl (by kernel_rfl) (by kernel_rfl) (by kernel_rfl) (fun _ _ _ h => h) (Or.inl ⟨by rfl, ?_⟩) (by assumption) ?_
    rotate_left
    · (intro wS hS; go_simp <;> with_reducible rfl)
    try simp only [Act.put, List.setIfInBounds_toArray, List.set_cons_zero, List.set_cons_succ]
    refine wpAnyH_ready (rs := [18]) (by kernel_rfl) (by simp) ?_
    refine AllReadyH.cons rfl (fun K hK => ?_) (AllReadyH.nil)
    go_simp
    refine (B3 _).out.mono ?_
    rintro e x5 ⟨v, rfl, how, hb⟩
    obtain ⟨A5, cc5, rfl, hr5, -⟩ := Rd.of_own how
    have hS2 : (fun W => Below x4.heap.size x4 W) x5 := below_then hS hb (Below.size hS)
    refine hK.out _ _ hS2 (fun _ => ?_)
    clear hK K
    try simp only [Act.put, List.setIfInBounds_toArray, List.set_cons_zero, List.set_cons_succ]
    refine wpAnyH_stronger (S' := fun W => Below x5.heap.size x5 W) (fun W h => below_then hS2 h (Below.size hS2)) _ _ _ _ ?_
    replace hT := below_trans hT hb
    clear hS hS2 hb how
    have hS : (fun W => Below x5.heap.size x5 W) x5 := Below.refl _ _
    refine wpAnyH_take (i := 19) (oi := { dst := some 27, op := Op.convert 22 9 (Operand.tmp 26), type := 9, pos := "ref.go:28", after := #[{ on := 18, ground := Ground.data }], guard := none }) (v := ?_) rfl (by kernel_rfl) (by kernel_rfl) (by kernel_rfl) (fun _ _ _ h => h) (Or.inl ⟨by rfl, ?_⟩) (by assumption) ?_
    rotate_left
    · (intro wS hS; have hk := run_string_of (P := Try.prog) 22 9 5 Try.underlying22 Try.underlying5 Try.underlying9 (hr5.below hS); go_simp <;> with_reducible rfl)
    try simp only [Act.put, List.setIfInBounds_toArray, List.set_cons_zero, List.set_cons_succ]
    clear hr5
    refine wpAnyH_take (i := 20) (oi := { dst := some 28, op := Op.binOp BinOp.add 9 (Operand.tmp 22) (Operand.tmp 27) 9, type := 9, pos := "ref.go:28", after := #[{ on := 14, ground := Ground.data }, { on := 19, ground := Ground.data }], guard := none }) (v := ?_) rfl (by kernel_rfl) (by kernel_rfl) (by kernel_rfl) (fun _ _ _ h => h) (Or.inl ⟨by rfl, ?_⟩) (by assumption) ?_
    rotate_left
    · (intro wS hS; go_simp <;> with_reducible rfl)
    try simp only [Act.put, List.setIfInBounds_toArray, List.set_cons_zero, List.set_cons_succ]
    refine wpAnyH_ready (rs := [23]) (by kernel_rfl) (by simp) ?_
    refine AllReadyH.cons rfl (fun K hK => ?_) (AllReadyH.nil)
    go_simp
    refine (B4 _).out.mono ?_
    rintro e x6 ⟨v, rfl, how, hb⟩
    obtain ⟨A5, cc5, rfl, hr5, -⟩ := Rd.of_own how
    have hS2 : (fun W => Below x5.heap.size x5 W) x6 := below_then hS hb (Below.size hS)
    refine hK.out _ _ hS2 (fun _ => ?_)
    clear hK K
    try simp only [Act.put, List.setIfInBounds_toArray, List.set_cons_zero, List.set_cons_succ]
    refine wpAnyH_stronger (S' := fun W => Below x6.heap.size x6 W) (fun W h => below_then hS2 h (Below.size hS2)) _ _ _ _ ?_
    replace hT := below_trans hT hb
    clear hS hS2 hb how
    have hS : (fun W => Below x6.heap.size x6 W) x6 := Below.refl _ _
    refine wpAnyH_take (i := 24) (oi := { dst := some 32, op := Op.convert 22 9 (Operand.tmp 31), type := 9, pos := "ref.go:28", after := #[{ on := 23, ground := Ground.data }], guard := none }) (v := ?_) rfl (by kernel_rfl) (by kernel_rfl) (by kernel_rfl) (fun _ _ _ h => h) (Or.inl ⟨by rfl, ?_⟩) (by assumption) ?_
    rotate_left
    · (intro wS hS; have hk := run_string_of (P := Try.prog) 22 9 5 Try.underlying22 Try.underlying5 Try.underlying9 (hr5.below hS); go_simp <;> with_reducible rfl)
    try simp only [Act.put, List.setIfInBounds_toArray, List.set_cons_zero, List.set_cons_succ]
    clear hr5
    refine wpAnyH_take (i := 25) (oi := { dst := some 33, op := Op.binOp BinOp.add 9 (Operand.tmp 28) (Operand.tmp 32) 9, type := 9, pos := "ref.go:28", after := #[{ on := 20, ground := Ground.data }, { on := 24, ground := Ground.data }], guard := none }) (v := ?_) rfl (by kernel_rfl) (by kernel_rfl) (by kernel_rfl) (fun _ _ _ h => h) (Or.inl ⟨by rfl, ?_⟩) (by assumption) ?_
    rotate_left
    · (intro wS hS; go_simp <;> with_reducible rfl)
    try simp only [Act.put, List.setIfInBounds_toArray, List.set_cons_zero, List.set_cons_succ]
    rotate_left
    go_simp
    refine (B3 _).out.mono ?_
    rintro e x4 ⟨v, rfl, how, hb⟩
    obtain ⟨A5, cc5, rfl, hr5, -⟩ := Rd.of_own how
    have hS2 : (fun W => Below x3.heap.size x3 W) x4 := below_then hS hb (Below.size hS)
    refine hK.out _ _ hS2 (fun _ => ?_)
    clear hK K
    try simp only [Act.put, List.setIfInBounds_toArray, List.set_cons_zero, List.set_cons_succ]
    refine wpAnyH_stronger (S' := fun W => Below x4.heap.size x4 W) (fun W h => below_then hS2 h (Below.size hS2)) _ _ _ _ ?_
    replace hT := below_trans hT hb
    clear hS hS2 hb how
    have hS : (fun W => Below x4.heap.size x4 W) x4 := Below.refl _ _
    refine wpAnyH_take (i := 19) (oi := { dst := some 27, op := Op.convert 22 9 (Operand.tmp 26), type := 9, pos := "ref.go:28", after := #[{ on := 18, ground := Ground.data }], guard := none }) (v := ?_) rfl (by kernel_rfl) (by kernel_rfl) (by kernel_rfl) (fun _ _ _ h => h) (Or.inl ⟨by rfl, ?_⟩) (by assumption) ?_
    rotate_left
    · (intro wS hS; have hk := run_string_of (P := Try.prog) 22 9 5 Try.underlying22 Try.underlying5 Try.underlying9 (hr5.below hS); go_simp <;> with_reducible rfl)
    try simp only [Act.put, List.setIfInBounds_toArray, List.set_cons_zero, List.set_cons_succ]
    clear hr5
    refine wpAnyH_ready (rs := [12, 23]) (by kernel_rfl) (by simp) ?_
    refine AllReadyH.cons rfl (fun K hK => ?_) (AllReadyH.cons rfl (fun K hK => ?_) (AllReadyH.nil))
    go_simp
    have hb := (one_cells x4 #[.int .u8 (pr : Int)] 5).1
    have hr5 := rd_one H1.out (w := x4) (e := 5)
    have hS2 : (fun W => Below x4.heap.size x4 W) (x4.alloc (.cells #[.int .u8 (pr : Int)] 5)) := Below.alloc hS (Below.size hS) _
    refine hK.out _ _ hS2 (fun _ => ?_)
    clear hK K
    try simp only [Act.put, List.setIfInBounds_toArray, List.set_cons_zero, List.set_cons_succ]
    refine wpAnyH_stronger (S' := fun W => Below (x4.alloc (.cells #[.int .u8 (pr : Int)] 5)).heap.size (x4.alloc (.cells #[.int .u8 (pr : Int)] 5)) W) (fun W h => below_then hS2 h (Below.size hS2)) _ _ _ _ ?_
    replace hT := below_trans hT hb
    clear hS hS2 hb
    generalize x4.alloc (.cells #[.int .u8 (pr : Int)] 5) = x5 at *
    have hS : (fun W => Below x5.heap.size x5 W) x5 := Below.refl _ _
    refine wpAnyH_take (i := 13) (oi := { dst := some 21, op := Op.convert 22 9 (Operand.tmp 20), type := 9, pos := "ref.go:28", after := #[{ on := 12, ground := Ground.data }], guard := none }) (v := ?_) rfl (by kernel_rfl) (by kernel_rfl) (by kernel_rfl) (fun _ _ _ h => h) (Or.inl ⟨by rfl, ?_⟩) (by assumption) ?_
    rotate_left
    · (intro wS hS; have hk := run_string_of (P := Try.prog) 22 9 5 Try.underlying22 Try.underlying5 Try.underlying9 (hr5.below hS); go_simp <;> with_reducible rfl)
    try simp only [Act.put, List.setIfInBounds_toArray, List.set_cons_zero, List.set_cons_succ]
    clear hr5
    refine wpAnyH_take (i := 14) (oi := { dst := some 22, op := Op.binOp BinOp.add 9 (Operand.tmp 16) (Operand.tmp 21) 9, type := 9, pos := "ref.go:28", after := #[{ on := 8, ground := Ground.data }, { on := 13, ground := Ground.data }], guard := none }) (v := ?_) rfl (by kernel_rfl) (by kernel_rfl) (by kernel_rfl) (fun _ _ _ h => h) (Or.inl ⟨by rfl, ?_⟩) (by assumption) ?_
    rotate_left
    · (intro wS hS; go_simp <;> with_reducible rfl)
    try simp only [Act.put, List.setIfInBounds_toArray, List.set_cons_zero, List.set_cons_succ]
    refine wpAnyH_take (i := 20) (oi := { dst := some 28, op := Op.binOp BinOp.add 9 (Operand.tmp 22) (Operand.tmp 27) 9, type := 9, pos := "ref.go:28", after := #[{ on := 14, ground := Ground.data }, { on := 19, ground := Ground.data }], guard := none }) (v := ?_) rfl (by kernel_rfl) (by kernel_rfl) (by kernel_rfl) (fun _ _ _ h => h) (Or.inl ⟨by rfl, ?_⟩) (by assumption) ?_
    rotate_left
    · (intro wS hS; go_simp <;> with_reducible rfl)
    try simp only [Act.put, List.setIfInBounds_toArray, List.set_cons_zero, List.set_cons_succ]
    refine wpAnyH_ready (rs := [23]) (by kernel_rfl) (by simp) ?_
    refine AllReadyH.cons rfl (fun K hK => ?_) (AllReadyH.nil)
    go_simp
    refine (B4 _).out.mono ?_
    rintro e x6 ⟨v, rfl, how, hb⟩
    obtain ⟨A5, cc5, rfl, hr5, -⟩ := Rd.of_own how
    have hS2 : (fun W => Below x5.heap.size x5 W) x6 := below_then hS hb (Below.size hS)
    refine hK.out _ _ hS2 (fun _ => ?_)
    clear hK K
    try simp only [Act.put, List.setIfInBounds_toArray, List.set_cons_zero, List.set_cons_succ]
    refine wpAnyH_stronger (S' := fun W => Below x6.heap.size x6 W) (fun W h => below_then hS2 h (Below.size hS2)) _ _ _ _ ?_
    replace hT := below_trans hT hb
    clear hS hS2 hb how
    have hS : (fun W => Below x6.heap.size x6 W) x6 := Below.refl _ _
    refine wpAnyH_take (i := 24) (oi := { dst := some 32, op := Op.convert 22 9 (Operand.tmp 31), type := 9, pos := "ref.go:28", after := #[{ on := 23, ground := Ground.data }], guard := none }) (v := ?_) rfl (by kernel_rfl) (by kernel_rfl) (by kernel_rfl) (fun _ _ _ h => h) (Or.inl ⟨by rfl, ?_⟩) (by assumption) ?_
    rotate_left
    · (intro wS hS; have hk := run_string_of (P := Try.prog) 22 9 5 Try.underlying22 Try.underlying5 Try.underlying9 (hr5.below hS); go_simp <;> with_reducible rfl)
    try simp only [Act.put, List.setIfInBounds_toArray, List.set_cons_zero, List.set_cons_succ]
    clear hr5
    refine wpAnyH_take (i := 25) (oi := { dst := some 33, op := Op.binOp BinOp.add 9 (Operand.tmp 28) (Operand.tmp 32) 9, type := 9, pos := "ref.go:28", after := #[{ on := 20, ground := Ground.data }, { on := 24, ground := Ground.data }], guard := none }) (v := ?_) rfl (by kernel_rfl) (by kernel_rfl) (by kernel_rfl) (fun _ _ _ h => h) (Or.inl ⟨by rfl, ?_⟩) (by assumption) ?_
    rotate_left
    · (intro wS hS; go_simp <;> with_reducible rfl)
    try simp only [Act.put, List.setIfInBounds_toArray, List.set_cons_zero, List.set_cons_succ]
    rotate_left
    go_simp
    refine (B4 _).out.mono ?_
    rintro e x5 ⟨v, rfl, how, hb⟩
    obtain ⟨A5, cc5, rfl, hr5, -⟩ := Rd.of_own how
    have hS2 : (fun W => Below x4.heap.size x4 W) x5 := below_then hS hb (Below.size hS)
    refine hK.out _ _ hS2 (fun _ => ?_)
    clear hK K
    try simp only [Act.put, List.setIfInBounds_toArray, List.set_cons_zero, List.set_cons_succ]
    refine wpAnyH_stronger (S' := fun W => Below x5.heap.size x5 W) (fun W h => below_then hS2 h (Below.size hS2)) _ _ _ _ ?_
    replace hT := below_trans hT hb
    clear hS hS2 hb how
    have hS : (fun W => Below x5.heap.size x5 W) x5 := Below.refl _ _
    refine wpAnyH_take (i := 24) (oi := { dst := some 32, op := Op.convert 22 9 (Operand.tmp 31), type := 9, pos := "ref.go:28", after := #[{ on := 23, ground := Ground.data }], guard := none }) (v := ?_) rfl (by kernel_rfl) (by kernel_rfl) (by kernel_rfl) (fun _ _ _ h => h) (Or.inl ⟨by rfl, ?_⟩) (by assumption) ?_
    rotate_left
    · (intro wS hS; have hk := run_string_of (P := Try.prog) 22 9 5 Try.underlying22 Try.underlying5 Try.underlying9 (hr5.below hS); go_simp <;> with_reducible rfl)
    try simp only [Act.put, List.setIfInBounds_toArray, List.set_cons_zero, List.set_cons_succ]
    clear hr5
    refine wpAnyH_ready (rs := [12]) (by kernel_rfl) (by simp) ?_
    refine AllReadyH.cons rfl (fun K hK => ?_) (AllReadyH.nil)
    go_simp
    have hb := (one_cells x5 #[.int .u8 (pr : Int)] 5).1
    have hr5 := rd_one H1.out (w := x5) (e := 5)
    have hS2 : (fun W => Below x5.heap.size x5 W) (x5.alloc (.cells #[.int .u8 (pr : Int)] 5)) := Below.alloc hS (Below.size hS) _
    refine hK.out _ _ hS2 (fun _ => ?_)
    clear hK K
    try simp only [Act.put, List.setIfInBounds_toArray, List.set_cons_zero, List.set_cons_succ]
    refine wpAnyH_stronger (S' := fun W => Below (x5.alloc (.cells #[.int .u8 (pr : Int)] 5)).heap.size (x5.alloc (.cells #[.int .u8 (pr : Int)] 5)) W) (fun W h => below_then hS2 h (Below.size hS2)) _ _ _ _ ?_
    replace hT := below_trans hT hb
    clear hS hS2 hb
    generalize x5.alloc (.cells #[.int .u8 (pr : Int)] 5) = x6 at *
    have hS : (fun W => Below x6.heap.size x6 W) x6 := Below.refl _ _
    refine wpAnyH_take (i := 13) (oi := { dst := some 21, op := Op.convert 22 9 (Operand.tmp 20), type := 9, pos := "ref.go:28", after := #[{ on := 12, ground := Ground.data }], guard := none }) (v := ?_) rfl (by kernel_rfl) (by kernel_rfl) (by kernel_rfl) (fun _ _ _ h => h) (Or.inl ⟨by rfl, ?_⟩) (by assumption) ?_
    rotate_left
    · (intro wS hS; have hk := run_string_of (P := Try.prog) 22 9 5 Try.underlying22 Try.underlying5 Try.underlying9 (hr5.below hS); go_simp <;> with_reducible rfl)
    try simp only [Act.put, List.setIfInBounds_toArray, List.set_cons_zero, List.set_cons_succ]
    clear hr5
    refine wpAnyH_take (i := 14) (oi := { dst := some 22, op := Op.binOp BinOp.add 9 (Operand.tmp 16) (Operand.tmp 21) 9, type := 9, pos := "ref.go:28", after := #[{ on := 8, ground := Ground.data }, { on := 13, ground := Ground.data }], guard := none }) (v := ?_) rfl (by kernel_rfl) (by kernel_rfl) (by kernel_rfl) (fun _ _ _ h => h) (Or.inl ⟨by rfl, ?_⟩) (by assumption) ?_
    rotate_left
    · (intro wS hS; go_simp <;> with_reducible rfl)
    try simp only [Act.put, List.setIfInBounds_toArray, List.set_cons_zero, List.set_cons_succ]
    refine wpAnyH_take (i := 20) (oi := { dst := some 28, op := Op.binOp BinOp.add 9 (Operand.tmp 22) (Operand.tmp 27) 9, type := 9, pos := "ref.go:28", after := #[{ on := 14, ground := Ground.data }, { on := 19, ground := Ground.data }], guard := none }) (v := ?_) rfl (by kernel_rfl) (by kernel_rfl) (by kernel_rfl) (fun _ _ _ h => h) (Or.inl ⟨by rfl, ?_⟩) (by assumption) ?_
    rotate_left
    · (intro wS hS; go_simp <;> with_reducible rfl)
    try simp only [Act.put, List.setIfInBounds_toArray, List.set_cons_zero, List.set_cons_succ]
    refine wpAnyH_take (i := 25) (oi := { dst := some 33, op := Op.binOp BinOp.add 9 (Operand.tmp 28) (Operand.tmp 32) 9, type := 9, pos := "ref.go:28", after := #[{ on := 20, ground := Ground.data }, { on := 24, ground := Ground.data }], guard := none }) (v := ?_) rfl (by kernel_rfl) (by kernel_rfl) (by kernel_rfl) (fun _ _ _ h => h) (Or.inl ⟨by rfl, ?_⟩) (by assumption) ?_
    rotate_left
    · (intro wS hS; go_simp <;> with_reducible rfl)
    try simp only [Act.put, List.setIfInBounds_toArray, List.set_cons_zero, List.set_cons_succ]
    rotate_left
    go_simp
    have hb := (one_cells x2 #[.int .u8 (pr : Int)] 5).1
    have hr5 := rd_one H1.out (w := x2) (e := 5)
    have hS2 : (fun W => Below x2.heap.size x2 W) (x2.alloc (.cells #[.int .u8 (pr : Int)] 5)) := Below.alloc hS (Below.size hS) _
    refine hK.out _ _ hS2 (fun _ => ?_)
    clear hK K
    try simp only [Act.put, List.setIfInBounds_toArray, List.set_cons_zero, List.set_cons_succ]
    refine wpAnyH_stronger (S' := fun W => Below (x2.alloc (.cells #[.int .u8 (pr : Int)] 5)).heap.size (x2.alloc (.cells #[.int .u8 (pr : Int)] 5)) W) (fun W h => below_then hS2 h (Below.size hS2)) _ _ _ _ ?_
    replace hT := below_trans hT hb
    clear hS hS2 hb
    generalize x2.alloc (.cells #[.int .u8 (pr : Int)] 5) = x3 at *
    have hS : (fun W => Below x3.heap.size x3 W) x3 := Below.refl _ _
    refine wpAnyH_take (i := 13) (oi := { dst := some 21, op := Op.convert 22 9 (Operand.tmp 20), type := 9, pos := "ref.go:28", after := #[{ on := 12, ground := Ground.data }], guard := none }) (v := ?_) rfl (by kernel_rfl) (by kernel_rfl) (by kernel_rfl) (fun _ _ _ h => h) (Or.inl ⟨by rfl, ?_⟩) (by assumption) ?_
    rotate_left
    · (intro wS hS; have hk := run_string_of (P := Try.prog) 22 9 5 Try.underlying22 Try.underlying5 Try.underlying9 (hr5.below hS); go_simp <;> with_reducible rfl)
    try simp only [Act.put, List.setIfInBounds_toArray, List.set_cons_zero, List.set_cons_succ]
    clear hr5
    refine wpAnyH_ready (rs := [6]) (by kernel_rfl) (by simp) ?_
    refine AllReadyH.cons rfl (fun K hK => ?_) (AllReadyH.nil)
    go_simp
    refine (B2 _).out.mono ?_
    rintro e x4 ⟨v, rfl, how, hb⟩
    obtain ⟨A5, cc5, rfl, hr5, -⟩ := Rd.of_own how
    have hS2 : (fun W => Below x3.heap.size x3 W) x4 := below_then hS hb (Below.size hS)
    refine hK.out _ _ hS2 (fun _ => ?_)
    clear hK K
    try simp only [Act.put, List.setIfInBounds_toArray, List.set_cons_zero, List.set_cons_succ]
    refine wpAnyH_stronger (S' := fun W => Below x4.heap.size x4 W) (fun W h => below_then hS2 h (Below.size hS2)) _ _ _ _ ?_
    replace hT := below_trans hT hb
    clear hS hS2 hb how
    have hS : (fun W => Below x4.heap.size x4 W) x4 := Below.refl _ _
    refine wpAnyH_take (i := 7) (oi := { dst := some 15, op := Op.convert 22 9 (Operand.tmp 14), type := 9, pos := "ref.go:28", after := #[{ on := 6, ground := Ground.data }], guard := none }) (v := ?_) rfl (by kernel_rfl) (by kernel_rfl) (by kernel_rfl) (fun _ _ _ h => h) (Or.inl ⟨by rfl, ?_⟩) (by assumption) ?_
    rotate_left
    · (intro wS hS; have hk := run_string_of (P := Try.prog) 22 9 5 Try.underlying22 Try.underlying5 Try.underlying9 (hr5.below hS); go_simp <;> with_reducible rfl)
    try simp only [Act.put, List.setIfInBounds_toArray, List.set_cons_zero, List.set_cons_succ]
    clear hr5
    refine wpAnyH_take (i := 8) (oi := { dst := some 16, op := Op.binOp BinOp.add 9 (Operand.tmp 11) (Operand.tmp 15) 9, type := 9, pos := "ref.go:28", after := #[{ on := 3, ground := Ground.data }, { on := 7, ground := Ground.data }], guard := none }) (v := ?_) rfl (by kernel_rfl) (by kernel_rfl) (by kernel_rfl) (fun _ _ _ h => h) (Or.inl ⟨by rfl, ?_⟩) (by assumption) ?_
    rotate_left
    · (intro wS hS; go_simp <;> with_reducible rfl)
    try simp only [Act.put, List.setIfInBounds_toArray, List.set_cons_zero, List.set_cons_succ]
    refine wpAnyH_take (i := 14) (oi := { dst := some 22, op := Op.binOp BinOp.add 9 (Operand.tmp 16) (Operand.tmp 21) 9, type := 9, pos := "ref.go:28", after := #[{ on := 8, ground := Ground.data }, { on := 13, ground := Ground.data }], guard := none }) (v := ?_) rfl (by kernel_rfl) (by kernel_rfl) (by kernel_rfl) (fun _ _ _ h => h) (Or.inl ⟨by rfl, ?_⟩) (by assumption) ?_
    rotate_left
    · (intro wS hS; go_simp <;> with_reducible rfl)
    try simp only [Act.put, List.setIfInBounds_toArray, List.set_cons_zero, List.set_cons_succ]
    refine wpAnyH_ready (rs := [18]) (by kernel_rfl) (by simp) ?_
    refine AllReadyH.cons rfl (fun K hK => ?_) (AllReadyH.nil)
    go_simp
    refine (B3 _).out.mono ?_
    rintro e x5 ⟨v, rfl, how, hb⟩
    obtain ⟨A5, cc5, rfl, hr5, -⟩ := Rd.of_own how
    have hS2 : (fun W => Below x4.heap.size x4 W) x5 := below_then hS hb (Below.size hS)
    refine hK.out _ _ hS2 (fun _ => ?_)
    clear hK K
    try simp only [Act.put, List.setIfInBounds_toArray, List.set_cons_zero, List.set_cons_succ]
    refine wpAnyH_stronger (S' := fun W => Below x5.heap.size x5 W) (fun W h => below_then hS2 h (Below.size hS2)) _ _ _ _ ?_
    replace hT := below_trans hT hb
    clear hS hS2 hb how
    have hS : (fun W => Below x5.heap.size x5 W) x5 := Below.refl _ _
    refine wpAnyH_take (i := 19) (oi := { dst := some 27, op := Op.convert 22 9 (Operand.tmp 26), type := 9, pos := "ref.go:28", after := #[{ on := 18, ground := Ground.data }], guard := none }) (v := ?_) rfl (by kernel_rfl) (by kernel_rfl) (by kernel_rfl) (fun _ _ _ h => h) (Or.inl ⟨by rfl, ?_⟩) (by assumption) ?_
    rotate_left
    · (intro wS hS; have hk := run_string_of (P := Try.prog) 22 9 5 Try.underlying22 Try.underlying5 Try.underlying9 (hr5.below hS); go_simp <;> with_reducible rfl)
    try simp only [Act.put, List.setIfInBounds_toArray, List.set_cons_zero, List.set_cons_succ]
    clear hr5
    refine wpAnyH_take (i := 20) (oi := { dst := some 28, op := Op.binOp BinOp.add 9 (Operand.tmp 22) (Operand.tmp 27) 9, type := 9, pos := "ref.go:28", after := #[{ on := 14, ground := Ground.data }, { on := 19, ground := Ground.data }], guard := none }) (v := ?_) rfl (by kernel_rfl) (by kernel_rfl) (by kernel_rfl) (fun _ _ _ h => h) (Or.inl ⟨by rfl, ?_⟩) (by assumption) ?_
    rotate_left
    · (intro wS hS; go_simp <;> with_reducible rfl)
    try simp only [Act.put, List.setIfInBounds_toArray, List.set_cons_zero, List.set_cons_succ]
    refine wpAnyH_ready (rs := [23]) (by kernel_rfl) (by simp) ?_
    refine AllReadyH.cons rfl (fun K hK => ?_) (AllReadyH.nil)
    go_simp
    refine (B4 _).out.mono ?_
    rintro e x6 ⟨v, rfl, how, hb⟩
    obtain ⟨A5, cc5, rfl, hr5, -⟩ := Rd.of_own how
    have hS2 : (fun W => Below x5.heap.size x5 W) x6 := below_then hS hb (Below.size hS)
    refine hK.out _ _ hS2 (fun _ => ?_)
    clear hK K
    try simp only [Act.put, List.setIfInBounds_toArray, List.set_cons_zero, List.set_cons_succ]
    refine wpAnyH_stronger (S' := fun W => Below x6.heap.size x6 W) (fun W h => below_then hS2 h (Below.size hS2)) _ _ _ _ ?_
    replace hT := below_trans hT hb
    clear hS hS2 hb how
    have hS : (fun W => Below x6.heap.size x6 W) x6 := Below.refl _ _
    refine wpAnyH_take (i := 24) (oi := { dst := some 32, op := Op.convert 22 9 (Operand.tmp 31), type := 9, pos := "ref.go:28", after := #[{ on := 23, ground := Ground.data }], guard := none }) (v := ?_) rfl (by kernel_rfl) (by kernel_rfl) (by kernel_rfl) (fun _ _ _ h => h) (Or.inl ⟨by rfl, ?_⟩) (by assumption) ?_
    rotate_left
    · (intro wS hS; have hk := run_string_of (P := Try.prog) 22 9 5 Try.underlying22 Try.underlying5 Try.underlying9 (hr5.below hS); go_simp <;> with_reducible rfl)
    try simp only [Act.put, List.setIfInBounds_toArray, List.set_cons_zero, List.set_cons_succ]
    clear hr5
    refine wpAnyH_take (i := 25) (oi := { dst := some 33, op := Op.binOp BinOp.add 9 (Operand.tmp 28) (Operand.tmp 32) 9, type := 9, pos := "ref.go:28", after := #[{ on := 20, ground := Ground.data }, { on := 24, ground := Ground.data }], guard := none }) (v := ?_) rfl (by kernel_rfl) (by kernel_rfl) (by kernel_rfl) (fun _ _ _ h => h) (Or.inl ⟨by rfl, ?_⟩) (by assumption) ?_
    rotate_left
    · (intro wS hS; go_simp <;> with_reducible rfl)
    try simp only [Act.put, List.setIfInBounds_toArray, List.set_cons_zero, List.set_cons_succ]
    rotate_left
    go_simp
    have hb := (one_cells x0 #[.int .u8 (pr : Int)] 5).1
    have hr5 := rd_one H1.out (w := x0) (e := 5)
    have hS2 : (fun W => Below x0.heap.size x0 W) (x0.alloc (.cells #[.int .u8 (pr : Int)] 5)) := Below.alloc hS (Below.size hS) _
    refine hK.out _ _ hS2 (fun _ => ?_)
    clear hK K
    try simp only [Act.put, List.setIfInBounds_toArray, List.set_cons_zero, List.set_cons_succ]
    refine wpAnyH_stronger (S' := fun W => Below (x0.alloc (.cells #[.int .u8 (pr : Int)] 5)).heap.size (x0.alloc (.cells #[.int .u8 (pr : Int)] 5)) W) (fun W h => below_then hS2 h (Below.size hS2)) _ _ _ _ ?_
    replace hT := below_trans hT hb
    clear hS hS2 hb
    generalize x0.alloc (.cells #[.int .u8 (pr : Int)] 5) = x1 at *
    have hS : (fun W => Below x1.heap.size x1 W) x1 := Below.refl _ _
    refine wpAnyH_take (i := 13) (oi := { dst := some 21, op := Op.convert 22 9 (Operand.tmp 20), type := 9, pos := "ref.go:28", after := #[{ on := 12, ground := Ground.data }], guard := none }) (v := ?_) rfl (by kernel_rfl) (by kernel_rfl) (by kernel_rfl) (fun _ _ _ h => h) (Or.inl ⟨by rfl, ?_⟩) (by assumption) ?_
    rotate_left
    · (intro wS hS; have hk := run_string_of (P := Try.prog) 22 9 5 Try.underlying22 Try.underlying5 Try.underlying9 (hr5.below hS); go_simp <;> with_reducible rfl)
    try simp only [Act.put, List.setIfInBounds_toArray, List.set_cons_zero, List.set_cons_succ]
    clear hr5
    refine wpAnyH_ready (rs := [2, 31]) (by kernel_rfl) (by simp) ?_
    refine AllReadyH.cons rfl (fun K hK => ?_) (AllReadyH.cons rfl (fun K hK => ?_) (AllReadyH.nil))
    go_simp
    refine (B1 _).out.mono ?_
    rintro e x2 ⟨v, rfl, how, hb⟩
    obtain ⟨A5, cc5, rfl, hr5, -⟩ := Rd.of_own how
    have hS2 : (fun W => Below x1.heap.size x1 W) x2 := below_then hS hb (Below.size hS)
    refine hK.out _ _ hS2 (fun _ => ?_)
    clear hK K
    try simp only [Act.put, List.setIfInBounds_toArray, List.set_cons_zero, List.set_cons_succ]
    refine wpAnyH_stronger (S' := fun W => Below x2.heap.size x2 W) (fun W h => below_then hS2 h (Below.size hS2)) _ _ _ _ ?_
    replace hT := below_trans hT hb
    clear hS hS2 hb how
    have hS : (fun W => Below x2.heap.size x2 W) x2 := Below.refl _ _
    refine wpAnyH_take (i := 3) (oi := { dst := some 11, op := Op.convert 22 9 (Operand.tmp 10), type := 9, pos := "ref.go:28", after := #[{ on := 2, ground := Ground.data }], guard := none }) (v := ?_) rfl (by kernel_rfl) (by kernel_rfl) (by kernel_rfl) (fun _ _ _ h => h) (Or.inl ⟨by rfl, ?_⟩) (by assumption) ?_
    rotate_left
    · (intro wS hS; have hk := run_string_of (P := Try.prog) 22 9 5 Try.underlying22 Try.underlying5 Try.underlying9 (hr5.below hS); go_simp <;> with_reducible rfl)
    try simp only [Act.put, List.setIfInBounds_toArray, List.set_cons_zero, List.set_cons_succ]
    clear hr5
    refine wpAnyH_ready (rs := [6, 31]) (by kernel_rfl) (by simp) ?_
    refine AllReadyH.cons rfl (fun K hK => ?_) (AllReadyH.cons rfl (fun K hK => ?_) (AllReadyH.nil))
    go_simp
    refine (B2 _).out.mono ?_
    rintro e x3 ⟨v, rfl, how, hb⟩
    obtain ⟨A5, cc5, rfl, hr5, -⟩ := Rd.of_own how
    have hS2 : (fun W => Below x2.heap.size x2 W) x3 := below_then hS hb (Below.size hS)
    refine hK.out _ _ hS2 (fun _ => ?_)
    clear hK K
    try simp only [Act.put, List.setIfInBounds_toArray, List.set_cons_zero, List.set_cons_succ]
    refine wpAnyH_stronger (S' := fun W => Below x3.heap.size x3 W) (fun W h => below_then hS2 h (Below.size hS2)) _ _ _ _ ?_
    replace hT := below_trans hT hb
    clear hS hS2 hb how
    have hS : (fun W => Below x3.heap.size x3 W) x3 := Below.refl _ _
    refine wpAnyH_take (i := 7) (oi := { dst := some 15, op := Op.convert 22 9 (Operand.tmp 14), type := 9, pos := "ref.go:28", after := #[{ on := 6, ground := Ground.data }], guard := none }) (v := ?_) rfl (by kernel_rfl) (by kernel_rfl) (by kernel_rfl) (fun _ _ _ h => h) (Or.inl ⟨by rfl, ?_⟩) (by assumption) ?_
    rotate_left
    · (intro wS hS; have hk := run_string_of (P := Try.prog) 22 9 5 Try.underlying22 Try.underlying5 Try.underlying9 (hr5.below hS); go_simp <;> with_reducible rfl)
    try simp only [Act.put, List.setIfInBounds_toArray, List.set_cons_zero, List.set_cons_succ]
    clear hr5
    refine wpAnyH_take (i := 8) (oi := { dst := some 16, op := Op.binOp BinOp.add 9 (Operand.tmp 11) (Operand.tmp 15) 9, type := 9, pos := "ref.go:28", after := #[{ on := 3, ground := Ground.data }, { on := 7, ground := Ground.data }], guard := none }) (v := ?_) rfl (by kernel_rfl) (by kernel_rfl) (by kernel_rfl) (fun _ _ _ h => h) (Or.inl ⟨by rfl, ?_⟩) (by assumption) ?_
    rotate_left
    · (intro wS hS; go_simp <;> with_reducible rfl)
    try simp only [Act.put, List.setIfInBounds_toArray, List.set_cons_zero, List.set_cons_succ]
    refine wpAnyH_take (i := 14) (oi := { dst := some 22, op := Op.binOp BinOp.add 9 (Operand.tmp 16) (Operand.tmp 21) 9, type := 9, pos := "ref.go:28", after := #[{ on := 8, ground := Ground.data }, { on := 13, ground := Ground.data }], guard := none }) (v := ?_) rfl (by kernel_rfl) (by kernel_rfl) (by kernel_rfl) (fun _ _ _ h => h) (Or.inl ⟨by rfl, ?_⟩) (by assumption) ?_
    rotate_left
    · (intro wS hS; go_simp <;> with_reducible rfl)
    try simp only [Act.put, List.setIfInBounds_toArray, List.set_cons_zero, List.set_cons_succ]
    refine wpAnyH_ready (rs := [18, 31]) (by kernel_rfl) (by simp) ?_
    refine AllReadyH.cons rfl (fun K hK => ?_) (AllReadyH.cons rfl (fun K hK => ?_) (AllReadyH.nil))
    go_simp
    refine (B3 _).out.mono ?_
    rintro e x4 ⟨v, rfl, how, hb⟩
    obtain ⟨A5, cc5, rfl, hr5, -⟩ := Rd.of_own how
    have hS2 : (fun W => Below x3.heap.size x3 W) x4 := below_then hS hb (Below.size hS)
    refine hK.out _ _ hS2 (fun _ => ?_)
    clear hK K
    try simp only [Act.put, List.setIfInBounds_toArray, List.set_cons_zero, List.set_cons_succ]
    refine wpAnyH_stronger (S' := fun W => Below x4.heap.size x4 W) (fun W h => below_then hS2 h (Below.size hS2)) _ _ _ _ ?_
    replace hT := below_trans hT hb
    clear hS hS2 hb how
    have hS : (fun W => Below x4.heap.size x4 W) x4 := Below.refl _ _
    refine wpAnyH_take (i := 19) (oi := { dst := some 27, op := Op.convert 22 9 (Operand.tmp 26), type := 9, pos := "ref.go:28", after := #[{ on := 18, ground := Ground.data }], guard := none }) (v := ?_) rfl (by kernel_rfl) (by kernel_rfl) (by kernel_rfl) (fun _ _ _ h => h) (Or.inl ⟨by rfl, ?_⟩) (by assumption) ?_
    rotate_left
    · (intro wS hS; have hk := run_string_of (P := Try.prog) 22 9 5 Try.underlying22 Try.underlying5 Try.underlying9 (hr5.below hS); go_simp <;> with_reducible rfl)
    try simp only [Act.put, List.setIfInBounds_toArray, List.set_cons_zero, List.set_cons_succ]
    clear hr5
    refine wpAnyH_take (i := 20) (oi := { dst := some 28, op := Op.binOp BinOp.add 9 (Operand.tmp 22) (Operand.tmp 27) 9, type := 9, pos := "ref.go:28", after := #[{ on := 14, ground := Ground.data }, { on := 19, ground := Ground.data }], guard := none }) (v := ?_) rfl (by kernel_rfl) (by kernel_rfl) (by kernel_rfl) (fun _ _ _ h => h) (Or.inl ⟨by rfl, ?_⟩) (by assumption) ?_
    rotate_left
    · (intro wS hS; go_simp <;> with_reducible rfl)
    try simp only [Act.put, List.setIfInBounds_toArray, List.set_cons_zero, List.set_cons_succ]
    refine wpAnyH_ready (rs := [23, 31]) (by kernel_rfl) (by simp) ?_
    refine AllReadyH.cons rfl (fun K hK => ?_) (AllReadyH.cons rfl (fun K hK => ?_) (AllReadyH.nil))
    go_simp
    refine (B4 _).out.mono ?_
    rintro e x5 ⟨v, rfl, how, hb⟩
    obtain ⟨A5, cc5, rfl, hr5, -⟩ := Rd.of_own how
    have hS2 : (fun W => Below x4.heap.size x4 W) x5 := below_then hS hb (Below.size hS)
    refine hK.out _ _ hS2 (fun _ => ?_)
    clear hK K
    try simp only [Act.put, List.setIfInBounds_toArray, List.set_cons_zero, List.set_cons_succ]
    refine wpAnyH_stronger (S' := fun W => Below x5.heap.size x5 W) (fun W h => below_then hS2 h (Below.size hS2)) _ _ _ _ ?_
    replace hT := below_trans hT hb
    clear hS hS2 hb how
    have hS : (fun W => Below x5.heap.size x5 W) x5 := Below.refl _ _
    refine wpAnyH_take (i := 24) (oi := { dst := some 32, op := Op.convert 22 9 (Operand.tmp 31), type := 9, pos := "ref.go:28", after := #[{ on := 23, ground := Ground.data }], guard := none }) (v := ?_) rfl (by kernel_rfl) (by kernel_rfl) (by kernel_rfl) (fun _ _ _ h => h) (Or.inl ⟨by rfl, ?_⟩) (by assumption) ?_
    rotate_left
    · (intro wS hS; have hk := run_string_of (P := Try.prog) 22 9 5 Try.underlying22 Try.underlying5 Try.underlying9 (hr5.below hS); go_simp <;> with_reducible rfl)
    try simp only [Act.put, List.setIfInBounds_toArray, List.set_cons_zero, List.set_cons_succ]
    clear hr5
    refine wpAnyH_take (i := 25) (oi := { dst := some 33, op := Op.binOp BinOp.add 9 (Operand.tmp 28) (Operand.tmp 32) 9, type := 9, pos := "ref.go:28", after := #[{ on := 20, ground := Ground.data }, { on := 24, ground := Ground.data }], guard := none }) (v := ?_) rfl (by kernel_rfl) (by kernel_rfl) (by kernel_rfl) (fun _ _ _ h => h) (Or.inl ⟨by rfl, ?_⟩) (by assumption) ?_
    rotate_left
    · (intro wS hS; go_simp <;> with_reducible rfl)
    try simp only [Act.put, List.setIfInBounds_toArray, List.set_cons_zero, List.set_cons_succ]
    refine wpAnyH_ready (rs := [31]) (by kernel_rfl) (by simp) ?_
    refine AllReadyH.cons rfl (fun K hK => ?_) (AllReadyH.nil)
    go_simp
    have hb := (one_cells x5 #[.int .u8 (pn : Int), .int .u8 (n : Int)] 5).1
    have hr5 := rd_two H2.out H3.out (w := x5) (e := 5)
    have hS2 : (fun W => Below x5.heap.size x5 W) (x5.alloc (.cells #[.int .u8 (pn : Int), .int .u8 (n : Int)] 5)) := Below.alloc hS (Below.size hS) _
    refine hK.out _ _ hS2 (fun _ => ?_)
    clear hK K
    try simp only [Act.put, List.setIfInBounds_toArray, List.set_cons_zero, List.set_cons_succ]
    refine wpAnyH_stronger (S' := fun W => Below (x5.alloc (.cells #[.int .u8 (pn : Int), .int .u8 (n : Int)] 5)).heap.size (x5.alloc (.cells #[.int .u8 (pn : Int), .int .u8 (n : Int)] 5)) W) (fun W h => below_then hS2 h (Below.size hS2)) _ _ _ _ ?_
    replace hT := below_trans hT hb
    clear hS hS2 hb
    generalize x5.alloc (.cells #[.int .u8 (pn : Int), .int .u8 (n : Int)] 5) = x6 at *
    have hS : (fun W => Below x6.heap.size x6 W) x6 := Below.refl _ _
    refine wpAnyH_take (i := 32) (oi := { dst := some 40, op := Op.convert 22 9 (Operand.tmp 39), type := 9, pos := "ref.go:28", after := #[{ on := 31, ground := Ground.data }], guard := none }) (v := ?_) rfl (by kernel_rfl) (by kernel_rfl) (by kernel_rfl) (fun _ _ _ h => h) (Or.inl ⟨by rfl, ?_⟩) (by assumption) ?_
    rotate_left
    · (intro wS hS; have hk := run_string_of (P := Try.prog) 22 9 5 Try.underlying22 Try.underlying5 Try.underlying9 (hr5.below hS); go_simp <;> with_reducible rfl)
    try simp only [Act.put, List.setIfInBounds_toArray, List.set_cons_zero, List.set_cons_succ]
    clear hr5
    rotate_left
    go_simp
    have hb := (one_cells x4 #[.int .u8 (pn : Int), .int .u8 (n : Int)] 5).1
    have hr5 := rd_two H2.out H3.out (w := x4) (e := 5)
    have hS2 : (fun W => Below x4.heap.size x4 W) (x4.alloc (.cells #[.int .u8 (pn : Int), .int .u8 (n : Int)] 5)) := Below.alloc hS (Below.size hS) _
    refine hK.out _ _ hS2 (fun _ => ?_)
    clear hK K
    try simp only [Act.put, List.setIfInBounds_toArray, List.set_cons_zero, List.set_cons_succ]
    refine wpAnyH_stronger (S' := fun W => Below (x4.alloc (.cells #[.int .u8 (pn : Int), .int .u8 (n : Int)] 5)).heap.size (x4.alloc (.cells #[.int .u8 (pn : Int), .int .u8 (n : Int)] 5)) W) (fun W h => below_then hS2 h (Below.size hS2)) _ _ _ _ ?_
    replace hT := below_trans hT hb
    clear hS hS2 hb
    generalize x4.alloc (.cells #[.int .u8 (pn : Int), .int .u8 (n : Int)] 5) = x5 at *
    have hS : (fun W => Below x5.heap.size x5 W) x5 := Below.refl _ _
    refine wpAnyH_take (i := 32) (oi := { dst := some 40, op := Op.convert 22 9 (Operand.tmp 39), type := 9, pos := "ref.go:28", after := #[{ on := 31, ground := Ground.data }], guard := none }) (v := ?_) rfl (by kernel_rfl) (by kernel_rfl) (by kernel_rfl) (fun _ _ _ h => h) (Or.inl ⟨by rfl, ?_⟩) (by assumption) ?_
    rotate_left
    · (intro wS hS; have hk := run_string_of (P := Try.prog) 22 9 5 Try.underlying22 Try.underlying5 Try.underlying9 (hr5.below hS); go_simp <;> with_reducible rfl)
    try simp only [Act.put, List.setIfInBounds_toArray, List.set_cons_zero, List.set_cons_succ]
    clear hr5
    refine wpAnyH_ready (rs := [23]) (by kernel_rfl) (by simp) ?_
    refine AllReadyH.cons rfl (fun K hK => ?_) (AllReadyH.nil)
    go_simp
    refine (B4 _).out.mono ?_
    rintro e x6 ⟨v, rfl, how, hb⟩
    obtain ⟨A5, cc5, rfl, hr5, -⟩ := Rd.of_own how
    have hS2 : (fun W => Below x5.heap.size x5 W) x6 := below_then hS hb (Below.size hS)
    refine hK.out _ _ hS2 (fun _ => ?_)
    clear hK K
    try simp only [Act.put, List.setIfInBounds_toArray, List.set_cons_zero, List.set_cons_succ]
    refine wpAnyH_stronger (S' := fun W => Below x6.heap.size x6 W) (fun W h => below_then hS2 h (Below.size hS2)) _ _ _ _ ?_
    replace hT := below_trans hT hb
    clear hS hS2 hb how
    have hS : (fun W => Below x6.heap.size x6 W) x6 := Below.refl _ _
    refine wpAnyH_take (i := 24) (oi := { dst := some 32, op := Op.convert 22 9 (Operand.tmp 31), type := 9, pos := "ref.go:28", after := #[{ on := 23, ground := Ground.data }], guard := none }) (v := ?_) rfl (by kernel_rfl) (by kernel_rfl) (by kernel_rfl) (fun _ _ _ h => h) (Or.inl ⟨by rfl, ?_⟩) (by assumption) ?_
    rotate_left
    · (intro wS hS; have hk := run_string_of (P := Try.prog) 22 9 5 Try.underlying22 Try.underlying5 Try.underlying9 (hr5.below hS); go_simp <;> with_reducible rfl)
    try simp only [Act.put, List.setIfInBounds_toArray, List.set_cons_zero, List.set_cons_succ]
    clear hr5
    refine wpAnyH_take (i := 25) (oi := { dst := some 33, op := Op.binOp BinOp.add 9 (Operand.tmp 28) (Operand.tmp 32) 9, type := 9, pos := "ref.go:28", after := #[{ on := 20, ground := Ground.data }, { on := 24, ground := Ground.data }], guard := none }) (v := ?_) rfl (by kernel_rfl) (by kernel_rfl) (by kernel_rfl) (fun _ _ _ h => h) (Or.inl ⟨by rfl, ?_⟩) (by assumption) ?_
    rotate_left
    · (intro wS hS; go_simp <;> with_reducible rfl)
    try simp only [Act.put, List.setIfInBounds_toArray, List.set_cons_zero, List.set_cons_succ]
    rotate_left
    go_simp
    have hb := (one_cells x3 #[.int .u8 (pn : Int), .int .u8 (n : Int)] 5).1
    have hr5 := rd_two H2.out H3.out (w := x3) (e := 5)
    have hS2 : (fun W => Below x3.heap.size x3 W) (x3.alloc (.cells #[.int .u8 (pn : Int), .int .u8 (n : Int)] 5)) := Below.alloc hS (Below.size hS) _
    refine hK.out _ _ hS2 (fun _ => ?_)
    clear hK K
    try simp only [Act.put, List.setIfInBounds_toArray, List.set_cons_zero, List.set_cons_succ]
    refine wpAnyH_stronger (S' := fun W => Below (x3.alloc (.cells #[.int .u8 (pn : Int), .int .u8 (n : Int)] 5)).heap.size (x3.alloc (.cells #[.int .u8 (pn : Int), .int .u8 (n : Int)] 5)) W) (fun W h => below_then hS2 h (Below.size hS2)) _ _ _ _ ?_
    replace hT := below_trans hT hb
    clear hS hS2 hb
    generalize x3.alloc (.cells #[.int .u8 (pn : Int), .int .u8 (n : Int)] 5) = x4 at *
    have hS : (fun W => Below x4.heap.size x4 W) x4 := Below.refl _ _
    refine wpAnyH_take (i := 32) (oi := { dst := some 40, op := Op.convert 22 9 (Operand.tmp 39), type := 9, pos := "ref.go:28", after := #[{ on := 31, ground := Ground.data }], guard := none }) (v := ?_) rfl (by kernel_rfl) (by kernel_rfl) (by kernel_rfl) (fun _ _ _ h => h) (Or.inl ⟨by rfl, ?_⟩) (by assumption) ?_
    rotate_left
    · (intro wS hS; have hk := run_string_of (P := Try.prog) 22 9 5 Try.underlying22 Try.underlying5 Try.underlying9 (hr5.below hS); go_simp <;> with_reducible rfl)
    try simp only [Act.put, List.setIfInBounds_toArray, List.set_cons_zero, List.set_cons_succ]
    clear hr5
    refine wpAnyH_ready (rs := [18]) (by kernel_rfl) (by simp) ?_
    refine AllReadyH.cons rfl (fun K hK => ?_) (AllReadyH.nil)
    go_simp
    refine (B3 _).out.mono ?_
    rintro e x5 ⟨v, rfl, how, hb⟩
    obtain ⟨A5, cc5, rfl, hr5, -⟩ := Rd.of_own how
    have hS2 : (fun W => Below x4.heap.size x4 W) x5 := below_then hS hb (Below.size hS)
    refine hK.out _ _ hS2 (fun _ => ?_)
    clear hK K
    try simp only [Act.put, List.setIfInBounds_toArray, List.set_cons_zero, List.set_cons_succ]
    refine wpAnyH_stronger (S' := fun W => Below x5.heap.size x5 W) (fun W h => below_then hS2 h (Below.size hS2)) _ _ _ _ ?_
    replace hT := below_trans hT hb
    clear hS hS2 hb how
    have hS : (fun W => Below x5.heap.size x5 W) x5 := Below.refl _ _
    refine wpAnyH_take (i := 19) (oi := { dst := some 27, op := Op.convert 22 9 (Operand.tmp 26), type := 9, pos := "ref.go:28", after := #[{ on := 18, ground := Ground.data }], guard := none }) (v := ?_) rfl (by kernel_rfl) (by kernel_rfl) (by kernel_rfl) (fun _ _ _ h => h) (Or.inl ⟨by rfl, ?_⟩) (by assumption) ?_
    rotate_left
    · (intro wS hS; have hk := run_string_of (P := Try.prog) 22 9 5 Try.underlying22 Try.underlying5 Try.underlying9 (hr5.below hS); go_simp <;> with_reducible rfl)
    try simp only [Act.put, List.setIfInBounds_toArray, List.set_cons_zero, List.set_cons_succ]
    clear hr5
    refine wpAnyH_take (i := 20) (oi := { dst := some 28, op := Op.binOp BinOp.add 9 (Operand.tmp 22) (Operand.tmp 27) 9, type := 9, pos := "ref.go:28", after := #[{ on := 14, ground := Ground.data }, { on := 19, ground := Ground.data }], guard := none }) (v := ?_) rfl (by kernel_rfl) (by kernel_rfl) (by kernel_rfl) (fun _ _ _ h => h) (Or.inl ⟨by rfl, ?_⟩) (by assumption) ?_
    rotate_left
    · (intro wS hS; go_simp <;> with_reducible rfl)
    try simp only [Act.put, List.setIfInBounds_toArray, List.set_cons_zero, List.set_cons_succ]
    refine wpAnyH_ready (rs := [23]) (by kernel_rfl) (by simp) ?_
    refine AllReadyH.cons rfl (fun K hK => ?_) (AllReadyH.nil)
    go_simp
    refine (B4 _).out.mono ?_
    rintro e x6 ⟨v, rfl, how, hb⟩
    obtain ⟨A5, cc5, rfl, hr5, -⟩ := Rd.of_own how
    have hS2 : (fun W => Below x5.heap.size x5 W) x6 := below_then hS hb (Below.size hS)
    refine hK.out _ _ hS2 (fun _ => ?_)
    clear hK K
    try simp only [Act.put, List.setIfInBounds_toArray, List.set_cons_zero, List.set_cons_succ]
    refine wpAnyH_stronger (S' := fun W => Below x6.heap.size x6 W) (fun W h => below_then hS2 h (Below.size hS2)) _ _ _ _ ?_
    replace hT := below_trans hT hb
    clear hS hS2 hb how
    have hS : (fun W => Below x6.heap.size x6 W) x6 := Below.refl _ _
    refine wpAnyH_take (i := 24) (oi := { dst := some 32, op := Op.convert 22 9 (Operand.tmp 31), type := 9, pos := "ref.go:28", after := #[{ on := 23, ground := Ground.data }], guard := none }) (v := ?_) rfl (by kernel_rfl) (by kernel_rfl) (by kernel_rfl) (fun _ _ _ h => h) (Or.inl ⟨by rfl, ?_⟩) (by assumption) ?_
    rotate_left
    · (intro wS hS; have hk := run_string_of (P := Try.prog) 22 9 5 Try.underlying22 Try.underlying5 Try.underlying9 (hr5.below hS); go_simp <;> with_reducible rfl)
    try simp only [Act.put, List.setIfInBounds_toArray, List.set_cons_zero, List.set_cons_succ]
    clear hr5
    refine wpAnyH_take (i := 25) (oi := { dst := some 33, op := Op.binOp BinOp.add 9 (Operand.tmp 28) (Operand.tmp 32) 9, type := 9, pos := "ref.go:28", after := #[{ on := 20, ground := Ground.data }, { on := 24, ground := Ground.data }], guard := none }) (v := ?_) rfl (by kernel_rfl) (by kernel_rfl) (by kernel_rfl) (fun _ _ _ h => h) (Or.inl ⟨by rfl, ?_⟩) (by assumption) ?_
    rotate_left
    · (intro wS hS; go_simp <;> with_reducible rfl)
    try simp only [Act.put, List.setIfInBounds_toArray, List.set_cons_zero, List.set_cons_succ]
    rotate_left
    go_simp
    have hb := (one_cells x2 #[.int .u8 (pn : Int), .int .u8 (n : Int)] 5).1
    have hr5 := rd_two H2.out H3.out (w := x2) (e := 5)
    have hS2 : (fun W => Below x2.heap.size x2 W) (x2.alloc (.cells #[.int .u8 (pn : Int), .int .u8 (n : Int)] 5)) := Below.alloc hS (Below.size hS) _
    refine hK.out _ _ hS2 (fun _ => ?_)
    clear hK K
    try simp only [Act.put, List.setIfInBounds_toArray, List.set_cons_zero, List.set_cons_succ]
    refine wpAnyH_stronger (S' := fun W => Below (x2.alloc (.cells #[.int .u8 (pn : Int), .int .u8 (n : Int)] 5)).heap.size (x2.alloc (.cells #[.int .u8 (pn : Int), .int .u8 (n : Int)] 5)) W) (fun W h => below_then hS2 h (Below.size hS2)) _ _ _ _ ?_
    replace hT := below_trans hT hb
    clear hS hS2 hb
    generalize x2.alloc (.cells #[.int .u8 (pn : Int), .int .u8 (n : Int)] 5) = x3 at *
    have hS : (fun W => Below x3.heap.size x3 W) x3 := Below.refl _ _
    refine wpAnyH_take (i := 32) (oi := { dst := some 40, op := Op.convert 22 9 (Operand.tmp 39), type := 9, pos := "ref.go:28", after := #[{ on := 31, ground := Ground.data }], guard := none }) (v := ?_) rfl (by kernel_rfl) (by kernel_rfl) (by kernel_rfl) (fun _ _ _ h => h) (Or.inl ⟨by rfl, ?_⟩) (by assumption) ?_
    rotate_left
    · (intro wS hS; have hk := run_string_of (P := Try.prog) 22 9 5 Try.underlying22 Try.underlying5 Try.underlying9 (hr5.below hS); go_simp <;> with_reducible rfl)
    try simp only [Act.put, List.setIfInBounds_toArray, List.set_cons_zero, List.set_cons_succ]
    clear hr5
    refine wpAnyH_ready (rs := [6]) (by kernel_rfl) (by simp) ?_
    refine AllReadyH.cons rfl (fun K hK => ?_) (AllReadyH.nil)
    go_simp
    refine (B2 _).out.mono ?_
    rintro e x4 ⟨v, rfl, how, hb⟩
    obtain ⟨A5, cc5, rfl, hr5, -⟩ := Rd.of_own how
    have hS2 : (fun W => Below x3.heap.size x3 W) x4 := below_then hS hb (Below.size hS)
    refine hK.out _ _ hS2 (fun _ => ?_)
    clear hK K
    try simp only [Act.put, List.setIfInBounds_toArray, List.set_cons_zero, List.set_cons_succ]
    refine wpAnyH_stronger (S' := fun W => Below x4.heap.size x4 W) (fun W h => below_then hS2 h (Below.size hS2)) _ _ _ _ ?_
    replace hT := below_trans hT hb
    clear hS hS2 hb how
    have hS : (fun W => Below x4.heap.size x4 W) x4 := Below.refl _ _
    refine wpAnyH_take (i := 7) (oi := { dst := some 15, op := Op.convert 22 9 (Operand.tmp 14), type := 9, pos := "ref.go:28", after := #[{ on := 6, ground := Ground.data }], guard := none }) (v := ?_) rfl (by kernel_rfl) (by kernel_rfl) (by kernel_rfl) (fun _ _ _ h => h) (Or.inl ⟨by rfl, ?_⟩) (by assumption) ?_
    rotate_left
    · (intro wS hS; have hk := run_string_of (P := Try.prog) 22 9 5 Try.underlying22 Try.underlying5 Try.underlying9 (hr5.below hS); go_simp <;> with_reducible rfl)
    try simp only [Act.put, List.setIfInBounds_toArray, List.set_cons_zero, List.set_cons_succ]
    clear hr5
    refine wpAnyH_take (i := 8) (oi := { dst := some 16, op := Op.binOp BinOp.add 9 (Operand.tmp 11) (Operand.tmp 15) 9, type := 9, pos := "ref.go:28", after := #[{ on := 3, ground := Ground.data }, { on := 7, ground := Ground.data }], guard := none }) (v := ?_) rfl (by kernel_rfl) (by kernel_rfl) (by kernel_rfl) (fun _ _ _ h => h) (Or.inl ⟨by rfl, ?_⟩) (by assumption) ?_
    rotate_left
    · (intro wS hS; go_simp <;> with_reducible rfl)
    try simp only [Act.put, List.setIfInBounds_toArray, List.set_cons_zero, List.set_cons_succ]
    refine wpAnyH_take (i := 14) (oi := { dst := some 22, op := Op.binOp BinOp.add 9 (Operand.tmp 16) (Operand.tmp 21) 9, type := 9, pos := "ref.go:28", after := #[{ on := 8, ground := Ground.data }, { on := 13, ground := Ground.data }], guard := none }) (v := ?_) rfl (by kernel_rfl) (by kernel_rfl) (by kernel_rfl) (fun _ _ _ h => h) (Or.inl ⟨by rfl, ?_⟩) (by assumption) ?_
    rotate_left
    · (intro wS hS; go_simp <;> with_reducible rfl)
    try simp only [Act.put, List.setIfInBounds_toArray, List.set_cons_zero, List.set_cons_succ]
    refine wpAnyH_ready (rs := [18]) (by kernel_rfl) (by simp) ?_
    refine AllReadyH.cons rfl (fun K hK => ?_) (AllReadyH.nil)
    go_simp
    refine (B3 _).out.mono ?_
    rintro e x5 ⟨v, rfl, how, hb⟩
    obtain ⟨A5, cc5, rfl, hr5, -⟩ := Rd.of_own how
    have hS2 : (fun W => Below x4.heap.size x4 W) x5 := below_then hS hb (Below.size hS)
    refine hK.out _ _ hS2 (fun _ => ?_)
    clear hK K
    try simp only [Act.put, List.setIfInBounds_toArray, List.set_cons_zero, List.set_cons_succ]
    refine wpAnyH_stronger (S' := fun W => Below x5.heap.size x5 W) (fun W h => below_then hS2 h (Below.size hS2)) _ _ _ _ ?_
    replace hT := below_trans hT hb
    clear hS hS2 hb how
    have hS : (fun W => Below x5.heap.size x5 W) x5 := Below.refl _ _
    refine wpAnyH_take (i := 19) (oi := { dst := some 27, op := Op.convert 22 9 (Operand.tmp 26), type := 9, pos := "ref.go:28", after := #[{ on := 18, ground := Ground.data }], guard := none }) (v := ?_) rfl (by kernel_rfl) (by kernel_rfl) (by kernel_rfl) (fun _ _ _ h => h) (Or.inl ⟨by rfl, ?_⟩) (by assumption) ?_
    rotate_left
    · (intro wS hS; have hk := run_string_of (P := Try.prog) 22 9 5 Try.underlying22 Try.underlying5 Try.underlying9 (hr5.below hS); go_simp <;> with_reducible rfl)
    try simp only [Act.put, List.setIfInBounds_toArray, List.set_cons_zero, List.set_cons_succ]
    clear hr5
    refine wpAnyH_take (i := 20) (oi := { dst := some 28, op := Op.binOp BinOp.add 9 (Operand.tmp 22) (Operand.tmp 27) 9, type := 9, pos := "ref.go:28", after := #[{ on := 14, ground := Ground.data }, { on := 19, ground := Ground.data }], guard := none }) (v := ?_) rfl (by kernel_rfl) (by kernel_rfl) (by kernel_rfl) (fun _ _ _ h => h) (Or.inl ⟨by rfl, ?_⟩) (by assumption) ?_
    rotate_left
    · (intro wS hS; go_simp <;> with_reducible rfl)
    try simp only [Act.put, List.setIfInBounds_toArray, List.set_cons_zero, List.set_cons_succ]
    refine wpAnyH_ready (rs := [23]) (by kernel_rfl) (by simp) ?_
    refine AllReadyH.cons rfl (fun K hK => ?_) (AllReadyH.nil)
    go_simp
    refine (B4 _).out.mono ?_
    rintro e x6 ⟨v, rfl, how, hb⟩
    obtain ⟨A5, cc5, rfl, hr5, -⟩ := Rd.of_own how
    have hS2 : (fun W => Below x5.heap.size x5 W) x6 := below_then hS hb (Below.size hS)
    refine hK.out _ _ hS2 (fun _ => ?_)
    clear hK K
    try simp only [Act.put, List.setIfInBounds_toArray, List.set_cons_zero, List.set_cons_succ]
    refine wpAnyH_stronger (S' := fun W => Below x6.heap.size x6 W) (fun W h => below_then hS2 h (Below.size hS2)) _ _ _ _ ?_
    replace hT := below_trans hT hb
    clear hS hS2 hb how
    have hS : (fun W => Below x6.heap.size x6 W) x6 := Below.refl _ _
    refine wpAnyH_take (i := 24) (oi := { dst := some 32, op := Op.convert 22 9 (Operand.tmp 31), type := 9, pos := "ref.go:28", after := #[{ on := 23, ground := Ground.data }], guard := none }) (v := ?_) rfl (by kernel_rfl) (by kernel_rfl) (by kernel_rfl) (fun _ _ _ h => h) (Or.inl ⟨by rfl, ?_⟩) (by assumption) ?_
    rotate_left
    · (intro wS hS; have hk := run_string_of (P := Try.prog) 22 9 5 Try.underlying22 Try.underlying5 Try.underlying9 (hr5.below hS); go_simp <;> with_reducible rfl)
    try simp only [Act.put, List.setIfInBounds_toArray, List.set_cons_zero, List.set_cons_succ]
    clear hr5
    refine wpAnyH_take (i := 25) (oi := { dst := some 33, op := Op.binOp BinOp.add 9 (Operand.tmp 28) (Operand.tmp 32) 9, type := 9, pos := "ref.go:28", after := #[{ on := 20, ground := Ground.data }, { on := 24, ground := Ground.data }], guard := none }) (v := ?_) rfl (by kernel_rfl) (by kernel_rfl) (by kernel_rfl) (fun _ _ _ h => h) (Or.inl ⟨by rfl, ?_⟩) (by assumption) ?_
    rotate_left
    · (intro wS hS; go_simp <;> with_reducible rfl)
    try simp only [Act.put, List.setIfInBounds_toArray, List.set_cons_zero, List.set_cons_succ]
    rotate_left
    go_simp
    have hb := (one_cells x1 #[.int .u8 (pn : Int), .int .u8 (n : Int)] 5).1
    have hr5 := rd_two H2.out H3.out (w := x1) (e := 5)
    have hS2 : (fun W => Below x1.heap.size x1 W) (x1.alloc (.cells #[.int .u8 (pn : Int), .int .u8 (n : Int)] 5)) := Below.alloc hS (Below.size hS) _
    refine hK.out _ _ hS2 (fun _ => ?_)
    clear hK K
    try simp only [Act.put, List.setIfInBounds_toArray, List.set_cons_zero, List.set_cons_succ]
    refine wpAnyH_stronger (S' := fun W => Below (x1.alloc (.cells #[.int .u8 (pn : Int), .int .u8 (n : Int)] 5)).heap.size (x1.alloc (.cells #[.int .u8 (pn : Int), .int .u8 (n : Int)] 5)) W) (fun W h => below_then hS2 h (Below.size hS2)) _ _ _ _ ?_
    replace hT := below_trans hT hb
    clear hS hS2 hb
    generalize x1.alloc (.cells #[.int .u8 (pn : Int), .int .u8 (n : Int)] 5) = x2 at *
    have hS : (fun W => Below x2.heap.size x2 W) x2 := Below.refl _ _
    refine wpAnyH_take (i := 32) (oi := { dst := some 40, op := Op.convert 22 9 (Operand.tmp 39), type := 9, pos := "ref.go:28", after := #[{ on := 31, ground := Ground.data }], guard := none }) (v := ?_) rfl (by kernel_rfl) (by kernel_rfl) (by kernel_rfl) (fun _ _ _ h => h) (Or.inl ⟨by rfl, ?_⟩) (by assumption) ?_
    rotate_left
    · (intro wS hS; have hk := run_string_of (P := Try.prog) 22 9 5 Try.underlying22 Try.underlying5 Try.underlying9 (hr5.below hS); go_simp <;> with_reducible rfl)
    try simp only [Act.put, List.setIfInBounds_toArray, List.set_cons_zero, List.set_cons_succ]
    clear hr5
    refine wpAnyH_ready (rs := [2]) (by kernel_rfl) (by simp) ?_
    refine AllReadyH.cons rfl (fun K hK => ?_) (AllReadyH.nil)
    go_simp
    refine (B1 _).out.mono ?_
    rintro e x3 ⟨v, rfl, how, hb⟩
    obtain ⟨A5, cc5, rfl, hr5, -⟩ := Rd.of_own how
    have hS2 : (fun W => Below x2.heap.size x2 W) x3 := below_then hS hb (Below.size hS)
    refine hK.out _ _ hS2 (fun _ => ?_)
    clear hK K
    try simp only [Act.put, List.setIfInBounds_toArray, List.set_cons_zero, List.set_cons_succ]
    refine wpAnyH_stronger (S' := fun W => Below x3.heap.size x3 W) (fun W h => below_then hS2 h (Below.size hS2)) _ _ _ _ ?_
    replace hT := below_trans hT hb
    clear hS hS2 hb how
    have hS : (fun W => Below x3.heap.size x3 W) x3 := Below.refl _ _
    refine wpAnyH_take (i := 3) (oi := { dst := some 11, op := Op.convert 22 9 (Operand.tmp 10), type := 9, pos := "ref.go:28", after := #[{ on := 2, ground := Ground.data }], guard := none }) (v := ?_) rfl (by kernel_rfl) (by kernel_rfl) (by kernel_rfl) (fun _ _ _ h => h) (Or.inl ⟨by rfl, ?_⟩) (by assumption) ?_
    rotate_left
    · (intro wS hS; have hk := run_string_of (P := Try.prog) 22 9 5 Try.underlying22 Try.underlying5 Try.underlying9 (hr5.below hS); go_simp <;> with_reducible rfl)
    try simp only [Act.put, List.setIfInBounds_toArray, List.set_cons_zero, List.set_cons_succ]
    clear hr5
    refine wpAnyH_ready (rs := [6]) (by kernel_rfl) (by simp) ?_
    refine AllReadyH.cons rfl (fun K hK => ?_) (AllReadyH.nil)
    go_simp
    refine (B2 _).out.mono ?_
    rintro e x4 ⟨v, rfl, how, hb⟩
    obtain ⟨A5, cc5, rfl, hr5, -⟩ := Rd.of_own how
    have hS2 : (fun W => Below x3.heap.size x3 W) x4 := below_then hS hb (Below.size hS)
    refine hK.out _ _ hS2 (fun _ => ?_)
    clear hK K
    try simp only [Act.put, List.setIfInBounds_toArray, List.set_cons_zero, List.set_cons_succ]
    refine wpAnyH_stronger (S' := fun W => Below x4.heap.size x4 W) (fun W h => below_then hS2 h (Below.size hS2)) _ _ _ _ ?_
    replace hT := below_trans hT hb
    clear hS hS2 hb how
    have hS : (fun W => Below x4.heap.size x4 W) x4 := Below.refl _ _
    refine wpAnyH_take (i := 7) (oi := { dst := some 15, op := Op.convert 22 9 (Operand.tmp 14), type := 9, pos := "ref.go:28", after := #[{ on := 6, ground := Ground.data }], guard := none }) (v := ?_) rfl (by kernel_rfl) (by kernel_rfl) (by kernel_rfl) (fun _ _ _ h => h) (Or.inl ⟨by rfl, ?_⟩) (by assumption) ?_
    rotate_left
    · (intro wS hS; have hk := run_string_of (P := Try.prog) 22 9 5 Try.underlying22 Try.underlying5 Try.underlying9 (hr5.below hS); go_simp <;> with_reducible rfl)
    try simp only [Act.put, List.setIfInBounds_toArray, List.set_cons_zero, List.set_cons_succ]
    clear hr5
    refine wpAnyH_take (i := 8) (oi := { dst := some 16, op := Op.binOp BinOp.add 9 (Operand.tmp 11) (Operand.tmp 15) 9, type := 9, pos := "ref.go:28", after := #[{ on := 3, ground := Ground.data }, { on := 7, ground := Ground.data }], guard := none }) (v := ?_) rfl (by kernel_rfl) (by kernel_rfl) (by kernel_rfl) (fun _ _ _ h => h) (Or.inl ⟨by rfl, ?_⟩) (by assumption) ?_
    rotate_left
    · (intro wS hS; go_simp <;> with_reducible rfl)
    try simp only [Act.put, List.setIfInBounds_toArray, List.set_cons_zero, List.set_cons_succ]
    refine wpAnyH_take (i := 14) (oi := { dst := some 22, op := Op.binOp BinOp.add 9 (Operand.tmp 16) (Operand.tmp 21) 9, type := 9, pos := "ref.go:28", after := #[{ on := 8, ground := Ground.data }, { on := 13, ground := Ground.data }], guard := none }) (v := ?_) rfl (by kernel_rfl) (by kernel_rfl) (by kernel_rfl) (fun _ _ _ h => h) (Or.inl ⟨by rfl, ?_⟩) (by assumption) ?_
    rotate_left
    · (intro wS hS; go_simp <;> with_reducible rfl)
    try simp only [Act.put, List.setIfInBounds_toArray, List.set_cons_zero, List.set_cons_succ]
    refine wpAnyH_ready (rs := [18]) (by kernel_rfl) (by simp) ?_
    refine AllReadyH.cons rfl (fun K hK => ?_) (AllReadyH.nil)
    go_simp
    refine (B3 _).out.mono ?_
    rintro e x5 ⟨v, rfl, how, hb⟩
    obtain ⟨A5, cc5, rfl, hr5, -⟩ := Rd.of_own how
    have hS2 : (fun W => Below x4.heap.size x4 W) x5 := below_then hS hb (Below.size hS)
    refine hK.out _ _ hS2 (fun _ => ?_)
    clear hK K
    try simp only [Act.put, List.setIfInBounds_toArray, List.set_cons_zero, List.set_cons_succ]
    refine wpAnyH_stronger (S' := fun W => Below x5.heap.size x5 W) (fun W h => below_then hS2 h (Below.size hS2)) _ _ _ _ ?_
    replace hT := below_trans hT hb
    clear hS hS2 hb how
    have hS : (fun W => Below x5.heap.size x5 W) x5 := Below.refl _ _
    refine wpAnyH_take (i := 19) (oi := { dst := some 27, op := Op.convert 22 9 (Operand.tmp 26), type := 9, pos := "ref.go:28", after := #[{ on := 18, ground := Ground.data }], guard := none }) (v := ?_) rfl (by kernel_rfl) (by kernel_rfl) (by kernel_rfl) (fun _ _ _ h => h) (Or.inl ⟨by rfl, ?_⟩) (by assumption) ?_
    rotate_left
    · (intro wS hS; have hk := run_string_of (P := Try.prog) 22 9 5 Try.underlying22 Try.underlying5 Try.underlying9 (hr5.below hS); go_simp <;> with_reducible rfl)
    try simp only [Act.put, List.setIfInBounds_toArray, List.set_cons_zero, List.set_cons_succ]
    clear hr5
    refine wpAnyH_take (i := 20) (oi := { dst := some 28, op := Op.binOp BinOp.add 9 (Operand.tmp 22) (Operand.tmp 27) 9, type := 9, pos := "ref.go:28", after := #[{ on := 14, ground := Ground.data }, { on := 19, ground := Ground.data }], guard := none }) (v := ?_) rfl (by kernel_rfl) (by kernel_rfl) (by kernel_rfl) (fun _ _ _ h => h) (Or.inl ⟨by rfl, ?_⟩) (by assumption) ?_
    rotate_left
    · (intro wS hS; go_simp <;> with_reducible rfl)
    try simp only [Act.put, List.setIfInBounds_toArray, List.set_cons_zero, List.set_cons_succ]
    refine wpAnyH_ready (rs := [23]) (by kernel_rfl) (by simp) ?_
    refine AllReadyH.cons rfl (fun K hK => ?_) (AllReadyH.nil)
    go_simp
    refine (B4 _).out.mono ?_
    rintro e x6 ⟨v, rfl, how, hb⟩
    obtain ⟨A5, cc5, rfl, hr5, -⟩ := Rd.of_own how
    have hS2 : (fun W => Below x5.heap.size x5 W) x6 := below_then hS hb (Below.size hS)
    refine hK.out _ _ hS2 (fun _ => ?_)
    clear hK K
    try simp only [Act.put, List.setIfInBounds_toArray, List.set_cons_zero, List.set_cons_succ]
    refine wpAnyH_stronger (S' := fun W => Below x6.heap.size x6 W) (fun W h => below_then hS2 h (Below.size hS2)) _ _ _ _ ?_
    replace hT := below_trans hT hb
    clear hS hS2 hb how
    have hS : (fun W => Below x6.heap.size x6 W) x6 := Below.refl _ _
    refine wpAnyH_take (i := 24) (oi := { dst := some 32, op := Op.convert 22 9 (Operand.tmp 31), type := 9, pos := "ref.go:28", after := #[{ on := 23, ground := Ground.data }], guard := none }) (v := ?_) rfl (by kernel_rfl) (by kernel_rfl) (by kernel_rfl) (fun _ _ _ h => h) (Or.inl ⟨by rfl, ?_⟩) (by assumption) ?_
    rotate_left
    · (intro wS hS; have hk := run_string_of (P := Try.prog) 22 9 5 Try.underlying22 Try.underlying5 Try.underlying9 (hr5.below hS); go_simp <;> with_reducible rfl)
    try simp only [Act.put, List.setIfInBounds_toArray, List.set_cons_zero, List.set_cons_succ]
    clear hr5
    refine wpAnyH_take (i := 25) (oi := { dst := some 33, op := Op.binOp BinOp.add 9 (Operand.tmp 28) (Operand.tmp 32) 9, type := 9, pos := "ref.go:28", after := #[{ on := 20, ground := Ground.data }, { on := 24, ground := Ground.data }], guard := none }) (v := ?_) rfl (by kernel_rfl) (by kernel_rfl) (by kernel_rfl) (fun _ _ _ h => h) (Or.inl ⟨by rfl, ?_⟩) (by assumption) ?_
    rotate_left
    · (intro wS hS; go_simp <;> with_reducible rfl)
    try simp only [Act.put, List.setIfInBounds_toArray, List.set_cons_zero, List.set_cons_succ]
    rotate_left
    go_simp
    have hb := (one_cells x0 #[.int .u8 (pn : Int), .int .u8 (n : Int)] 5).1
    have hr5 := rd_two H2.out H3.out (w := x0) (e := 5)
    have hS2 : (fun W => Below x0.heap.size x0 W) (x0.alloc (.cells #[.int .u8 (pn : Int), .int .u8 (n : Int)] 5)) := Below.alloc hS (Below.size hS) _
    refine hK.out _ _ hS2 (fun _ => ?_)
    clear hK K
    try simp only [Act.put, List.setIfInBounds_toArray, List.set_cons_zero, List.set_cons_succ]
    refine wpAnyH_stronger (S' := fun W => Below (x0.alloc (.cells #[.int .u8 (pn : Int), .int .u8 (n : Int)] 5)).heap.size (x0.alloc (.cells #[.int .u8 (pn : Int), .int .u8 (n : Int)] 5)) W) (fun W h => below_then hS2 h (Below.size hS2)) _ _ _ _ ?_
    replace hT := below_trans hT hb
    clear hS hS2 hb
    generalize x0.alloc (.cells #[.int .u8 (pn : Int), .int .u8 (n : Int)] 5) = x1 at *
    have hS : (fun W => Below x1.heap.size x1 W) x1 := Below.refl _ _
    refine wpAnyH_take (i := 32) (oi := { dst := some 40, op := Op.convert 22 9 (Operand.tmp 39), type := 9, pos := "ref.go:28", after := #[{ on := 31, ground := Ground.data }], guard := none }) (v := ?_) rfl (by kernel_rfl) (by kernel_rfl) (by kernel_rfl) (fun _ _ _ h => h) (Or.inl ⟨by rfl, ?_⟩) (by assumption) ?_
    rotate_left
    · (intro wS hS; have hk := run_string_of (P := Try.prog) 22 9 5 Try.underlying22 Try.underlying5 Try.underlying9 (hr5.below hS); go_simp <;> with_reducible rfl)
    try simp only [Act.put, List.setIfInBounds_toArray, List.set_cons_zero, List.set_cons_succ]
    clear hr5
    refine wpAnyH_ready (rs := [2, 12]) (by kernel_rfl) (by simp) ?_
    refine AllReadyH.cons rfl (fun K hK => ?_) (AllReadyH.cons rfl (fun K hK => ?_) (AllReadyH.nil))
    go_simp
    refine (B1 _).out.mono ?_
    rintro e x2 ⟨v, rfl, how, hb⟩
    obtain ⟨A5, cc5, rfl, hr5, -⟩ := Rd.of_own how
    have hS2 : (fun W => Below x1.heap.size x1 W) x2 := below_then hS hb (Below.size hS)
    refine hK.out _ _ hS2 (fun _ => ?_)
    clear hK K
    try simp only [Act.put, List.setIfInBounds_toArray, List.set_cons_zero, List.set_cons_succ]
    refine wpAnyH_stronger (S' := fun W => Below x2.heap.size x2 W) (fun W h => below_then hS2 h (Below.size hS2)) _ _ _ _ ?_
    replace hT := below_trans hT hb
    clear hS hS2 hb how
    have hS : (fun W => Below x2.heap.size x2 W) x2 := Below.refl _ _
    refine wpAnyH_take (i := 3) (oi := { dst := some 11, op := Op.convert 22 9 (Operand.tmp 10), type := 9, pos := "ref.go:28", after := #[{ on := 2, ground := Ground.data }], guard := none }) (v := ?_) rfl (by kernel_rfl) (by kernel_rfl) (by kernel_rfl) (fun _ _ _ h => h) (Or.inl ⟨by rfl, ?_⟩) (by assumption) ?_
    rotate_left
    · (intro wS hS; have hk := run_string_of (P := Try.prog) 22 9 5 Try.underlying22 Try.underlying5 Try.underlying9 (hr5.below hS); go_simp <;> with_reducible rfl)
    try simp only [Act.put, List.setIfInBounds_toArray, List.set_cons_zero, List.set_cons_succ]
    clear hr5
    refine wpAnyH_ready (rs := [6, 12]) (by kernel_rfl) (by simp) ?_
    refine AllReadyH.cons rfl (fun K hK => ?_) (AllReadyH.cons rfl (fun K hK => ?_) (AllReadyH.nil))
    go_simp
    refine (B2 _).out.mono ?_
    rintro e x3 ⟨v, rfl, how, hb⟩
    obtain ⟨A5, cc5, rfl, hr5, -⟩ := Rd.of_own how
    have hS2 : (fun W => Below x2.heap.size x2 W) x3 := below_then hS hb (Below.size hS)
    refine hK.out _ _ hS2 (fun _ => ?_)
    clear hK K
    try simp only [Act.put, List.setIfInBounds_toArray, List.set_cons_zero, List.set_cons_succ]
    refine wpAnyH_stronger (S' := fun W => Below x3.heap.size x3 W) (fun W h => below_then hS2 h (Below.size hS2)) _ _ _ _ ?_
    replace hT := below_trans hT hb
    clear hS hS2 hb how
    have hS : (fun W => Below x3.heap.size x3 W) x3 := Below.refl _ _
    refine wpAnyH_take (i := 7) (oi := { dst := some 15, op := Op.convert 22 9 (Operand.tmp 14), type := 9, pos := "ref.go:28", after := #[{ on := 6, ground := Ground.data }], guard := none }) (v := ?_) rfl (by kernel_rfl) (by kernel_rfl) (by kernel_rfl) (fun _ _ _ h => h) (Or.inl ⟨by rfl, ?_⟩) (by assumption) ?_
    rotate_left
    · (intro wS hS; have hk := run_string_of (P := Try.prog) 22 9 5 Try.underlying22 Try.underlying5 Try.underlying9 (hr5.below hS); go_simp <;> with_reducible rfl)
    try simp only [Act.put, List.setIfInBounds_toArray, List.set_cons_zero, List.set_cons_succ]
    clear hr5
    refine wpAnyH_take (i := 8) (oi := { dst := some 16, op := Op.binOp BinOp.add 9 (Operand.tmp 11) (Operand.tmp 15) 9, type := 9, pos := "ref.go:28", after := #[{ on := 3, ground := Ground.data }, { on := 7, ground := Ground.data }], guard := none }) (v := ?_) rfl (by kernel_rfl) (by kernel_rfl) (by kernel_rfl) (fun _ _ _ h => h) (Or.inl ⟨by rfl, ?_⟩) (by assumption) ?_
    rotate_left
    · (intro wS hS; go_simp <;> with_reducible rfl)
    try simp only [Act.put, List.setIfInBounds_toArray, List.set_cons_zero, List.set_cons_succ]
    refine wpAnyH_ready (rs := [12, 18]) (by kernel_rfl) (by simp) ?_
    refine AllReadyH.cons rfl (fun K hK => ?_) (AllReadyH.cons rfl (fun K hK => ?_) (AllReadyH.nil))
    go_simp
    have hb := (one_cells x3 #[.int .u8 (pr : Int)] 5).1
    have hr5 := rd_one H1.out (w := x3) (e := 5)
    have hS2 : (fun W => Below x3.heap.size x3 W) (x3.alloc (.cells #[.int .u8 (pr : Int)] 5)) := Below.alloc hS (Below.size hS) _
    refine hK.out _ _ hS2 (fun _ => ?_)
    clear hK K
    try simp only [Act.put, List.setIfInBounds_toArray, List.set_cons_zero, List.set_cons_succ]
    refine wpAnyH_stronger (S' := fun W => Below (x3.alloc (.cells #[.int .u8 (pr : Int)] 5)).heap.size (x3.alloc (.cells #[.int .u8 (pr : Int)] 5)) W) (fun W h => below_then hS2 h (Below.size hS2)) _ _ _ _ ?_
    replace hT := below_trans hT hb
    clear hS hS2 hb
    generalize x3.alloc (.cells #[.int .u8 (pr : Int)] 5) = x4 at *
    have hS : (fun W => Below x4.heap.size x4 W) x4 := Below.refl _ _
    refine wpAnyH_take (i := 13) (oi := { dst := some 21, op := Op.convert 22 9 (Operand.tmp 20), type := 9, pos := "ref.go:28", after := #[{ on := 12, ground := Ground.data }], guard := none }) (v := ?_) rfl (by kernel_rfl) (by kernel_rfl) (by kernel_rfl) (fun _ _ _ h => h) (Or.inl ⟨by rfl, ?_⟩) (by assumption) ?_
    rotate_left
    · (intro wS hS; have hk := run_string_of (P := Try.prog) 22 9 5 Try.underlying22 Try.underlying5 Try.underlying9 (hr5.below hS); go_simp <;> with_reducible rfl)
    try simp only [Act.put, List.setIfInBounds_toArray, List.set_cons_zero, List.set_cons_succ]
    clear hr5
    refine wpAnyH_take (i := 14) (oi := { dst := some 22, op := Op.binOp BinOp.add 9 (Operand.tmp 16) (Operand.tmp 21) 9, type := 9, pos := "ref.go:28", after := #[{ on := 8, ground := Ground.data }, { on := 13, ground := Ground.data }], guard := none }) (v := ?_) rfl (by kernel_rfl) (by kernel_rfl) (by kernel_rfl) (fun _ _ _ h => h) (Or.inl ⟨by rfl, ?_⟩) (by assumption) ?_
    rotate_left
    · (intro wS hS; go_simp <;> with_reducible rfl)
    try simp only [Act.put, List.setIfInBounds_toArray, List.set_cons_zero, List.set_cons_succ]
    refine wpAnyH_ready (rs := [18]) (by kernel_rfl) (by simp) ?_
    refine AllReadyH.cons rfl (fun K hK => ?_) (AllReadyH.nil)
    go_simp
    refine (B3 _).out.mono ?_
    rintro e x5 ⟨v, rfl, how, hb⟩
    obtain ⟨A5, cc5, rfl, hr5, -⟩ := Rd.of_own how
    have hS2 : (fun W => Below x4.heap.size x4 W) x5 := below_then hS hb (Below.size hS)
    refine hK.out _ _ hS2 (fun _ => ?_)
    clear hK K
    try simp only [Act.put, List.setIfInBounds_toArray, List.set_cons_zero, List.set_cons_succ]
    refine wpAnyH_stronger (S' := fun W => Below x5.heap.size x5 W) (fun W h => below_then hS2 h (Below.size hS2)) _ _ _ _ ?_
    replace hT := below_trans hT hb
    clear hS hS2 hb how
    have hS : (fun W => Below x5.heap.size x5 W) x5 := Below.refl _ _
    refine wpAnyH_take (i := 19) (oi := { dst := some 27, op := Op.convert 22 9 (Operand.tmp 26), type := 9, pos := "ref.go:28", after := #[{ on := 18, ground := Ground.data }], guard := none }) (v := ?_) rfl (by kernel_rfl) (by kernel_rfl) (by kernel_rfl) (fun _ _ _ h => h) (Or.inl ⟨by rfl, ?_⟩) (by assumption) ?_
    rotate_left
    · (intro wS hS; have hk := run_string_of (P := Try.prog) 22 9 5 Try.underlying22 Try.underlying5 Try.underlying9 (hr5.below hS); go_simp <;> with_reducible rfl)
    try simp only [Act.put, List.setIfInBounds_toArray, List.set_cons_zero, List.set_cons_succ]
    clear hr5
    refine wpAnyH_take (i := 20) (oi := { dst := some 28, op := Op.binOp BinOp.add 9 (Operand.tmp 22) (Operand.tmp 27) 9, type := 9, pos := "ref.go:28", after := #[{ on := 14, ground := Ground.data }, { on := 19, ground := Ground.data }], guard := none }) (v := ?_) rfl (by kernel_rfl) (by kernel_rfl) (by kernel_rfl) (fun _ _ _ h => h) (Or.inl ⟨by rfl, ?_⟩) (by assumption) ?_
    rotate_left
    · (intro wS hS; go_simp <;> with_reducible rfl)
    try simp only [Act.put, List.setIfInBounds_toArray, List.set_cons_zero, List.set_cons_succ]
    refine wpAnyH_ready (rs := [23]) (by kernel_rfl) (by simp) ?_
    refine AllReadyH.cons rfl (fun K hK => ?_) (AllReadyH.nil)
    go_simp
    refine (B4 _).out.mono ?_
    rintro e x6 ⟨v, rfl, how, hb⟩
    obtain ⟨A5, cc5, rfl, hr5, -⟩ := Rd.of_own how
    have hS2 : (fun W => Below x5.heap.size x5 W) x6 := below_then hS hb (Below.size hS)
    refine hK.out _ _ hS2 (fun _ => ?_)
    clear hK K
    try simp only [Act.put, List.setIfInBounds_toArray, List.set_cons_zero, List.set_cons_succ]
    refine wpAnyH_stronger (S' := fun W => Below x6.heap.size x6 W) (fun W h => below_then hS2 h (Below.size hS2)) _ _ _ _ ?_
    replace hT := below_trans hT hb
    clear hS hS2 hb how
    have hS : (fun W => Below x6.heap.size x6 W) x6 := Below.refl _ _
    refine wpAnyH_take (i := 24) (oi := { dst := some 32, op := Op.convert 22 9 (Operand.tmp 31), type := 9, pos := "ref.go:28", after := #[{ on := 23, ground := Ground.data }], guard := none }) (v := ?_) rfl (by kernel_rfl) (by kernel_rfl) (by kernel_rfl) (fun _ _ _ h => h) (Or.inl ⟨by rfl, ?_⟩) (by assumption) ?_
    rotate_left
    · (intro wS hS; have hk := run_string_of (P := Try.prog) 22 9 5 Try.underlying22 Try.underlying5 Try.underlying9 (hr5.below hS); go_simp <;> with_reducible rfl)
    try simp only [Act.put, List.setIfInBounds_toArray, List.set_cons_zero, List.set_cons_succ]
    clear hr5
    refine wpAnyH_take (i := 25) (oi := { dst := some 33, op := Op.binOp BinOp.add 9 (Operand.tmp 28) (Operand.tmp 32) 9, type := 9, pos := "ref.go:28", after := #[{ on := 20, ground := Ground.data }, { on := 24, ground := Ground.data }], guard := none }) (v := ?_) rfl (by kernel_rfl) (by kernel_rfl) (by kernel_rfl) (fun _ _ _ h => h) (Or.inl ⟨by rfl, ?_⟩) (by assumption) ?_
    rotate_left
    · (intro wS hS; go_simp <;> with_reducible rfl)
    try simp only [Act.put, List.setIfInBounds_toArray, List.set_cons_zero, List.set_cons_succ]
    rotate_left
    go_simp
    refine (B3 _).out.mono ?_
    rintro e x4 ⟨v, rfl, how, hb⟩
    obtain ⟨A5, cc5, rfl, hr5, -⟩ := Rd.of_own how
    have hS2 : (fun W => Below x3.heap.size x3 W) x4 := below_then hS hb (Below.size hS)
    refine hK.out _ _ hS2 (fun _ => ?_)
    clear hK K
    try simp only [Act.put, List.setIfInBounds_toArray, List.set_cons_zero, List.set_cons_succ]
    refine wpAnyH_stronger (S' := fun W => Below x4.heap.size x4 W) (fun W h => below_then hS2 h (Below.size hS2)) _ _ _ _ ?_
    replace hT := below_trans hT hb
    clear hS hS2 hb how
    have hS : (fun W => Below x4.heap.size x4 W) x4 := Below.refl _ _
    refine wpAnyH_take (i := 19) (oi := { dst := some 27, op := Op.convert 22 9 (Operand.tmp 26), type := 9, pos := "ref.go:28", after := #[{ on := 18, ground := Ground.data }], guard := none }) (v := ?_) rfl (by kernel_rfl) (by kernel_rfl) (by kernel_rfl) (fun _ _ _ h => h) (Or.inl ⟨by rfl, ?_⟩) (by assumption) ?_
    rotate_left
    · (intro wS hS; have hk := run_string_of (P := Try.prog) 22 9 5 Try.underlying22 Try.underlying5 Try.underlying9 (hr5.below hS); go_simp <;> with_reducible rfl)
    try simp only [Act.put, List.setIfInBounds_toArray, List.set_cons_zero, List.set_cons_succ]
    clear hr5
    refine wpAnyH_ready (rs := [12, 23]) (by kernel_rfl) (by simp) ?_
    refine AllReadyH.cons rfl (fun K hK => ?_) (AllReadyH.cons rfl (fun K hK => ?_) (AllReadyH.nil))
    go_simp
    have hb := (one_cells x4 #[.int .u8 (pr : Int)] 5).1
    have hr5 := rd_one H1.out (w := x4) (e := 5)
    have hS2 : (fun W => Below x4.heap.size x4 W) (x4.alloc (.cells #[.int .u8 (pr : Int)] 5)) := Below.alloc hS (Below.size hS) _
    refine hK.out _ _ hS2 (fun _ => ?_)
    clear hK K
    try simp only [Act.put, List.setIfInBounds_toArray, List.set_cons_zero, List.set_cons_succ]
    refine wpAnyH_stronger (S' := fun W => Below (x4.alloc (.cells #[.int .u8 (pr : Int)] 5)).heap.size (x4.alloc (.cells #[.int .u8 (pr : Int)] 5)) W) (fun W h => below_then hS2 h (Below.size hS2)) _ _ _ _ ?_
    replace hT := below_trans hT hb
    clear hS hS2 hb
    generalize x4.alloc (.cells #[.int .u8 (pr : Int)] 5) = x5 at *
    have hS : (fun W => Below x5.heap.size x5 W) x5 := Below.refl _ _
    refine wpAnyH_take (i := 13) (oi := { dst := some 21, op := Op.convert 22 9 (Operand.tmp 20), type := 9, pos := "ref.go:28", after := #[{ on := 12, ground := Ground.data }], guard := none }) (v := ?_) rfl (by kernel_rfl) (by kernel_rfl) (by kernel_rfl) (fun _ _ _ h => h) (Or.inl ⟨by rfl, ?_⟩) (by assumption) ?_
    rotate_left
    · (intro wS hS; have hk := run_string_of (P := Try.prog) 22 9 5 Try.underlying22 Try.underlying5 Try.underlying9 (hr5.below hS); go_simp <;> with_reducible rfl)
    try simp only [Act.put, List.setIfInBounds_toArray, List.set_cons_zero, List.set_cons_succ]
    clear hr5
    refine wpAnyH_take (i := 14) (oi := { dst := some 22, op := Op.binOp BinOp.add 9 (Operand.tmp 16) (Operand.tmp 21) 9, type := 9, pos := "ref.go:28", after := #[{ on := 8, ground := Ground.data }, { on := 13, ground := Ground.data }], guard := none }) (v := ?_) rfl (by kernel_rfl) (by kernel_rfl) (by kernel_rfl) (fun _ _ _ h => h) (Or.inl ⟨by rfl, ?_⟩) (by assumption) ?_
    rotate_left
    · (intro wS hS; go_simp <;> with_reducible rfl)
    try simp only [Act.put, List.setIfInBounds_toArray, List.set_cons_zero, List.set_cons_succ]
    refine wpAnyH_take (i := 20) (oi := { dst := some 28, op := Op.binOp BinOp.add 9 (Operand.tmp 22) (Operand.tmp 27) 9, type := 9, pos := "ref.go:28", after := #[{ on := 14, ground := Ground.data }, { on := 19, ground := Ground.data }], guard := none }) (v := ?_) rfl (by kernel_rfl) (by kernel_rfl) (by kernel_rfl) (fun _ _ _ h => h) (Or.inl ⟨by rfl, ?_⟩) (by assumption) ?_
    rotate_left
    · (intro wS hS; go_simp <;> with_reducible rfl)
    try simp only [Act.put, List.setIfInBounds_toArray, List.set_cons_zero, List.set_cons_succ]
    refine wpAnyH_ready (rs := [23]) (by kernel_rfl) (by simp) ?_
    refine AllReadyH.cons rfl (fun K hK => ?_) (AllReadyH.nil)
    go_simp
    refine (B4 _).out.mono ?_
    rintro e x6 ⟨v, rfl, how, hb⟩
    obtain ⟨A5, cc5, rfl, hr5, -⟩ := Rd.of_own how
    have hS2 : (fun W => Below x5.heap.size x5 W) x6 := below_then hS hb (Below.size hS)
    refine hK.out _ _ hS2 (fun _ => ?_)
    clear hK K
    try simp only [Act.put, List.setIfInBounds_toArray, List.set_cons_zero, List.set_cons_succ]
    refine wpAnyH_stronger (S' := fun W => Below x6.heap.size x6 W) (fun W h => below_then hS2 h (Below.size hS2)) _ _ _ _ ?_
    replace hT := below_trans hT hb
    clear hS hS2 hb how
    have hS : (fun W => Below x6.heap.size x6 W) x6 := Below.refl _ _
    refine wpAnyH_take (i := 24) (oi := { dst := some 32, op := Op.convert 22 9 (Operand.tmp 31), type := 9, pos := "ref.go:28", after := #[{ on := 23, ground := Ground.data }], guard := none }) (v := ?_) rfl (by kernel_rfl) (by kernel_rfl) (by kernel_rfl) (fun _ _ _ h => h) (Or.inl ⟨by rfl, ?_⟩) (by assumption) ?_
    rotate_left
    · (intro wS hS; have hk := run_string_of (P := Try.prog) 22 9 5 Try.underlying22 Try.underlying5 Try.underlying9 (hr5.below hS); go_simp <;> with_reducible rfl)
    try simp only [Act.put, List.setIfInBounds_toArray, List.set_cons_zero, List.set_cons_succ]
    clear hr5
    refine wpAnyH_take (i := 25) (oi := { dst := some 33, op := Op.binOp BinOp.add 9 (Operand.tmp 28) (Operand.tmp 32) 9, type := 9, pos := "ref.go:28", after := #[{ on := 20, ground := Ground.data }, { on := 24, ground := Ground.data }], guard := none }) (v := ?_) rfl (by kernel_rfl) (by kernel_rfl) (by kernel_rfl) (fun _ _ _ h => h) (Or.inl ⟨by rfl, ?_⟩) (by assumption) ?_
    rotate_left
    · (intro wS hS; go_simp <;> with_reducible rfl)
    try simp only [Act.put, List.setIfInBounds_toArray, List.set_cons_zero, List.set_cons_succ]
    rotate_left
    go_simp
    refine (B4 _).out.mono ?_
    rintro e x5 ⟨v, rfl, how, hb⟩
    obtain ⟨A5, cc5, rfl, hr5, -⟩ := Rd.of_own how
    have hS2 : (fun W => Below x4.heap.size x4 W) x5 := below_then hS hb (Below.size hS)
    refine hK.out _ _ hS2 (fun _ => ?_)
    clear hK K
    try simp only [Act.put, List.setIfInBounds_toArray, List.set_cons_zero, List.set_cons_succ]
    refine wpAnyH_stronger (S' := fun W => Below x5.heap.size x5 W) (fun W h => below_then hS2 h (Below.size hS2)) _ _ _ _ ?_
    replace hT := below_trans hT hb
    clear hS hS2 hb how
    have hS : (fun W => Below x5.heap.size x5 W) x5 := Below.refl _ _
    refine wpAnyH_take (i := 24) (oi := { dst := some 32, op := Op.convert 22 9 (Operand.tmp 31), type := 9, pos := "ref.go:28", after := #[{ on := 23, ground := Ground.data }], guard := none }) (v := ?_) rfl (by kernel_rfl) (by kernel_rfl) (by kernel_rfl) (fun _ _ _ h => h) (Or.inl ⟨by rfl, ?_⟩) (by assumption) ?_
    rotate_left
    · (intro wS hS; have hk := run_string_of (P := Try.prog) 22 9 5 Try.underlying22 Try.underlying5 Try.underlying9 (hr5.below hS); go_simp <;> with_reducible rfl)
    try simp only [Act.put, List.setIfInBounds_toArray, List.set_cons_zero, List.set_cons_succ]
    clear hr5
    refine wpAnyH_ready (rs := [12]) (by kernel_rfl) (by simp) ?_
    refine AllReadyH.cons rfl (fun K hK => ?_) (AllReadyH.nil)
    go_simp
    have hb := (one_cells x5 #[.int .u8 (pr : Int)] 5).1
    have hr5 := rd_one H1.out (w := x5) (e := 5)
    have hS2 : (fun W => Below x5.heap.size x5 W) (x5.alloc (.cells #[.int .u8 (pr : Int)] 5)) := Below.alloc hS (Below.size hS) _
    refine hK.out _ _ hS2 (fun _ => ?_)
    clear hK K
    try simp only [Act.put, List.setIfInBounds_toArray, List.set_cons_zero, List.set_cons_succ]
    refine wpAnyH_stronger (S' := fun W => Below (x5.alloc (.cells #[.int .u8 (pr : Int)] 5)).heap.size (x5.alloc (.cells #[.int .u8 (pr : Int)] 5)) W) (fun W h => below_then hS2 h (Below.size hS2)) _ _ _ _ ?_
    replace hT := below_trans hT hb
    clear hS hS2 hb
    generalize x5.alloc (.cells #[.int .u8 (pr : Int)] 5) = x6 at *
    have hS : (fun W => Below x6.heap.size x6 W) x6 := Below.refl _ _
    refine wpAnyH_take (i := 13) (oi := { dst := some 21, op := Op.convert 22 9 (Operand.tmp 20), type := 9, pos := "ref.go:28", after := #[{ on := 12, ground := Ground.data }], guard := none }) (v := ?_) rfl (by kernel_rfl) (by kernel_rfl) (by kernel_rfl) (fun _ _ _ h => h) (Or.inl ⟨by rfl, ?_⟩) (by assumption) ?_
    rotate_left
    · (intro wS hS; have hk := run_string_of (P := Try.prog) 22 9 5 Try.underlying22 Try.underlying5 Try.underlying9 (hr5.below hS); go_simp <;> with_reducible rfl)
    try simp only [Act.put, List.setIfInBounds_toArray, List.set_cons_zero, List.set_cons_succ]
    clear hr5
    refine wpAnyH_take (i := 14) (oi := { dst := some 22, op := Op.binOp BinOp.add 9 (Operand.tmp 16) (Operand.tmp 21) 9, type := 9, pos := "ref.go:28", after := #[{ on := 8, ground := Ground.data }, { on := 13, ground := Ground.data }], guard := none }) (v := ?_) rfl (by kernel_rfl) (by kernel_rfl) (by kernel_rfl) (fun _ _ _ h => h) (Or.inl ⟨by rfl, ?_⟩) (by assumption) ?_
    rotate_left
    · (intro wS hS; go_simp <;> with_reducible rfl)
    try simp only [Act.put, List.setIfInBounds_toArray, List.set_cons_zero, List.set_cons_succ]
    refine wpAnyH_take (i := 20) (oi := { dst := some 28, op := Op.binOp BinOp.add 9 (Operand.tmp 22) (Operand.tmp 27) 9, type := 9, pos := "ref.go:28", after := #[{ on := 14, ground := Ground.data }, { on := 19, ground := Ground.data }], guard := none }) (v := ?_) rfl (by kernel_rfl) (by kernel_rfl) (by kernel_rfl) (fun _ _ _ h => h) (Or.inl ⟨by rfl, ?_⟩) (by assumption) ?_
    rotate_left
    · (intro wS hS; go_simp <;> with_reducible rfl)
    try simp only [Act.put, List.setIfInBounds_toArray, List.set_cons_zero, List.set_cons_succ]
    refine wpAnyH_take (i := 25) (oi := { dst := some 33, op := Op.binOp BinOp.add 9 (Operand.tmp 28) (Operand.tmp 32) 9, type := 9, pos := "ref.go:28", after := #[{ on := 20, ground := Ground.data }, { on := 24, ground := Ground.data }], guard := none }) (v := ?_) rfl (by kernel_rfl) (by kernel_rfl) (by kernel_rfl) (fun _ _ _ h => h) (Or.inl ⟨by rfl, ?_⟩) (by assumption) ?_
    rotate_left
    · (intro wS hS; go_simp <;> with_reducible rfl)
    try simp only [Act.put, List.setIfInBounds_toArray, List.set_cons_zero, List.set_cons_succ]
    rotate_left
    go_simp
    have hb := (one_cells x2 #[.int .u8 (pr : Int)] 5).1
    have hr5 := rd_one H1.out (w := x2) (e := 5)
    have hS2 : (fun W => Below x2.heap.size x2 W) (x2.alloc (.cells #[.int .u8 (pr : Int)] 5)) := Below.alloc hS (Below.size hS) _
    refine hK.out _ _ hS2 (fun _ => ?_)
    clear hK K
    try simp only [Act.put, List.setIfInBounds_toArray, List.set_cons_zero, List.set_cons_succ]
    refine wpAnyH_stronger (S' := fun W => Below (x2.alloc (.cells #[.int .u8 (pr : Int)] 5)).heap.size (x2.alloc (.cells #[.int .u8 (pr : Int)] 5)) W) (fun W h => below_then hS2 h (Below.size hS2)) _ _ _ _ ?_
    replace hT := below_trans hT hb
    clear hS hS2 hb
    generalize x2.alloc (.cells #[.int .u8 (pr : Int)] 5) = x3 at *
    have hS : (fun W => Below x3.heap.size x3 W) x3 := Below.refl _ _
    refine wpAnyH_take (i := 13) (oi := { dst := some 21, op := Op.convert 22 9 (Operand.tmp 20), type := 9, pos := "ref.go:28", after := #[{ on := 12, ground := Ground.data }], guard := none }) (v := ?_) rfl (by kernel_rfl) (by kernel_rfl) (by kernel_rfl) (fun _ _ _ h => h) (Or.inl ⟨by rfl, ?_⟩) (by assumption) ?_
    rotate_left
    · (intro wS hS; have hk := run_string_of (P := Try.prog) 22 9 5 Try.underlying22 Try.underlying5 Try.underlying9 (hr5.below hS); go_simp <;> with_reducible rfl)
    try simp only [Act.put, List.setIfInBounds_toArray, List.set_cons_zero, List.set_cons_succ]
    clear hr5
    refine wpAnyH_ready (rs := [6]) (by kernel_rfl) (by simp) ?_
    refine AllReadyH.cons rfl (fun K hK => ?_) (AllReadyH.nil)
    go_simp
    refine (B2 _).out.mono ?_
    rintro e x4 ⟨v, rfl, how, hb⟩
    obtain ⟨A5, cc5, rfl, hr5, -⟩ := Rd.of_own how
    have hS2 : (fun W => Below x3.heap.size x3 W) x4 := below_then hS hb (Below.size hS)
    refine hK.out _ _ hS2 (fun _ => ?_)
    clear hK K
    try simp only [Act.put, List.setIfInBounds_toArray, List.set_cons_zero, List.set_cons_succ]
    refine wpAnyH_stronger (S' := fun W => Below x4.heap.size x4 W) (fun W h => below_then hS2 h (Below.size hS2)) _ _ _ _ ?_
    replace hT := below_trans hT hb
    clear hS hS2 hb how
    have hS : (fun W => Below x4.heap.size x4 W) x4 := Below.refl _ _
    refine wpAnyH_take (i := 7) (oi := { dst := some 15, op := Op.convert 22 9 (Operand.tmp 14), type := 9, pos := "ref.go:28", after := #[{ on := 6, ground := Ground.data }], guard := none }) (v := ?_) rfl (by kernel_rfl) (by kernel_rfl) (by kernel_rfl) (fun _ _ _ h => h) (Or.inl ⟨by rfl, ?_⟩) (by assumption) ?_
    rotate_left
    · (intro wS hS; have hk := run_string_of (P := Try.prog) 22 9 5 Try.underlying22 Try.underlying5 Try.underlying9 (hr5.below hS); go_simp <;> with_reducible rfl)
    try simp only [Act.put, List.setIfInBounds_toArray, List.set_cons_zero, List.set_cons_succ]
    clear hr5
    refine wpAnyH_take (i := 8) (oi := { dst := some 16, op := Op.binOp BinOp.add 9 (Operand.tmp 11) (Operand.tmp 15) 9, type := 9, pos := "ref.go:28", after := #[{ on := 3, ground := Ground.data }, { on := 7, ground := Ground.data }], guard := none }) (v := ?_) rfl (by kernel_rfl) (by kernel_rfl) (by kernel_rfl) (fun _ _ _ h => h) (Or.inl ⟨by rfl, ?_⟩) (by assumption) ?_
    rotate_left
    · (intro wS hS; go_simp <;> with_reducible rfl)
    try simp only [Act.put, List.setIfInBounds_toArray, List.set_cons_zero, List.set_cons_succ]
    refine wpAnyH_take (i := 14) (oi := { dst := some 22, op := Op.binOp BinOp.add 9 (Operand.tmp 16) (Operand.tmp 21) 9, type := 9, pos := "ref.go:28", after := #[{ on := 8, ground := Ground.data }, { on := 13, ground := Ground.data }], guard := none }) (v := ?_) rfl (by kernel_rfl) (by kernel_rfl) (by kernel_rfl) (fun _ _ _ h => h) (Or.inl ⟨by rfl, ?_⟩) (by assumption) ?_
    rotate_left
    · (intro wS hS; go_simp <;> with_reducible rfl)
    try simp only [Act.put, List.setIfInBounds_toArray, List.set_cons_zero, List.set_cons_succ]
    refine wpAnyH_ready (rs := [18]) (by kernel_rfl) (by simp) ?_
    refine AllReadyH.cons rfl (fun K hK => ?_) (AllReadyH.nil)
    go_simp
    refine (B3 _).out.mono ?_
    rintro e x5 ⟨v, rfl, how, hb⟩
    obtain ⟨A5, cc5, rfl, hr5, -⟩ := Rd.of_own how
    have hS2 : (fun W => Below x4.heap.size x4 W) x5 := below_then hS hb (Below.size hS)
    refine hK.out _ _ hS2 (fun _ => ?_)
    clear hK K
    try simp only [Act.put, List.setIfInBounds_toArray, List.set_cons_zero, List.set_cons_succ]
    refine wpAnyH_stronger (S' := fun W => Below x5.heap.size x5 W) (fun W h => below_then hS2 h (Below.size hS2)) _ _ _ _ ?_
    replace hT := below_trans hT hb
    clear hS hS2 hb how
    have hS : (fun W => Below x5.heap.size x5 W) x5 := Below.refl _ _
    refine wpAnyH_take (i := 19) (oi := { dst := some 27, op := Op.convert 22 9 (Operand.tmp 26), type := 9, pos := "ref.go:28", after := #[{ on := 18, ground := Ground.data }], guard := none }) (v := ?_) rfl (by kernel_rfl) (by kernel_rfl) (by kernel_rfl) (fun _ _ _ h => h) (Or.inl ⟨by rfl, ?_⟩) (by assumption) ?_
    rotate_left
    · (intro wS hS; have hk := run_string_of (P := Try.prog) 22 9 5 Try.underlying22 Try.underlying5 Try.underlying9 (hr5.below hS); go_simp <;> with_reducible rfl)
    try simp only [Act.put, List.setIfInBounds_toArray, List.set_cons_zero, List.set_cons_succ]
    clear hr5
    refine wpAnyH_take (i := 20) (oi := { dst := some 28, op := Op.binOp BinOp.add 9 (Operand.tmp 22) (Operand.tmp 27) 9, type := 9, pos := "ref.go:28", after := #[{ on := 14, ground := Ground.data }, { on := 19, ground := Ground.data }], guard := none }) (v := ?_) rfl (by kernel_rfl) (by kernel_rfl) (by kernel_rfl) (fun _ _ _ h => h) (Or.inl ⟨by rfl, ?_⟩) (by assumption) ?_
    rotate_left
    · (intro wS hS; go_simp <;> with_reducible rfl)
    try simp only [Act.put, List.setIfInBounds_toArray, List.set_cons_zero, List.set_cons_succ]
    refine wpAnyH_ready (rs := [23]) (by kernel_rfl) (by simp) ?_
    refine AllReadyH.cons rfl (fun K hK => ?_) (AllReadyH.nil)
    go_simp
    refine (B4 _).out.mono ?_
    rintro e x6 ⟨v, rfl, how, hb⟩
    obtain ⟨A5, cc5, rfl, hr5, -⟩ := Rd.of_own how
    have hS2 : (fun W => Below x5.heap.size x5 W) x6 := below_then hS hb (Below.size hS)
    refine hK.out _ _ hS2 (fun _ => ?_)
    clear hK K
    try simp only [Act.put, List.setIfInBounds_toArray, List.set_cons_zero, List.set_cons_succ]
    refine wpAnyH_stronger (S' := fun W => Below x6.heap.size x6 W) (fun W h => below_then hS2 h (Below.size hS2)) _ _ _ _ ?_
    replace hT := below_trans hT hb
    clear hS hS2 hb how
    have hS : (fun W => Below x6.heap.size x6 W) x6 := Below.refl _ _
    refine wpAnyH_take (i := 24) (oi := { dst := some 32, op := Op.convert 22 9 (Operand.tmp 31), type := 9, pos := "ref.go:28", after := #[{ on := 23, ground := Ground.data }], guard := none }) (v := ?_) rfl (by kernel_rfl) (by kernel_rfl) (by kernel_rfl) (fun _ _ _ h => h) (Or.inl ⟨by rfl, ?_⟩) (by assumption) ?_
    rotate_left
    · (intro wS hS; have hk := run_string_of (P := Try.prog) 22 9 5 Try.underlying22 Try.underlying5 Try.underlying9 (hr5.below hS); go_simp <;> with_reducible rfl)
    try simp only [Act.put, List.setIfInBounds_toArray, List.set_cons_zero, List.set_cons_succ]
    clear hr5
    refine wpAnyH_take (i := 25) (oi := { dst := some 33, op := Op.binOp BinOp.add 9 (Operand.tmp 28) (Operand.tmp 32) 9, type := 9, pos := "ref.go:28", after := #[{ on := 20, ground := Ground.data }, { on := 24, ground := Ground.data }], guard := none }) (v := ?_) rfl (by kernel_rfl) (by kernel_rfl) (by kernel_rfl) (fun _ _ _ h => h) (Or.inl ⟨by rfl, ?_⟩) (by assumption) ?_
    rotate_left
    · (intro wS hS; go_simp <;> with_reducible rfl)
    try simp only [Act.put, List.setIfInBounds_toArray, List.set_cons_zero, List.set_cons_succ]
    rotate_left
    go_simp
    have hb := (one_cells x1 #[.int .u8 (pr : Int)] 5).1
    have hr5 := rd_one H1.out (w := x1) (e := 5)
    have hS2 : (fun W => Below x1.heap.size x1 W) (x1.alloc (.cells #[.int .u8 (pr : Int)] 5)) := Below.alloc hS (Below.size hS) _
    refine hK.out _ _ hS2 (fun _ => ?_)
    clear hK K
    try simp only [Act.put, List.setIfInBounds_toArray, List.set_cons_zero, List.set_cons_succ]
    refine wpAnyH_stronger (S' := fun W => Below (x1.alloc (.cells #[.int .u8 (pr : Int)] 5)).heap.size (x1.alloc (.cells #[.int .u8 (pr : Int)] 5)) W) (fun W h => below_then hS2 h (Below.size hS2)) _ _ _ _ ?_
    replace hT := below_trans hT hb
    clear hS hS2 hb
    generalize x1.alloc (.cells #[.int .u8 (pr : Int)] 5) = x2 at *
    have hS : (fun W => Below x2.heap.size x2 W) x2 := Below.refl _ _
    refine wpAnyH_take (i := 13) (oi := { dst := some 21, op := Op.convert 22 9 (Operand.tmp 20), type := 9, pos := "ref.go:28", after := #[{ on := 12, ground := Ground.data }], guard := none }) (v := ?_) rfl (by kernel_rfl) (by kernel_rfl) (by kernel_rfl) (fun _ _ _ h => h) (Or.inl ⟨by rfl, ?_⟩) (by assumption) ?_
    rotate_left
    · (intro wS hS; have hk := run_string_of (P := Try.prog) 22 9 5 Try.underlying22 Try.underlying5 Try.underlying9 (hr5.below hS); go_simp <;> with_reducible rfl)
    try simp only [Act.put, List.setIfInBounds_toArray, List.set_cons_zero, List.set_cons_succ]
    clear hr5
    refine wpAnyH_ready (rs := [2]) (by kernel_rfl) (by simp) ?_
    refine AllReadyH.cons rfl (fun K hK => ?_) (AllReadyH.nil)
    go_simp
    refine (B1 _).out.mono ?_
    rintro e x3 ⟨v, rfl, how, hb⟩
    obtain ⟨A5, cc5, rfl, hr5, -⟩ := Rd.of_own how
    have hS2 : (fun W => Below x2.heap.size x2 W) x3 := below_then hS hb (Below.size hS)
    refine hK.out _ _ hS2 (fun _ => ?_)
    clear hK K
    try simp only [Act.put, List.setIfInBounds_toArray, List.set_cons_zero, List.set_cons_succ]
    refine wpAnyH_stronger (S' := fun W => Below x3.heap.size x3 W) (fun W h => below_then hS2 h (Below.size hS2)) _ _ _ _ ?_
    replace hT := below_trans hT hb
    clear hS hS2 hb how
    have hS : (fun W => Below x3.heap.size x3 W) x3 := Below.refl _ _
    refine wpAnyH_take (i := 3) (oi := { dst := some 11, op := Op.convert 22 9 (Operand.tmp 10), type := 9, pos := "ref.go:28", after := #[{ on := 2, ground := Ground.data }], guard := none }) (v := ?_) rfl (by kernel_rfl) (by kernel_rfl) (by kernel_rfl) (fun _ _ _ h => h) (Or.inl ⟨by rfl, ?_⟩) (by assumption) ?_
    rotate_left
    · (intro wS hS; have hk := run_string_of (P := Try.prog) 22 9 5 Try.underlying22 Try.underlying5 Try.underlying9 (hr5.below hS); go_simp <;> with_reducible rfl)
    try simp only [Act.put, List.setIfInBounds_toArray, List.set_cons_zero, List.set_cons_succ]
    clear hr5
    refine wpAnyH_ready (rs := [6]) (by kernel_rfl) (by simp) ?_
    refine AllReadyH.cons rfl (fun K hK => ?_) (AllReadyH.nil)
    go_simp
    refine (B2 _).out.mono ?_
    rintro e x4 ⟨v, rfl, how, hb⟩
    obtain ⟨A5, cc5, rfl, hr5, -⟩ := Rd.of_own how
    have hS2 : (fun W => Below x3.heap.size x3 W) x4 := below_then hS hb (Below.size hS)
    refine hK.out _ _ hS2 (fun _ => ?_)
    clear hK K
    try simp only [Act.put, List.setIfInBounds_toArray, List.set_cons_zero, List.set_cons_succ]
    refine wpAnyH_stronger (S' := fun W => Below x4.heap.size x4 W) (fun W h => below_then hS2 h (Below.size hS2)) _ _ _ _ ?_
    replace hT := below_trans hT hb
    clear hS hS2 hb how
    have hS : (fun W => Below x4.heap.size x4 W) x4 := Below.refl _ _
    refine wpAnyH_take (i := 7) (oi := { dst := some 15, op := Op.convert 22 9 (Operand.tmp 14), type := 9, pos := "ref.go:28", after := #[{ on := 6, ground := Ground.data }], guard := none }) (v := ?_) rfl (by kernel_rfl) (by kernel_rfl) (by kernel_rfl) (fun _ _ _ h => h) (Or.inl ⟨by rfl, ?_⟩) (by assumption) ?_
    rotate_left
    · (intro wS hS; have hk := run_string_of (P := Try.prog) 22 9 5 Try.underlying22 Try.underlying5 Try.underlying9 (hr5.below hS); go_simp <;> with_reducible rfl)
    try simp only [Act.put, List.setIfInBounds_toArray, List.set_cons_zero, List.set_cons_succ]
    clear hr5
    refine wpAnyH_take (i := 8) (oi := { dst := some 16, op := Op.binOp BinOp.add 9 (Operand.tmp 11) (Operand.tmp 15) 9, type := 9, pos := "ref.go:28", after := #[{ on := 3, ground := Ground.data }, { on := 7, ground := Ground.data }], guard := none }) (v := ?_) rfl (by kernel_rfl) (by kernel_rfl) (by kernel_rfl) (fun _ _ _ h => h) (Or.inl ⟨by rfl, ?_⟩) (by assumption) ?_
    rotate_left
    · (intro wS hS; go_simp <;> with_reducible rfl)
    try simp only [Act.put, List.setIfInBounds_toArray, List.set_cons_zero, List.set_cons_succ]
    refine wpAnyH_take (i := 14) (oi := { dst := some 22, op := Op.binOp BinOp.add 9 (Operand.tmp 16) (Operand.tmp 21) 9, type := 9, pos := "ref.go:28", after := #[{ on := 8, ground := Ground.data }, { on := 13, ground := Ground.data }], guard := none }) (v := ?_) rfl (by kernel_rfl) (by kernel_rfl) (by kernel_rfl) (fun _ _ _ h => h) (Or.inl ⟨by rfl, ?_⟩) (by assumption) ?_
    rotate_left
    · (intro wS hS; go_simp <;> with_reducible rfl)
    try simp only [Act.put, List.setIfInBounds_toArray, List.set_cons_zero, List.set_cons_succ]
    refine wpAnyH_ready (rs := [18]) (by kernel_rfl) (by simp) ?_
    refine AllReadyH.cons rfl (fun K hK => ?_) (AllReadyH.nil)
    go_simp
    refine (B3 _).out.mono ?_
    rintro e x5 ⟨v, rfl, how, hb⟩
    obtain ⟨A5, cc5, rfl, hr5, -⟩ := Rd.of_own how
    have hS2 : (fun W => Below x4.heap.size x4 W) x5 := below_then hS hb (Below.size hS)
    refine hK.out _ _ hS2 (fun _ => ?_)
    clear hK K
    try simp only [Act.put, List.setIfInBounds_toArray, List.set_cons_zero, List.set_cons_succ]
    refine wpAnyH_stronger (S' := fun W => Below x5.heap.size x5 W) (fun W h => below_then hS2 h (Below.size hS2)) _ _ _ _ ?_
    replace hT := below_trans hT hb
    clear hS hS2 hb how
    have hS : (fun W => Below x5.heap.size x5 W) x5 := Below.refl _ _
    refine wpAnyH_take (i := 19) (oi := { dst := some 27, op := Op.convert 22 9 (Operand.tmp 26), type := 9, pos := "ref.go:28", after := #[{ on := 18, ground := Ground.data }], guard := none }) (v := ?_) rfl (by kernel_rfl) (by kernel_rfl) (by kernel_rfl) (fun _ _ _ h => h) (Or.inl ⟨by rfl, ?_⟩) (by assumption) ?_
    rotate_left
    · (intro wS hS; have hk := run_string_of (P := Try.prog) 22 9 5 Try.underlying22 Try.underlying5 Try.underlying9 (hr5.below hS); go_simp <;> with_reducible rfl)
    try simp only [Act.put, List.setIfInBounds_toArray, List.set_cons_zero, List.set_cons_succ]
    clear hr5
    refine wpAnyH_take (i := 20) (oi := { dst := some 28, op := Op.binOp BinOp.add 9 (Operand.tmp 22) (Operand.tmp 27) 9, type := 9, pos := "ref.go:28", after := #[{ on := 14, ground := Ground.data }, { on := 19, ground := Ground.data }], guard := none }) (v := ?_) rfl (by kernel_rfl) (by kernel_rfl) (by kernel_rfl) (fun _ _ _ h => h) (Or.inl ⟨by rfl, ?_⟩) (by assumption) ?_
    rotate_left
    · (intro wS hS; go_simp <;> with_reducible rfl)
    try simp only [Act.put, List.setIfInBounds_toArray, List.set_cons_zero, List.set_cons_succ]
    refine wpAnyH_ready (rs := [23]) (by kernel_rfl) (by simp) ?_
    refine AllReadyH.cons rfl (fun K hK => ?_) (AllReadyH.nil)
    go_simp
    refine (B4 _).out.mono ?_
    rintro e x6 ⟨v, rfl, how, hb⟩
    obtain ⟨A5, cc5, rfl, hr5, -⟩ := Rd.of_own how
    have hS2 : (fun W => Below x5.heap.size x5 W) x6 := below_then hS hb (Below.size hS)
    refine hK.out _ _ hS2 (fun _ => ?_)
    clear hK K
    try simp only [Act.put, List.setIfInBounds_toArray, List.set_cons_zero, List.set_cons_succ]
    refine wpAnyH_stronger (S' := fun W => Below x6.heap.size x6 W) (fun W h => below_then hS2 h (Below.size hS2)) _ _ _ _ ?_
    replace hT := below_trans hT hb
    clear hS hS2 hb how
    have hS : (fun W => Below x6.heap.size x6 W) x6 := Below.refl _ _
    refine wpAnyH_take (i := 24) (oi := { dst := some 32, op := Op.convert 22 9 (Operand.tmp 31), type := 9, pos := "ref.go:28", after := #[{ on := 23, ground := Ground.data }], guard := none }) (v := ?_) rfl (by kernel_rfl) (by kernel_rfl) (by kernel_rfl) (fun _ _ _ h => h) (Or.inl ⟨by rfl, ?_⟩) (by assumption) ?_
    rotate_left
    · (intro wS hS; have hk := run_string_of (P := Try.prog) 22 9 5 Try.underlying22 Try.underlying5 Try.underlying9 (hr5.below hS); go_simp <;> with_reducible rfl)
    try simp only [Act.put, List.setIfInBounds_toArray, List.set_cons_zero, List.set_cons_succ]
    clear hr5
    refine wpAnyH_take (i := 25) (oi := { dst := some 33, op := Op.binOp BinOp.add 9 (Operand.tmp 28) (Operand.tmp 32) 9, type := 9, pos := "ref.go:28", after := #[{ on := 20, ground := Ground.data }, { on := 24, ground := Ground.data }], guard := none }) (v := ?_) rfl (by kernel_rfl) (by kernel_rfl) (by kernel_rfl) (fun _ _ _ h => h) (Or.inl ⟨by rfl, ?_⟩) (by assumption) ?_
    rotate_left
    · (intro wS hS; go_simp <;> with_reducible rfl)
    try simp only [Act.put, List.setIfInBounds_toArray, List.set_cons_zero, List.set_cons_succ]
    rotate_left
    all_goals
      refine wpAnyH_take (i := 33) (oi := { dst := some 41, op := Op.binOp BinOp.add 9 (Operand.tmp 33) (Operand.tmp 40) 9, type := 9, pos := "ref.go:28", after := #[{ on := 25, ground := Ground.data }, { on := 32, ground := Ground.data }], guard := none }) (v := ?_) rfl (by kernel_rfl) (by kernel_rfl) (by kernel_rfl) (fun _ _ _ h => h) (Or.inl ⟨by rfl, ?_⟩) (by assumption) ?_
      rotate_left
      · (intro wS hS; go_simp <;> with_reducible rfl)
      try simp only [Act.put, List.setIfInBounds_toArray, List.set_cons_zero, List.set_cons_succ]
      refine wpAnyH_take (i := 34) (oi := { dst := some 4, op := Op.assign (Operand.tmp 41), type := 9, pos := "ref.go:28", after := #[{ on := 33, ground := Ground.data }, { on := 23, ground := Ground.chain }, { on := 0, ground := Ground.phase }, { on := 1, ground := Ground.phase }, { on := 2, ground := Ground.phase }, { on := 3, ground := Ground.phase }, { on := 4, ground := Ground.phase }, { on := 5, ground := Ground.phase }, { on := 6, ground := Ground.phase }, { on := 7, ground := Ground.phase }, { on := 8, ground := Ground.phase }, { on := 9, ground := Ground.phase }, { on := 10, ground := Ground.phase }, { on := 11, ground := Ground.phase }, { on := 12, ground := Ground.phase }, { on := 13, ground := Ground.phase }, { on := 14, ground := Ground.phase }, { on := 15, ground := Ground.phase }, { on := 16, ground := Ground.phase }, { on := 17, ground := Ground.phase }, { on := 18, ground := Ground.phase }, { on := 19, ground := Ground.phase }, { on := 20, ground := Ground.phase }, { on := 21, ground := Ground.phase }, { on := 22, ground := Ground.phase }, { on := 23, ground := Ground.phase }, { on := 24, ground := Ground.phase }, { on := 25, ground := Ground.phase }, { on := 26, ground := Ground.phase }, { on := 27, ground := Ground.phase }, { on := 28, ground := Ground.phase }, { on := 29, ground := Ground.phase }, { on := 30, ground := Ground.phase }, { on := 31, ground := Ground.phase }, { on := 32, ground := Ground.phase }, { on := 33, ground := Ground.phase }], guard := none }) (v := ?_) rfl (by kernel_rfl) (by kernel_rfl) (by kernel_rfl) (fun _ _ _ h => h) (Or.inl ⟨by rfl, ?_⟩) (by assumption) ?_
      rotate_left
      · (intro wS hS; go_simp <;> with_reducible rfl)
      try simp only [Act.put, List.setIfInBounds_toArray, List.set_cons_zero, List.set_cons_succ]
      refine wpAnyH_done (by kernel_rfl) ?_ _
      go_wp2_with fail
      go_meet
      exact ⟨rfl, hT⟩
  obtain ⟨rfl, hS⟩ := hcut
  replace c7 := cell_below hS c7
  replace hx := hx.below hS
  replace hB := hB.trans (below_of hS hB.size)
  clear hS c0 c1 c2 c3 c4 c5 c6 B1 B2 B3 B4 hcat l1 l2 l3 l4 H1 H2 H3 e1 e2 e3
  generalize wc = w1 at *
  go_wp2_with fail
  go_loopw [4, 5] (fun s i wr => ∃ j : Nat, j ≤ n ∧ i = .int .i64 j ∧ s = .string ⟨(rh ++ pgB ps j).toArray⟩ ∧ Below w1.heap.size w1 wr) (fun _ i _ => n - (intOf i).toNat)
  case atStart => exact ⟨0, by omega, rfl, by simp [pgB], Below.refl _ _⟩
  case round =>
    obtain ⟨j, hj, rfl, rfl, hBr⟩ := hrel
    have q7 := cell_below hBr c7
    by_cases hlt : j < n
    · obtain ⟨ad, rfl⟩ := hx.some_of_pos (by omega)
      have hpj := hpg j hlt
      have e0 := (hx.below hBr).icell j (by rw [ints_length]; omega)
      have hgi : (ints ps)[j]'(by rw [ints_length]; omega) = ((ps.getD j 0 : Nat) : Int) := by
        rw [List.getD_eq_getElem?_getD, List.getElem?_eq_getElem (by omega)]; simp [ints]
      rw [hgi] at e0
      have hst : Hid (rh ++ pgB ps (j + 1) = rh ++ pgB ps j ++ putB 2 (ps.getD j 0)) := by show _ = _; rw [pgB, List.append_assoc]
      have hsj : (rh ++ pgB ps j).length = 21 + 2 * j := by rw [List.length_append, hhl, pgB_length]
      clear hgi hpg hx hhl HR
      generalize ps.getD j 0 = pg at *
      generalize rh ++ pgB ps j = sj at *
      have l5 := putB_length 2 pg
      have ew : IntKind.u64.wrap (pg : Int) = pg := by rw [wrap_u64]; omega
      have hjl : (j : Int) < n := by omega
      have f11 : ¬ (9223372036854775807 < 21 + 2 * j + 2) := by omega
      go_wp2_with fail
      refine (refbytes_any 2 pg _ (by omega)).mono ?_
      rintro e w4 ⟨v, rfl, how, hb⟩
      obtain ⟨A4, k4, rfl, hr4, -⟩ := Rd.of_own how
      replace hBr := below_trans hBr hb
      rw [show wid 2 = 2 from rfl] at hr4 ⊢
      have hks := run_string_of (P := Try.prog) 22 9 5 Try.underlying22 Try.underlying5 Try.underlying9 hr4
      clear hb how hr4
      generalize putB 2 pg = b5 at *
      go_wp2_with fail
      go_roundw
      case rel => exact ⟨j + 1, by omega, by go_num, by rw [hst.out]; exact congrArg Value.string (cat_bytes sj b5), hBr⟩
      case measure => simp [intOf]; omega
    · obtain rfl : j = n := by omega
      rw [← HR.out]
      clear hx hpg HR
      go_wp2_with fail
      go_ret
      exact ⟨rfl, hB.trans (below_of hBr hB.size)⟩
end Go.Proofs.Ythkabhejfkekjaa
