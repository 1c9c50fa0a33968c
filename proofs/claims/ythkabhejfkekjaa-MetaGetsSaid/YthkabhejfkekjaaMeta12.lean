/- Contract of meta.Get of any data. No condition but the length's bound. -/
import Derived.Test.YthkabhejfkekjaaMeta11
import Derived.Deep.AppendLies
namespace Go.Proofs.Ythkabhejfkekjaa
open Go.RowKit

set_option maxRecDepth 100000 in
set_option maxHeartbeats 800000 in
theorem overq_any (xs : List UInt8) (A : Option Addr) (n c : Nat) (w : World) (hx : RdB w A n c xs) (hN : n ≤ 140737488355000) :
    Calls Try.prog 35 #[.slice A n c] w fun e w' => ∃ g, e = .returned (.pointer (some ⟨g, 0, none⟩)) ∧ w.heap.size ≤ g ∧ RdrQ (fun b => b < w'.heap.size) w' g xs false ∧ Below w.heap.size w w' := by
  have hn := hx.blen
  have Hn := Lib.hid hn; clear hn
  have hm := hx.cm
  have hnc := hx.nc
  unfold maxLen at hm
  have hB := Below.refl w.heap.size w
  have own0 := World.ownsRow_nil w w.heap.size 5 1
  go_enter Try.func35, Try.ntmps35
  go_wp2_with (first
    | (at_builtin; refine wpl_append rfl (.const (.slice none 0 0)) (.tmp 3) 22 rfl w.heap.size 5 _ 1 1 Try.underlying22 info_u8 rfl (by decide) _ 0 [] rfl own0 A n c (bs xs) rfl hx (bs_one _) (by unfold maxLen; omega) (by omega) (Nat.le_refl _) ?_; intro v1 w1 ho1 hg1; have hB1 := below_own hB own0 hg1; clear hg1; obtain ⟨A2, c2, rfl, hr, hbl⟩ := Rd.of_own ho1; rw [List.nil_append, Nat.zero_add] at hr; have hlt0 := fun ad (e : A2 = some ad) => (ho1.lt ad.block (by rw [e]; rfl)).2; rw [Nat.zero_add]; clear ho1))
  go_ret
  have hlt : ∀ ad, A2 = some ad → ad.block ≠ w1.heap.size ∧ ad.block < (w1.alloc (.cells #[.slice A2 n c2, .bool false] 110)).heap.size := fun ad e => by have := hlt0 ad e; rw [alloc_size]; omega
  refine ⟨w1.heap.size, rfl, hB1.size, ⟨A2, n, c2, alloc_new _ _, hr.alloc _, hlt, hN⟩, hB1.alloc hB1.size _⟩


/-- A reader's state behind a number; behind j pages; a page. -/
def stp (p : List UInt8 × Bool) (k : Int) : List UInt8 × Bool := (rdLeft p.1 p.2 (nw k), rdShort p.1 p.2 (nw k))
def pgSt (p : List UInt8 × Bool) : Nat → List UInt8 × Bool
  | 0 => p
  | j + 1 => stp (pgSt p j) 2
def pgV (p : List UInt8 × Bool) (j : Nat) : Nat := rdNum (pgSt p j).1 (pgSt p j).2 2
def pgVs (p : List UInt8 × Bool) (n : Nat) : List Nat := (List.range n).map (pgV p)
theorem pgVs_length (p : List UInt8 × Bool) (n : Nat) : (pgVs p n).length = n := by simp [pgVs]
theorem pgVs_getD (p : List UInt8 × Bool) (n i : Nat) (h : i < n) : (pgVs p n).getD i 0 = pgV p i := by simp [pgVs, List.getD_eq_getElem?_getD, h]

theorem mayM_to {id fi pr le : Nat} {lp : Int} {ps : List Nat} {en : Nat} (hen : en < 18446744073709551616) (h : mayM id fi pr le lp (ints ps) = true) : ∃ lp2 : Nat, lp = lp2 ∧ MayM id fi pr le en lp2 ps := by
  unfold mayM at h
  rw [Bool.and_eq_true, ints_length] at h
  obtain ⟨h1, h2⟩ := h
  unfold headM at h1
  rw [decide_eq_true_iff] at h1
  obtain ⟨g1, g2, g3, g4, g5, g6, ⟨g7, g8⟩, g9, g10⟩ := h1
  have key : ∀ j, j ≤ ps.length → allP (ints ps) j = true → ∀ i, (hi : i < j) → (hl : i < ps.length) → 1 ≤ ps[i] ∧ ps[i] ≤ 65535 := by
    intro j
    induction j with
    | zero => intro _ _ i hi; omega
    | succ j ih =>
      intro hj ha i hi hl
      rw [allP, Bool.and_eq_true] at ha
      by_cases hij : i = j
      · subst hij
        have := ha.2
        unfold pageOk at this
        rw [decide_eq_true_iff, List.getD_eq_getElem?_getD, List.getElem?_eq_getElem (by rw [ints_length]; exact hl)] at this
        simp [ints] at this
        omega
      · exact ih (by omega) ha.1 i (by omega) hl
  refine ⟨lp.toNat, by omega, ⟨g1, g2, by omega, by omega, by omega, hen, by omega, by omega, g9, g10, fun p hp => ?_⟩⟩
  obtain ⟨i, hi, rfl⟩ := List.mem_iff_getElem.1 hp
  exact key ps.length (Nat.le_refl _) h2 i hi hi
/-- A record and an error as meta.Get answers them. -/
def mgOut (e : Ending) (w' : World) (er id fi pr le en : Nat) (pl : Bool) (lp : Int) (ps : List Nat) : Prop :=
  (er ≠ 0 ∧ e = .returned (.tuple #[.agg #[.int .u64 0, .int .u64 0, .int .i64 0, .int .i64 0, .int .u64 0, .bool false, .int .i64 0, .slice none 0 0], .int .i64 er])) ∨
  (er = 0 ∧ ∃ A n c, e = .returned (.tuple #[recV id fi pr le en pl lp A n c, .int .i64 0]) ∧ RdI w' A n c (ints ps))

set_option maxRecDepth 100000 in
set_option maxHeartbeats 8000000 in
theorem mget_any (xs : List UInt8) (lp : Int) (w : World) (hx1m : xs.length ≤ 1000) (q0 q1 q2 q3 q4 q5 q6 q7 : List UInt8 × Bool) (id fi pr le en pn n er : Nat) (pl : Bool)
    (e0 : q0 = (xs, false)) (e1 : q1 = stp q0 4) (e2 : q2 = stp q1 4) (e3 : q3 = stp q2 1) (e4 : q4 = stp q3 2) (e5 : q5 = stp q4 8) (e6 : q6 = stp q5 1) (e7 : q7 = stp q6 1)
    (r0 : rdNum q0.1 q0.2 4 = id) (r1 : rdNum q1.1 q1.2 4 = fi) (r2 : rdNum q2.1 q2.2 1 = pr) (r3 : rdNum q3.1 q3.2 2 = le) (r4 : rdNum q4.1 q4.2 8 = en) (r5 : rdNum q5.1 q5.2 1 = pn) (r6 : rdNum q6.1 q6.2 1 = n)
    (hpq : ((pn : Int) == 1) = pl) (hnb : n ≤ 255) (her : er = if (pgSt q7 n).2 then 5 else if (pgSt q7 n).1 = [] then (if mayM id fi pr le lp (ints (pgVs q7 n)) then (if recB id fi pr le en (plN pl) (pgVs q7 n) = xs then 0 else 6) else 6) else 6)
    (hen : en < 18446744073709551616) :
    Calls Try.prog 67 #[.string ⟨xs.toArray⟩, .int .i64 lp] w fun e w' => mgOut e w' er id fi pr le en pl lp (pgVs q7 n) ∧ Below w.heap.size w w' := by
  have C0 := fun Q0 g W hh => Lib.hid (rdNq_any Q0 q0.1 q0.2 4 g W hh)
  have C1 := fun Q0 g W hh => Lib.hid (rdNq_any Q0 q1.1 q1.2 4 g W hh)
  have C2 := fun Q0 g g6 W hc hh => Lib.hid (mgetn_any Q0 1 q2.1 q2.2 g g6 W (.inl rfl) hc hh)
  have C3 := fun Q0 g g6 W hc hh => Lib.hid (mgetn_any Q0 2 q3.1 q3.2 g g6 W (.inr rfl) hc hh)
  have C4 := fun Q0 g W hh => Lib.hid (rdNq_any Q0 q4.1 q4.2 8 g W hh)
  have C5 := fun Q0 g g6 W hc hh => Lib.hid (mgetn_any Q0 1 q5.1 q5.2 g g6 W (.inl rfl) hc hh)
  have C6 := fun Q0 g g6 W hc hh => Lib.hid (mgetn_any Q0 1 q6.1 q6.2 g g6 W (.inl rfl) hc hh)
  have CE := fun g W hh => Lib.hid (rdEnd_any (pgSt q7 n).1 (pgSt q7 n).2 g W hh)
  simp only [show ((1 : Nat) : Int) = 1 from rfl, show ((2 : Nat) : Int) = 2 from rfl] at C2 C3 C5 C6
  have t1 : rdLeft q0.1 q0.2 (nw 4) = q1.1 ∧ rdShort q0.1 q0.2 (nw 4) = q1.2 := by rw [e1]; exact ⟨rfl, rfl⟩
  have t2 : rdLeft q1.1 q1.2 (nw 4) = q2.1 ∧ rdShort q1.1 q1.2 (nw 4) = q2.2 := by rw [e2]; exact ⟨rfl, rfl⟩
  have t3 : rdLeft q2.1 q2.2 (nw 1) = q3.1 ∧ rdShort q2.1 q2.2 (nw 1) = q3.2 := by rw [e3]; exact ⟨rfl, rfl⟩
  have t4 : rdLeft q3.1 q3.2 (nw 2) = q4.1 ∧ rdShort q3.1 q3.2 (nw 2) = q4.2 := by rw [e4]; exact ⟨rfl, rfl⟩
  have t5 : rdLeft q4.1 q4.2 (nw 8) = q5.1 ∧ rdShort q4.1 q4.2 (nw 8) = q5.2 := by rw [e5]; exact ⟨rfl, rfl⟩
  have t6 : rdLeft q5.1 q5.2 (nw 1) = q6.1 ∧ rdShort q5.1 q5.2 (nw 1) = q6.2 := by rw [e6]; exact ⟨rfl, rfl⟩
  have t7 : rdLeft q6.1 q6.2 (nw 1) = q7.1 ∧ rdShort q6.1 q6.2 (nw 1) = q7.2 := by rw [e7]; exact ⟨rfl, rfl⟩
  rw [t1.1, t1.2, r0] at C0
  rw [t2.1, t2.2, r1] at C1
  rw [t3.1, t3.2, r2] at C2
  rw [t4.1, t4.2, r3] at C3
  rw [t5.1, t5.2, r4] at C4
  rw [t6.1, t6.2, r5] at C5
  rw [t7.1, t7.2, r6] at C6
  have HQ0 := Lib.hid e0
  have HER := Lib.hid her
  have hpgl := pgVs_length q7 n
  have CJ0 := fun (j : Nat) Q0 g g6 W hc hh => Lib.hid (mgetn_any Q0 2 (pgSt q7 j).1 (pgSt q7 j).2 g g6 W (.inr rfl) hc hh)
  simp only [show ((2 : Nat) : Int) = 2 from rfl] at CJ0
  clear e0 e1 e2 e3 e4 e5 e6 e7 r0 r1 r2 r3 r4 r5 r6 t1 t2 t3 t4 t5 t6 t7 her
  have hB := (one_cells w #[.int .u64 0, .int .u64 0, .int .i64 0, .int .i64 0, .int .u64 0, .bool false, .int .i64 0, .slice none 0 0] 91).1
  have hres := alloc_new w (.cells #[.int .u64 0, .int .u64 0, .int .i64 0, .int .i64 0, .int .u64 0, .bool false, .int .i64 0, .slice none 0 0] 91 (0, 0))
  generalize hW0 : w.alloc (.cells #[.int .u64 0, .int .u64 0, .int .i64 0, .int .i64 0, .int .u64 0, .bool false, .int .i64 0, .slice none 0 0] 91) = w0 at *
  have hcv := run_bytes_of xs w0
  have hrd := rd_bytesOf w0 xs (by unfold maxLen; omega)
  have hbb := bytesWorld_below w0 5 ⟨xs.toArray⟩
  have hlt0 := heap_lt hres
  go_enter Try.func67, Try.ntmps67
  go_wp2_with fail
  refine (overq_any _ _ _ _ _ hrd (by omega)).mono ?_
  rintro e w1 ⟨g, rfl, hg, hr, hb⟩
  have hb01 := below_trans hbb hb
  replace hB := below_trans hB hb01
  replace hres := heap_below hb01 hres
  have hgw : w.heap.size < g := by have := hbb.size; omega
  have hr0 : RdrQ (fun b => b < w1.heap.size) w1 g q0.1 q0.2 := by rw [HQ0.out]; exact hr
  have hg1 := hr0.lt
  obtain ⟨Q0, hQ0⟩ : ∃ Q0 : Nat → Prop, Q0 = fun b => b < w1.heap.size := ⟨_, rfl⟩
  rw [← hQ0] at hr0
  clear hb01 hbb hb hg hcv hrd hr hW0 hlt0
  obtain ⟨hb1, hca⟩ := one_cells w1 #[.pointer (some ⟨g, 0, none⟩)] 47
  have c6 := hca 0 (.pointer (some ⟨g, 0, none⟩)) rfl
  replace hB := below_trans hB hb1
  replace hres := heap_below hb1 hres
  replace hr0 := hr0.kept hb1
  have hsz2 := hb1.size
  have hg6 := cell_lt c6
  clear hca hb1
  go_upto_region 3 with fail
  generalize w1.alloc (.cells #[.pointer (some ⟨g, 0, none⟩)] 47) = w2 at *
  have hne6 : some w1.heap.size ≠ some g := by simp; omega
  have hQA : ∀ gA, w2.heap.size ≤ gA → ∀ b, Q0 b → b ≠ gA := fun gA h b hb => by rw [hQ0] at hb; omega
  have hg6' : w1.heap.size < w2.heap.size := hg6
  generalize w1.heap.size = g6 at *
  clear hQ0 hg6
  go_cut [8] (fun s8 wx => ∃ gA, s8 = .pointer (some ⟨gA, 0, none⟩) ∧ gA ≠ g ∧ w2.heap.size ≤ gA ∧ wx.heap[gA]? = some (.cells (recCs id fi pr le en pl lp none 0 0) 91 (0, 0)) ∧ RdrQ Q0 wx g q6.1 q6.2 ∧ w2.grownBy wx (some g))
  case first =>
    have hr := hr0.kept ((Below.refl w2.heap.size w2).drew)
    clear hr0 hB hres CE C6 HQ0 HER hpgl CJ0 hx1m hnb
    refine wp_region_held (S := fun W => w2.grownBy W (some g)) (by kernel_rfl) ?_
    change wpAnyH _ _ _ _ _ _ _ _ (w2).drew
    have hS : (fun W => w2.grownBy W (some g)) (w2).drew := gb_drew w2 (some g)
    generalize (w2).drew = wd at hS hr ⊢
    refine wpAnyH_take (i := 0) (oi := { dst := some 16, op := Op.load 47 (Operand.tmp 6), type := 47, pos := "meta.go:51", after := #[], guard := none }) (v := ?_) rfl (by kernel_rfl) (by kernel_rfl) (by kernel_rfl) (fun _ _ _ h => h) (Or.inl ⟨by rfl, ?_⟩) (by assumption) ?_
    rotate_left
    · (intro wS hS; have p6 := World.grownBy.cell hS c6 hne6; go_simp <;> with_reducible rfl)
    try simp only [Act.put, List.setIfInBounds_toArray, List.set_cons_zero, List.set_cons_succ]
    refine wpAnyH_take (i := 2) (oi := { dst := some 18, op := Op.load 47 (Operand.tmp 6), type := 47, pos := "meta.go:51", after := #[], guard := none }) (v := ?_) rfl (by kernel_rfl) (by kernel_rfl) (by kernel_rfl) (fun _ _ _ h => h) (Or.inl ⟨by rfl, ?_⟩) (by assumption) ?_
    rotate_left
    · (intro wS hS; have p6 := World.grownBy.cell hS c6 hne6; go_simp <;> with_reducible rfl)
    try simp only [Act.put, List.setIfInBounds_toArray, List.set_cons_zero, List.set_cons_succ]
    refine wpAnyH_take (i := 4) (oi := { dst := some 20, op := Op.move (Operand.tmp 7), type := 30, pos := "meta.go:51", after := #[], guard := none }) (v := ?_) rfl (by kernel_rfl) (by kernel_rfl) (by kernel_rfl) (fun _ _ _ h => h) (Or.inl ⟨by rfl, ?_⟩) (by assumption) ?_
    rotate_left
    · (intro wS hS; go_simp <;> with_reducible rfl)
    try simp only [Act.put, List.setIfInBounds_toArray, List.set_cons_zero, List.set_cons_succ]
    refine wpAnyH_take (i := 6) (oi := { dst := some 22, op := Op.move (Operand.tmp 7), type := 30, pos := "meta.go:51", after := #[], guard := none }) (v := ?_) rfl (by kernel_rfl) (by kernel_rfl) (by kernel_rfl) (fun _ _ _ h => h) (Or.inl ⟨by rfl, ?_⟩) (by assumption) ?_
    rotate_left
    · (intro wS hS; go_simp <;> with_reducible rfl)
    try simp only [Act.put, List.setIfInBounds_toArray, List.set_cons_zero, List.set_cons_succ]
    refine wpAnyH_take (i := 8) (oi := { dst := some 24, op := Op.load 47 (Operand.tmp 6), type := 47, pos := "meta.go:51", after := #[], guard := none }) (v := ?_) rfl (by kernel_rfl) (by kernel_rfl) (by kernel_rfl) (fun _ _ _ h => h) (Or.inl ⟨by rfl, ?_⟩) (by assumption) ?_
    rotate_left
    · (intro wS hS; have p6 := World.grownBy.cell hS c6 hne6; go_simp <;> with_reducible rfl)
    try simp only [Act.put, List.setIfInBounds_toArray, List.set_cons_zero, List.set_cons_succ]
    refine wpAnyH_take (i := 10) (oi := { dst := some 26, op := Op.move (Operand.tmp 7), type := 30, pos := "meta.go:51", after := #[], guard := none }) (v := ?_) rfl (by kernel_rfl) (by kernel_rfl) (by kernel_rfl) (fun _ _ _ h => h) (Or.inl ⟨by rfl, ?_⟩) (by assumption) ?_
    rotate_left
    · (intro wS hS; go_simp <;> with_reducible rfl)
    try simp only [Act.put, List.setIfInBounds_toArray, List.set_cons_zero, List.set_cons_succ]
    refine wpAnyH_take (i := 13) (oi := { dst := some 29, op := Op.move (Operand.tmp 1), type := 3, pos := "meta.go:51", after := #[], guard := none }) (v := ?_) rfl (by kernel_rfl) (by kernel_rfl) (by kernel_rfl) (fun _ _ _ h => h) (Or.inl ⟨by rfl, ?_⟩) (by assumption) ?_
    rotate_left
    · (intro wS hS; go_simp <;> with_reducible rfl)
    try simp only [Act.put, List.setIfInBounds_toArray, List.set_cons_zero, List.set_cons_succ]
    refine wpAnyH_ready (rs := [1, 15]) (by kernel_rfl) (by simp) ?_
    refine AllReadyH.cons (o := { dst := some 17, op := Op.call { callee := Callee.value (Operand.func 37), args := #[Operand.tmp 16, Operand.const (Value.int IntKind.i64 4)], argTypes := #[47, 3] }, type := 24, pos := "meta.go:51", after := #[{ on := 0, ground := Ground.data }], guard := none }) rfl (fun K hK => ?_) (AllReadyH.cons (o := { dst := some 8, op := Op.alloc 91, type := 0, pos := "meta.go:51", after := #[], guard := none }) rfl (fun K hK => ?_) (AllReadyH.nil))
    · have p6 := World.grownBy.cell hS c6 hne6
      go_simp
      refine (C0 Q0 _ _ hr).out.mono ?_
      rintro e w101 ⟨rfl, hr, hb⟩
      replace hS : (fun W => w2.grownBy W (some g)) w101 := World.grownBy.trans hS hb
      refine hK.out _ _ hS (fun _ => ?_)
      clear hK K hb
      try simp only [Act.put, List.setIfInBounds_toArray, List.set_cons_zero, List.set_cons_succ]
      refine wpAnyH_ready (rs := [3, 15]) (by kernel_rfl) (by simp) ?_
      refine AllReadyH.cons (o := { dst := some 19, op := Op.call { callee := Callee.value (Operand.func 37), args := #[Operand.tmp 18, Operand.const (Value.int IntKind.i64 4)], argTypes := #[47, 3] }, type := 24, pos := "meta.go:51", after := #[{ on := 2, ground := Ground.data }, { on := 1, ground := Ground.chain }], guard := none }) rfl (fun K hK => ?_) (AllReadyH.cons (o := { dst := some 8, op := Op.alloc 91, type := 0, pos := "meta.go:51", after := #[], guard := none }) rfl (fun K hK => ?_) (AllReadyH.nil))
      · have p6 := World.grownBy.cell hS c6 hne6
        go_simp
        refine (C1 Q0 _ _ hr).out.mono ?_
        rintro e w103 ⟨rfl, hr, hb⟩
        replace hS : (fun W => w2.grownBy W (some g)) w103 := World.grownBy.trans hS hb
        refine hK.out _ _ hS (fun _ => ?_)
        clear hK K hb
        try simp only [Act.put, List.setIfInBounds_toArray, List.set_cons_zero, List.set_cons_succ]
        refine wpAnyH_ready (rs := [5, 15]) (by kernel_rfl) (by simp) ?_
        refine AllReadyH.cons (o := { dst := some 21, op := Op.call { callee := Callee.value (Operand.tmp 20), args := #[Operand.const (Value.int IntKind.i64 1)], argTypes := #[3] }, type := 3, pos := "meta.go:51", after := #[{ on := 4, ground := Ground.data }, { on := 3, ground := Ground.chain }], guard := none }) rfl (fun K hK => ?_) (AllReadyH.cons (o := { dst := some 8, op := Op.alloc 91, type := 0, pos := "meta.go:51", after := #[], guard := none }) rfl (fun K hK => ?_) (AllReadyH.nil))
        · have p6 := World.grownBy.cell hS c6 hne6
          go_simp
          refine (C2 Q0 _ _ _ p6 hr).out.mono ?_
          rintro e w105 ⟨rfl, hr, hb⟩
          replace hS : (fun W => w2.grownBy W (some g)) w105 := World.grownBy.trans hS hb
          refine hK.out _ _ hS (fun _ => ?_)
          clear hK K hb
          try simp only [Act.put, List.setIfInBounds_toArray, List.set_cons_zero, List.set_cons_succ]
          refine wpAnyH_ready (rs := [7, 15]) (by kernel_rfl) (by simp) ?_
          refine AllReadyH.cons (o := { dst := some 23, op := Op.call { callee := Callee.value (Operand.tmp 22), args := #[Operand.const (Value.int IntKind.i64 2)], argTypes := #[3] }, type := 3, pos := "meta.go:51", after := #[{ on := 6, ground := Ground.data }, { on := 5, ground := Ground.chain }], guard := none }) rfl (fun K hK => ?_) (AllReadyH.cons (o := { dst := some 8, op := Op.alloc 91, type := 0, pos := "meta.go:51", after := #[], guard := none }) rfl (fun K hK => ?_) (AllReadyH.nil))
          · have p6 := World.grownBy.cell hS c6 hne6
            go_simp
            refine (C3 Q0 _ _ _ p6 hr).out.mono ?_
            rintro e w107 ⟨rfl, hr, hb⟩
            replace hS : (fun W => w2.grownBy W (some g)) w107 := World.grownBy.trans hS hb
            refine hK.out _ _ hS (fun _ => ?_)
            clear hK K hb
            try simp only [Act.put, List.setIfInBounds_toArray, List.set_cons_zero, List.set_cons_succ]
            refine wpAnyH_ready (rs := [9, 15]) (by kernel_rfl) (by simp) ?_
            refine AllReadyH.cons (o := { dst := some 25, op := Op.call { callee := Callee.value (Operand.func 37), args := #[Operand.tmp 24, Operand.const (Value.int IntKind.i64 8)], argTypes := #[47, 3] }, type := 24, pos := "meta.go:51", after := #[{ on := 8, ground := Ground.data }, { on := 7, ground := Ground.chain }], guard := none }) rfl (fun K hK => ?_) (AllReadyH.cons (o := { dst := some 8, op := Op.alloc 91, type := 0, pos := "meta.go:51", after := #[], guard := none }) rfl (fun K hK => ?_) (AllReadyH.nil))
            · have p6 := World.grownBy.cell hS c6 hne6
              go_simp
              refine (C4 Q0 _ _ hr).out.mono ?_
              rintro e w109 ⟨rfl, hr, hb⟩
              replace hS : (fun W => w2.grownBy W (some g)) w109 := World.grownBy.trans hS hb
              refine hK.out _ _ hS (fun _ => ?_)
              clear hK K hb
              try simp only [Act.put, List.setIfInBounds_toArray, List.set_cons_zero, List.set_cons_succ]
              refine wpAnyH_ready (rs := [11, 15]) (by kernel_rfl) (by simp) ?_
              refine AllReadyH.cons (o := { dst := some 27, op := Op.call { callee := Callee.value (Operand.tmp 26), args := #[Operand.const (Value.int IntKind.i64 1)], argTypes := #[3] }, type := 3, pos := "meta.go:51", after := #[{ on := 10, ground := Ground.data }, { on := 9, ground := Ground.chain }], guard := none }) rfl (fun K hK => ?_) (AllReadyH.cons (o := { dst := some 8, op := Op.alloc 91, type := 0, pos := "meta.go:51", after := #[], guard := none }) rfl (fun K hK => ?_) (AllReadyH.nil))
              · have p6 := World.grownBy.cell hS c6 hne6
                go_simp
                refine (C5 Q0 _ _ _ p6 hr).out.mono ?_
                rintro e w111 ⟨rfl, hr, hb⟩
                replace hS : (fun W => w2.grownBy W (some g)) w111 := World.grownBy.trans hS hb
                refine hK.out _ _ hS (fun _ => ?_)
                clear hK K hb
                try simp only [Act.put, List.setIfInBounds_toArray, List.set_cons_zero, List.set_cons_succ]
                refine wpAnyH_take (i := 12) (oi := { dst := some 28, op := Op.binOp BinOp.eql 3 (Operand.tmp 27) (Operand.const (Value.int IntKind.i64 1)) 3, type := 4, pos := "meta.go:51", after := #[{ on := 11, ground := Ground.data }], guard := none }) (v := ?_) rfl (by kernel_rfl) (by kernel_rfl) (by kernel_rfl) (fun _ _ _ h => h) (Or.inl ⟨by rfl, ?_⟩) (by assumption) ?_
                rotate_left
                · (intro wS hS; go_simp <;> with_reducible rfl)
                try simp only [Act.put, List.setIfInBounds_toArray, List.set_cons_zero, List.set_cons_succ]
                refine wpAnyH_take (i := 14) (oi := { dst := some 30, op := Op.build 91 #[(0, Operand.tmp 17), (1, Operand.tmp 19), (2, Operand.tmp 21), (3, Operand.tmp 23), (4, Operand.tmp 25), (5, Operand.tmp 28), (6, Operand.tmp 29)], type := 91, pos := "meta.go:51", after := #[{ on := 1, ground := Ground.data }, { on := 3, ground := Ground.data }, { on := 5, ground := Ground.data }, { on := 7, ground := Ground.data }, { on := 9, ground := Ground.data }, { on := 12, ground := Ground.data }, { on := 13, ground := Ground.data }], guard := none }) (v := ?_) rfl (by kernel_rfl) (by kernel_rfl) (by kernel_rfl) (fun _ _ _ h => h) (Or.inl ⟨by rfl, ?_⟩) (by assumption) ?_
                rotate_left
                · (intro wS hS; go_simp <;> with_reducible rfl)
                try simp only [Act.put, List.setIfInBounds_toArray, List.set_cons_zero, List.set_cons_succ]
                refine wpAnyH_ready (rs := [15]) (by kernel_rfl) (by simp) ?_
                refine AllReadyH.cons (o := { dst := some 8, op := Op.alloc 91, type := 0, pos := "meta.go:51", after := #[], guard := none }) rfl (fun K hK => ?_) (AllReadyH.nil)
                go_simp
                obtain ⟨gA, hgA⟩ : ∃ x, x = w111.heap.size := ⟨_, rfl⟩
                have hhA : (w111.alloc (.cells #[.int .u64 0, .int .u64 0, .int .i64 0, .int .i64 0, .int .u64 0, .bool false, .int .i64 0, .slice none 0 0] 91)).heap[gA]? = some (.cells #[.int .u64 0, .int .u64 0, .int .i64 0, .int .i64 0, .int .u64 0, .bool false, .int .i64 0, .slice none 0 0] 91 (0, 0)) := by rw [hgA]; exact alloc_new _ _
                have hbA := (one_cells w111 #[.int .u64 0, .int .u64 0, .int .i64 0, .int .i64 0, .int .u64 0, .bool false, .int .i64 0, .slice none 0 0] 91).1
                have hgne : gA ≠ g := by have := hr.lt; omega
                have hgB : w2.heap.size ≤ gA := by rw [hgA]; exact World.grownBy.size hS
                replace hr := hr.kept hbA
                have hS2 : (fun W => w2.grownBy W (some g)) (w111.alloc (.cells #[.int .u64 0, .int .u64 0, .int .i64 0, .int .i64 0, .int .u64 0, .bool false, .int .i64 0, .slice none 0 0] 91)) := World.grownBy.trans hS (gb_below hbA _)
                refine hK.out _ _ hS2 (fun _ => ?_)
                clear hK K hS hbA
                try simp only [Act.put, List.setIfInBounds_toArray, List.set_cons_zero, List.set_cons_succ]
                simp only [← hgA]
                clear hgA
                generalize w111.alloc (.cells #[.int .u64 0, .int .u64 0, .int .i64 0, .int .i64 0, .int .u64 0, .bool false, .int .i64 0, .slice none 0 0] 91) = wA at *
                have hS := hS2
                clear hS2
                refine wpAnyH_ready (rs := [16]) (by kernel_rfl) (by simp) ?_
                refine AllReadyH.cons (o := { dst := none, op := Op.store 91 (Operand.tmp 8) (Operand.tmp 30), type := 0, pos := "meta.go:51", after := #[{ on := 15, ground := Ground.data }, { on := 14, ground := Ground.data }, { on := 11, ground := Ground.chain }, { on := 0, ground := Ground.phase }, { on := 1, ground := Ground.phase }, { on := 2, ground := Ground.phase }, { on := 3, ground := Ground.phase }, { on := 4, ground := Ground.phase }, { on := 5, ground := Ground.phase }, { on := 6, ground := Ground.phase }, { on := 7, ground := Ground.phase }, { on := 8, ground := Ground.phase }, { on := 9, ground := Ground.phase }, { on := 10, ground := Ground.phase }, { on := 11, ground := Ground.phase }, { on := 12, ground := Ground.phase }, { on := 13, ground := Ground.phase }, { on := 14, ground := Ground.phase }, { on := 15, ground := Ground.phase }], guard := none }) rfl (fun K hK => ?_) (AllReadyH.nil)
                obtain ⟨⟨z0, z1, z2, z3, z4, z5, z6, z7⟩, k0, k1, k2, k3, k4, k5, k6, k7⟩ := eight_cells hhA
                have hh9 := eight_heap hhA (.int .u64 (id : Int)) (.int .u64 (fi : Int)) (.int .i64 (pr : Int)) (.int .i64 (le : Int)) (.int .u64 (en : Int)) (.bool pl) (.int .i64 lp) (.slice none 0 0)
                have hG9 := eight_gb wA gA (.int .u64 (id : Int)) (.int .u64 (fi : Int)) (.int .i64 (pr : Int)) (.int .i64 (le : Int)) (.int .u64 (en : Int)) (.bool pl) (.int .i64 lp) (.slice none 0 0)
                have hS9 := gb_new hS hG9 hgB
                have hr9 := hr.keptG hG9 (by omega) (hQA gA hgB)
                go_simp
                refine hK.out _ _ hS9 (fun _ => ?_)
                clear hK K
                try simp only [Act.put, List.setIfInBounds_toArray, List.set_cons_zero, List.set_cons_succ]
                refine wpAnyH_done (by kernel_rfl) ?_ _
                go_wp2_with fail
                go_meet
                exact ⟨gA, rfl, hgne, hgB, hh9, hr9, hS9⟩
              · go_simp
                obtain ⟨gA, hgA⟩ : ∃ x, x = w109.heap.size := ⟨_, rfl⟩
                have hhA : (w109.alloc (.cells #[.int .u64 0, .int .u64 0, .int .i64 0, .int .i64 0, .int .u64 0, .bool false, .int .i64 0, .slice none 0 0] 91)).heap[gA]? = some (.cells #[.int .u64 0, .int .u64 0, .int .i64 0, .int .i64 0, .int .u64 0, .bool false, .int .i64 0, .slice none 0 0] 91 (0, 0)) := by rw [hgA]; exact alloc_new _ _
                have hbA := (one_cells w109 #[.int .u64 0, .int .u64 0, .int .i64 0, .int .i64 0, .int .u64 0, .bool false, .int .i64 0, .slice none 0 0] 91).1
                have hgne : gA ≠ g := by have := hr.lt; omega
                have hgB : w2.heap.size ≤ gA := by rw [hgA]; exact World.grownBy.size hS
                replace hr := hr.kept hbA
                have hS2 : (fun W => w2.grownBy W (some g)) (w109.alloc (.cells #[.int .u64 0, .int .u64 0, .int .i64 0, .int .i64 0, .int .u64 0, .bool false, .int .i64 0, .slice none 0 0] 91)) := World.grownBy.trans hS (gb_below hbA _)
                refine hK.out _ _ hS2 (fun _ => ?_)
                clear hK K hS hbA
                try simp only [Act.put, List.setIfInBounds_toArray, List.set_cons_zero, List.set_cons_succ]
                simp only [← hgA]
                clear hgA
                generalize w109.alloc (.cells #[.int .u64 0, .int .u64 0, .int .i64 0, .int .i64 0, .int .u64 0, .bool false, .int .i64 0, .slice none 0 0] 91) = wA at *
                have hS := hS2
                clear hS2
                refine wpAnyH_ready (rs := [11]) (by kernel_rfl) (by simp) ?_
                refine AllReadyH.cons (o := { dst := some 27, op := Op.call { callee := Callee.value (Operand.tmp 26), args := #[Operand.const (Value.int IntKind.i64 1)], argTypes := #[3] }, type := 3, pos := "meta.go:51", after := #[{ on := 10, ground := Ground.data }, { on := 9, ground := Ground.chain }], guard := none }) rfl (fun K hK => ?_) (AllReadyH.nil)
                have p6 := World.grownBy.cell hS c6 hne6
                go_simp
                refine (C5 Q0 _ _ _ p6 hr).out.mono ?_
                rintro e w111 ⟨rfl, hr, hb⟩
                replace hS : (fun W => w2.grownBy W (some g)) w111 := World.grownBy.trans hS hb
                replace hhA := gb_heap hb hhA (by simp; omega)
                refine hK.out _ _ hS (fun _ => ?_)
                clear hK K hb
                try simp only [Act.put, List.setIfInBounds_toArray, List.set_cons_zero, List.set_cons_succ]
                refine wpAnyH_take (i := 12) (oi := { dst := some 28, op := Op.binOp BinOp.eql 3 (Operand.tmp 27) (Operand.const (Value.int IntKind.i64 1)) 3, type := 4, pos := "meta.go:51", after := #[{ on := 11, ground := Ground.data }], guard := none }) (v := ?_) rfl (by kernel_rfl) (by kernel_rfl) (by kernel_rfl) (fun _ _ _ h => h) (Or.inl ⟨by rfl, ?_⟩) (by assumption) ?_
                rotate_left
                · (intro wS hS; go_simp <;> with_reducible rfl)
                try simp only [Act.put, List.setIfInBounds_toArray, List.set_cons_zero, List.set_cons_succ]
                refine wpAnyH_take (i := 14) (oi := { dst := some 30, op := Op.build 91 #[(0, Operand.tmp 17), (1, Operand.tmp 19), (2, Operand.tmp 21), (3, Operand.tmp 23), (4, Operand.tmp 25), (5, Operand.tmp 28), (6, Operand.tmp 29)], type := 91, pos := "meta.go:51", after := #[{ on := 1, ground := Ground.data }, { on := 3, ground := Ground.data }, { on := 5, ground := Ground.data }, { on := 7, ground := Ground.data }, { on := 9, ground := Ground.data }, { on := 12, ground := Ground.data }, { on := 13, ground := Ground.data }], guard := none }) (v := ?_) rfl (by kernel_rfl) (by kernel_rfl) (by kernel_rfl) (fun _ _ _ h => h) (Or.inl ⟨by rfl, ?_⟩) (by assumption) ?_
                rotate_left
                · (intro wS hS; go_simp <;> with_reducible rfl)
                try simp only [Act.put, List.setIfInBounds_toArray, List.set_cons_zero, List.set_cons_succ]
                refine wpAnyH_ready (rs := [16]) (by kernel_rfl) (by simp) ?_
                refine AllReadyH.cons (o := { dst := none, op := Op.store 91 (Operand.tmp 8) (Operand.tmp 30), type := 0, pos := "meta.go:51", after := #[{ on := 15, ground := Ground.data }, { on := 14, ground := Ground.data }, { on := 11, ground := Ground.chain }, { on := 0, ground := Ground.phase }, { on := 1, ground := Ground.phase }, { on := 2, ground := Ground.phase }, { on := 3, ground := Ground.phase }, { on := 4, ground := Ground.phase }, { on := 5, ground := Ground.phase }, { on := 6, ground := Ground.phase }, { on := 7, ground := Ground.phase }, { on := 8, ground := Ground.phase }, { on := 9, ground := Ground.phase }, { on := 10, ground := Ground.phase }, { on := 11, ground := Ground.phase }, { on := 12, ground := Ground.phase }, { on := 13, ground := Ground.phase }, { on := 14, ground := Ground.phase }, { on := 15, ground := Ground.phase }], guard := none }) rfl (fun K hK => ?_) (AllReadyH.nil)
                obtain ⟨⟨z0, z1, z2, z3, z4, z5, z6, z7⟩, k0, k1, k2, k3, k4, k5, k6, k7⟩ := eight_cells hhA
                have hh9 := eight_heap hhA (.int .u64 (id : Int)) (.int .u64 (fi : Int)) (.int .i64 (pr : Int)) (.int .i64 (le : Int)) (.int .u64 (en : Int)) (.bool pl) (.int .i64 lp) (.slice none 0 0)
                have hG9 := eight_gb w111 gA (.int .u64 (id : Int)) (.int .u64 (fi : Int)) (.int .i64 (pr : Int)) (.int .i64 (le : Int)) (.int .u64 (en : Int)) (.bool pl) (.int .i64 lp) (.slice none 0 0)
                have hS9 := gb_new hS hG9 hgB
                have hr9 := hr.keptG hG9 (by omega) (hQA gA hgB)
                go_simp
                refine hK.out _ _ hS9 (fun _ => ?_)
                clear hK K
                try simp only [Act.put, List.setIfInBounds_toArray, List.set_cons_zero, List.set_cons_succ]
                refine wpAnyH_done (by kernel_rfl) ?_ _
                go_wp2_with fail
                go_meet
                exact ⟨gA, rfl, hgne, hgB, hh9, hr9, hS9⟩
            · go_simp
              obtain ⟨gA, hgA⟩ : ∃ x, x = w107.heap.size := ⟨_, rfl⟩
              have hhA : (w107.alloc (.cells #[.int .u64 0, .int .u64 0, .int .i64 0, .int .i64 0, .int .u64 0, .bool false, .int .i64 0, .slice none 0 0] 91)).heap[gA]? = some (.cells #[.int .u64 0, .int .u64 0, .int .i64 0, .int .i64 0, .int .u64 0, .bool false, .int .i64 0, .slice none 0 0] 91 (0, 0)) := by rw [hgA]; exact alloc_new _ _
              have hbA := (one_cells w107 #[.int .u64 0, .int .u64 0, .int .i64 0, .int .i64 0, .int .u64 0, .bool false, .int .i64 0, .slice none 0 0] 91).1
              have hgne : gA ≠ g := by have := hr.lt; omega
              have hgB : w2.heap.size ≤ gA := by rw [hgA]; exact World.grownBy.size hS
              replace hr := hr.kept hbA
              have hS2 : (fun W => w2.grownBy W (some g)) (w107.alloc (.cells #[.int .u64 0, .int .u64 0, .int .i64 0, .int .i64 0, .int .u64 0, .bool false, .int .i64 0, .slice none 0 0] 91)) := World.grownBy.trans hS (gb_below hbA _)
              refine hK.out _ _ hS2 (fun _ => ?_)
              clear hK K hS hbA
              try simp only [Act.put, List.setIfInBounds_toArray, List.set_cons_zero, List.set_cons_succ]
              simp only [← hgA]
              clear hgA
              generalize w107.alloc (.cells #[.int .u64 0, .int .u64 0, .int .i64 0, .int .i64 0, .int .u64 0, .bool false, .int .i64 0, .slice none 0 0] 91) = wA at *
              have hS := hS2
              clear hS2
              refine wpAnyH_ready (rs := [9]) (by kernel_rfl) (by simp) ?_
              refine AllReadyH.cons (o := { dst := some 25, op := Op.call { callee := Callee.value (Operand.func 37), args := #[Operand.tmp 24, Operand.const (Value.int IntKind.i64 8)], argTypes := #[47, 3] }, type := 24, pos := "meta.go:51", after := #[{ on := 8, ground := Ground.data }, { on := 7, ground := Ground.chain }], guard := none }) rfl (fun K hK => ?_) (AllReadyH.nil)
              have p6 := World.grownBy.cell hS c6 hne6
              go_simp
              refine (C4 Q0 _ _ hr).out.mono ?_
              rintro e w109 ⟨rfl, hr, hb⟩
              replace hS : (fun W => w2.grownBy W (some g)) w109 := World.grownBy.trans hS hb
              replace hhA := gb_heap hb hhA (by simp; omega)
              refine hK.out _ _ hS (fun _ => ?_)
              clear hK K hb
              try simp only [Act.put, List.setIfInBounds_toArray, List.set_cons_zero, List.set_cons_succ]
              refine wpAnyH_ready (rs := [11]) (by kernel_rfl) (by simp) ?_
              refine AllReadyH.cons (o := { dst := some 27, op := Op.call { callee := Callee.value (Operand.tmp 26), args := #[Operand.const (Value.int IntKind.i64 1)], argTypes := #[3] }, type := 3, pos := "meta.go:51", after := #[{ on := 10, ground := Ground.data }, { on := 9, ground := Ground.chain }], guard := none }) rfl (fun K hK => ?_) (AllReadyH.nil)
              have p6 := World.grownBy.cell hS c6 hne6
              go_simp
              refine (C5 Q0 _ _ _ p6 hr).out.mono ?_
              rintro e w111 ⟨rfl, hr, hb⟩
              replace hS : (fun W => w2.grownBy W (some g)) w111 := World.grownBy.trans hS hb
              replace hhA := gb_heap hb hhA (by simp; omega)
              refine hK.out _ _ hS (fun _ => ?_)
              clear hK K hb
              try simp only [Act.put, List.setIfInBounds_toArray, List.set_cons_zero, List.set_cons_succ]
              refine wpAnyH_take (i := 12) (oi := { dst := some 28, op := Op.binOp BinOp.eql 3 (Operand.tmp 27) (Operand.const (Value.int IntKind.i64 1)) 3, type := 4, pos := "meta.go:51", after := #[{ on := 11, ground := Ground.data }], guard := none }) (v := ?_) rfl (by kernel_rfl) (by kernel_rfl) (by kernel_rfl) (fun _ _ _ h => h) (Or.inl ⟨by rfl, ?_⟩) (by assumption) ?_
              rotate_left
              · (intro wS hS; go_simp <;> with_reducible rfl)
              try simp only [Act.put, List.setIfInBounds_toArray, List.set_cons_zero, List.set_cons_succ]
              refine wpAnyH_take (i := 14) (oi := { dst := some 30, op := Op.build 91 #[(0, Operand.tmp 17), (1, Operand.tmp 19), (2, Operand.tmp 21), (3, Operand.tmp 23), (4, Operand.tmp 25), (5, Operand.tmp 28), (6, Operand.tmp 29)], type := 91, pos := "meta.go:51", after := #[{ on := 1, ground := Ground.data }, { on := 3, ground := Ground.data }, { on := 5, ground := Ground.data }, { on := 7, ground := Ground.data }, { on := 9, ground := Ground.data }, { on := 12, ground := Ground.data }, { on := 13, ground := Ground.data }], guard := none }) (v := ?_) rfl (by kernel_rfl) (by kernel_rfl) (by kernel_rfl) (fun _ _ _ h => h) (Or.inl ⟨by rfl, ?_⟩) (by assumption) ?_
              rotate_left
              · (intro wS hS; go_simp <;> with_reducible rfl)
              try simp only [Act.put, List.setIfInBounds_toArray, List.set_cons_zero, List.set_cons_succ]
              refine wpAnyH_ready (rs := [16]) (by kernel_rfl) (by simp) ?_
              refine AllReadyH.cons (o := { dst := none, op := Op.store 91 (Operand.tmp 8) (Operand.tmp 30), type := 0, pos := "meta.go:51", after := #[{ on := 15, ground := Ground.data }, { on := 14, ground := Ground.data }, { on := 11, ground := Ground.chain }, { on := 0, ground := Ground.phase }, { on := 1, ground := Ground.phase }, { on := 2, ground := Ground.phase }, { on := 3, ground := Ground.phase }, { on := 4, ground := Ground.phase }, { on := 5, ground := Ground.phase }, { on := 6, ground := Ground.phase }, { on := 7, ground := Ground.phase }, { on := 8, ground := Ground.phase }, { on := 9, ground := Ground.phase }, { on := 10, ground := Ground.phase }, { on := 11, ground := Ground.phase }, { on := 12, ground := Ground.phase }, { on := 13, ground := Ground.phase }, { on := 14, ground := Ground.phase }, { on := 15, ground := Ground.phase }], guard := none }) rfl (fun K hK => ?_) (AllReadyH.nil)
              obtain ⟨⟨z0, z1, z2, z3, z4, z5, z6, z7⟩, k0, k1, k2, k3, k4, k5, k6, k7⟩ := eight_cells hhA
              have hh9 := eight_heap hhA (.int .u64 (id : Int)) (.int .u64 (fi : Int)) (.int .i64 (pr : Int)) (.int .i64 (le : Int)) (.int .u64 (en : Int)) (.bool pl) (.int .i64 lp) (.slice none 0 0)
              have hG9 := eight_gb w111 gA (.int .u64 (id : Int)) (.int .u64 (fi : Int)) (.int .i64 (pr : Int)) (.int .i64 (le : Int)) (.int .u64 (en : Int)) (.bool pl) (.int .i64 lp) (.slice none 0 0)
              have hS9 := gb_new hS hG9 hgB
              have hr9 := hr.keptG hG9 (by omega) (hQA gA hgB)
              go_simp
              refine hK.out _ _ hS9 (fun _ => ?_)
              clear hK K
              try simp only [Act.put, List.setIfInBounds_toArray, List.set_cons_zero, List.set_cons_succ]
              refine wpAnyH_done (by kernel_rfl) ?_ _
              go_wp2_with fail
              go_meet
              exact ⟨gA, rfl, hgne, hgB, hh9, hr9, hS9⟩
          · go_simp
            obtain ⟨gA, hgA⟩ : ∃ x, x = w105.heap.size := ⟨_, rfl⟩
            have hhA : (w105.alloc (.cells #[.int .u64 0, .int .u64 0, .int .i64 0, .int .i64 0, .int .u64 0, .bool false, .int .i64 0, .slice none 0 0] 91)).heap[gA]? = some (.cells #[.int .u64 0, .int .u64 0, .int .i64 0, .int .i64 0, .int .u64 0, .bool false, .int .i64 0, .slice none 0 0] 91 (0, 0)) := by rw [hgA]; exact alloc_new _ _
            have hbA := (one_cells w105 #[.int .u64 0, .int .u64 0, .int .i64 0, .int .i64 0, .int .u64 0, .bool false, .int .i64 0, .slice none 0 0] 91).1
            have hgne : gA ≠ g := by have := hr.lt; omega
            have hgB : w2.heap.size ≤ gA := by rw [hgA]; exact World.grownBy.size hS
            replace hr := hr.kept hbA
            have hS2 : (fun W => w2.grownBy W (some g)) (w105.alloc (.cells #[.int .u64 0, .int .u64 0, .int .i64 0, .int .i64 0, .int .u64 0, .bool false, .int .i64 0, .slice none 0 0] 91)) := World.grownBy.trans hS (gb_below hbA _)
            refine hK.out _ _ hS2 (fun _ => ?_)
            clear hK K hS hbA
            try simp only [Act.put, List.setIfInBounds_toArray, List.set_cons_zero, List.set_cons_succ]
            simp only [← hgA]
            clear hgA
            generalize w105.alloc (.cells #[.int .u64 0, .int .u64 0, .int .i64 0, .int .i64 0, .int .u64 0, .bool false, .int .i64 0, .slice none 0 0] 91) = wA at *
            have hS := hS2
            clear hS2
            refine wpAnyH_ready (rs := [7]) (by kernel_rfl) (by simp) ?_
            refine AllReadyH.cons (o := { dst := some 23, op := Op.call { callee := Callee.value (Operand.tmp 22), args := #[Operand.const (Value.int IntKind.i64 2)], argTypes := #[3] }, type := 3, pos := "meta.go:51", after := #[{ on := 6, ground := Ground.data }, { on := 5, ground := Ground.chain }], guard := none }) rfl (fun K hK => ?_) (AllReadyH.nil)
            have p6 := World.grownBy.cell hS c6 hne6
            go_simp
            refine (C3 Q0 _ _ _ p6 hr).out.mono ?_
            rintro e w107 ⟨rfl, hr, hb⟩
            replace hS : (fun W => w2.grownBy W (some g)) w107 := World.grownBy.trans hS hb
            replace hhA := gb_heap hb hhA (by simp; omega)
            refine hK.out _ _ hS (fun _ => ?_)
            clear hK K hb
            try simp only [Act.put, List.setIfInBounds_toArray, List.set_cons_zero, List.set_cons_succ]
            refine wpAnyH_ready (rs := [9]) (by kernel_rfl) (by simp) ?_
            refine AllReadyH.cons (o := { dst := some 25, op := Op.call { callee := Callee.value (Operand.func 37), args := #[Operand.tmp 24, Operand.const (Value.int IntKind.i64 8)], argTypes := #[47, 3] }, type := 24, pos := "meta.go:51", after := #[{ on := 8, ground := Ground.data }, { on := 7, ground := Ground.chain }], guard := none }) rfl (fun K hK => ?_) (AllReadyH.nil)
            have p6 := World.grownBy.cell hS c6 hne6
            go_simp
            refine (C4 Q0 _ _ hr).out.mono ?_
            rintro e w109 ⟨rfl, hr, hb⟩
            replace hS : (fun W => w2.grownBy W (some g)) w109 := World.grownBy.trans hS hb
            replace hhA := gb_heap hb hhA (by simp; omega)
            refine hK.out _ _ hS (fun _ => ?_)
            clear hK K hb
            try simp only [Act.put, List.setIfInBounds_toArray, List.set_cons_zero, List.set_cons_succ]
            refine wpAnyH_ready (rs := [11]) (by kernel_rfl) (by simp) ?_
            refine AllReadyH.cons (o := { dst := some 27, op := Op.call { callee := Callee.value (Operand.tmp 26), args := #[Operand.const (Value.int IntKind.i64 1)], argTypes := #[3] }, type := 3, pos := "meta.go:51", after := #[{ on := 10, ground := Ground.data }, { on := 9, ground := Ground.chain }], guard := none }) rfl (fun K hK => ?_) (AllReadyH.nil)
            have p6 := World.grownBy.cell hS c6 hne6
            go_simp
            refine (C5 Q0 _ _ _ p6 hr).out.mono ?_
            rintro e w111 ⟨rfl, hr, hb⟩
            replace hS : (fun W => w2.grownBy W (some g)) w111 := World.grownBy.trans hS hb
            replace hhA := gb_heap hb hhA (by simp; omega)
            refine hK.out _ _ hS (fun _ => ?_)
            clear hK K hb
            try simp only [Act.put, List.setIfInBounds_toArray, List.set_cons_zero, List.set_cons_succ]
            refine wpAnyH_take (i := 12) (oi := { dst := some 28, op := Op.binOp BinOp.eql 3 (Operand.tmp 27) (Operand.const (Value.int IntKind.i64 1)) 3, type := 4, pos := "meta.go:51", after := #[{ on := 11, ground := Ground.data }], guard := none }) (v := ?_) rfl (by kernel_rfl) (by kernel_rfl) (by kernel_rfl) (fun _ _ _ h => h) (Or.inl ⟨by rfl, ?_⟩) (by assumption) ?_
            rotate_left
            · (intro wS hS; go_simp <;> with_reducible rfl)
            try simp only [Act.put, List.setIfInBounds_toArray, List.set_cons_zero, List.set_cons_succ]
            refine wpAnyH_take (i := 14) (oi := { dst := some 30, op := Op.build 91 #[(0, Operand.tmp 17), (1, Operand.tmp 19), (2, Operand.tmp 21), (3, Operand.tmp 23), (4, Operand.tmp 25), (5, Operand.tmp 28), (6, Operand.tmp 29)], type := 91, pos := "meta.go:51", after := #[{ on := 1, ground := Ground.data }, { on := 3, ground := Ground.data }, { on := 5, ground := Ground.data }, { on := 7, ground := Ground.data }, { on := 9, ground := Ground.data }, { on := 12, ground := Ground.data }, { on := 13, ground := Ground.data }], guard := none }) (v := ?_) rfl (by kernel_rfl) (by kernel_rfl) (by kernel_rfl) (fun _ _ _ h => h) (Or.inl ⟨by rfl, ?_⟩) (by assumption) ?_
            rotate_left
            · (intro wS hS; go_simp <;> with_reducible rfl)
            try simp only [Act.put, List.setIfInBounds_toArray, List.set_cons_zero, List.set_cons_succ]
            refine wpAnyH_ready (rs := [16]) (by kernel_rfl) (by simp) ?_
            refine AllReadyH.cons (o := { dst := none, op := Op.store 91 (Operand.tmp 8) (Operand.tmp 30), type := 0, pos := "meta.go:51", after := #[{ on := 15, ground := Ground.data }, { on := 14, ground := Ground.data }, { on := 11, ground := Ground.chain }, { on := 0, ground := Ground.phase }, { on := 1, ground := Ground.phase }, { on := 2, ground := Ground.phase }, { on := 3, ground := Ground.phase }, { on := 4, ground := Ground.phase }, { on := 5, ground := Ground.phase }, { on := 6, ground := Ground.phase }, { on := 7, ground := Ground.phase }, { on := 8, ground := Ground.phase }, { on := 9, ground := Ground.phase }, { on := 10, ground := Ground.phase }, { on := 11, ground := Ground.phase }, { on := 12, ground := Ground.phase }, { on := 13, ground := Ground.phase }, { on := 14, ground := Ground.phase }, { on := 15, ground := Ground.phase }], guard := none }) rfl (fun K hK => ?_) (AllReadyH.nil)
            obtain ⟨⟨z0, z1, z2, z3, z4, z5, z6, z7⟩, k0, k1, k2, k3, k4, k5, k6, k7⟩ := eight_cells hhA
            have hh9 := eight_heap hhA (.int .u64 (id : Int)) (.int .u64 (fi : Int)) (.int .i64 (pr : Int)) (.int .i64 (le : Int)) (.int .u64 (en : Int)) (.bool pl) (.int .i64 lp) (.slice none 0 0)
            have hG9 := eight_gb w111 gA (.int .u64 (id : Int)) (.int .u64 (fi : Int)) (.int .i64 (pr : Int)) (.int .i64 (le : Int)) (.int .u64 (en : Int)) (.bool pl) (.int .i64 lp) (.slice none 0 0)
            have hS9 := gb_new hS hG9 hgB
            have hr9 := hr.keptG hG9 (by omega) (hQA gA hgB)
            go_simp
            refine hK.out _ _ hS9 (fun _ => ?_)
            clear hK K
            try simp only [Act.put, List.setIfInBounds_toArray, List.set_cons_zero, List.set_cons_succ]
            refine wpAnyH_done (by kernel_rfl) ?_ _
            go_wp2_with fail
            go_meet
            exact ⟨gA, rfl, hgne, hgB, hh9, hr9, hS9⟩
        · go_simp
          obtain ⟨gA, hgA⟩ : ∃ x, x = w103.heap.size := ⟨_, rfl⟩
          have hhA : (w103.alloc (.cells #[.int .u64 0, .int .u64 0, .int .i64 0, .int .i64 0, .int .u64 0, .bool false, .int .i64 0, .slice none 0 0] 91)).heap[gA]? = some (.cells #[.int .u64 0, .int .u64 0, .int .i64 0, .int .i64 0, .int .u64 0, .bool false, .int .i64 0, .slice none 0 0] 91 (0, 0)) := by rw [hgA]; exact alloc_new _ _
          have hbA := (one_cells w103 #[.int .u64 0, .int .u64 0, .int .i64 0, .int .i64 0, .int .u64 0, .bool false, .int .i64 0, .slice none 0 0] 91).1
          have hgne : gA ≠ g := by have := hr.lt; omega
          have hgB : w2.heap.size ≤ gA := by rw [hgA]; exact World.grownBy.size hS
          replace hr := hr.kept hbA
          have hS2 : (fun W => w2.grownBy W (some g)) (w103.alloc (.cells #[.int .u64 0, .int .u64 0, .int .i64 0, .int .i64 0, .int .u64 0, .bool false, .int .i64 0, .slice none 0 0] 91)) := World.grownBy.trans hS (gb_below hbA _)
          refine hK.out _ _ hS2 (fun _ => ?_)
          clear hK K hS hbA
          try simp only [Act.put, List.setIfInBounds_toArray, List.set_cons_zero, List.set_cons_succ]
          simp only [← hgA]
          clear hgA
          generalize w103.alloc (.cells #[.int .u64 0, .int .u64 0, .int .i64 0, .int .i64 0, .int .u64 0, .bool false, .int .i64 0, .slice none 0 0] 91) = wA at *
          have hS := hS2
          clear hS2
          refine wpAnyH_ready (rs := [5]) (by kernel_rfl) (by simp) ?_
          refine AllReadyH.cons (o := { dst := some 21, op := Op.call { callee := Callee.value (Operand.tmp 20), args := #[Operand.const (Value.int IntKind.i64 1)], argTypes := #[3] }, type := 3, pos := "meta.go:51", after := #[{ on := 4, ground := Ground.data }, { on := 3, ground := Ground.chain }], guard := none }) rfl (fun K hK => ?_) (AllReadyH.nil)
          have p6 := World.grownBy.cell hS c6 hne6
          go_simp
          refine (C2 Q0 _ _ _ p6 hr).out.mono ?_
          rintro e w105 ⟨rfl, hr, hb⟩
          replace hS : (fun W => w2.grownBy W (some g)) w105 := World.grownBy.trans hS hb
          replace hhA := gb_heap hb hhA (by simp; omega)
          refine hK.out _ _ hS (fun _ => ?_)
          clear hK K hb
          try simp only [Act.put, List.setIfInBounds_toArray, List.set_cons_zero, List.set_cons_succ]
          refine wpAnyH_ready (rs := [7]) (by kernel_rfl) (by simp) ?_
          refine AllReadyH.cons (o := { dst := some 23, op := Op.call { callee := Callee.value (Operand.tmp 22), args := #[Operand.const (Value.int IntKind.i64 2)], argTypes := #[3] }, type := 3, pos := "meta.go:51", after := #[{ on := 6, ground := Ground.data }, { on := 5, ground := Ground.chain }], guard := none }) rfl (fun K hK => ?_) (AllReadyH.nil)
          have p6 := World.grownBy.cell hS c6 hne6
          go_simp
          refine (C3 Q0 _ _ _ p6 hr).out.mono ?_
          rintro e w107 ⟨rfl, hr, hb⟩
          replace hS : (fun W => w2.grownBy W (some g)) w107 := World.grownBy.trans hS hb
          replace hhA := gb_heap hb hhA (by simp; omega)
          refine hK.out _ _ hS (fun _ => ?_)
          clear hK K hb
          try simp only [Act.put, List.setIfInBounds_toArray, List.set_cons_zero, List.set_cons_succ]
          refine wpAnyH_ready (rs := [9]) (by kernel_rfl) (by simp) ?_
          refine AllReadyH.cons (o := { dst := some 25, op := Op.call { callee := Callee.value (Operand.func 37), args := #[Operand.tmp 24, Operand.const (Value.int IntKind.i64 8)], argTypes := #[47, 3] }, type := 24, pos := "meta.go:51", after := #[{ on := 8, ground := Ground.data }, { on := 7, ground := Ground.chain }], guard := none }) rfl (fun K hK => ?_) (AllReadyH.nil)
          have p6 := World.grownBy.cell hS c6 hne6
          go_simp
          refine (C4 Q0 _ _ hr).out.mono ?_
          rintro e w109 ⟨rfl, hr, hb⟩
          replace hS : (fun W => w2.grownBy W (some g)) w109 := World.grownBy.trans hS hb
          replace hhA := gb_heap hb hhA (by simp; omega)
          refine hK.out _ _ hS (fun _ => ?_)
          clear hK K hb
          try simp only [Act.put, List.setIfInBounds_toArray, List.set_cons_zero, List.set_cons_succ]
          refine wpAnyH_ready (rs := [11]) (by kernel_rfl) (by simp) ?_
          refine AllReadyH.cons (o := { dst := some 27, op := Op.call { callee := Callee.value (Operand.tmp 26), args := #[Operand.const (Value.int IntKind.i64 1)], argTypes := #[3] }, type := 3, pos := "meta.go:51", after := #[{ on := 10, ground := Ground.data }, { on := 9, ground := Ground.chain }], guard := none }) rfl (fun K hK => ?_) (AllReadyH.nil)
          have p6 := World.grownBy.cell hS c6 hne6
          go_simp
          refine (C5 Q0 _ _ _ p6 hr).out.mono ?_
          rintro e w111 ⟨rfl, hr, hb⟩
          replace hS : (fun W => w2.grownBy W (some g)) w111 := World.grownBy.trans hS hb
          replace hhA := gb_heap hb hhA (by simp; omega)
          refine hK.out _ _ hS (fun _ => ?_)
          clear hK K hb
          try simp only [Act.put, List.setIfInBounds_toArray, List.set_cons_zero, List.set_cons_succ]
          refine wpAnyH_take (i := 12) (oi := { dst := some 28, op := Op.binOp BinOp.eql 3 (Operand.tmp 27) (Operand.const (Value.int IntKind.i64 1)) 3, type := 4, pos := "meta.go:51", after := #[{ on := 11, ground := Ground.data }], guard := none }) (v := ?_) rfl (by kernel_rfl) (by kernel_rfl) (by kernel_rfl) (fun _ _ _ h => h) (Or.inl ⟨by rfl, ?_⟩) (by assumption) ?_
          rotate_left
          · (intro wS hS; go_simp <;> with_reducible rfl)
          try simp only [Act.put, List.setIfInBounds_toArray, List.set_cons_zero, List.set_cons_succ]
          refine wpAnyH_take (i := 14) (oi := { dst := some 30, op := Op.build 91 #[(0, Operand.tmp 17), (1, Operand.tmp 19), (2, Operand.tmp 21), (3, Operand.tmp 23), (4, Operand.tmp 25), (5, Operand.tmp 28), (6, Operand.tmp 29)], type := 91, pos := "meta.go:51", after := #[{ on := 1, ground := Ground.data }, { on := 3, ground := Ground.data }, { on := 5, ground := Ground.data }, { on := 7, ground := Ground.data }, { on := 9, ground := Ground.data }, { on := 12, ground := Ground.data }, { on := 13, ground := Ground.data }], guard := none }) (v := ?_) rfl (by kernel_rfl) (by kernel_rfl) (by kernel_rfl) (fun _ _ _ h => h) (Or.inl ⟨by rfl, ?_⟩) (by assumption) ?_
          rotate_left
          · (intro wS hS; go_simp <;> with_reducible rfl)
          try simp only [Act.put, List.setIfInBounds_toArray, List.set_cons_zero, List.set_cons_succ]
          refine wpAnyH_ready (rs := [16]) (by kernel_rfl) (by simp) ?_
          refine AllReadyH.cons (o := { dst := none, op := Op.store 91 (Operand.tmp 8) (Operand.tmp 30), type := 0, pos := "meta.go:51", after := #[{ on := 15, ground := Ground.data }, { on := 14, ground := Ground.data }, { on := 11, ground := Ground.chain }, { on := 0, ground := Ground.phase }, { on := 1, ground := Ground.phase }, { on := 2, ground := Ground.phase }, { on := 3, ground := Ground.phase }, { on := 4, ground := Ground.phase }, { on := 5, ground := Ground.phase }, { on := 6, ground := Ground.phase }, { on := 7, ground := Ground.phase }, { on := 8, ground := Ground.phase }, { on := 9, ground := Ground.phase }, { on := 10, ground := Ground.phase }, { on := 11, ground := Ground.phase }, { on := 12, ground := Ground.phase }, { on := 13, ground := Ground.phase }, { on := 14, ground := Ground.phase }, { on := 15, ground := Ground.phase }], guard := none }) rfl (fun K hK => ?_) (AllReadyH.nil)
          obtain ⟨⟨z0, z1, z2, z3, z4, z5, z6, z7⟩, k0, k1, k2, k3, k4, k5, k6, k7⟩ := eight_cells hhA
          have hh9 := eight_heap hhA (.int .u64 (id : Int)) (.int .u64 (fi : Int)) (.int .i64 (pr : Int)) (.int .i64 (le : Int)) (.int .u64 (en : Int)) (.bool pl) (.int .i64 lp) (.slice none 0 0)
          have hG9 := eight_gb w111 gA (.int .u64 (id : Int)) (.int .u64 (fi : Int)) (.int .i64 (pr : Int)) (.int .i64 (le : Int)) (.int .u64 (en : Int)) (.bool pl) (.int .i64 lp) (.slice none 0 0)
          have hS9 := gb_new hS hG9 hgB
          have hr9 := hr.keptG hG9 (by omega) (hQA gA hgB)
          go_simp
          refine hK.out _ _ hS9 (fun _ => ?_)
          clear hK K
          try simp only [Act.put, List.setIfInBounds_toArray, List.set_cons_zero, List.set_cons_succ]
          refine wpAnyH_done (by kernel_rfl) ?_ _
          go_wp2_with fail
          go_meet
          exact ⟨gA, rfl, hgne, hgB, hh9, hr9, hS9⟩
      · go_simp
        obtain ⟨gA, hgA⟩ : ∃ x, x = w101.heap.size := ⟨_, rfl⟩
        have hhA : (w101.alloc (.cells #[.int .u64 0, .int .u64 0, .int .i64 0, .int .i64 0, .int .u64 0, .bool false, .int .i64 0, .slice none 0 0] 91)).heap[gA]? = some (.cells #[.int .u64 0, .int .u64 0, .int .i64 0, .int .i64 0, .int .u64 0, .bool false, .int .i64 0, .slice none 0 0] 91 (0, 0)) := by rw [hgA]; exact alloc_new _ _
        have hbA := (one_cells w101 #[.int .u64 0, .int .u64 0, .int .i64 0, .int .i64 0, .int .u64 0, .bool false, .int .i64 0, .slice none 0 0] 91).1
        have hgne : gA ≠ g := by have := hr.lt; omega
        have hgB : w2.heap.size ≤ gA := by rw [hgA]; exact World.grownBy.size hS
        replace hr := hr.kept hbA
        have hS2 : (fun W => w2.grownBy W (some g)) (w101.alloc (.cells #[.int .u64 0, .int .u64 0, .int .i64 0, .int .i64 0, .int .u64 0, .bool false, .int .i64 0, .slice none 0 0] 91)) := World.grownBy.trans hS (gb_below hbA _)
        refine hK.out _ _ hS2 (fun _ => ?_)
        clear hK K hS hbA
        try simp only [Act.put, List.setIfInBounds_toArray, List.set_cons_zero, List.set_cons_succ]
        simp only [← hgA]
        clear hgA
        generalize w101.alloc (.cells #[.int .u64 0, .int .u64 0, .int .i64 0, .int .i64 0, .int .u64 0, .bool false, .int .i64 0, .slice none 0 0] 91) = wA at *
        have hS := hS2
        clear hS2
        refine wpAnyH_ready (rs := [3]) (by kernel_rfl) (by simp) ?_
        refine AllReadyH.cons (o := { dst := some 19, op := Op.call { callee := Callee.value (Operand.func 37), args := #[Operand.tmp 18, Operand.const (Value.int IntKind.i64 4)], argTypes := #[47, 3] }, type := 24, pos := "meta.go:51", after := #[{ on := 2, ground := Ground.data }, { on := 1, ground := Ground.chain }], guard := none }) rfl (fun K hK => ?_) (AllReadyH.nil)
        have p6 := World.grownBy.cell hS c6 hne6
        go_simp
        refine (C1 Q0 _ _ hr).out.mono ?_
        rintro e w103 ⟨rfl, hr, hb⟩
        replace hS : (fun W => w2.grownBy W (some g)) w103 := World.grownBy.trans hS hb
        replace hhA := gb_heap hb hhA (by simp; omega)
        refine hK.out _ _ hS (fun _ => ?_)
        clear hK K hb
        try simp only [Act.put, List.setIfInBounds_toArray, List.set_cons_zero, List.set_cons_succ]
        refine wpAnyH_ready (rs := [5]) (by kernel_rfl) (by simp) ?_
        refine AllReadyH.cons (o := { dst := some 21, op := Op.call { callee := Callee.value (Operand.tmp 20), args := #[Operand.const (Value.int IntKind.i64 1)], argTypes := #[3] }, type := 3, pos := "meta.go:51", after := #[{ on := 4, ground := Ground.data }, { on := 3, ground := Ground.chain }], guard := none }) rfl (fun K hK => ?_) (AllReadyH.nil)
        have p6 := World.grownBy.cell hS c6 hne6
        go_simp
        refine (C2 Q0 _ _ _ p6 hr).out.mono ?_
        rintro e w105 ⟨rfl, hr, hb⟩
        replace hS : (fun W => w2.grownBy W (some g)) w105 := World.grownBy.trans hS hb
        replace hhA := gb_heap hb hhA (by simp; omega)
        refine hK.out _ _ hS (fun _ => ?_)
        clear hK K hb
        try simp only [Act.put, List.setIfInBounds_toArray, List.set_cons_zero, List.set_cons_succ]
        refine wpAnyH_ready (rs := [7]) (by kernel_rfl) (by simp) ?_
        refine AllReadyH.cons (o := { dst := some 23, op := Op.call { callee := Callee.value (Operand.tmp 22), args := #[Operand.const (Value.int IntKind.i64 2)], argTypes := #[3] }, type := 3, pos := "meta.go:51", after := #[{ on := 6, ground := Ground.data }, { on := 5, ground := Ground.chain }], guard := none }) rfl (fun K hK => ?_) (AllReadyH.nil)
        have p6 := World.grownBy.cell hS c6 hne6
        go_simp
        refine (C3 Q0 _ _ _ p6 hr).out.mono ?_
        rintro e w107 ⟨rfl, hr, hb⟩
        replace hS : (fun W => w2.grownBy W (some g)) w107 := World.grownBy.trans hS hb
        replace hhA := gb_heap hb hhA (by simp; omega)
        refine hK.out _ _ hS (fun _ => ?_)
        clear hK K hb
        try simp only [Act.put, List.setIfInBounds_toArray, List.set_cons_zero, List.set_cons_succ]
        refine wpAnyH_ready (rs := [9]) (by kernel_rfl) (by simp) ?_
        refine AllReadyH.cons (o := { dst := some 25, op := Op.call { callee := Callee.value (Operand.func 37), args := #[Operand.tmp 24, Operand.const (Value.int IntKind.i64 8)], argTypes := #[47, 3] }, type := 24, pos := "meta.go:51", after := #[{ on := 8, ground := Ground.data }, { on := 7, ground := Ground.chain }], guard := none }) rfl (fun K hK => ?_) (AllReadyH.nil)
        have p6 := World.grownBy.cell hS c6 hne6
        go_simp
        refine (C4 Q0 _ _ hr).out.mono ?_
        rintro e w109 ⟨rfl, hr, hb⟩
        replace hS : (fun W => w2.grownBy W (some g)) w109 := World.grownBy.trans hS hb
        replace hhA := gb_heap hb hhA (by simp; omega)
        refine hK.out _ _ hS (fun _ => ?_)
        clear hK K hb
        try simp only [Act.put, List.setIfInBounds_toArray, List.set_cons_zero, List.set_cons_succ]
        refine wpAnyH_ready (rs := [11]) (by kernel_rfl) (by simp) ?_
        refine AllReadyH.cons (o := { dst := some 27, op := Op.call { callee := Callee.value (Operand.tmp 26), args := #[Operand.const (Value.int IntKind.i64 1)], argTypes := #[3] }, type := 3, pos := "meta.go:51", after := #[{ on := 10, ground := Ground.data }, { on := 9, ground := Ground.chain }], guard := none }) rfl (fun K hK => ?_) (AllReadyH.nil)
        have p6 := World.grownBy.cell hS c6 hne6
        go_simp
        refine (C5 Q0 _ _ _ p6 hr).out.mono ?_
        rintro e w111 ⟨rfl, hr, hb⟩
        replace hS : (fun W => w2.grownBy W (some g)) w111 := World.grownBy.trans hS hb
        replace hhA := gb_heap hb hhA (by simp; omega)
        refine hK.out _ _ hS (fun _ => ?_)
        clear hK K hb
        try simp only [Act.put, List.setIfInBounds_toArray, List.set_cons_zero, List.set_cons_succ]
        refine wpAnyH_take (i := 12) (oi := { dst := some 28, op := Op.binOp BinOp.eql 3 (Operand.tmp 27) (Operand.const (Value.int IntKind.i64 1)) 3, type := 4, pos := "meta.go:51", after := #[{ on := 11, ground := Ground.data }], guard := none }) (v := ?_) rfl (by kernel_rfl) (by kernel_rfl) (by kernel_rfl) (fun _ _ _ h => h) (Or.inl ⟨by rfl, ?_⟩) (by assumption) ?_
        rotate_left
        · (intro wS hS; go_simp <;> with_reducible rfl)
        try simp only [Act.put, List.setIfInBounds_toArray, List.set_cons_zero, List.set_cons_succ]
        refine wpAnyH_take (i := 14) (oi := { dst := some 30, op := Op.build 91 #[(0, Operand.tmp 17), (1, Operand.tmp 19), (2, Operand.tmp 21), (3, Operand.tmp 23), (4, Operand.tmp 25), (5, Operand.tmp 28), (6, Operand.tmp 29)], type := 91, pos := "meta.go:51", after := #[{ on := 1, ground := Ground.data }, { on := 3, ground := Ground.data }, { on := 5, ground := Ground.data }, { on := 7, ground := Ground.data }, { on := 9, ground := Ground.data }, { on := 12, ground := Ground.data }, { on := 13, ground := Ground.data }], guard := none }) (v := ?_) rfl (by kernel_rfl) (by kernel_rfl) (by kernel_rfl) (fun _ _ _ h => h) (Or.inl ⟨by rfl, ?_⟩) (by assumption) ?_
        rotate_left
        · (intro wS hS; go_simp <;> with_reducible rfl)
        try simp only [Act.put, List.setIfInBounds_toArray, List.set_cons_zero, List.set_cons_succ]
        refine wpAnyH_ready (rs := [16]) (by kernel_rfl) (by simp) ?_
        refine AllReadyH.cons (o := { dst := none, op := Op.store 91 (Operand.tmp 8) (Operand.tmp 30), type := 0, pos := "meta.go:51", after := #[{ on := 15, ground := Ground.data }, { on := 14, ground := Ground.data }, { on := 11, ground := Ground.chain }, { on := 0, ground := Ground.phase }, { on := 1, ground := Ground.phase }, { on := 2, ground := Ground.phase }, { on := 3, ground := Ground.phase }, { on := 4, ground := Ground.phase }, { on := 5, ground := Ground.phase }, { on := 6, ground := Ground.phase }, { on := 7, ground := Ground.phase }, { on := 8, ground := Ground.phase }, { on := 9, ground := Ground.phase }, { on := 10, ground := Ground.phase }, { on := 11, ground := Ground.phase }, { on := 12, ground := Ground.phase }, { on := 13, ground := Ground.phase }, { on := 14, ground := Ground.phase }, { on := 15, ground := Ground.phase }], guard := none }) rfl (fun K hK => ?_) (AllReadyH.nil)
        obtain ⟨⟨z0, z1, z2, z3, z4, z5, z6, z7⟩, k0, k1, k2, k3, k4, k5, k6, k7⟩ := eight_cells hhA
        have hh9 := eight_heap hhA (.int .u64 (id : Int)) (.int .u64 (fi : Int)) (.int .i64 (pr : Int)) (.int .i64 (le : Int)) (.int .u64 (en : Int)) (.bool pl) (.int .i64 lp) (.slice none 0 0)
        have hG9 := eight_gb w111 gA (.int .u64 (id : Int)) (.int .u64 (fi : Int)) (.int .i64 (pr : Int)) (.int .i64 (le : Int)) (.int .u64 (en : Int)) (.bool pl) (.int .i64 lp) (.slice none 0 0)
        have hS9 := gb_new hS hG9 hgB
        have hr9 := hr.keptG hG9 (by omega) (hQA gA hgB)
        go_simp
        refine hK.out _ _ hS9 (fun _ => ?_)
        clear hK K
        try simp only [Act.put, List.setIfInBounds_toArray, List.set_cons_zero, List.set_cons_succ]
        refine wpAnyH_done (by kernel_rfl) ?_ _
        go_wp2_with fail
        go_meet
        exact ⟨gA, rfl, hgne, hgB, hh9, hr9, hS9⟩
    · go_simp
      obtain ⟨gA, hgA⟩ : ∃ x, x = wd.heap.size := ⟨_, rfl⟩
      have hhA : (wd.alloc (.cells #[.int .u64 0, .int .u64 0, .int .i64 0, .int .i64 0, .int .u64 0, .bool false, .int .i64 0, .slice none 0 0] 91)).heap[gA]? = some (.cells #[.int .u64 0, .int .u64 0, .int .i64 0, .int .i64 0, .int .u64 0, .bool false, .int .i64 0, .slice none 0 0] 91 (0, 0)) := by rw [hgA]; exact alloc_new _ _
      have hbA := (one_cells wd #[.int .u64 0, .int .u64 0, .int .i64 0, .int .i64 0, .int .u64 0, .bool false, .int .i64 0, .slice none 0 0] 91).1
      have hgne : gA ≠ g := by have := hr.lt; omega
      have hgB : w2.heap.size ≤ gA := by rw [hgA]; exact World.grownBy.size hS
      replace hr := hr.kept hbA
      have hS2 : (fun W => w2.grownBy W (some g)) (wd.alloc (.cells #[.int .u64 0, .int .u64 0, .int .i64 0, .int .i64 0, .int .u64 0, .bool false, .int .i64 0, .slice none 0 0] 91)) := World.grownBy.trans hS (gb_below hbA _)
      refine hK.out _ _ hS2 (fun _ => ?_)
      clear hK K hS hbA
      try simp only [Act.put, List.setIfInBounds_toArray, List.set_cons_zero, List.set_cons_succ]
      simp only [← hgA]
      clear hgA
      generalize wd.alloc (.cells #[.int .u64 0, .int .u64 0, .int .i64 0, .int .i64 0, .int .u64 0, .bool false, .int .i64 0, .slice none 0 0] 91) = wA at *
      have hS := hS2
      clear hS2
      refine wpAnyH_ready (rs := [1]) (by kernel_rfl) (by simp) ?_
      refine AllReadyH.cons (o := { dst := some 17, op := Op.call { callee := Callee.value (Operand.func 37), args := #[Operand.tmp 16, Operand.const (Value.int IntKind.i64 4)], argTypes := #[47, 3] }, type := 24, pos := "meta.go:51", after := #[{ on := 0, ground := Ground.data }], guard := none }) rfl (fun K hK => ?_) (AllReadyH.nil)
      have p6 := World.grownBy.cell hS c6 hne6
      go_simp
      refine (C0 Q0 _ _ hr).out.mono ?_
      rintro e w101 ⟨rfl, hr, hb⟩
      replace hS : (fun W => w2.grownBy W (some g)) w101 := World.grownBy.trans hS hb
      replace hhA := gb_heap hb hhA (by simp; omega)
      refine hK.out _ _ hS (fun _ => ?_)
      clear hK K hb
      try simp only [Act.put, List.setIfInBounds_toArray, List.set_cons_zero, List.set_cons_succ]
      refine wpAnyH_ready (rs := [3]) (by kernel_rfl) (by simp) ?_
      refine AllReadyH.cons (o := { dst := some 19, op := Op.call { callee := Callee.value (Operand.func 37), args := #[Operand.tmp 18, Operand.const (Value.int IntKind.i64 4)], argTypes := #[47, 3] }, type := 24, pos := "meta.go:51", after := #[{ on := 2, ground := Ground.data }, { on := 1, ground := Ground.chain }], guard := none }) rfl (fun K hK => ?_) (AllReadyH.nil)
      have p6 := World.grownBy.cell hS c6 hne6
      go_simp
      refine (C1 Q0 _ _ hr).out.mono ?_
      rintro e w103 ⟨rfl, hr, hb⟩
      replace hS : (fun W => w2.grownBy W (some g)) w103 := World.grownBy.trans hS hb
      replace hhA := gb_heap hb hhA (by simp; omega)
      refine hK.out _ _ hS (fun _ => ?_)
      clear hK K hb
      try simp only [Act.put, List.setIfInBounds_toArray, List.set_cons_zero, List.set_cons_succ]
      refine wpAnyH_ready (rs := [5]) (by kernel_rfl) (by simp) ?_
      refine AllReadyH.cons (o := { dst := some 21, op := Op.call { callee := Callee.value (Operand.tmp 20), args := #[Operand.const (Value.int IntKind.i64 1)], argTypes := #[3] }, type := 3, pos := "meta.go:51", after := #[{ on := 4, ground := Ground.data }, { on := 3, ground := Ground.chain }], guard := none }) rfl (fun K hK => ?_) (AllReadyH.nil)
      have p6 := World.grownBy.cell hS c6 hne6
      go_simp
      refine (C2 Q0 _ _ _ p6 hr).out.mono ?_
      rintro e w105 ⟨rfl, hr, hb⟩
      replace hS : (fun W => w2.grownBy W (some g)) w105 := World.grownBy.trans hS hb
      replace hhA := gb_heap hb hhA (by simp; omega)
      refine hK.out _ _ hS (fun _ => ?_)
      clear hK K hb
      try simp only [Act.put, List.setIfInBounds_toArray, List.set_cons_zero, List.set_cons_succ]
      refine wpAnyH_ready (rs := [7]) (by kernel_rfl) (by simp) ?_
      refine AllReadyH.cons (o := { dst := some 23, op := Op.call { callee := Callee.value (Operand.tmp 22), args := #[Operand.const (Value.int IntKind.i64 2)], argTypes := #[3] }, type := 3, pos := "meta.go:51", after := #[{ on := 6, ground := Ground.data }, { on := 5, ground := Ground.chain }], guard := none }) rfl (fun K hK => ?_) (AllReadyH.nil)
      have p6 := World.grownBy.cell hS c6 hne6
      go_simp
      refine (C3 Q0 _ _ _ p6 hr).out.mono ?_
      rintro e w107 ⟨rfl, hr, hb⟩
      replace hS : (fun W => w2.grownBy W (some g)) w107 := World.grownBy.trans hS hb
      replace hhA := gb_heap hb hhA (by simp; omega)
      refine hK.out _ _ hS (fun _ => ?_)
      clear hK K hb
      try simp only [Act.put, List.setIfInBounds_toArray, List.set_cons_zero, List.set_cons_succ]
      refine wpAnyH_ready (rs := [9]) (by kernel_rfl) (by simp) ?_
      refine AllReadyH.cons (o := { dst := some 25, op := Op.call { callee := Callee.value (Operand.func 37), args := #[Operand.tmp 24, Operand.const (Value.int IntKind.i64 8)], argTypes := #[47, 3] }, type := 24, pos := "meta.go:51", after := #[{ on := 8, ground := Ground.data }, { on := 7, ground := Ground.chain }], guard := none }) rfl (fun K hK => ?_) (AllReadyH.nil)
      have p6 := World.grownBy.cell hS c6 hne6
      go_simp
      refine (C4 Q0 _ _ hr).out.mono ?_
      rintro e w109 ⟨rfl, hr, hb⟩
      replace hS : (fun W => w2.grownBy W (some g)) w109 := World.grownBy.trans hS hb
      replace hhA := gb_heap hb hhA (by simp; omega)
      refine hK.out _ _ hS (fun _ => ?_)
      clear hK K hb
      try simp only [Act.put, List.setIfInBounds_toArray, List.set_cons_zero, List.set_cons_succ]
      refine wpAnyH_ready (rs := [11]) (by kernel_rfl) (by simp) ?_
      refine AllReadyH.cons (o := { dst := some 27, op := Op.call { callee := Callee.value (Operand.tmp 26), args := #[Operand.const (Value.int IntKind.i64 1)], argTypes := #[3] }, type := 3, pos := "meta.go:51", after := #[{ on := 10, ground := Ground.data }, { on := 9, ground := Ground.chain }], guard := none }) rfl (fun K hK => ?_) (AllReadyH.nil)
      have p6 := World.grownBy.cell hS c6 hne6
      go_simp
      refine (C5 Q0 _ _ _ p6 hr).out.mono ?_
      rintro e w111 ⟨rfl, hr, hb⟩
      replace hS : (fun W => w2.grownBy W (some g)) w111 := World.grownBy.trans hS hb
      replace hhA := gb_heap hb hhA (by simp; omega)
      refine hK.out _ _ hS (fun _ => ?_)
      clear hK K hb
      try simp only [Act.put, List.setIfInBounds_toArray, List.set_cons_zero, List.set_cons_succ]
      refine wpAnyH_take (i := 12) (oi := { dst := some 28, op := Op.binOp BinOp.eql 3 (Operand.tmp 27) (Operand.const (Value.int IntKind.i64 1)) 3, type := 4, pos := "meta.go:51", after := #[{ on := 11, ground := Ground.data }], guard := none }) (v := ?_) rfl (by kernel_rfl) (by kernel_rfl) (by kernel_rfl) (fun _ _ _ h => h) (Or.inl ⟨by rfl, ?_⟩) (by assumption) ?_
      rotate_left
      · (intro wS hS; go_simp <;> with_reducible rfl)
      try simp only [Act.put, List.setIfInBounds_toArray, List.set_cons_zero, List.set_cons_succ]
      refine wpAnyH_take (i := 14) (oi := { dst := some 30, op := Op.build 91 #[(0, Operand.tmp 17), (1, Operand.tmp 19), (2, Operand.tmp 21), (3, Operand.tmp 23), (4, Operand.tmp 25), (5, Operand.tmp 28), (6, Operand.tmp 29)], type := 91, pos := "meta.go:51", after := #[{ on := 1, ground := Ground.data }, { on := 3, ground := Ground.data }, { on := 5, ground := Ground.data }, { on := 7, ground := Ground.data }, { on := 9, ground := Ground.data }, { on := 12, ground := Ground.data }, { on := 13, ground := Ground.data }], guard := none }) (v := ?_) rfl (by kernel_rfl) (by kernel_rfl) (by kernel_rfl) (fun _ _ _ h => h) (Or.inl ⟨by rfl, ?_⟩) (by assumption) ?_
      rotate_left
      · (intro wS hS; go_simp <;> with_reducible rfl)
      try simp only [Act.put, List.setIfInBounds_toArray, List.set_cons_zero, List.set_cons_succ]
      refine wpAnyH_ready (rs := [16]) (by kernel_rfl) (by simp) ?_
      refine AllReadyH.cons (o := { dst := none, op := Op.store 91 (Operand.tmp 8) (Operand.tmp 30), type := 0, pos := "meta.go:51", after := #[{ on := 15, ground := Ground.data }, { on := 14, ground := Ground.data }, { on := 11, ground := Ground.chain }, { on := 0, ground := Ground.phase }, { on := 1, ground := Ground.phase }, { on := 2, ground := Ground.phase }, { on := 3, ground := Ground.phase }, { on := 4, ground := Ground.phase }, { on := 5, ground := Ground.phase }, { on := 6, ground := Ground.phase }, { on := 7, ground := Ground.phase }, { on := 8, ground := Ground.phase }, { on := 9, ground := Ground.phase }, { on := 10, ground := Ground.phase }, { on := 11, ground := Ground.phase }, { on := 12, ground := Ground.phase }, { on := 13, ground := Ground.phase }, { on := 14, ground := Ground.phase }, { on := 15, ground := Ground.phase }], guard := none }) rfl (fun K hK => ?_) (AllReadyH.nil)
      obtain ⟨⟨z0, z1, z2, z3, z4, z5, z6, z7⟩, k0, k1, k2, k3, k4, k5, k6, k7⟩ := eight_cells hhA
      have hh9 := eight_heap hhA (.int .u64 (id : Int)) (.int .u64 (fi : Int)) (.int .i64 (pr : Int)) (.int .i64 (le : Int)) (.int .u64 (en : Int)) (.bool pl) (.int .i64 lp) (.slice none 0 0)
      have hG9 := eight_gb w111 gA (.int .u64 (id : Int)) (.int .u64 (fi : Int)) (.int .i64 (pr : Int)) (.int .i64 (le : Int)) (.int .u64 (en : Int)) (.bool pl) (.int .i64 lp) (.slice none 0 0)
      have hS9 := gb_new hS hG9 hgB
      have hr9 := hr.keptG hG9 (by omega) (hQA gA hgB)
      go_simp
      refine hK.out _ _ hS9 (fun _ => ?_)
      clear hK K
      try simp only [Act.put, List.setIfInBounds_toArray, List.set_cons_zero, List.set_cons_succ]
      refine wpAnyH_done (by kernel_rfl) ?_ _
      go_wp2_with fail
      go_meet
      exact ⟨gA, rfl, hgne, hgB, hh9, hr9, hS9⟩
  case rest =>
    obtain ⟨gA, rfl, hgne, hgB, hhA, hr, hG⟩ := hcut
    generalize hwc : wc = w3 at *
    clear hwc C0 C1 C2 C3 C4 C5
    have p6 := World.grownBy.cell hG c6 hne6
    have hres3 := gb_heap hG hres (by simp; omega)
    have hB3 := below_gbw hG hB (by omega)
    have hltA := heap_lt hhA
    have hw23 := World.grownBy.size hG
    clear hG hr0 c6 hres hB
    go_wp2_with fail
    refine (C6 Q0 _ _ _ p6 hr).out.mono ?_
    rintro e w4 ⟨rfl, hr4, hg4⟩
    replace p6 := World.grownBy.cell hg4 p6 hne6
    replace hres3 := gb_heap hg4 hres3 (by simp; omega)
    replace hB3 := below_gbw hg4 hB3 (by omega)
    replace hhA := gb_heap hg4 hhA (by simp; omega)
    have hg4g := hr4.lt
    have hlt4 := heap_lt hhA
    have hp6l := cell_lt p6
    have hresl := heap_lt hres3
    obtain ⟨base, hbase⟩ : ∃ base, base = w4.heap.size := ⟨_, rfl⟩
    have hbl : w.heap.size ≤ base ∧ g < base ∧ gA < base ∧ g6 < base ∧ w.heap.size < base := by
      have hp6l' : g6 < w4.heap.size := hp6l
      omega
    have hbB : base ≤ w4.heap.size := by omega
    clear hg4 C6 hr hbase hlt4 hp6l hresl hg4g
    have HQ : ∀ b, Q0 b → b ≠ gA := hQA gA hgB
    have HQ2 : ∀ x, base ≤ x → ∀ b, Q0 b → b ≠ x := fun x hx => hQA x (by omega)
    clear hQA
    go_wp2_with fail
    go_loopw [33] (fun i wr => ∃ (j : Nat) (A' : Option Addr) (k' : Nat), j ≤ n ∧ i = .int .i64 j ∧ wr.heap[gA]? = some (.cells (recCs id fi pr le en pl lp A' j k') 91 (0, 0)) ∧ wr.ownsRow base 3 1 (.slice A' j k') j (is_ (ints ((pgVs q7 n).take j))) ∧ RdrQ Q0 wr g (pgSt q7 j).1 (pgSt q7 j).2 ∧ wr.cell? ⟨g6, 0, none⟩ = some (.pointer (some ⟨g, 0, none⟩)) ∧ wr.heap[w.heap.size]? = some (.cells #[.int .u64 0, .int .u64 0, .int .i64 0, .int .i64 0, .int .u64 0, .bool false, .int .i64 0, .slice none 0 0] 91 (0, 0)) ∧ base ≤ wr.heap.size ∧ Below w.heap.size w wr) (fun i _ => n - (intOf i).toNat)
    case atStart => exact ⟨0, none, 0, by omega, rfl, hhA, World.ownsRow_nil _ _ _ _, hr4, p6, hres3, hbB, hB3⟩
    case round =>
      obtain ⟨j, A', k', hj, rfl, hhj, hoj, hrj, p6j, hresj, hbj, hBj⟩ := hrel
      clear hhA hr4 p6 hres3 hB3 hbB
      by_cases hlt : j < n
      · have CJ := CJ0 j Q0 g g6
        have u1 : rdLeft (pgSt q7 j).1 (pgSt q7 j).2 (nw 2) = (pgSt q7 (j + 1)).1 := rfl
        have u2 : rdShort (pgSt q7 j).1 (pgSt q7 j).2 (nw 2) = (pgSt q7 (j + 1)).2 := rfl
        have u3 : rdNum (pgSt q7 j).1 (pgSt q7 j).2 2 = (pgVs q7 n).getD j 0 := (pgVs_getD q7 n j hlt).symm
        rw [u1, u2, u3] at CJ
        have hst : Hid (is_ (ints ((pgVs q7 n).take (j + 1))) = is_ (ints ((pgVs q7 n).take j)) ++ [.int .i64 (((pgVs q7 n).getD j 0 : Nat) : Int)]) := by
          show _ = _
          exact is_take (pgVs q7 n) j (by omega)
        clear u1 u2 u3 CE CJ0 HER
        generalize (pgVs q7 n).getD j 0 = pg at *
        have hr := hrj.kept ((Below.refl wr.heap.size wr).drew)
        have ho := hoj.drew
        have hh : wr.drew.heap[gA]? = some (.cells (recCs id fi pr le en pl lp A' j k') 91 (0, 0)) := hhj
        have hx6 : wr.drew.cell? ⟨g6, 0, none⟩ = some (.pointer (some ⟨g, 0, none⟩)) := p6j
        have hxr : wr.drew.heap[w.heap.size]? = some (.cells #[.int .u64 0, .int .u64 0, .int .i64 0, .int .i64 0, .int .u64 0, .bool false, .int .i64 0, .slice none 0 0] 91 (0, 0)) := hresj
        have hbz : base ≤ wr.drew.heap.size := hbj
        have hBz := hBj.drew
        have c7 : wr.cell? ⟨gA, 7, none⟩ = some (.slice A' j k') := cell_heap hhj
        clear hrj hoj hresj hbj hBj
        obtain ⟨ii, hii, hi0, hi1, hi2⟩ := info_ints
        have hjn : j + 1 ≤ 255 := by omega
        have hjl : (j : Int) < n := by omega
        have hne7 : some gA ≠ some g := by simp; omega
        have hwrd : wr.drew.heap.size = wr.heap.size := rfl
        go_upto_region 6 with fail
        refine wp_region_held (S := fun _ => True) (by kernel_rfl) ?_
        change wpAnyH _ _ _ _ _ _ _ _ (wr).drew
        have hS : (fun _ => True) (wr).drew := trivial
        generalize (wr).drew = wd at hr ho hh hx6 hxr hbz hBz ⊢
        refine wpAnyH_take (i := 0) (oi := { dst := some 35, op := Op.fieldAddr 91 (Operand.tmp 8) 7, type := 0, pos := "meta.go:53", after := #[], guard := none }) (v := ?_) rfl (by kernel_rfl) (by kernel_rfl) (by kernel_rfl) (fun _ _ _ h => h) (Or.inl ⟨by rfl, ?_⟩) (by assumption) ?_
        rotate_left
        · (intro wS hS; go_simp <;> with_reducible rfl)
        try simp only [Act.put, List.setIfInBounds_toArray, List.set_cons_zero, List.set_cons_succ]
        refine wpAnyH_take (i := 2) (oi := { dst := some 37, op := Op.move (Operand.tmp 7), type := 30, pos := "meta.go:53", after := #[], guard := none }) (v := ?_) rfl (by kernel_rfl) (by kernel_rfl) (by kernel_rfl) (fun _ _ _ h => h) (Or.inl ⟨by rfl, ?_⟩) (by assumption) ?_
        rotate_left
        · (intro wS hS; go_simp <;> with_reducible rfl)
        try simp only [Act.put, List.setIfInBounds_toArray, List.set_cons_zero, List.set_cons_succ]
        refine wpAnyH_ready (rs := [1, 3]) (by kernel_rfl) (by simp) ?_
        refine AllReadyH.cons (o := { dst := some 36, op := Op.load 89 (Operand.tmp 35), type := 89, pos := "meta.go:53", after := #[{ on := 0, ground := Ground.data }], guard := none }) rfl (fun K hK => ?_) (AllReadyH.cons (o := { dst := some 38, op := Op.call { callee := Callee.value (Operand.tmp 37), args := #[Operand.const (Value.int IntKind.i64 2)], argTypes := #[3] }, type := 3, pos := "meta.go:53", after := #[{ on := 2, ground := Ground.data }], guard := none }) rfl (fun K hK => ?_) (AllReadyH.nil))
        · have q7 : World.cell? wd ⟨gA, 7, none⟩ = some (.slice A' j k') := cell_heap hh
          go_simp
          refine hK.out _ _ trivial (fun _ => ?_)
          clear hK K q7
          try simp only [Act.put, List.setIfInBounds_toArray, List.set_cons_zero, List.set_cons_succ]
          refine wpAnyH_ready (rs := [3]) (by kernel_rfl) (by simp) ?_
          refine AllReadyH.cons (o := { dst := some 38, op := Op.call { callee := Callee.value (Operand.tmp 37), args := #[Operand.const (Value.int IntKind.i64 2)], argTypes := #[3] }, type := 3, pos := "meta.go:53", after := #[{ on := 2, ground := Ground.data }], guard := none }) rfl (fun K hK => ?_) (AllReadyH.nil)
          go_simp
          refine (CJ _ hx6 hr).out.mono ?_
          rintro e w103 ⟨rfl, hr, hb⟩
          replace hS : (fun _ => True) w103 := trivial
          replace hh := gb_heap hb hh (by simp; omega)
          replace hx6 := World.grownBy.cell hb hx6 hne6
          replace hxr := gb_heap hb hxr (by simp; omega)
          replace ho := ho.kept hb (.inr (fun e => by have := (ho.lt g e).1; omega))
          replace hbz := Nat.le_trans hbz (World.grownBy.size hb)
          replace hBz := below_gbw hb hBz (by omega)
          refine hK.out _ _ hS (fun _ => ?_)
          clear hK K hb
          try simp only [Act.put, List.setIfInBounds_toArray, List.set_cons_zero, List.set_cons_succ]
          refine wpAnyH_ready (rs := [4]) (by kernel_rfl) (by simp) ?_
          refine AllReadyH.cons (o := { dst := some 39, op := Op.buildSlice 89 1 #[(0, Operand.tmp 38)], type := 89, pos := "meta.go:53", after := #[{ on := 3, ground := Ground.data }], guard := none }) rfl (fun K hK => ?_) (AllReadyH.nil)
          go_simp
          have hbA := (one_cells w103 #[.int .i64 (pg : Int)] 3).1
          have hv := (one_cells w103 #[.int .i64 (pg : Int)] 3).2 0 (.int .i64 (pg : Int)) rfl
          replace hr := hr.kept hbA
          replace hh := heap_below hbA hh
          replace hx6 := cell_below hbA hx6
          replace hxr := heap_below hbA hxr
          replace ho := own_below ho hbA
          replace hbz := Nat.le_trans hbz hbA.size
          replace hBz := below_trans hBz hbA
          refine hK.out _ _ trivial (fun _ => ?_)
          clear hK K hbA
          try simp only [Act.put, List.setIfInBounds_toArray, List.set_cons_zero, List.set_cons_succ]
          generalize hgB2 : World.heap w103 = hpB at *
          generalize World.alloc w103 (.cells #[.int .i64 (pg : Int)] 3) = wA at *
          clear hgB2
          refine wpAnyH_ready (rs := [5]) (by kernel_rfl) (by simp) ?_
          refine AllReadyH.cons (o := { dst := some 40, op := Op.call { callee := Callee.builtin Builtin.append, args := #[Operand.tmp 36, Operand.tmp 39], argTypes := #[89, 89] }, type := 89, pos := "meta.go:53", after := #[{ on := 1, ground := Ground.data }, { on := 4, ground := Ground.data }, { on := 3, ground := Ground.chain }], guard := none }) rfl (fun K hK => ?_) (AllReadyH.nil)
          refine step_append_lies _ rfl (.tmp 36) (.tmp 39) 89 rfl base 3 ii (.int .i64 0) 1 8 Try.underlying89 hii hi0 hi1 hi2 rfl (by decide) _ j _ rfl ho ⟨hpB.size, 0, none⟩ 1 1 [.int .i64 (pg : Int)] rfl rfl (fun jj u hu => by cases jj with | zero => (cases hu; exact hv) | succ q => (simp at hu)) (by simp [Value.oneCell']) (by decide) (by unfold maxLen; omega) (by omega) hbz _ rfl ?_
          intro gX capX wR5 ho' hg' hor hltX
          have hh5 := gb_heap hg' hh (fun e => by have := (ho.lt gA e.symm).1; omega)
          have hx65 := World.grownBy.cell hg' hx6 (fun e => by have := (ho.lt g6 e.symm).1; omega)
          have hxr5 := gb_heap hg' hxr (fun e => by have := (ho.lt _ e.symm).1; omega)
          have hr5 := hr.keptR hg' (fun e => by have := (ho.lt g e.symm).1; omega) (fun b hb e => HQ2 b (ho.lt b e.symm).1 b hb rfl)
          have hbz5 := Nat.le_trans hbz (World.grownBy.size hg')
          have hBz5 : Below w.heap.size w wR5 := hBz.grown hg' hBz.size (fun k hk => by have := (ho.lt k hk).1; omega)
          have hgX := (ho'.lt gX rfl).1
          refine hK.out _ _ trivial (fun _ => ?_)
          clear hK K hh hx6 hxr hr hbz hBz hg' hor ho hv
          try simp only [Act.put, List.setIfInBounds_toArray, List.set_cons_zero, List.set_cons_succ]
          refine wpAnyH_take (i := 6) (oi := { dst := some 41, op := Op.fieldAddr 91 (Operand.tmp 8) 7, type := 0, pos := "meta.go:53", after := #[{ on := 0, ground := Ground.phase }, { on := 1, ground := Ground.phase }, { on := 2, ground := Ground.phase }, { on := 3, ground := Ground.phase }, { on := 4, ground := Ground.phase }, { on := 5, ground := Ground.phase }], guard := none }) (v := ?_) rfl (by kernel_rfl) (by kernel_rfl) (by kernel_rfl) (fun _ _ _ h => h) (Or.inl ⟨by rfl, ?_⟩) (by assumption) ?_
          rotate_left
          · (intro wS hS; go_simp <;> with_reducible rfl)
          try simp only [Act.put, List.setIfInBounds_toArray, List.set_cons_zero, List.set_cons_succ]
          refine wpAnyH_ready (rs := [7]) (by kernel_rfl) (by simp) ?_
          refine AllReadyH.cons (o := { dst := none, op := Op.store 89 (Operand.tmp 41) (Operand.tmp 40), type := 0, pos := "meta.go:53", after := #[{ on := 6, ground := Ground.data }, { on := 5, ground := Ground.data }, { on := 5, ground := Ground.chain }, { on := 0, ground := Ground.phase }, { on := 1, ground := Ground.phase }, { on := 2, ground := Ground.phase }, { on := 3, ground := Ground.phase }, { on := 4, ground := Ground.phase }, { on := 5, ground := Ground.phase }], guard := none }) rfl (fun K hK => ?_) (AllReadyH.nil)
          have q7 : World.cell? wR5 ⟨gA, 7, none⟩ = some (.slice A' j k') := cell_heap hh5
          have f7 := frozen_heap (o := 7) hh5
          have hG7 := gb_set wR5 gA 7 (.slice (some ⟨gX, 0, none⟩) (j + 1) capX)
          have hh6 := set_heap (o := 7) hh5 (.slice (some ⟨gX, 0, none⟩) (j + 1) capX)
          have hx66 := World.grownBy.cell hG7 hx65 (by simp; omega)
          have hxr6 := gb_heap hG7 hxr5 (by simp; omega)
          have hr6 := hr5.keptG hG7 (by omega) HQ
          have ho6 := ho'.kept hG7 (.inr (fun e => by simp [Value.ownBlock] at e; omega))
          have hB6 := below_gbw hG7 hBz5 (by omega)
          have hbz6 := Nat.le_trans hbz5 (World.grownBy.size hG7)
          go_simp
          refine hK.out _ _ trivial (fun _ => ?_)
          clear hK K
          try simp only [Act.put, List.setIfInBounds_toArray, List.set_cons_zero, List.set_cons_succ]
          refine wpAnyH_done (by kernel_rfl) ?_ _
          go_wp2_with fail
          go_roundw
          case rel => exact ⟨j + 1, some ⟨gX, 0, none⟩, capX, by omega, by go_num, hh6, by rw [hst.out]; exact ho6, hr6, hx66, hxr6, hbz6, hB6⟩
          case measure => simp [intOf]; omega
        · go_simp
          refine (CJ _ hx6 hr).out.mono ?_
          rintro e w103 ⟨rfl, hr, hb⟩
          replace hS : (fun _ => True) w103 := trivial
          replace hh := gb_heap hb hh (by simp; omega)
          replace hx6 := World.grownBy.cell hb hx6 hne6
          replace hxr := gb_heap hb hxr (by simp; omega)
          replace ho := ho.kept hb (.inr (fun e => by have := (ho.lt g e).1; omega))
          replace hbz := Nat.le_trans hbz (World.grownBy.size hb)
          replace hBz := below_gbw hb hBz (by omega)
          refine hK.out _ _ hS (fun _ => ?_)
          clear hK K hb
          try simp only [Act.put, List.setIfInBounds_toArray, List.set_cons_zero, List.set_cons_succ]
          refine wpAnyH_ready (rs := [1, 4]) (by kernel_rfl) (by simp) ?_
          refine AllReadyH.cons (o := { dst := some 36, op := Op.load 89 (Operand.tmp 35), type := 89, pos := "meta.go:53", after := #[{ on := 0, ground := Ground.data }], guard := none }) rfl (fun K hK => ?_) (AllReadyH.cons (o := { dst := some 39, op := Op.buildSlice 89 1 #[(0, Operand.tmp 38)], type := 89, pos := "meta.go:53", after := #[{ on := 3, ground := Ground.data }], guard := none }) rfl (fun K hK => ?_) (AllReadyH.nil))
          · have q7 : World.cell? w103 ⟨gA, 7, none⟩ = some (.slice A' j k') := cell_heap hh
            go_simp
            refine hK.out _ _ trivial (fun _ => ?_)
            clear hK K q7
            try simp only [Act.put, List.setIfInBounds_toArray, List.set_cons_zero, List.set_cons_succ]
            refine wpAnyH_ready (rs := [4]) (by kernel_rfl) (by simp) ?_
            refine AllReadyH.cons (o := { dst := some 39, op := Op.buildSlice 89 1 #[(0, Operand.tmp 38)], type := 89, pos := "meta.go:53", after := #[{ on := 3, ground := Ground.data }], guard := none }) rfl (fun K hK => ?_) (AllReadyH.nil)
            go_simp
            have hbA := (one_cells w103 #[.int .i64 (pg : Int)] 3).1
            have hv := (one_cells w103 #[.int .i64 (pg : Int)] 3).2 0 (.int .i64 (pg : Int)) rfl
            replace hr := hr.kept hbA
            replace hh := heap_below hbA hh
            replace hx6 := cell_below hbA hx6
            replace hxr := heap_below hbA hxr
            replace ho := own_below ho hbA
            replace hbz := Nat.le_trans hbz hbA.size
            replace hBz := below_trans hBz hbA
            refine hK.out _ _ trivial (fun _ => ?_)
            clear hK K hbA
            try simp only [Act.put, List.setIfInBounds_toArray, List.set_cons_zero, List.set_cons_succ]
            generalize hgB2 : World.heap w103 = hpB at *
            generalize World.alloc w103 (.cells #[.int .i64 (pg : Int)] 3) = wA at *
            clear hgB2
            refine wpAnyH_ready (rs := [5]) (by kernel_rfl) (by simp) ?_
            refine AllReadyH.cons (o := { dst := some 40, op := Op.call { callee := Callee.builtin Builtin.append, args := #[Operand.tmp 36, Operand.tmp 39], argTypes := #[89, 89] }, type := 89, pos := "meta.go:53", after := #[{ on := 1, ground := Ground.data }, { on := 4, ground := Ground.data }, { on := 3, ground := Ground.chain }], guard := none }) rfl (fun K hK => ?_) (AllReadyH.nil)
            refine step_append_lies _ rfl (.tmp 36) (.tmp 39) 89 rfl base 3 ii (.int .i64 0) 1 8 Try.underlying89 hii hi0 hi1 hi2 rfl (by decide) _ j _ rfl ho ⟨hpB.size, 0, none⟩ 1 1 [.int .i64 (pg : Int)] rfl rfl (fun jj u hu => by cases jj with | zero => (cases hu; exact hv) | succ q => (simp at hu)) (by simp [Value.oneCell']) (by decide) (by unfold maxLen; omega) (by omega) hbz _ rfl ?_
            intro gX capX wR5 ho' hg' hor hltX
            have hh5 := gb_heap hg' hh (fun e => by have := (ho.lt gA e.symm).1; omega)
            have hx65 := World.grownBy.cell hg' hx6 (fun e => by have := (ho.lt g6 e.symm).1; omega)
            have hxr5 := gb_heap hg' hxr (fun e => by have := (ho.lt _ e.symm).1; omega)
            have hr5 := hr.keptR hg' (fun e => by have := (ho.lt g e.symm).1; omega) (fun b hb e => HQ2 b (ho.lt b e.symm).1 b hb rfl)
            have hbz5 := Nat.le_trans hbz (World.grownBy.size hg')
            have hBz5 : Below w.heap.size w wR5 := hBz.grown hg' hBz.size (fun k hk => by have := (ho.lt k hk).1; omega)
            have hgX := (ho'.lt gX rfl).1
            refine hK.out _ _ trivial (fun _ => ?_)
            clear hK K hh hx6 hxr hr hbz hBz hg' hor ho hv
            try simp only [Act.put, List.setIfInBounds_toArray, List.set_cons_zero, List.set_cons_succ]
            refine wpAnyH_take (i := 6) (oi := { dst := some 41, op := Op.fieldAddr 91 (Operand.tmp 8) 7, type := 0, pos := "meta.go:53", after := #[{ on := 0, ground := Ground.phase }, { on := 1, ground := Ground.phase }, { on := 2, ground := Ground.phase }, { on := 3, ground := Ground.phase }, { on := 4, ground := Ground.phase }, { on := 5, ground := Ground.phase }], guard := none }) (v := ?_) rfl (by kernel_rfl) (by kernel_rfl) (by kernel_rfl) (fun _ _ _ h => h) (Or.inl ⟨by rfl, ?_⟩) (by assumption) ?_
            rotate_left
            · (intro wS hS; go_simp <;> with_reducible rfl)
            try simp only [Act.put, List.setIfInBounds_toArray, List.set_cons_zero, List.set_cons_succ]
            refine wpAnyH_ready (rs := [7]) (by kernel_rfl) (by simp) ?_
            refine AllReadyH.cons (o := { dst := none, op := Op.store 89 (Operand.tmp 41) (Operand.tmp 40), type := 0, pos := "meta.go:53", after := #[{ on := 6, ground := Ground.data }, { on := 5, ground := Ground.data }, { on := 5, ground := Ground.chain }, { on := 0, ground := Ground.phase }, { on := 1, ground := Ground.phase }, { on := 2, ground := Ground.phase }, { on := 3, ground := Ground.phase }, { on := 4, ground := Ground.phase }, { on := 5, ground := Ground.phase }], guard := none }) rfl (fun K hK => ?_) (AllReadyH.nil)
            have q7 : World.cell? wR5 ⟨gA, 7, none⟩ = some (.slice A' j k') := cell_heap hh5
            have f7 := frozen_heap (o := 7) hh5
            have hG7 := gb_set wR5 gA 7 (.slice (some ⟨gX, 0, none⟩) (j + 1) capX)
            have hh6 := set_heap (o := 7) hh5 (.slice (some ⟨gX, 0, none⟩) (j + 1) capX)
            have hx66 := World.grownBy.cell hG7 hx65 (by simp; omega)
            have hxr6 := gb_heap hG7 hxr5 (by simp; omega)
            have hr6 := hr5.keptG hG7 (by omega) HQ
            have ho6 := ho'.kept hG7 (.inr (fun e => by simp [Value.ownBlock] at e; omega))
            have hB6 := below_gbw hG7 hBz5 (by omega)
            have hbz6 := Nat.le_trans hbz5 (World.grownBy.size hG7)
            go_simp
            refine hK.out _ _ trivial (fun _ => ?_)
            clear hK K
            try simp only [Act.put, List.setIfInBounds_toArray, List.set_cons_zero, List.set_cons_succ]
            refine wpAnyH_done (by kernel_rfl) ?_ _
            go_wp2_with fail
            go_roundw
            case rel => exact ⟨j + 1, some ⟨gX, 0, none⟩, capX, by omega, by go_num, hh6, by rw [hst.out]; exact ho6, hr6, hx66, hxr6, hbz6, hB6⟩
            case measure => simp [intOf]; omega
          · go_simp
            have hbA := (one_cells w103 #[.int .i64 (pg : Int)] 3).1
            have hv := (one_cells w103 #[.int .i64 (pg : Int)] 3).2 0 (.int .i64 (pg : Int)) rfl
            replace hr := hr.kept hbA
            replace hh := heap_below hbA hh
            replace hx6 := cell_below hbA hx6
            replace hxr := heap_below hbA hxr
            replace ho := own_below ho hbA
            replace hbz := Nat.le_trans hbz hbA.size
            replace hBz := below_trans hBz hbA
            refine hK.out _ _ trivial (fun _ => ?_)
            clear hK K hbA
            try simp only [Act.put, List.setIfInBounds_toArray, List.set_cons_zero, List.set_cons_succ]
            generalize hgB2 : World.heap w103 = hpB at *
            generalize World.alloc w103 (.cells #[.int .i64 (pg : Int)] 3) = wA at *
            clear hgB2
            refine wpAnyH_ready (rs := [1]) (by kernel_rfl) (by simp) ?_
            refine AllReadyH.cons (o := { dst := some 36, op := Op.load 89 (Operand.tmp 35), type := 89, pos := "meta.go:53", after := #[{ on := 0, ground := Ground.data }], guard := none }) rfl (fun K hK => ?_) (AllReadyH.nil)
            have q7 : World.cell? wA ⟨gA, 7, none⟩ = some (.slice A' j k') := cell_heap hh
            go_simp
            refine hK.out _ _ trivial (fun _ => ?_)
            clear hK K q7
            try simp only [Act.put, List.setIfInBounds_toArray, List.set_cons_zero, List.set_cons_succ]
            refine wpAnyH_ready (rs := [5]) (by kernel_rfl) (by simp) ?_
            refine AllReadyH.cons (o := { dst := some 40, op := Op.call { callee := Callee.builtin Builtin.append, args := #[Operand.tmp 36, Operand.tmp 39], argTypes := #[89, 89] }, type := 89, pos := "meta.go:53", after := #[{ on := 1, ground := Ground.data }, { on := 4, ground := Ground.data }, { on := 3, ground := Ground.chain }], guard := none }) rfl (fun K hK => ?_) (AllReadyH.nil)
            refine step_append_lies _ rfl (.tmp 36) (.tmp 39) 89 rfl base 3 ii (.int .i64 0) 1 8 Try.underlying89 hii hi0 hi1 hi2 rfl (by decide) _ j _ rfl ho ⟨hpB.size, 0, none⟩ 1 1 [.int .i64 (pg : Int)] rfl rfl (fun jj u hu => by cases jj with | zero => (cases hu; exact hv) | succ q => (simp at hu)) (by simp [Value.oneCell']) (by decide) (by unfold maxLen; omega) (by omega) hbz _ rfl ?_
            intro gX capX wR5 ho' hg' hor hltX
            have hh5 := gb_heap hg' hh (fun e => by have := (ho.lt gA e.symm).1; omega)
            have hx65 := World.grownBy.cell hg' hx6 (fun e => by have := (ho.lt g6 e.symm).1; omega)
            have hxr5 := gb_heap hg' hxr (fun e => by have := (ho.lt _ e.symm).1; omega)
            have hr5 := hr.keptR hg' (fun e => by have := (ho.lt g e.symm).1; omega) (fun b hb e => HQ2 b (ho.lt b e.symm).1 b hb rfl)
            have hbz5 := Nat.le_trans hbz (World.grownBy.size hg')
            have hBz5 : Below w.heap.size w wR5 := hBz.grown hg' hBz.size (fun k hk => by have := (ho.lt k hk).1; omega)
            have hgX := (ho'.lt gX rfl).1
            refine hK.out _ _ trivial (fun _ => ?_)
            clear hK K hh hx6 hxr hr hbz hBz hg' hor ho hv
            try simp only [Act.put, List.setIfInBounds_toArray, List.set_cons_zero, List.set_cons_succ]
            refine wpAnyH_take (i := 6) (oi := { dst := some 41, op := Op.fieldAddr 91 (Operand.tmp 8) 7, type := 0, pos := "meta.go:53", after := #[{ on := 0, ground := Ground.phase }, { on := 1, ground := Ground.phase }, { on := 2, ground := Ground.phase }, { on := 3, ground := Ground.phase }, { on := 4, ground := Ground.phase }, { on := 5, ground := Ground.phase }], guard := none }) (v := ?_) rfl (by kernel_rfl) (by kernel_rfl) (by kernel_rfl) (fun _ _ _ h => h) (Or.inl ⟨by rfl, ?_⟩) (by assumption) ?_
            rotate_left
            · (intro wS hS; go_simp <;> with_reducible rfl)
            try simp only [Act.put, List.setIfInBounds_toArray, List.set_cons_zero, List.set_cons_succ]
            refine wpAnyH_ready (rs := [7]) (by kernel_rfl) (by simp) ?_
            refine AllReadyH.cons (o := { dst := none, op := Op.store 89 (Operand.tmp 41) (Operand.tmp 40), type := 0, pos := "meta.go:53", after := #[{ on := 6, ground := Ground.data }, { on := 5, ground := Ground.data }, { on := 5, ground := Ground.chain }, { on := 0, ground := Ground.phase }, { on := 1, ground := Ground.phase }, { on := 2, ground := Ground.phase }, { on := 3, ground := Ground.phase }, { on := 4, ground := Ground.phase }, { on := 5, ground := Ground.phase }], guard := none }) rfl (fun K hK => ?_) (AllReadyH.nil)
            have q7 : World.cell? wR5 ⟨gA, 7, none⟩ = some (.slice A' j k') := cell_heap hh5
            have f7 := frozen_heap (o := 7) hh5
            have hG7 := gb_set wR5 gA 7 (.slice (some ⟨gX, 0, none⟩) (j + 1) capX)
            have hh6 := set_heap (o := 7) hh5 (.slice (some ⟨gX, 0, none⟩) (j + 1) capX)
            have hx66 := World.grownBy.cell hG7 hx65 (by simp; omega)
            have hxr6 := gb_heap hG7 hxr5 (by simp; omega)
            have hr6 := hr5.keptG hG7 (by omega) HQ
            have ho6 := ho'.kept hG7 (.inr (fun e => by simp [Value.ownBlock] at e; omega))
            have hB6 := below_gbw hG7 hBz5 (by omega)
            have hbz6 := Nat.le_trans hbz5 (World.grownBy.size hG7)
            go_simp
            refine hK.out _ _ trivial (fun _ => ?_)
            clear hK K
            try simp only [Act.put, List.setIfInBounds_toArray, List.set_cons_zero, List.set_cons_succ]
            refine wpAnyH_done (by kernel_rfl) ?_ _
            go_wp2_with fail
            go_roundw
            case rel => exact ⟨j + 1, some ⟨gX, 0, none⟩, capX, by omega, by go_num, hh6, by rw [hst.out]; exact ho6, hr6, hx66, hxr6, hbz6, hB6⟩
            case measure => simp [intOf]; omega
      · obtain rfl : j = n := by omega
        rw [List.take_of_length_le (by omega)] at hoj
        obtain ⟨A9, c9, e9, hrow, hbl9⟩ := Rd.of_own hoj
        cases e9
        obtain ⟨⟨z0, z1, z2, z3, z4, z5, z6, z7⟩, -⟩ := eight_cells hhj
        obtain ⟨⟨y0, y1, y2, y3, y4, y5, y6, y7⟩, k0, k1, k2, k3, k4, k5, k6, k7⟩ := eight_cells hresj
        clear CJ0 HQ0
        go_wp2_with fail
        refine (CE _ _ hrj.rdr).out.mono ?_
        have her := HER.out
        clear CE hrj HER
        generalize (pgSt q7 j).2 = sh at *
        generalize (pgSt q7 j).1 = lf at *
        cases sh with
        | true =>
          rw [if_pos rfl] at her
          rw [if_pos rfl]
          rintro e w' ⟨rfl, rfl⟩
          have hee := her
          clear her
          go_wp2_with fail
          have hh10 := eight_heap hresj (.int .u64 0) (.int .u64 0) (.int .i64 0) (.int .i64 0) (.int .u64 0) (.bool false) (.int .i64 0) (.slice none 0 0)
          have hG10 := eight_gb wr w.heap.size (.int .u64 0) (.int .u64 0) (.int .i64 0) (.int .i64 0) (.int .u64 0) (.bool false) (.int .i64 0) (.slice none 0 0)
          have hB10 := below_gbw hG10 hBj (Nat.le_refl _)
          obtain ⟨⟨r0, r1, r2, r3, r4, r5, r6, r7⟩, -⟩ := eight_cells hh10
          refine bodyPost_ret (v := .tuple #[.agg #[.int .u64 0, .int .u64 0, .int .i64 0, .int .i64 0, .int .u64 0, .bool false, .int .i64 0, .slice none 0 0], .int .i64 5]) ?_ rfl ⟨.inl ⟨by rw [hee]; decide, by rw [hee]; rfl⟩, hB10⟩
          simp only [eight] at r0 r1 r2 r3 r4 r5 r6 r7
          simp [results, Try.results67, go_sem, r0, r1, r2, r3, r4, r5, r6, r7]
        | false =>
          rw [if_neg (by decide)] at her
          rw [if_neg (by decide)]
          by_cases hl : lf = []
          · rw [if_pos hl] at her
            rw [if_pos hl]
            rintro e w' ⟨rfl, rfl⟩
            clear hl
            cases hmay : mayM id fi pr le lp (ints (pgVs q7 j)) with
            | false =>
              have KP := Lib.hid (mput_no id fi pr le en pl lp (ints (pgVs q7 j)) A' j k' wr hrow (by omega) hmay)
              rw [hmay, if_neg (by decide)] at her
              have hee := her
              clear her hmay
              go_wp2_with fail
              refine KP.out.mono ?_
              rintro e w9 ⟨rfl, hb⟩
              have hres9 := heap_below hb hresj
              have hB9 := below_trans hBj hb
              clear hb hhj hresj KP hBj z0 z1 z2 z3 z4 z5 z6 z7 y0 y1 y2 y3 y4 y5 y6 y7 k0 k1 k2 k3 k4 k5 k6 k7
              obtain ⟨⟨y0, y1, y2, y3, y4, y5, y6, y7⟩, k0, k1, k2, k3, k4, k5, k6, k7⟩ := eight_cells hres9
              go_wp2_with fail
              have hh10 := eight_heap hres9 (.int .u64 0) (.int .u64 0) (.int .i64 0) (.int .i64 0) (.int .u64 0) (.bool false) (.int .i64 0) (.slice none 0 0)
              have hG10 := eight_gb w9 w.heap.size (.int .u64 0) (.int .u64 0) (.int .i64 0) (.int .i64 0) (.int .u64 0) (.bool false) (.int .i64 0) (.slice none 0 0)
              have hB10 := below_gbw hG10 hB9 (Nat.le_refl _)
              obtain ⟨⟨r0, r1, r2, r3, r4, r5, r6, r7⟩, -⟩ := eight_cells hh10
              refine bodyPost_ret (v := .tuple #[.agg #[.int .u64 0, .int .u64 0, .int .i64 0, .int .i64 0, .int .u64 0, .bool false, .int .i64 0, .slice none 0 0], .int .i64 6]) ?_ rfl ⟨.inl ⟨by rw [hee]; decide, by rw [hee]; rfl⟩, hB10⟩
              simp only [eight] at r0 r1 r2 r3 r4 r5 r6 r7
              simp [results, Try.results67, go_sem, r0, r1, r2, r3, r4, r5, r6, r7]
            | true =>
              rw [hmay, if_pos rfl] at her
              obtain ⟨lp2, rfl, may⟩ := mayM_to hen hmay
              have KP := Lib.hid (mput_any id fi pr le en pl lp2 (pgVs q7 j) A' j k' wr hrow may)
              clear hmay may
              by_cases heq : recB id fi pr le en (plN pl) (pgVs q7 j) = xs
              · rw [if_pos heq] at her
                rw [heq] at KP
                have hee := her
                clear her heq
                go_wp2_with fail
                refine KP.out.mono ?_
                rintro e w9 ⟨rfl, hb⟩
                have hh9 := heap_below hb hhj
                have hres9 := heap_below hb hresj
                have hrow9 := hrow.below hb
                have hB9 := below_trans hBj hb
                clear hb hhj hresj hrow KP hBj z0 z1 z2 z3 z4 z5 z6 z7 y0 y1 y2 y3 y4 y5 y6 y7 k0 k1 k2 k3 k4 k5 k6 k7
                obtain ⟨⟨z0, z1, z2, z3, z4, z5, z6, z7⟩, -⟩ := eight_cells hh9
                obtain ⟨⟨y0, y1, y2, y3, y4, y5, y6, y7⟩, k0, k1, k2, k3, k4, k5, k6, k7⟩ := eight_cells hres9
                go_wp2_with fail
                have hh10 := eight_heap hres9 (.int .u64 (id : Int)) (.int .u64 (fi : Int)) (.int .i64 (pr : Int)) (.int .i64 (le : Int)) (.int .u64 (en : Int)) (.bool pl) (.int .i64 (lp2 : Int)) (.slice A' j k')
                have hG10 := eight_gb w9 w.heap.size (.int .u64 (id : Int)) (.int .u64 (fi : Int)) (.int .i64 (pr : Int)) (.int .i64 (le : Int)) (.int .u64 (en : Int)) (.bool pl) (.int .i64 (lp2 : Int)) (.slice A' j k')
                have hB10 := below_gbw hG10 hB9 (Nat.le_refl _)
                have hrow10 := hrow9.kept hG10 (fun ad e => by have := hbl9 ad e; simp; omega)
                obtain ⟨⟨r0, r1, r2, r3, r4, r5, r6, r7⟩, -⟩ := eight_cells hh10
                refine bodyPost_ret (v := .tuple #[recV id fi pr le en pl lp2 A' j k', .int .i64 0]) ?_ rfl ⟨.inr ⟨hee, A', j, k', rfl, hrow10⟩, hB10⟩
                simp only [eight] at r0 r1 r2 r3 r4 r5 r6 r7
                simp [results, Try.results67, go_sem, r0, r1, r2, r3, r4, r5, r6, r7]
              · rw [if_neg heq] at her
                generalize recB id fi pr le en (plN pl) (pgVs q7 j) = rb at *
                have n1 : (rb == xs) = false := by rw [beq_eq_false_iff_ne]; exact heq
                have n3 : decide (rb = xs) = false := by rw [decide_eq_false_iff_not]; exact heq
                have hee := her
                clear her
                go_wp2_with fail
                refine KP.out.mono ?_
                rintro e w9 ⟨rfl, hb⟩
                have hres9 := heap_below hb hresj
                have hB9 := below_trans hBj hb
                clear hb hhj hresj KP hBj z0 z1 z2 z3 z4 z5 z6 z7 y0 y1 y2 y3 y4 y5 y6 y7 k0 k1 k2 k3 k4 k5 k6 k7
                obtain ⟨⟨y0, y1, y2, y3, y4, y5, y6, y7⟩, k0, k1, k2, k3, k4, k5, k6, k7⟩ := eight_cells hres9
                go_wp2_with fail
                have hh10 := eight_heap hres9 (.int .u64 0) (.int .u64 0) (.int .i64 0) (.int .i64 0) (.int .u64 0) (.bool false) (.int .i64 0) (.slice none 0 0)
                have hG10 := eight_gb w9 w.heap.size (.int .u64 0) (.int .u64 0) (.int .i64 0) (.int .i64 0) (.int .u64 0) (.bool false) (.int .i64 0) (.slice none 0 0)
                have hB10 := below_gbw hG10 hB9 (Nat.le_refl _)
                obtain ⟨⟨r0, r1, r2, r3, r4, r5, r6, r7⟩, -⟩ := eight_cells hh10
                refine bodyPost_ret (v := .tuple #[.agg #[.int .u64 0, .int .u64 0, .int .i64 0, .int .i64 0, .int .u64 0, .bool false, .int .i64 0, .slice none 0 0], .int .i64 6]) ?_ rfl ⟨.inl ⟨by rw [hee]; decide, by rw [hee]; rfl⟩, hB10⟩
                simp only [eight] at r0 r1 r2 r3 r4 r5 r6 r7
                simp [results, Try.results67, go_sem, r0, r1, r2, r3, r4, r5, r6, r7]
          · rw [if_neg hl] at her
            rw [if_neg hl]
            rintro e w' ⟨rfl, rfl⟩
            have hee := her
            clear her hl
            go_wp2_with fail
            have hh10 := eight_heap hresj (.int .u64 0) (.int .u64 0) (.int .i64 0) (.int .i64 0) (.int .u64 0) (.bool false) (.int .i64 0) (.slice none 0 0)
            have hG10 := eight_gb wr w.heap.size (.int .u64 0) (.int .u64 0) (.int .i64 0) (.int .i64 0) (.int .u64 0) (.bool false) (.int .i64 0) (.slice none 0 0)
            have hB10 := below_gbw hG10 hBj (Nat.le_refl _)
            obtain ⟨⟨r0, r1, r2, r3, r4, r5, r6, r7⟩, -⟩ := eight_cells hh10
            refine bodyPost_ret (v := .tuple #[.agg #[.int .u64 0, .int .u64 0, .int .i64 0, .int .i64 0, .int .u64 0, .bool false, .int .i64 0, .slice none 0 0], .int .i64 6]) ?_ rfl ⟨.inl ⟨by rw [hee]; decide, by rw [hee]; rfl⟩, hB10⟩
            simp only [eight] at r0 r1 r2 r3 r4 r5 r6 r7
            simp [results, Try.results67, go_sem, r0, r1, r2, r3, r4, r5, r6, r7]
end Go.Proofs.Ythkabhejfkekjaa
