/- Contract of reply.Parse. No condition but the length's bound. -/
import Derived.Test.YtefipigdkdopcaaRep10
import Derived.Test.YtefipigdkdopcaaCmd4
import Derived.Deep.DeepCutAuto
import Derived.WalkMore
namespace Go.Proofs.Ytefipigdkdopcaa
open Go.RowKit

abbrev valW (s : List UInt8) : Nat := (numF s).toNat
/-- The parts of a reply out of words. -/
def parseGo : List (List UInt8) → List Fr → List (Nat × Nat) → List Int → List Fr × List (Nat × Nat) × List Int
  | [], fs, ls, cs => (fs, ls, cs)
  | s :: r, fs, ls, cs =>
    if s = [102, 114, 97, 109, 101] then parseGo r.tail (fs ++ [frOf (r.headD [])]) ls cs
    else if s = [108, 111, 115, 116] then parseGo r.tail.tail fs (ls ++ [(valW (r.headD []), valW (r.tail.headD []))]) cs
    else if s = [99, 111, 117, 110, 116] then parseGo r.tail fs ls (cs ++ [(valW (r.headD []) : Int)])
    else (fs, ls, cs)
termination_by l => l.length
decreasing_by all_goals (simp only [List.length_cons, List.length_tail]; omega)
/-- The words of a reply's text. -/
def prsW (s : List UInt8) : List (List UInt8) := wordsL (Lib.trimSuffix s [10])
structure Rp where
  e : Nat
  n : Nat
  fs : List Fr
  ls : List (Nat × Nat)
  cs : List Int
/-- What Parse reads, right or not. -/
def prs (s : List UInt8) : Rp :=
  let ws := prsW s
  let p := parseGo ws.tail.tail [] [] []
  ⟨valW (ws.headD []), valW (ws.tail.headD []), p.1, p.2.1, p.2.2⟩
def prsOk (s : List UInt8) : Prop := chkR (prs s).e (prs s).n (prs s).fs (prs s).ls (prs s).cs = 0 ∧ textR (prs s).e (prs s).n (prs s).fs (prs s).ls (prs s).cs = s
def prsPost (w : World) (s : List UInt8) (x : Ending) (w' : World) : Prop :=
  Below w.heap.size w w' ∧ (prsOk s → ∃ A a B b C c, x = .returned (.tuple #[rpl (prs s).e (prs s).n A (prs s).fs.length a B (prs s).ls.length b C (prs s).cs.length c, .int .i64 0]) ∧ Rd w' A (prs s).fs.length a 5 (frCs (prs s).fs) ∧ Rd w' B (prs s).ls.length b 2 (prCs (prs s).ls) ∧ Rd w' C (prs s).cs.length c 1 (inCs (prs s).cs))
    ∧ (¬ prsOk s → x = .returned (.tuple #[rpl 0 0 none 0 0 none 0 0 none 0 0, .int .i64 6]))

abbrev zRp : Obj := .cells #[.int .i64 0, .int .u64 0, .slice none 0 0, .slice none 0 0, .slice none 0 0] 47 (0, 0)
/-- How many words are left. -/
def rdLen (w : World) (g : Nat) : Nat := match w.cell? ⟨g, 0, none⟩ with
  | some (.slice _ n _) => n
  | _ => 0
theorem rdLen_of {w : World} {g B : Nat} {l : List (List UInt8)} (h : WRd w g B l) : rdLen w g = l.length := by
  obtain ⟨A, n, c, h1, h2, -⟩ := h
  unfold rdLen
  rw [cell_heap h1]
  exact h2.slen.symm
theorem frOf_len (s : List UInt8) : (frOf s).2.2.2.2.length ≤ 100 := by
  unfold frOf
  obtain ⟨nu, id, o, t, d, er, h⟩ : ∃ nu id o t d er, fgetF ((unhexF s).getD []) = (nu, id, o, t, d, er) := ⟨_, _, _, _, _, _, rfl⟩
  rw [h]
  dsimp only
  rcases fget_bad _ _ _ _ _ _ _ h with rfl | ⟨-, -, -, -, rfl, -⟩
  · have := (fget_may _ _ _ _ _ _ h).1.hl
    omega
  · simp
theorem mem_tail' {p : List UInt8} {l : List (List UInt8)} (h : p ∈ l.tail) : p ∈ l := List.mem_of_mem_tail h
theorem head_len {l : List (List UInt8)} {k : Nat} (h : ∀ p ∈ l, p.length ≤ k) : (l.headD []).length ≤ k := by
  cases l with
  | nil => simp
  | cons a r => exact h a (by simp)

theorem Rd.of_own' {w : World} {base e size : Nat} {A : Option Addr} {m c n : Nat} {xs : List Value} (h : w.ownsRow base e size (.slice A m c) n xs) : Rd w A n c size xs := by
  obtain ⟨A', c', h1, h2, -⟩ := Rd.of_own h
  simp only [Value.slice.injEq] at h1
  obtain ⟨rfl, -, rfl⟩ := h1
  exact h2
theorem parseGo_end {wl : List (List UInt8)} {fs : List Fr} {ls : List (Nat × Nat)} {cs : List Int} (h1 : wl.headD [] ≠ [102, 114, 97, 109, 101]) (h2 : wl.headD [] ≠ [108, 111, 115, 116]) (h3 : wl.headD [] ≠ [99, 111, 117, 110, 116]) : parseGo wl fs ls cs = (fs, ls, cs) := by
  cases wl with
  | nil => rw [parseGo]
  | cons a r =>
    rw [List.headD_cons] at h1 h2 h3
    rw [parseGo, if_neg h1, if_neg h2, if_neg h3]

set_option maxRecDepth 100000 in
set_option maxHeartbeats 8000000 in
theorem rparse_any (s : List UInt8) (w : World) (hN : s.length ≤ 100000) : Calls Try.prog 25 #[.string ⟨s.toArray⟩] w fun x w' => prsPost w s x w' := by
  have KT : ∀ W, Hid (Calls Try.prog 63 #[.string ⟨s.toArray⟩, .string ⟨#[10]⟩] W fun e w' => e = .returned (.string ⟨(Lib.trimSuffix s [10]).toArray⟩) ∧ W = w') := fun W => Lib.hid ((Try.strings_TrimSuffix ⟨s.toArray⟩ ⟨#[10]⟩ W (by show s.length ≤ _; omega)).mono (fun e w' h => ⟨h.1, h.2.symm⟩))
  have htl : (Lib.trimSuffix s [10]).length ≤ s.length := by
    unfold Lib.trimSuffix
    split
    · rw [List.length_take]; omega
    · exact Nat.le_refl _
  have KW := fun W => Lib.hid (words_any (Lib.trimSuffix s [10]) W (by omega))
  have hall : ∀ p ∈ prsW s, p.length ≤ 100000 := fun p hp => by
    have := (split2_free 32 9 true (Lib.trimSuffix s [10]) p hp).2.2
    omega
  have hlen : (prsW s).length ≤ 100001 := by
    have : (prsW s).length ≤ _ := split2_length 32 9 true (Lib.trimSuffix s [10])
    omega
  obtain ⟨R, hR⟩ : ∃ R, R = prs s := ⟨_, rfl⟩
  have HR0 : Hid (R = prs s) := hR
  have HR1 : R.e = valW ((prsW s).headD []) ∧ R.n = valW ((prsW s).tail.headD []) ∧ (R.fs, R.ls, R.cs) = parseGo (prsW s).tail.tail [] [] [] := by rw [hR]; exact ⟨rfl, rfl, rfl⟩
  clear hR
  change ∀ W, Hid (Calls _ _ _ W fun e w' => ∃ v, e = .returned v ∧ w'.ownsRow W.heap.size 9 1 v (prsW s).length (strs (prsW s)) ∧ Below W.heap.size W w') at KW
  generalize Lib.trimSuffix s [10] = tr at *
  generalize prsW s = ws at *
  have HR := Lib.hid HR1
  have HL := Lib.hid hall
  clear HR1 hall htl
  have hz := alloc_new w (.cells #[.int .i64 0, .int .u64 0, .slice none 0 0, .slice none 0 0, .slice none 0 0] 47 (0, 0))
  have hB := (one_cells w #[.int .i64 0, .int .u64 0, .slice none 0 0, .slice none 0 0, .slice none 0 0] 47).1
  go_enter Try.func25, Try.ntmps25
  go_wp2_with fail
  generalize w.alloc (.cells #[.int .i64 0, .int .u64 0, .slice none 0 0, .slice none 0 0, .slice none 0 0] 47) = w1 at *
  go_step3
  go_wp2_with fail
  refine (KT _).out.mono ?_
  rintro x w' ⟨rfl, rfl⟩
  go_wp2_with fail
  refine (KW _).out.mono ?_
  rintro x w2 ⟨v, rfl, ho, hb⟩
  have hzl := heap_lt hz
  have hbw : Below w1.heap.size w1 w2 := hb
  obtain ⟨A, c, rfl, hr, -⟩ := Rd.of_own ho
  have hAb : ∀ ad, A = some ad → ad.block < w2.heap.size := fun ad e => by
    rcases ho.2 with ⟨h1, -⟩ | ⟨k, cap, cur, h1, -, hk, -⟩
    · simp only [Value.slice.injEq] at h1
      rw [h1.1] at e; cases e
    · simp only [Value.slice.injEq] at h1
      rw [h1.1] at e; cases e; exact heap_lt hk
  replace hz := heap_below hb hz
  replace hB := below_trans hB hb
  have hs2 := hb.size
  clear hb hbw ho KW KT
  go_upto_region 2 with fail
  obtain ⟨bb, hc1, hc2⟩ := two_cells w2 #[.slice A ws.length c] #[.pointer (some ⟨w2.heap.size, 0, none⟩)] 104 101
  have hh1 := alloc_new w2 (.cells #[.slice A ws.length c] 104 (0, 0))
  have hh2 := alloc_new (w2.alloc (.cells #[.slice A ws.length c] 104)) (.cells #[.pointer (some ⟨w2.heap.size, 0, none⟩)] 101 (0, 0))
  rw [alloc_size] at hh2
  have hX : PS0 w w2.heap.size w2.heap.size (w2.heap.size + 1) w.heap.size zRp ws ((w2.alloc (.cells #[.slice A ws.length c] 104)).alloc (.cells #[.pointer (some ⟨w2.heap.size, 0, none⟩)] 101)) :=
    ⟨⟨A, ws.length, c, heap_below ((Below.refl _ _).alloc (Nat.le_refl _) _) hh1, hr.below bb, fun ad e => ⟨by have := hAb ad e; omega, hAb ad e⟩⟩, hh2, heap_below bb hz, below_trans hB bb⟩
  have hsz := heap_lt hh2
  clear bb hc1 hc2 hh1 hh2 hr hAb hz hB
  generalize (w2.alloc (.cells #[.slice A ws.length c] 104)).alloc (.cells #[.pointer (some ⟨w2.heap.size, 0, none⟩)] 101) = w3 at *
  obtain ⟨g, hgd⟩ : ∃ g, g = w2.heap.size := ⟨_, rfl⟩
  rw [← hgd] at hX hsz hs2 ⊢
  clear hgd
  have hg0 : w.heap.size < g := by omega
  clear hs2 hzl
  have HX := Lib.hid hX
  go_cut [5] (fun s5 wx => ∃ gr, s5 = .pointer (some ⟨gr, 0, none⟩) ∧ g + 1 < gr ∧ PSt w g (gr + 1) g (g + 1) gr w.heap.size zRp ws.tail.tail R.e R.n [] [] [] (.slice none 0 0) (.slice none 0 0) (.slice none 0 0) wx)
  case first =>
    have K1 := fun W (h : WRd W g g ws) => Lib.hid (rn_gb g g ws W h (head_len HL.out))
    have K2 := fun W (h : WRd W g g ws.tail) => Lib.hid (rn_gb g g ws.tail W h (head_len (fun p hp => HL.out p (mem_tail' hp))))
    rw [show (numF (ws.headD [])).toNat = R.e from HR.out.1.symm] at K1
    rw [show (numF (ws.tail.headD [])).toNat = R.n from HR.out.2.1.symm] at K2
    have hRe : R.e ≤ 1099511627776 := by rw [HR.out.1]; have := numF_bounds (ws.headD []); unfold farN at this; show (numF _).toNat ≤ _; omega
    have hwe : IntKind.i64.wrap (R.e : Int) = R.e := by rw [IntKind.wrap_i64]; omega
    have hne : some (g + 1) ≠ some g := by simp
    have hzi : Try.prog.info? 47 = Try.prog.info? 47 := rfl
    replace hX := hX.kept ((Below.refl _ _).drew)
    have hS0 : w3.drew.cell? ⟨g + 1, 0, none⟩ = some (.pointer (some ⟨g, 0, none⟩)) := cell_heap hX.hp
    have hsz2 : g + 1 < w3.drew.heap.size := heap_lt hX.hp
    clear HR HL HX HR0 hlen hsz
    generalize ws.tail = wt at *
    generalize R.e = Re at *
    generalize R.n = Rn at *
    refine wp_region_held (S := fun W => W.cell? ⟨g + 1, 0, none⟩ = some (.pointer (some ⟨g, 0, none⟩))) (by kernel_rfl) ?_
    change wpAnyH _ _ _ _ _ _ _ _ (w3).drew
    have hS : (fun W => W.cell? ⟨g + 1, 0, none⟩ = some (.pointer (some ⟨g, 0, none⟩))) (w3).drew := hS0
    generalize (w3).drew = wd at hS hX hsz2 ⊢
    refine wpAnyH_take (i := 0) (oi := { dst := some 14, op := Op.load 101 (Operand.tmp 4), type := 101, pos := "reply.go:113", after := #[], guard := none }) (v := ?_) rfl (by kernel_rfl) (by kernel_rfl) (by kernel_rfl) (fun _ _ _ h => h) (Or.inl ⟨by rfl, ?_⟩) (by assumption) ?_
    rotate_left
    · (intro wS hS; have q0 := hS; go_simp <;> with_reducible rfl)
    try simp only [Act.put, List.setIfInBounds_toArray, List.set_cons_zero, List.set_cons_succ]
    refine wpAnyH_take (i := 3) (oi := { dst := some 17, op := Op.load 101 (Operand.tmp 4), type := 101, pos := "reply.go:113", after := #[], guard := none }) (v := ?_) rfl (by kernel_rfl) (by kernel_rfl) (by kernel_rfl) (fun _ _ _ h => h) (Or.inl ⟨by rfl, ?_⟩) (by assumption) ?_
    rotate_left
    · (intro wS hS; have q0 := hS; go_simp <;> with_reducible rfl)
    try simp only [Act.put, List.setIfInBounds_toArray, List.set_cons_zero, List.set_cons_succ]
    refine wpAnyH_ready (rs := [1, 6]) (by kernel_rfl) (by simp) ?_
    refine AllReadyH.cons (o := { dst := some 15, op := Op.call { callee := Callee.value (Operand.func 64), args := #[Operand.tmp 14], argTypes := #[101] }, type := 22, pos := "reply.go:113", after := #[{ on := 0, ground := Ground.data }], guard := none }) rfl (fun K hK => ?_) (AllReadyH.cons (o := { dst := some 5, op := Op.alloc 47, type := 0, pos := "reply.go:113", after := #[], guard := none }) rfl (fun K hK => ?_) (AllReadyH.nil))
    · have q0 := hS
      go_simp
      refine (K1 _ hX.rd).out.mono ?_
      rintro e w101 ⟨rfl, hrd, hb⟩
      replace hS : (fun W => W.cell? ⟨g + 1, 0, none⟩ = some (.pointer (some ⟨g, 0, none⟩))) w101 := World.grownBy.cell hb hS hne
      replace hX := hX.gone (by omega) (by omega) (by omega) hb hrd
      replace hsz2 := Nat.lt_of_lt_of_le hsz2 (World.grownBy.size hb)
      clear hrd
      refine hK.out _ _ hS (fun _ => ?_)
      clear hK K hb
      try simp only [Act.put, List.setIfInBounds_toArray, List.set_cons_zero, List.set_cons_succ]
      refine wpAnyH_take (i := 2) (oi := { dst := some 16, op := Op.convert 22 25 (Operand.tmp 15), type := 25, pos := "reply.go:113", after := #[{ on := 1, ground := Ground.data }], guard := none }) (v := ?_) rfl (by kernel_rfl) (by kernel_rfl) (by kernel_rfl) (fun _ _ _ h => h) (Or.inl ⟨by rfl, ?_⟩) (by assumption) ?_
      rotate_left
      · (intro wS hS; go_simp <;> with_reducible rfl)
      try simp only [Act.put, List.setIfInBounds_toArray, List.set_cons_zero, List.set_cons_succ]
      refine wpAnyH_ready (rs := [4, 6]) (by kernel_rfl) (by simp) ?_
      refine AllReadyH.cons (o := { dst := some 18, op := Op.call { callee := Callee.value (Operand.func 64), args := #[Operand.tmp 17], argTypes := #[101] }, type := 22, pos := "reply.go:113", after := #[{ on := 3, ground := Ground.data }, { on := 1, ground := Ground.chain }], guard := none }) rfl (fun K hK => ?_) (AllReadyH.cons (o := { dst := some 5, op := Op.alloc 47, type := 0, pos := "reply.go:113", after := #[], guard := none }) rfl (fun K hK => ?_) (AllReadyH.nil))
      · have q0 := hS
        go_simp
        refine (K2 _ hX.rd).out.mono ?_
        rintro e w104 ⟨rfl, hrd, hb⟩
        replace hS : (fun W => W.cell? ⟨g + 1, 0, none⟩ = some (.pointer (some ⟨g, 0, none⟩))) w104 := World.grownBy.cell hb hS hne
        replace hX := hX.gone (by omega) (by omega) (by omega) hb hrd
        replace hsz2 := Nat.lt_of_lt_of_le hsz2 (World.grownBy.size hb)
        clear hrd
        refine hK.out _ _ hS (fun _ => ?_)
        clear hK K hb
        try simp only [Act.put, List.setIfInBounds_toArray, List.set_cons_zero, List.set_cons_succ]
        refine wpAnyH_take (i := 5) (oi := { dst := some 19, op := Op.build 47 #[(0, Operand.tmp 16), (1, Operand.tmp 18)], type := 47, pos := "reply.go:113", after := #[{ on := 2, ground := Ground.data }, { on := 4, ground := Ground.data }], guard := none }) (v := ?_) rfl (by kernel_rfl) (by kernel_rfl) (by kernel_rfl) (fun _ _ _ h => h) (Or.inl ⟨by rfl, ?_⟩) (by assumption) ?_
        rotate_left
        · (intro wS hS; go_simp <;> with_reducible rfl)
        try simp only [Act.put, List.setIfInBounds_toArray, List.set_cons_zero, List.set_cons_succ]
        refine wpAnyH_ready (rs := [6]) (by kernel_rfl) (by simp) ?_
        refine AllReadyH.cons (o := { dst := some 5, op := Op.alloc 47, type := 0, pos := "reply.go:113", after := #[], guard := none }) rfl (fun K hK => ?_) (AllReadyH.nil)
        go_simp
        have hbA := (one_cells w104 #[.int .i64 0, .int .u64 0, .slice none 0 0, .slice none 0 0, .slice none 0 0] 47).1
        have hhA := alloc_new w104 (.cells #[.int .i64 0, .int .u64 0, .slice none 0 0, .slice none 0 0, .slice none 0 0] 47 (0, 0))
        replace hX := hX.kept hbA
        replace hS := cell_below hbA hS
        refine hK.out _ _ hS (fun _ => ?_)
        clear hK K hbA
        try simp only [Act.put, List.setIfInBounds_toArray, List.set_cons_zero, List.set_cons_succ]
        generalize hgB2 : World.heap w104 = hpB at *
        generalize World.alloc w104 (.cells #[.int .i64 0, .int .u64 0, .slice none 0 0, .slice none 0 0, .slice none 0 0] 47) = wA at *
        clear hgB2
        refine wpAnyH_ready (rs := [7]) (by kernel_rfl) (by simp) ?_
        refine AllReadyH.cons (o := { dst := none, op := Op.store 47 (Operand.tmp 5) (Operand.tmp 19), type := 0, pos := "reply.go:113", after := #[{ on := 6, ground := Ground.data }, { on := 5, ground := Ground.data }, { on := 4, ground := Ground.chain }, { on := 0, ground := Ground.phase }, { on := 1, ground := Ground.phase }, { on := 2, ground := Ground.phase }, { on := 3, ground := Ground.phase }, { on := 4, ground := Ground.phase }, { on := 5, ground := Ground.phase }, { on := 6, ground := Ground.phase }], guard := none }) rfl (fun K hK => ?_) (AllReadyH.nil)
        obtain ⟨⟨y0, y1, y2, y3, y4⟩, k0, k1, k2, k3, k4⟩ := five_cells hhA
        have hh5 := five_heap hhA (.int .i64 (Re : Int)) (.int .u64 (Rn : Int)) (.slice none 0 0) (.slice none 0 0) (.slice none 0 0)
        have hG5 := five_gb wA hpB.size (.int .i64 (Re : Int)) (.int .u64 (Rn : Int)) (.slice none 0 0) (.slice none 0 0) (.slice none 0 0)
        have hp5 := gb_heap hG5 hX.hp (by simp; omega)
        go_simp
        refine hK.out _ _ (cell_heap hp5) (fun _ => ?_)
        clear hK K
        try simp only [Act.put, List.setIfInBounds_toArray, List.set_cons_zero, List.set_cons_succ]
        refine wpAnyH_done (by kernel_rfl) ?_ _
        go_wp2_with fail
        go_meet
        exact ⟨hpB.size, rfl, hsz2, hX.rd.grown (B := hpB.size) hG5 (fun k hk => by simp; omega) (by omega) (Nat.le_refl _), hp5, hh5, gb_heap hG5 hX.hz (by simp; omega), World.ownsRow_nil _ _ _ _, World.ownsRow_nil _ _ _ _, World.ownsRow_nil _ _ _ _, heap_lt hh5, below_gbw hG5 hX.bel (by omega)⟩
      · go_simp
        have hbA := (one_cells w101 #[.int .i64 0, .int .u64 0, .slice none 0 0, .slice none 0 0, .slice none 0 0] 47).1
        have hhA := alloc_new w101 (.cells #[.int .i64 0, .int .u64 0, .slice none 0 0, .slice none 0 0, .slice none 0 0] 47 (0, 0))
        replace hX := hX.kept hbA
        replace hS := cell_below hbA hS
        refine hK.out _ _ hS (fun _ => ?_)
        clear hK K hbA
        try simp only [Act.put, List.setIfInBounds_toArray, List.set_cons_zero, List.set_cons_succ]
        generalize hgB2 : World.heap w101 = hpB at *
        generalize World.alloc w101 (.cells #[.int .i64 0, .int .u64 0, .slice none 0 0, .slice none 0 0, .slice none 0 0] 47) = wA at *
        clear hgB2
        refine wpAnyH_ready (rs := [4]) (by kernel_rfl) (by simp) ?_
        refine AllReadyH.cons (o := { dst := some 18, op := Op.call { callee := Callee.value (Operand.func 64), args := #[Operand.tmp 17], argTypes := #[101] }, type := 22, pos := "reply.go:113", after := #[{ on := 3, ground := Ground.data }, { on := 1, ground := Ground.chain }], guard := none }) rfl (fun K hK => ?_) (AllReadyH.nil)
        have q0 := hS
        go_simp
        refine (K2 _ hX.rd).out.mono ?_
        rintro e w104 ⟨rfl, hrd, hb⟩
        replace hS : (fun W => W.cell? ⟨g + 1, 0, none⟩ = some (.pointer (some ⟨g, 0, none⟩))) w104 := World.grownBy.cell hb hS hne
        replace hX := hX.gone (by omega) (by omega) (by omega) hb hrd
        replace hhA := gb_heap hb hhA (by simp; omega)
        clear hrd
        refine hK.out _ _ hS (fun _ => ?_)
        clear hK K hb
        try simp only [Act.put, List.setIfInBounds_toArray, List.set_cons_zero, List.set_cons_succ]
        refine wpAnyH_take (i := 5) (oi := { dst := some 19, op := Op.build 47 #[(0, Operand.tmp 16), (1, Operand.tmp 18)], type := 47, pos := "reply.go:113", after := #[{ on := 2, ground := Ground.data }, { on := 4, ground := Ground.data }], guard := none }) (v := ?_) rfl (by kernel_rfl) (by kernel_rfl) (by kernel_rfl) (fun _ _ _ h => h) (Or.inl ⟨by rfl, ?_⟩) (by assumption) ?_
        rotate_left
        · (intro wS hS; go_simp <;> with_reducible rfl)
        try simp only [Act.put, List.setIfInBounds_toArray, List.set_cons_zero, List.set_cons_succ]
        refine wpAnyH_ready (rs := [7]) (by kernel_rfl) (by simp) ?_
        refine AllReadyH.cons (o := { dst := none, op := Op.store 47 (Operand.tmp 5) (Operand.tmp 19), type := 0, pos := "reply.go:113", after := #[{ on := 6, ground := Ground.data }, { on := 5, ground := Ground.data }, { on := 4, ground := Ground.chain }, { on := 0, ground := Ground.phase }, { on := 1, ground := Ground.phase }, { on := 2, ground := Ground.phase }, { on := 3, ground := Ground.phase }, { on := 4, ground := Ground.phase }, { on := 5, ground := Ground.phase }, { on := 6, ground := Ground.phase }], guard := none }) rfl (fun K hK => ?_) (AllReadyH.nil)
        obtain ⟨⟨y0, y1, y2, y3, y4⟩, k0, k1, k2, k3, k4⟩ := five_cells hhA
        have hh5 := five_heap hhA (.int .i64 (Re : Int)) (.int .u64 (Rn : Int)) (.slice none 0 0) (.slice none 0 0) (.slice none 0 0)
        have hG5 := five_gb w104 hpB.size (.int .i64 (Re : Int)) (.int .u64 (Rn : Int)) (.slice none 0 0) (.slice none 0 0) (.slice none 0 0)
        have hp5 := gb_heap hG5 hX.hp (by simp; omega)
        go_simp
        refine hK.out _ _ (cell_heap hp5) (fun _ => ?_)
        clear hK K
        try simp only [Act.put, List.setIfInBounds_toArray, List.set_cons_zero, List.set_cons_succ]
        refine wpAnyH_done (by kernel_rfl) ?_ _
        go_wp2_with fail
        go_meet
        exact ⟨hpB.size, rfl, hsz2, hX.rd.grown (B := hpB.size) hG5 (fun k hk => by simp; omega) (by omega) (Nat.le_refl _), hp5, hh5, gb_heap hG5 hX.hz (by simp; omega), World.ownsRow_nil _ _ _ _, World.ownsRow_nil _ _ _ _, World.ownsRow_nil _ _ _ _, heap_lt hh5, below_gbw hG5 hX.bel (by omega)⟩
    · go_simp
      have hbA := (one_cells wd #[.int .i64 0, .int .u64 0, .slice none 0 0, .slice none 0 0, .slice none 0 0] 47).1
      have hhA := alloc_new wd (.cells #[.int .i64 0, .int .u64 0, .slice none 0 0, .slice none 0 0, .slice none 0 0] 47 (0, 0))
      replace hX := hX.kept hbA
      replace hS := cell_below hbA hS
      refine hK.out _ _ hS (fun _ => ?_)
      clear hK K hbA
      try simp only [Act.put, List.setIfInBounds_toArray, List.set_cons_zero, List.set_cons_succ]
      generalize hgB2 : World.heap wd = hpB at *
      generalize World.alloc wd (.cells #[.int .i64 0, .int .u64 0, .slice none 0 0, .slice none 0 0, .slice none 0 0] 47) = wA at *
      clear hgB2
      refine wpAnyH_ready (rs := [1]) (by kernel_rfl) (by simp) ?_
      refine AllReadyH.cons (o := { dst := some 15, op := Op.call { callee := Callee.value (Operand.func 64), args := #[Operand.tmp 14], argTypes := #[101] }, type := 22, pos := "reply.go:113", after := #[{ on := 0, ground := Ground.data }], guard := none }) rfl (fun K hK => ?_) (AllReadyH.nil)
      have q0 := hS
      go_simp
      refine (K1 _ hX.rd).out.mono ?_
      rintro e w101 ⟨rfl, hrd, hb⟩
      replace hS : (fun W => W.cell? ⟨g + 1, 0, none⟩ = some (.pointer (some ⟨g, 0, none⟩))) w101 := World.grownBy.cell hb hS hne
      replace hX := hX.gone (by omega) (by omega) (by omega) hb hrd
      replace hhA := gb_heap hb hhA (by simp; omega)
      clear hrd
      refine hK.out _ _ hS (fun _ => ?_)
      clear hK K hb
      try simp only [Act.put, List.setIfInBounds_toArray, List.set_cons_zero, List.set_cons_succ]
      refine wpAnyH_take (i := 2) (oi := { dst := some 16, op := Op.convert 22 25 (Operand.tmp 15), type := 25, pos := "reply.go:113", after := #[{ on := 1, ground := Ground.data }], guard := none }) (v := ?_) rfl (by kernel_rfl) (by kernel_rfl) (by kernel_rfl) (fun _ _ _ h => h) (Or.inl ⟨by rfl, ?_⟩) (by assumption) ?_
      rotate_left
      · (intro wS hS; go_simp <;> with_reducible rfl)
      try simp only [Act.put, List.setIfInBounds_toArray, List.set_cons_zero, List.set_cons_succ]
      refine wpAnyH_ready (rs := [4]) (by kernel_rfl) (by simp) ?_
      refine AllReadyH.cons (o := { dst := some 18, op := Op.call { callee := Callee.value (Operand.func 64), args := #[Operand.tmp 17], argTypes := #[101] }, type := 22, pos := "reply.go:113", after := #[{ on := 3, ground := Ground.data }, { on := 1, ground := Ground.chain }], guard := none }) rfl (fun K hK => ?_) (AllReadyH.nil)
      have q0 := hS
      go_simp
      refine (K2 _ hX.rd).out.mono ?_
      rintro e w104 ⟨rfl, hrd, hb⟩
      replace hS : (fun W => W.cell? ⟨g + 1, 0, none⟩ = some (.pointer (some ⟨g, 0, none⟩))) w104 := World.grownBy.cell hb hS hne
      replace hX := hX.gone (by omega) (by omega) (by omega) hb hrd
      replace hhA := gb_heap hb hhA (by simp; omega)
      clear hrd
      refine hK.out _ _ hS (fun _ => ?_)
      clear hK K hb
      try simp only [Act.put, List.setIfInBounds_toArray, List.set_cons_zero, List.set_cons_succ]
      refine wpAnyH_take (i := 5) (oi := { dst := some 19, op := Op.build 47 #[(0, Operand.tmp 16), (1, Operand.tmp 18)], type := 47, pos := "reply.go:113", after := #[{ on := 2, ground := Ground.data }, { on := 4, ground := Ground.data }], guard := none }) (v := ?_) rfl (by kernel_rfl) (by kernel_rfl) (by kernel_rfl) (fun _ _ _ h => h) (Or.inl ⟨by rfl, ?_⟩) (by assumption) ?_
      rotate_left
      · (intro wS hS; go_simp <;> with_reducible rfl)
      try simp only [Act.put, List.setIfInBounds_toArray, List.set_cons_zero, List.set_cons_succ]
      refine wpAnyH_ready (rs := [7]) (by kernel_rfl) (by simp) ?_
      refine AllReadyH.cons (o := { dst := none, op := Op.store 47 (Operand.tmp 5) (Operand.tmp 19), type := 0, pos := "reply.go:113", after := #[{ on := 6, ground := Ground.data }, { on := 5, ground := Ground.data }, { on := 4, ground := Ground.chain }, { on := 0, ground := Ground.phase }, { on := 1, ground := Ground.phase }, { on := 2, ground := Ground.phase }, { on := 3, ground := Ground.phase }, { on := 4, ground := Ground.phase }, { on := 5, ground := Ground.phase }, { on := 6, ground := Ground.phase }], guard := none }) rfl (fun K hK => ?_) (AllReadyH.nil)
      obtain ⟨⟨y0, y1, y2, y3, y4⟩, k0, k1, k2, k3, k4⟩ := five_cells hhA
      have hh5 := five_heap hhA (.int .i64 (Re : Int)) (.int .u64 (Rn : Int)) (.slice none 0 0) (.slice none 0 0) (.slice none 0 0)
      have hG5 := five_gb w104 hpB.size (.int .i64 (Re : Int)) (.int .u64 (Rn : Int)) (.slice none 0 0) (.slice none 0 0) (.slice none 0 0)
      have hp5 := gb_heap hG5 hX.hp (by simp; omega)
      go_simp
      refine hK.out _ _ (cell_heap hp5) (fun _ => ?_)
      clear hK K
      try simp only [Act.put, List.setIfInBounds_toArray, List.set_cons_zero, List.set_cons_succ]
      refine wpAnyH_done (by kernel_rfl) ?_ _
      go_wp2_with fail
      go_meet
      exact ⟨hpB.size, rfl, hsz2, hX.rd.grown (B := hpB.size) hG5 (fun k hk => by simp; omega) (by omega) (Nat.le_refl _), hp5, hh5, gb_heap hG5 hX.hz (by simp; omega), World.ownsRow_nil _ _ _ _, World.ownsRow_nil _ _ _ _, World.ownsRow_nil _ _ _ _, heap_lt hh5, below_gbw hG5 hX.bel (by omega)⟩
  case rest =>
    obtain ⟨gr, rfl, hgr, hst0⟩ := hcut
    clear hX HX hsz
    have hP : Pl g (gr + 1) g (g + 1) gr w.heap.size := ⟨Nat.le_refl _, by omega, by omega, by omega, by omega, by omega, by omega, by omega, by omega, by omega, by omega, by omega, by omega⟩
    have HG := Lib.hid HR.out.2.2
    have HL2 : Hid (∀ p ∈ ws.tail.tail, p.length ≤ 100000) := fun p hp => HL.out p (mem_tail' (mem_tail' hp))
    have hlen2 : ws.tail.tail.length ≤ 100001 := by rw [List.length_tail, List.length_tail]; omega
    clear HL hlen
    generalize ws.tail.tail = wt at *
    go_wp2_with fail
    go_step3
    go_wp2_with fail
    go_loopw [23] (fun _ wr => ∃ (wl : List (List UInt8)) (fs : List Fr) (ls : List (Nat × Nat)) (cs : List Int) (vf vl vc : Value), PSt w g (gr + 1) g (g + 1) gr w.heap.size zRp wl R.e R.n fs ls cs vf vl vc wr ∧ Hid ((R.fs, R.ls, R.cs) = parseGo wl fs ls cs) ∧ Hid (∀ p ∈ wl, p.length ≤ 100000) ∧ fs.length + ls.length + cs.length + wl.length ≤ 100001 ∧ Hid (∀ f ∈ fs, f.2.2.2.2.length ≤ 100)) (fun _ wr => rdLen wr g)
    case atStart => exact ⟨wt, [], [], [], _, _, _, hst0, HG, HL2, by simpa using hlen2, Lib.hid (by simp)⟩
    case round =>
      clear hst0 HG HL2 hlen2
      obtain ⟨wl, fs, ls, cs, vf, vl, vc, hst, HG, HL, hsum, HF⟩ := hrel
      have KN := Lib.hid (rnext_any g g wl wr hst.rd)
      have c0 : wr.cell? ⟨g + 1, 0, none⟩ = some (.pointer (some ⟨g, 0, none⟩)) := cell_heap hst.hp
      have HM : Hid (rdLen wr g = wl.length) := rdLen_of hst.rd
      have HLt : Hid (∀ p ∈ wl.tail, p.length ≤ 100000) := fun p hp => HL.out p (mem_tail' hp)
      have hwt : w.heap.size ≤ g := by omega
      have hwr : w.heap.size ≤ gr := by omega
      have hwB : w.heap.size ≤ gr + 1 := by omega
      go_wp2_with fail
      refine KN.out.mono ?_
      rintro x w4 ⟨rfl, hrd, hg4⟩
      replace hst := hst.gone hP hwt hg4 hrd
      clear hrd hg4 KN c0
      by_cases h1 : wl.headD [] = [102, 114, 97, 109, 101]
      · obtain ⟨r, rfl⟩ : ∃ r, wl = [102, 114, 97, 109, 101] :: r := by
          cases wl with
          | nil => cases h1
          | cons a r => exact ⟨r, by rw [List.headD_cons] at h1; rw [h1]⟩
        clear h1
        rw [List.headD_cons]
        rw [List.tail_cons] at hst HLt
        have HG2 : Hid ((R.fs, R.ls, R.cs) = parseGo r.tail (fs ++ [frOf (r.headD [])]) ls cs) := by show _ = _; rw [HG.out, parseGo, if_pos rfl]
        have HF2 : Hid (∀ f ∈ fs ++ [frOf (r.headD [])], f.2.2.2.2.length ≤ 100) := fun f hf => by
          rcases List.mem_append.1 hf with hf | hf
          · exact HF.out f hf
          · rw [List.mem_singleton] at hf; subst hf; exact frOf_len _
        have HL3 : Hid (∀ p ∈ r.tail, p.length ≤ 100000) := fun p hp => HLt.out p (mem_tail' hp)
        rw [List.length_cons] at HM hsum
        have KO := fun W h => Lib.hid (one_any w g (gr + 1) g (g + 1) gr w.heap.size zRp r R.e R.n fs ls cs vf vl vc W h hP hwB hwr hwt (head_len HLt.out) (by omega))
        have hsum2 : (fs ++ [frOf (r.headD [])]).length + ls.length + cs.length + r.tail.length ≤ 100001 := by rw [List.length_append, List.length_tail, List.length_singleton]; omega
        have hrt : r.tail.length < r.length + 1 := by rw [List.length_tail]; omega
        clear HG HF HL HLt hsum
        generalize fs ++ [frOf (r.headD [])] = fs2 at *
        generalize r.tail = rt at *
        go_wp2_with fail
        refine (KO _ hst).out.mono ?_
        rintro x w5 ⟨rfl, vf2, hst5⟩
        clear KO hst
        go_wp2_with fail
        go_roundw
        case rel => exact ⟨rt, fs2, ls, cs, vf2, vl, vc, hst5, HG2, HL3, hsum2, HF2⟩
        case measure => rw [HM.out, rdLen_of hst5.rd]; exact hrt
      by_cases h2 : wl.headD [] = [108, 111, 115, 116]
      · obtain ⟨r, rfl⟩ : ∃ r, wl = [108, 111, 115, 116] :: r := by
          cases wl with
          | nil => cases h2
          | cons a r => exact ⟨r, by rw [List.headD_cons] at h2; rw [h2]⟩
        clear h1 h2
        rw [List.headD_cons]
        rw [List.tail_cons] at hst HLt
        have HG2 : Hid ((R.fs, R.ls, R.cs) = parseGo r.tail.tail fs (ls ++ [(valW (r.headD []), valW (r.tail.headD []))]) cs) := by show _ = _; rw [HG.out, parseGo, if_neg (by decide), if_pos rfl]
        have HL3 : Hid (∀ p ∈ r.tail.tail, p.length ≤ 100000) := fun p hp => HLt.out p (mem_tail' (mem_tail' hp))
        rw [List.length_cons] at HM hsum
        have K1 := fun W (h : WRd W g g r) => Lib.hid (rn_gb g g r W h (head_len HLt.out))
        have K2 := fun W (h : WRd W g g r.tail) => Lib.hid (rn_gb g g r.tail W h (head_len (fun p hp => HLt.out p (mem_tail' hp))))
        have hsum2 : fs.length + (ls ++ [(valW (r.headD []), valW (r.tail.headD []))]).length + cs.length + r.tail.tail.length ≤ 100001 := by rw [List.length_append, List.length_tail, List.length_tail, List.length_singleton]; omega
        have hrt : r.tail.tail.length < r.length + 1 := by rw [List.length_tail, List.length_tail]; omega
        have hlN : ls.length ≤ 100001 := by omega
        clear HG HL HLt hsum
        have e1 : (numF (r.headD [])).toNat = valW (r.headD []) := rfl
        have e2 : (numF (r.tail.headD [])).toNat = valW (r.tail.headD []) := rfl
        rw [e1] at K1
        rw [e2] at K2
        clear e1 e2
        generalize valW (r.headD []) = x at *
        generalize valW (r.tail.headD []) = y at *
        obtain ⟨ii, hii, hi0, hi1, hi2⟩ := info_parts info_pair
        have hne : some (g + 1) ≠ some g := by simp
        replace hst := hst.kept ((Below.refl _ _).drew)
        have hS0 : w4.drew.cell? ⟨g + 1, 0, none⟩ = some (.pointer (some ⟨g, 0, none⟩)) := cell_heap hst.hp
        go_upto_region 8 with fail
        refine wp_region_held (S := fun W => W.cell? ⟨g + 1, 0, none⟩ = some (.pointer (some ⟨g, 0, none⟩))) (by kernel_rfl) ?_
        change wpAnyH _ _ _ _ _ _ _ _ (w4).drew
        have hS : (fun W => W.cell? ⟨g + 1, 0, none⟩ = some (.pointer (some ⟨g, 0, none⟩))) (w4).drew := hS0
        generalize (w4).drew = wd at hS hst ⊢
        refine wpAnyH_take (i := 0) (oi := { dst := some 29, op := Op.fieldAddr 47 (Operand.tmp 5) 3, type := 0, pos := "reply.go:125", after := #[], guard := none }) (v := ?_) rfl (by kernel_rfl) (by kernel_rfl) (by kernel_rfl) (fun _ _ _ h => h) (Or.inl ⟨by rfl, ?_⟩) (by assumption) ?_
        rotate_left
        · (intro wS hS; go_simp <;> with_reducible rfl)
        try simp only [Act.put, List.setIfInBounds_toArray, List.set_cons_zero, List.set_cons_succ]
        refine wpAnyH_take (i := 2) (oi := { dst := some 31, op := Op.load 101 (Operand.tmp 4), type := 101, pos := "reply.go:125", after := #[], guard := none }) (v := ?_) rfl (by kernel_rfl) (by kernel_rfl) (by kernel_rfl) (fun _ _ _ h => h) (Or.inl ⟨by rfl, ?_⟩) (by assumption) ?_
        rotate_left
        · (intro wS hS; have q0 := hS; go_simp <;> with_reducible rfl)
        try simp only [Act.put, List.setIfInBounds_toArray, List.set_cons_zero, List.set_cons_succ]
        refine wpAnyH_take (i := 4) (oi := { dst := some 33, op := Op.load 101 (Operand.tmp 4), type := 101, pos := "reply.go:125", after := #[], guard := none }) (v := ?_) rfl (by kernel_rfl) (by kernel_rfl) (by kernel_rfl) (fun _ _ _ h => h) (Or.inl ⟨by rfl, ?_⟩) (by assumption) ?_
        rotate_left
        · (intro wS hS; have q0 := hS; go_simp <;> with_reducible rfl)
        try simp only [Act.put, List.setIfInBounds_toArray, List.set_cons_zero, List.set_cons_succ]
        refine wpAnyH_ready (rs := [1, 3]) (by kernel_rfl) (by simp) ?_
        refine AllReadyH.cons (o := { dst := some 30, op := Op.load 44 (Operand.tmp 29), type := 44, pos := "reply.go:125", after := #[{ on := 0, ground := Ground.data }], guard := none }) rfl (fun K hK => ?_) (AllReadyH.cons (o := { dst := some 32, op := Op.call { callee := Callee.value (Operand.func 64), args := #[Operand.tmp 31], argTypes := #[101] }, type := 22, pos := "reply.go:125", after := #[{ on := 2, ground := Ground.data }], guard := none }) rfl (fun K hK => ?_) (AllReadyH.nil))
        · have k3 := cell_heap (o := 3) hst.hr
          go_simp
          refine hK.out _ _ hS (fun _ => ?_)
          clear hK K k3
          try simp only [Act.put, List.setIfInBounds_toArray, List.set_cons_zero, List.set_cons_succ]
          refine wpAnyH_ready (rs := [3]) (by kernel_rfl) (by simp) ?_
          refine AllReadyH.cons (o := { dst := some 32, op := Op.call { callee := Callee.value (Operand.func 64), args := #[Operand.tmp 31], argTypes := #[101] }, type := 22, pos := "reply.go:125", after := #[{ on := 2, ground := Ground.data }], guard := none }) rfl (fun K hK => ?_) (AllReadyH.nil)
          have q0 := hS
          go_simp
          refine (K1 _ hst.rd).out.mono ?_
          rintro e w103 ⟨rfl, hrd, hb⟩
          replace hS : (fun W => W.cell? ⟨g + 1, 0, none⟩ = some (.pointer (some ⟨g, 0, none⟩))) w103 := World.grownBy.cell hb hS hne
          replace hst := hst.gone hP hwt hb hrd
          clear hrd
          refine hK.out _ _ hS (fun _ => ?_)
          clear hK K hb
          try simp only [Act.put, List.setIfInBounds_toArray, List.set_cons_zero, List.set_cons_succ]
          refine wpAnyH_ready (rs := [5]) (by kernel_rfl) (by simp) ?_
          refine AllReadyH.cons (o := { dst := some 34, op := Op.call { callee := Callee.value (Operand.func 64), args := #[Operand.tmp 33], argTypes := #[101] }, type := 22, pos := "reply.go:125", after := #[{ on := 4, ground := Ground.data }, { on := 3, ground := Ground.chain }], guard := none }) rfl (fun K hK => ?_) (AllReadyH.nil)
          have q0 := hS
          go_simp
          refine (K2 _ hst.rd).out.mono ?_
          rintro e w105 ⟨rfl, hrd, hb⟩
          replace hS : (fun W => W.cell? ⟨g + 1, 0, none⟩ = some (.pointer (some ⟨g, 0, none⟩))) w105 := World.grownBy.cell hb hS hne
          replace hst := hst.gone hP hwt hb hrd
          clear hrd
          refine hK.out _ _ hS (fun _ => ?_)
          clear hK K hb
          try simp only [Act.put, List.setIfInBounds_toArray, List.set_cons_zero, List.set_cons_succ]
          refine wpAnyH_take (i := 6) (oi := { dst := some 35, op := Op.build 109 #[(0, Operand.tmp 32), (1, Operand.tmp 34)], type := 109, pos := "reply.go:125", after := #[{ on := 3, ground := Ground.data }, { on := 5, ground := Ground.data }], guard := none }) (v := ?_) rfl (by kernel_rfl) (by kernel_rfl) (by kernel_rfl) (fun _ _ _ h => h) (Or.inl ⟨by rfl, ?_⟩) (by assumption) ?_
          rotate_left
          · (intro wS hS; go_simp <;> with_reducible rfl)
          try simp only [Act.put, List.setIfInBounds_toArray, List.set_cons_zero, List.set_cons_succ]
          refine wpAnyH_ready (rs := [7]) (by kernel_rfl) (by simp) ?_
          refine AllReadyH.cons (o := { dst := some 36, op := Op.buildSlice 44 1 #[(0, Operand.tmp 35)], type := 44, pos := "reply.go:125", after := #[{ on := 6, ground := Ground.data }], guard := none }) rfl (fun K hK => ?_) (AllReadyH.nil)
          go_simp
          have hbA := (one_cells w105 #[.int .u64 (x : Int), .int .u64 (y : Int)] 109).1
          have hnb := World.news_of_block (alloc_new w105 (.cells #[.int .u64 (x : Int), .int .u64 (y : Int)] 109 (0, 0)))
          replace hst := hst.kept hbA
          replace hS := cell_below hbA hS
          refine hK.out _ _ hS (fun _ => ?_)
          clear hK K hbA
          try simp only [Act.put, List.setIfInBounds_toArray, List.set_cons_zero, List.set_cons_succ]
          generalize hgB2 : World.heap w105 = hpB at *
          generalize World.alloc w105 (.cells #[.int .u64 (x : Int), .int .u64 (y : Int)] 109) = wA at *
          clear hgB2
          refine wpAnyH_ready (rs := [8]) (by kernel_rfl) (by simp) ?_
          refine AllReadyH.cons (o := { dst := some 37, op := Op.call { callee := Callee.builtin Builtin.append, args := #[Operand.tmp 30, Operand.tmp 36], argTypes := #[44, 44] }, type := 44, pos := "reply.go:125", after := #[{ on := 1, ground := Ground.data }, { on := 7, ground := Ground.data }, { on := 5, ground := Ground.chain }], guard := none }) rfl (fun K hK => ?_) (AllReadyH.nil)
          refine step_append_lies _ rfl (.tmp 30) (.tmp 36) 44 rfl (gr + 1) 109 ii (.agg #[.int .u64 0, .int .u64 0]) 2 16 Try.underlying44 hii hi0 hi1 hi2 rfl (by decide) _ ls.length _ rfl hst.ol ⟨hpB.size, 0, none⟩ 1 1 [.int .u64 (x : Int), .int .u64 (y : Int)] rfl rfl hnb (by simp [Value.oneCell']) (by decide) (by unfold maxLen; omega) (by omega) hst.sz _ rfl ?_
          intro gX capX wR8 ho' hg' hor hltX
          refine hK.out _ _ (World.grownBy.cell hg' hS (own_ne' hst.ol hP.h2)) (fun _ => ?_)
          clear hK K
          try simp only [Act.put, List.setIfInBounds_toArray, List.set_cons_zero, List.set_cons_succ]
          refine wpAnyH_take (i := 9) (oi := { dst := some 38, op := Op.fieldAddr 47 (Operand.tmp 5) 3, type := 0, pos := "reply.go:125", after := #[{ on := 0, ground := Ground.phase }, { on := 1, ground := Ground.phase }, { on := 2, ground := Ground.phase }, { on := 3, ground := Ground.phase }, { on := 4, ground := Ground.phase }, { on := 5, ground := Ground.phase }, { on := 6, ground := Ground.phase }, { on := 7, ground := Ground.phase }, { on := 8, ground := Ground.phase }], guard := none }) (v := ?_) rfl (by kernel_rfl) (by kernel_rfl) (by kernel_rfl) (fun _ _ _ h => h) (Or.inl ⟨by rfl, ?_⟩) (by assumption) ?_
          rotate_left
          · (intro wS hS; go_simp <;> with_reducible rfl)
          try simp only [Act.put, List.setIfInBounds_toArray, List.set_cons_zero, List.set_cons_succ]
          refine wpAnyH_ready (rs := [10]) (by kernel_rfl) (by simp) ?_
          refine AllReadyH.cons (o := { dst := none, op := Op.store 44 (Operand.tmp 38) (Operand.tmp 37), type := 0, pos := "reply.go:125", after := #[{ on := 9, ground := Ground.data }, { on := 8, ground := Ground.data }, { on := 8, ground := Ground.chain }, { on := 0, ground := Ground.phase }, { on := 1, ground := Ground.phase }, { on := 2, ground := Ground.phase }, { on := 3, ground := Ground.phase }, { on := 4, ground := Ground.phase }, { on := 5, ground := Ground.phase }, { on := 6, ground := Ground.phase }, { on := 7, ground := Ground.phase }, { on := 8, ground := Ground.phase }], guard := none }) rfl (fun K hK => ?_) (AllReadyH.nil)
          have hr8 := gb_heap hg' hst.hr (own_ne' hst.ol hP.h3)
          have fz := frozen_heap (o := 3) hr8
          have fy : wR8.cell? ⟨gr, 3, none⟩ = some vl := cell_heap hr8
          have hst2 := hst.put (ls' := ls ++ [(x, y)]) hP hwB hwr hg' (fun k hk => own_ne' hst.ol hk) (fun k hk => (hst.ol.lt k hk).1) 3 (.slice (some ⟨gX, 0, none⟩) (ls.length + 1) capX) rfl (hst.of.kept hg' (own_other hst.ol hst.of (by decide))) (by rw [List.length_append, prCs_append]; exact ho') (hst.oc.kept hg' (own_other hst.ol hst.oc (by decide)))
          go_simp
          refine hK.out _ _ (cell_heap hst2.hp) (fun _ => ?_)
          clear hK K
          try simp only [Act.put, List.setIfInBounds_toArray, List.set_cons_zero, List.set_cons_succ]
          refine wpAnyH_done (by kernel_rfl) ?_ _
          go_wp2_with fail
          go_roundw
          case rel => exact ⟨r.tail.tail, fs, ls ++ [(x, y)], cs, vf, _, vc, hst2, HG2, HL3, hsum2, HF⟩
          case measure => rw [HM.out, rdLen_of hst2.rd]; exact hrt
        · have q0 := hS
          go_simp
          refine (K1 _ hst.rd).out.mono ?_
          rintro e w103 ⟨rfl, hrd, hb⟩
          replace hS : (fun W => W.cell? ⟨g + 1, 0, none⟩ = some (.pointer (some ⟨g, 0, none⟩))) w103 := World.grownBy.cell hb hS hne
          replace hst := hst.gone hP hwt hb hrd
          clear hrd
          refine hK.out _ _ hS (fun _ => ?_)
          clear hK K hb
          try simp only [Act.put, List.setIfInBounds_toArray, List.set_cons_zero, List.set_cons_succ]
          refine wpAnyH_ready (rs := [1, 5]) (by kernel_rfl) (by simp) ?_
          refine AllReadyH.cons (o := { dst := some 30, op := Op.load 44 (Operand.tmp 29), type := 44, pos := "reply.go:125", after := #[{ on := 0, ground := Ground.data }], guard := none }) rfl (fun K hK => ?_) (AllReadyH.cons (o := { dst := some 34, op := Op.call { callee := Callee.value (Operand.func 64), args := #[Operand.tmp 33], argTypes := #[101] }, type := 22, pos := "reply.go:125", after := #[{ on := 4, ground := Ground.data }, { on := 3, ground := Ground.chain }], guard := none }) rfl (fun K hK => ?_) (AllReadyH.nil))
          · have k3 := cell_heap (o := 3) hst.hr
            go_simp
            refine hK.out _ _ hS (fun _ => ?_)
            clear hK K k3
            try simp only [Act.put, List.setIfInBounds_toArray, List.set_cons_zero, List.set_cons_succ]
            refine wpAnyH_ready (rs := [5]) (by kernel_rfl) (by simp) ?_
            refine AllReadyH.cons (o := { dst := some 34, op := Op.call { callee := Callee.value (Operand.func 64), args := #[Operand.tmp 33], argTypes := #[101] }, type := 22, pos := "reply.go:125", after := #[{ on := 4, ground := Ground.data }, { on := 3, ground := Ground.chain }], guard := none }) rfl (fun K hK => ?_) (AllReadyH.nil)
            have q0 := hS
            go_simp
            refine (K2 _ hst.rd).out.mono ?_
            rintro e w105 ⟨rfl, hrd, hb⟩
            replace hS : (fun W => W.cell? ⟨g + 1, 0, none⟩ = some (.pointer (some ⟨g, 0, none⟩))) w105 := World.grownBy.cell hb hS hne
            replace hst := hst.gone hP hwt hb hrd
            clear hrd
            refine hK.out _ _ hS (fun _ => ?_)
            clear hK K hb
            try simp only [Act.put, List.setIfInBounds_toArray, List.set_cons_zero, List.set_cons_succ]
            refine wpAnyH_take (i := 6) (oi := { dst := some 35, op := Op.build 109 #[(0, Operand.tmp 32), (1, Operand.tmp 34)], type := 109, pos := "reply.go:125", after := #[{ on := 3, ground := Ground.data }, { on := 5, ground := Ground.data }], guard := none }) (v := ?_) rfl (by kernel_rfl) (by kernel_rfl) (by kernel_rfl) (fun _ _ _ h => h) (Or.inl ⟨by rfl, ?_⟩) (by assumption) ?_
            rotate_left
            · (intro wS hS; go_simp <;> with_reducible rfl)
            try simp only [Act.put, List.setIfInBounds_toArray, List.set_cons_zero, List.set_cons_succ]
            refine wpAnyH_ready (rs := [7]) (by kernel_rfl) (by simp) ?_
            refine AllReadyH.cons (o := { dst := some 36, op := Op.buildSlice 44 1 #[(0, Operand.tmp 35)], type := 44, pos := "reply.go:125", after := #[{ on := 6, ground := Ground.data }], guard := none }) rfl (fun K hK => ?_) (AllReadyH.nil)
            go_simp
            have hbA := (one_cells w105 #[.int .u64 (x : Int), .int .u64 (y : Int)] 109).1
            have hnb := World.news_of_block (alloc_new w105 (.cells #[.int .u64 (x : Int), .int .u64 (y : Int)] 109 (0, 0)))
            replace hst := hst.kept hbA
            replace hS := cell_below hbA hS
            refine hK.out _ _ hS (fun _ => ?_)
            clear hK K hbA
            try simp only [Act.put, List.setIfInBounds_toArray, List.set_cons_zero, List.set_cons_succ]
            generalize hgB2 : World.heap w105 = hpB at *
            generalize World.alloc w105 (.cells #[.int .u64 (x : Int), .int .u64 (y : Int)] 109) = wA at *
            clear hgB2
            refine wpAnyH_ready (rs := [8]) (by kernel_rfl) (by simp) ?_
            refine AllReadyH.cons (o := { dst := some 37, op := Op.call { callee := Callee.builtin Builtin.append, args := #[Operand.tmp 30, Operand.tmp 36], argTypes := #[44, 44] }, type := 44, pos := "reply.go:125", after := #[{ on := 1, ground := Ground.data }, { on := 7, ground := Ground.data }, { on := 5, ground := Ground.chain }], guard := none }) rfl (fun K hK => ?_) (AllReadyH.nil)
            refine step_append_lies _ rfl (.tmp 30) (.tmp 36) 44 rfl (gr + 1) 109 ii (.agg #[.int .u64 0, .int .u64 0]) 2 16 Try.underlying44 hii hi0 hi1 hi2 rfl (by decide) _ ls.length _ rfl hst.ol ⟨hpB.size, 0, none⟩ 1 1 [.int .u64 (x : Int), .int .u64 (y : Int)] rfl rfl hnb (by simp [Value.oneCell']) (by decide) (by unfold maxLen; omega) (by omega) hst.sz _ rfl ?_
            intro gX capX wR8 ho' hg' hor hltX
            refine hK.out _ _ (World.grownBy.cell hg' hS (own_ne' hst.ol hP.h2)) (fun _ => ?_)
            clear hK K
            try simp only [Act.put, List.setIfInBounds_toArray, List.set_cons_zero, List.set_cons_succ]
            refine wpAnyH_take (i := 9) (oi := { dst := some 38, op := Op.fieldAddr 47 (Operand.tmp 5) 3, type := 0, pos := "reply.go:125", after := #[{ on := 0, ground := Ground.phase }, { on := 1, ground := Ground.phase }, { on := 2, ground := Ground.phase }, { on := 3, ground := Ground.phase }, { on := 4, ground := Ground.phase }, { on := 5, ground := Ground.phase }, { on := 6, ground := Ground.phase }, { on := 7, ground := Ground.phase }, { on := 8, ground := Ground.phase }], guard := none }) (v := ?_) rfl (by kernel_rfl) (by kernel_rfl) (by kernel_rfl) (fun _ _ _ h => h) (Or.inl ⟨by rfl, ?_⟩) (by assumption) ?_
            rotate_left
            · (intro wS hS; go_simp <;> with_reducible rfl)
            try simp only [Act.put, List.setIfInBounds_toArray, List.set_cons_zero, List.set_cons_succ]
            refine wpAnyH_ready (rs := [10]) (by kernel_rfl) (by simp) ?_
            refine AllReadyH.cons (o := { dst := none, op := Op.store 44 (Operand.tmp 38) (Operand.tmp 37), type := 0, pos := "reply.go:125", after := #[{ on := 9, ground := Ground.data }, { on := 8, ground := Ground.data }, { on := 8, ground := Ground.chain }, { on := 0, ground := Ground.phase }, { on := 1, ground := Ground.phase }, { on := 2, ground := Ground.phase }, { on := 3, ground := Ground.phase }, { on := 4, ground := Ground.phase }, { on := 5, ground := Ground.phase }, { on := 6, ground := Ground.phase }, { on := 7, ground := Ground.phase }, { on := 8, ground := Ground.phase }], guard := none }) rfl (fun K hK => ?_) (AllReadyH.nil)
            have hr8 := gb_heap hg' hst.hr (own_ne' hst.ol hP.h3)
            have fz := frozen_heap (o := 3) hr8
            have fy : wR8.cell? ⟨gr, 3, none⟩ = some vl := cell_heap hr8
            have hst2 := hst.put (ls' := ls ++ [(x, y)]) hP hwB hwr hg' (fun k hk => own_ne' hst.ol hk) (fun k hk => (hst.ol.lt k hk).1) 3 (.slice (some ⟨gX, 0, none⟩) (ls.length + 1) capX) rfl (hst.of.kept hg' (own_other hst.ol hst.of (by decide))) (by rw [List.length_append, prCs_append]; exact ho') (hst.oc.kept hg' (own_other hst.ol hst.oc (by decide)))
            go_simp
            refine hK.out _ _ (cell_heap hst2.hp) (fun _ => ?_)
            clear hK K
            try simp only [Act.put, List.setIfInBounds_toArray, List.set_cons_zero, List.set_cons_succ]
            refine wpAnyH_done (by kernel_rfl) ?_ _
            go_wp2_with fail
            go_roundw
            case rel => exact ⟨r.tail.tail, fs, ls ++ [(x, y)], cs, vf, _, vc, hst2, HG2, HL3, hsum2, HF⟩
            case measure => rw [HM.out, rdLen_of hst2.rd]; exact hrt
          · have q0 := hS
            go_simp
            refine (K2 _ hst.rd).out.mono ?_
            rintro e w105 ⟨rfl, hrd, hb⟩
            replace hS : (fun W => W.cell? ⟨g + 1, 0, none⟩ = some (.pointer (some ⟨g, 0, none⟩))) w105 := World.grownBy.cell hb hS hne
            replace hst := hst.gone hP hwt hb hrd
            clear hrd
            refine hK.out _ _ hS (fun _ => ?_)
            clear hK K hb
            try simp only [Act.put, List.setIfInBounds_toArray, List.set_cons_zero, List.set_cons_succ]
            refine wpAnyH_take (i := 6) (oi := { dst := some 35, op := Op.build 109 #[(0, Operand.tmp 32), (1, Operand.tmp 34)], type := 109, pos := "reply.go:125", after := #[{ on := 3, ground := Ground.data }, { on := 5, ground := Ground.data }], guard := none }) (v := ?_) rfl (by kernel_rfl) (by kernel_rfl) (by kernel_rfl) (fun _ _ _ h => h) (Or.inl ⟨by rfl, ?_⟩) (by assumption) ?_
            rotate_left
            · (intro wS hS; go_simp <;> with_reducible rfl)
            try simp only [Act.put, List.setIfInBounds_toArray, List.set_cons_zero, List.set_cons_succ]
            refine wpAnyH_ready (rs := [1, 7]) (by kernel_rfl) (by simp) ?_
            refine AllReadyH.cons (o := { dst := some 30, op := Op.load 44 (Operand.tmp 29), type := 44, pos := "reply.go:125", after := #[{ on := 0, ground := Ground.data }], guard := none }) rfl (fun K hK => ?_) (AllReadyH.cons (o := { dst := some 36, op := Op.buildSlice 44 1 #[(0, Operand.tmp 35)], type := 44, pos := "reply.go:125", after := #[{ on := 6, ground := Ground.data }], guard := none }) rfl (fun K hK => ?_) (AllReadyH.nil))
            · have k3 := cell_heap (o := 3) hst.hr
              go_simp
              refine hK.out _ _ hS (fun _ => ?_)
              clear hK K k3
              try simp only [Act.put, List.setIfInBounds_toArray, List.set_cons_zero, List.set_cons_succ]
              refine wpAnyH_ready (rs := [7]) (by kernel_rfl) (by simp) ?_
              refine AllReadyH.cons (o := { dst := some 36, op := Op.buildSlice 44 1 #[(0, Operand.tmp 35)], type := 44, pos := "reply.go:125", after := #[{ on := 6, ground := Ground.data }], guard := none }) rfl (fun K hK => ?_) (AllReadyH.nil)
              go_simp
              have hbA := (one_cells w105 #[.int .u64 (x : Int), .int .u64 (y : Int)] 109).1
              have hnb := World.news_of_block (alloc_new w105 (.cells #[.int .u64 (x : Int), .int .u64 (y : Int)] 109 (0, 0)))
              replace hst := hst.kept hbA
              replace hS := cell_below hbA hS
              refine hK.out _ _ hS (fun _ => ?_)
              clear hK K hbA
              try simp only [Act.put, List.setIfInBounds_toArray, List.set_cons_zero, List.set_cons_succ]
              generalize hgB2 : World.heap w105 = hpB at *
              generalize World.alloc w105 (.cells #[.int .u64 (x : Int), .int .u64 (y : Int)] 109) = wA at *
              clear hgB2
              refine wpAnyH_ready (rs := [8]) (by kernel_rfl) (by simp) ?_
              refine AllReadyH.cons (o := { dst := some 37, op := Op.call { callee := Callee.builtin Builtin.append, args := #[Operand.tmp 30, Operand.tmp 36], argTypes := #[44, 44] }, type := 44, pos := "reply.go:125", after := #[{ on := 1, ground := Ground.data }, { on := 7, ground := Ground.data }, { on := 5, ground := Ground.chain }], guard := none }) rfl (fun K hK => ?_) (AllReadyH.nil)
              refine step_append_lies _ rfl (.tmp 30) (.tmp 36) 44 rfl (gr + 1) 109 ii (.agg #[.int .u64 0, .int .u64 0]) 2 16 Try.underlying44 hii hi0 hi1 hi2 rfl (by decide) _ ls.length _ rfl hst.ol ⟨hpB.size, 0, none⟩ 1 1 [.int .u64 (x : Int), .int .u64 (y : Int)] rfl rfl hnb (by simp [Value.oneCell']) (by decide) (by unfold maxLen; omega) (by omega) hst.sz _ rfl ?_
              intro gX capX wR8 ho' hg' hor hltX
              refine hK.out _ _ (World.grownBy.cell hg' hS (own_ne' hst.ol hP.h2)) (fun _ => ?_)
              clear hK K
              try simp only [Act.put, List.setIfInBounds_toArray, List.set_cons_zero, List.set_cons_succ]
              refine wpAnyH_take (i := 9) (oi := { dst := some 38, op := Op.fieldAddr 47 (Operand.tmp 5) 3, type := 0, pos := "reply.go:125", after := #[{ on := 0, ground := Ground.phase }, { on := 1, ground := Ground.phase }, { on := 2, ground := Ground.phase }, { on := 3, ground := Ground.phase }, { on := 4, ground := Ground.phase }, { on := 5, ground := Ground.phase }, { on := 6, ground := Ground.phase }, { on := 7, ground := Ground.phase }, { on := 8, ground := Ground.phase }], guard := none }) (v := ?_) rfl (by kernel_rfl) (by kernel_rfl) (by kernel_rfl) (fun _ _ _ h => h) (Or.inl ⟨by rfl, ?_⟩) (by assumption) ?_
              rotate_left
              · (intro wS hS; go_simp <;> with_reducible rfl)
              try simp only [Act.put, List.setIfInBounds_toArray, List.set_cons_zero, List.set_cons_succ]
              refine wpAnyH_ready (rs := [10]) (by kernel_rfl) (by simp) ?_
              refine AllReadyH.cons (o := { dst := none, op := Op.store 44 (Operand.tmp 38) (Operand.tmp 37), type := 0, pos := "reply.go:125", after := #[{ on := 9, ground := Ground.data }, { on := 8, ground := Ground.data }, { on := 8, ground := Ground.chain }, { on := 0, ground := Ground.phase }, { on := 1, ground := Ground.phase }, { on := 2, ground := Ground.phase }, { on := 3, ground := Ground.phase }, { on := 4, ground := Ground.phase }, { on := 5, ground := Ground.phase }, { on := 6, ground := Ground.phase }, { on := 7, ground := Ground.phase }, { on := 8, ground := Ground.phase }], guard := none }) rfl (fun K hK => ?_) (AllReadyH.nil)
              have hr8 := gb_heap hg' hst.hr (own_ne' hst.ol hP.h3)
              have fz := frozen_heap (o := 3) hr8
              have fy : wR8.cell? ⟨gr, 3, none⟩ = some vl := cell_heap hr8
              have hst2 := hst.put (ls' := ls ++ [(x, y)]) hP hwB hwr hg' (fun k hk => own_ne' hst.ol hk) (fun k hk => (hst.ol.lt k hk).1) 3 (.slice (some ⟨gX, 0, none⟩) (ls.length + 1) capX) rfl (hst.of.kept hg' (own_other hst.ol hst.of (by decide))) (by rw [List.length_append, prCs_append]; exact ho') (hst.oc.kept hg' (own_other hst.ol hst.oc (by decide)))
              go_simp
              refine hK.out _ _ (cell_heap hst2.hp) (fun _ => ?_)
              clear hK K
              try simp only [Act.put, List.setIfInBounds_toArray, List.set_cons_zero, List.set_cons_succ]
              refine wpAnyH_done (by kernel_rfl) ?_ _
              go_wp2_with fail
              go_roundw
              case rel => exact ⟨r.tail.tail, fs, ls ++ [(x, y)], cs, vf, _, vc, hst2, HG2, HL3, hsum2, HF⟩
              case measure => rw [HM.out, rdLen_of hst2.rd]; exact hrt
            · go_simp
              have hbA := (one_cells w105 #[.int .u64 (x : Int), .int .u64 (y : Int)] 109).1
              have hnb := World.news_of_block (alloc_new w105 (.cells #[.int .u64 (x : Int), .int .u64 (y : Int)] 109 (0, 0)))
              replace hst := hst.kept hbA
              replace hS := cell_below hbA hS
              refine hK.out _ _ hS (fun _ => ?_)
              clear hK K hbA
              try simp only [Act.put, List.setIfInBounds_toArray, List.set_cons_zero, List.set_cons_succ]
              generalize hgB2 : World.heap w105 = hpB at *
              generalize World.alloc w105 (.cells #[.int .u64 (x : Int), .int .u64 (y : Int)] 109) = wA at *
              clear hgB2
              refine wpAnyH_ready (rs := [1]) (by kernel_rfl) (by simp) ?_
              refine AllReadyH.cons (o := { dst := some 30, op := Op.load 44 (Operand.tmp 29), type := 44, pos := "reply.go:125", after := #[{ on := 0, ground := Ground.data }], guard := none }) rfl (fun K hK => ?_) (AllReadyH.nil)
              have k3 := cell_heap (o := 3) hst.hr
              go_simp
              refine hK.out _ _ hS (fun _ => ?_)
              clear hK K k3
              try simp only [Act.put, List.setIfInBounds_toArray, List.set_cons_zero, List.set_cons_succ]
              refine wpAnyH_ready (rs := [8]) (by kernel_rfl) (by simp) ?_
              refine AllReadyH.cons (o := { dst := some 37, op := Op.call { callee := Callee.builtin Builtin.append, args := #[Operand.tmp 30, Operand.tmp 36], argTypes := #[44, 44] }, type := 44, pos := "reply.go:125", after := #[{ on := 1, ground := Ground.data }, { on := 7, ground := Ground.data }, { on := 5, ground := Ground.chain }], guard := none }) rfl (fun K hK => ?_) (AllReadyH.nil)
              refine step_append_lies _ rfl (.tmp 30) (.tmp 36) 44 rfl (gr + 1) 109 ii (.agg #[.int .u64 0, .int .u64 0]) 2 16 Try.underlying44 hii hi0 hi1 hi2 rfl (by decide) _ ls.length _ rfl hst.ol ⟨hpB.size, 0, none⟩ 1 1 [.int .u64 (x : Int), .int .u64 (y : Int)] rfl rfl hnb (by simp [Value.oneCell']) (by decide) (by unfold maxLen; omega) (by omega) hst.sz _ rfl ?_
              intro gX capX wR8 ho' hg' hor hltX
              refine hK.out _ _ (World.grownBy.cell hg' hS (own_ne' hst.ol hP.h2)) (fun _ => ?_)
              clear hK K
              try simp only [Act.put, List.setIfInBounds_toArray, List.set_cons_zero, List.set_cons_succ]
              refine wpAnyH_take (i := 9) (oi := { dst := some 38, op := Op.fieldAddr 47 (Operand.tmp 5) 3, type := 0, pos := "reply.go:125", after := #[{ on := 0, ground := Ground.phase }, { on := 1, ground := Ground.phase }, { on := 2, ground := Ground.phase }, { on := 3, ground := Ground.phase }, { on := 4, ground := Ground.phase }, { on := 5, ground := Ground.phase }, { on := 6, ground := Ground.phase }, { on := 7, ground := Ground.phase }, { on := 8, ground := Ground.phase }], guard := none }) (v := ?_) rfl (by kernel_rfl) (by kernel_rfl) (by kernel_rfl) (fun _ _ _ h => h) (Or.inl ⟨by rfl, ?_⟩) (by assumption) ?_
              rotate_left
              · (intro wS hS; go_simp <;> with_reducible rfl)
              try simp only [Act.put, List.setIfInBounds_toArray, List.set_cons_zero, List.set_cons_succ]
              refine wpAnyH_ready (rs := [10]) (by kernel_rfl) (by simp) ?_
              refine AllReadyH.cons (o := { dst := none, op := Op.store 44 (Operand.tmp 38) (Operand.tmp 37), type := 0, pos := "reply.go:125", after := #[{ on := 9, ground := Ground.data }, { on := 8, ground := Ground.data }, { on := 8, ground := Ground.chain }, { on := 0, ground := Ground.phase }, { on := 1, ground := Ground.phase }, { on := 2, ground := Ground.phase }, { on := 3, ground := Ground.phase }, { on := 4, ground := Ground.phase }, { on := 5, ground := Ground.phase }, { on := 6, ground := Ground.phase }, { on := 7, ground := Ground.phase }, { on := 8, ground := Ground.phase }], guard := none }) rfl (fun K hK => ?_) (AllReadyH.nil)
              have hr8 := gb_heap hg' hst.hr (own_ne' hst.ol hP.h3)
              have fz := frozen_heap (o := 3) hr8
              have fy : wR8.cell? ⟨gr, 3, none⟩ = some vl := cell_heap hr8
              have hst2 := hst.put (ls' := ls ++ [(x, y)]) hP hwB hwr hg' (fun k hk => own_ne' hst.ol hk) (fun k hk => (hst.ol.lt k hk).1) 3 (.slice (some ⟨gX, 0, none⟩) (ls.length + 1) capX) rfl (hst.of.kept hg' (own_other hst.ol hst.of (by decide))) (by rw [List.length_append, prCs_append]; exact ho') (hst.oc.kept hg' (own_other hst.ol hst.oc (by decide)))
              go_simp
              refine hK.out _ _ (cell_heap hst2.hp) (fun _ => ?_)
              clear hK K
              try simp only [Act.put, List.setIfInBounds_toArray, List.set_cons_zero, List.set_cons_succ]
              refine wpAnyH_done (by kernel_rfl) ?_ _
              go_wp2_with fail
              go_roundw
              case rel => exact ⟨r.tail.tail, fs, ls ++ [(x, y)], cs, vf, _, vc, hst2, HG2, HL3, hsum2, HF⟩
              case measure => rw [HM.out, rdLen_of hst2.rd]; exact hrt
      by_cases h3 : wl.headD [] = [99, 111, 117, 110, 116]
      · obtain ⟨r, rfl⟩ : ∃ r, wl = [99, 111, 117, 110, 116] :: r := by
          cases wl with
          | nil => cases h3
          | cons a r => exact ⟨r, by rw [List.headD_cons] at h3; rw [h3]⟩
        clear h1 h2 h3
        rw [List.headD_cons]
        rw [List.tail_cons] at hst HLt
        have HG2 : Hid ((R.fs, R.ls, R.cs) = parseGo r.tail fs ls (cs ++ [(valW (r.headD []) : Int)])) := by show _ = _; rw [HG.out, parseGo, if_neg (by decide), if_neg (by decide), if_pos rfl]
        have HL3 : Hid (∀ p ∈ r.tail, p.length ≤ 100000) := fun p hp => HLt.out p (mem_tail' hp)
        rw [List.length_cons] at HM hsum
        have K1 := fun W (h : WRd W g g r) => Lib.hid (rn_gb g g r W h (head_len HLt.out))
        have hsum2 : fs.length + ls.length + (cs ++ [(valW (r.headD []) : Int)]).length + r.tail.length ≤ 100001 := by rw [List.length_append, List.length_tail, List.length_singleton]; omega
        have hrt : r.tail.length < r.length + 1 := by rw [List.length_tail]; omega
        have hlN : cs.length ≤ 100001 := by omega
        have hx0 : valW (r.headD []) ≤ 1099511627776 := by have := numF_bounds (r.headD []); unfold farN at this; show (numF _).toNat ≤ _; omega
        clear HG HL HLt hsum
        have e1 : (numF (r.headD [])).toNat = valW (r.headD []) := rfl
        rw [e1] at K1
        clear e1
        generalize valW (r.headD []) = x at *
        have hwx : IntKind.i64.wrap (x : Int) = x := by rw [IntKind.wrap_i64]; omega
        obtain ⟨ii, hii, hi0, hi1, hi2⟩ := info_parts info_int
        have hne : some (g + 1) ≠ some g := by simp
        replace hst := hst.kept ((Below.refl _ _).drew)
        have hS0 : w4.drew.cell? ⟨g + 1, 0, none⟩ = some (.pointer (some ⟨g, 0, none⟩)) := cell_heap hst.hp
        go_upto_region 10 with fail
        refine wp_region_held (S := fun W => W.cell? ⟨g + 1, 0, none⟩ = some (.pointer (some ⟨g, 0, none⟩))) (by kernel_rfl) ?_
        change wpAnyH _ _ _ _ _ _ _ _ (w4).drew
        have hS : (fun W => W.cell? ⟨g + 1, 0, none⟩ = some (.pointer (some ⟨g, 0, none⟩))) (w4).drew := hS0
        generalize (w4).drew = wd at hS hst ⊢
        refine wpAnyH_take (i := 0) (oi := { dst := some 41, op := Op.fieldAddr 47 (Operand.tmp 5) 4, type := 0, pos := "reply.go:127", after := #[], guard := none }) (v := ?_) rfl (by kernel_rfl) (by kernel_rfl) (by kernel_rfl) (fun _ _ _ h => h) (Or.inl ⟨by rfl, ?_⟩) (by assumption) ?_
        rotate_left
        · (intro wS hS; go_simp <;> with_reducible rfl)
        try simp only [Act.put, List.setIfInBounds_toArray, List.set_cons_zero, List.set_cons_succ]
        refine wpAnyH_take (i := 2) (oi := { dst := some 43, op := Op.load 101 (Operand.tmp 4), type := 101, pos := "reply.go:127", after := #[], guard := none }) (v := ?_) rfl (by kernel_rfl) (by kernel_rfl) (by kernel_rfl) (fun _ _ _ h => h) (Or.inl ⟨by rfl, ?_⟩) (by assumption) ?_
        rotate_left
        · (intro wS hS; have q0 := hS; go_simp <;> with_reducible rfl)
        try simp only [Act.put, List.setIfInBounds_toArray, List.set_cons_zero, List.set_cons_succ]
        refine wpAnyH_ready (rs := [1, 3]) (by kernel_rfl) (by simp) ?_
        refine AllReadyH.cons (o := { dst := some 42, op := Op.load 45 (Operand.tmp 41), type := 45, pos := "reply.go:127", after := #[{ on := 0, ground := Ground.data }], guard := none }) rfl (fun K hK => ?_) (AllReadyH.cons (o := { dst := some 44, op := Op.call { callee := Callee.value (Operand.func 64), args := #[Operand.tmp 43], argTypes := #[101] }, type := 22, pos := "reply.go:127", after := #[{ on := 2, ground := Ground.data }], guard := none }) rfl (fun K hK => ?_) (AllReadyH.nil))
        · have k3 := cell_heap (o := 4) hst.hr
          go_simp
          refine hK.out _ _ hS (fun _ => ?_)
          clear hK K k3
          try simp only [Act.put, List.setIfInBounds_toArray, List.set_cons_zero, List.set_cons_succ]
          refine wpAnyH_ready (rs := [3]) (by kernel_rfl) (by simp) ?_
          refine AllReadyH.cons (o := { dst := some 44, op := Op.call { callee := Callee.value (Operand.func 64), args := #[Operand.tmp 43], argTypes := #[101] }, type := 22, pos := "reply.go:127", after := #[{ on := 2, ground := Ground.data }], guard := none }) rfl (fun K hK => ?_) (AllReadyH.nil)
          have q0 := hS
          go_simp
          refine (K1 _ hst.rd).out.mono ?_
          rintro e w103 ⟨rfl, hrd, hb⟩
          replace hS : (fun W => W.cell? ⟨g + 1, 0, none⟩ = some (.pointer (some ⟨g, 0, none⟩))) w103 := World.grownBy.cell hb hS hne
          replace hst := hst.gone hP hwt hb hrd
          clear hrd
          refine hK.out _ _ hS (fun _ => ?_)
          clear hK K hb
          try simp only [Act.put, List.setIfInBounds_toArray, List.set_cons_zero, List.set_cons_succ]
          refine wpAnyH_take (i := 4) (oi := { dst := some 45, op := Op.convert 22 3 (Operand.tmp 44), type := 3, pos := "reply.go:127", after := #[{ on := 3, ground := Ground.data }], guard := none }) (v := ?_) rfl (by kernel_rfl) (by kernel_rfl) (by kernel_rfl) (fun _ _ _ h => h) (Or.inl ⟨by rfl, ?_⟩) (by assumption) ?_
          rotate_left
          · (intro wS hS; go_simp <;> with_reducible rfl)
          try simp only [Act.put, List.setIfInBounds_toArray, List.set_cons_zero, List.set_cons_succ]
          refine wpAnyH_ready (rs := [5]) (by kernel_rfl) (by simp) ?_
          refine AllReadyH.cons (o := { dst := some 46, op := Op.buildSlice 45 1 #[(0, Operand.tmp 45)], type := 45, pos := "reply.go:127", after := #[{ on := 4, ground := Ground.data }], guard := none }) rfl (fun K hK => ?_) (AllReadyH.nil)
          go_simp
          have hbA := (one_cells w103 #[.int .i64 (x : Int)] 3).1
          have hnb := World.news_of_block (alloc_new w103 (.cells #[.int .i64 (x : Int)] 3 (0, 0)))
          replace hst := hst.kept hbA
          replace hS := cell_below hbA hS
          refine hK.out _ _ hS (fun _ => ?_)
          clear hK K hbA
          try simp only [Act.put, List.setIfInBounds_toArray, List.set_cons_zero, List.set_cons_succ]
          generalize hgB2 : World.heap w103 = hpB at *
          generalize World.alloc w103 (.cells #[.int .i64 (x : Int)] 3) = wA at *
          clear hgB2
          refine wpAnyH_ready (rs := [6]) (by kernel_rfl) (by simp) ?_
          refine AllReadyH.cons (o := { dst := some 47, op := Op.call { callee := Callee.builtin Builtin.append, args := #[Operand.tmp 42, Operand.tmp 46], argTypes := #[45, 45] }, type := 45, pos := "reply.go:127", after := #[{ on := 1, ground := Ground.data }, { on := 5, ground := Ground.data }, { on := 3, ground := Ground.chain }], guard := none }) rfl (fun K hK => ?_) (AllReadyH.nil)
          refine step_append_lies _ rfl (.tmp 42) (.tmp 46) 45 rfl (gr + 1) 3 ii (.int .i64 0) 1 8 Try.underlying45 hii hi0 hi1 hi2 rfl (by decide) _ cs.length _ rfl hst.oc ⟨hpB.size, 0, none⟩ 1 1 [.int .i64 (x : Int)] rfl rfl hnb (by simp [Value.oneCell']) (by decide) (by unfold maxLen; omega) (by omega) hst.sz _ rfl ?_
          intro gX capX wR6 ho' hg' hor hltX
          refine hK.out _ _ (World.grownBy.cell hg' hS (own_ne' hst.oc hP.h2)) (fun _ => ?_)
          clear hK K
          try simp only [Act.put, List.setIfInBounds_toArray, List.set_cons_zero, List.set_cons_succ]
          refine wpAnyH_take (i := 7) (oi := { dst := some 48, op := Op.fieldAddr 47 (Operand.tmp 5) 4, type := 0, pos := "reply.go:127", after := #[{ on := 0, ground := Ground.phase }, { on := 1, ground := Ground.phase }, { on := 2, ground := Ground.phase }, { on := 3, ground := Ground.phase }, { on := 4, ground := Ground.phase }, { on := 5, ground := Ground.phase }, { on := 6, ground := Ground.phase }], guard := none }) (v := ?_) rfl (by kernel_rfl) (by kernel_rfl) (by kernel_rfl) (fun _ _ _ h => h) (Or.inl ⟨by rfl, ?_⟩) (by assumption) ?_
          rotate_left
          · (intro wS hS; go_simp <;> with_reducible rfl)
          try simp only [Act.put, List.setIfInBounds_toArray, List.set_cons_zero, List.set_cons_succ]
          refine wpAnyH_ready (rs := [8]) (by kernel_rfl) (by simp) ?_
          refine AllReadyH.cons (o := { dst := none, op := Op.store 45 (Operand.tmp 48) (Operand.tmp 47), type := 0, pos := "reply.go:127", after := #[{ on := 7, ground := Ground.data }, { on := 6, ground := Ground.data }, { on := 6, ground := Ground.chain }, { on := 0, ground := Ground.phase }, { on := 1, ground := Ground.phase }, { on := 2, ground := Ground.phase }, { on := 3, ground := Ground.phase }, { on := 4, ground := Ground.phase }, { on := 5, ground := Ground.phase }, { on := 6, ground := Ground.phase }], guard := none }) rfl (fun K hK => ?_) (AllReadyH.nil)
          have hr8 := gb_heap hg' hst.hr (own_ne' hst.oc hP.h3)
          have fz := frozen_heap (o := 4) hr8
          have fy : wR6.cell? ⟨gr, 4, none⟩ = some vc := cell_heap hr8
          have hst2 := hst.put (cs' := cs ++ [(x : Int)]) hP hwB hwr hg' (fun k hk => own_ne' hst.oc hk) (fun k hk => (hst.oc.lt k hk).1) 4 (.slice (some ⟨gX, 0, none⟩) (cs.length + 1) capX) rfl (hst.of.kept hg' (own_other hst.oc hst.of (by decide))) (hst.ol.kept hg' (own_other hst.oc hst.ol (by decide))) (by rw [List.length_append, inCs_append]; exact ho')
          go_simp
          refine hK.out _ _ (cell_heap hst2.hp) (fun _ => ?_)
          clear hK K
          try simp only [Act.put, List.setIfInBounds_toArray, List.set_cons_zero, List.set_cons_succ]
          refine wpAnyH_done (by kernel_rfl) ?_ _
          go_wp2_with fail
          go_roundw
          case rel => exact ⟨r.tail, fs, ls, cs ++ [(x : Int)], vf, vl, _, hst2, HG2, HL3, hsum2, HF⟩
          case measure => rw [HM.out, rdLen_of hst2.rd]; exact hrt
        · have q0 := hS
          go_simp
          refine (K1 _ hst.rd).out.mono ?_
          rintro e w103 ⟨rfl, hrd, hb⟩
          replace hS : (fun W => W.cell? ⟨g + 1, 0, none⟩ = some (.pointer (some ⟨g, 0, none⟩))) w103 := World.grownBy.cell hb hS hne
          replace hst := hst.gone hP hwt hb hrd
          clear hrd
          refine hK.out _ _ hS (fun _ => ?_)
          clear hK K hb
          try simp only [Act.put, List.setIfInBounds_toArray, List.set_cons_zero, List.set_cons_succ]
          refine wpAnyH_take (i := 4) (oi := { dst := some 45, op := Op.convert 22 3 (Operand.tmp 44), type := 3, pos := "reply.go:127", after := #[{ on := 3, ground := Ground.data }], guard := none }) (v := ?_) rfl (by kernel_rfl) (by kernel_rfl) (by kernel_rfl) (fun _ _ _ h => h) (Or.inl ⟨by rfl, ?_⟩) (by assumption) ?_
          rotate_left
          · (intro wS hS; go_simp <;> with_reducible rfl)
          try simp only [Act.put, List.setIfInBounds_toArray, List.set_cons_zero, List.set_cons_succ]
          refine wpAnyH_ready (rs := [1, 5]) (by kernel_rfl) (by simp) ?_
          refine AllReadyH.cons (o := { dst := some 42, op := Op.load 45 (Operand.tmp 41), type := 45, pos := "reply.go:127", after := #[{ on := 0, ground := Ground.data }], guard := none }) rfl (fun K hK => ?_) (AllReadyH.cons (o := { dst := some 46, op := Op.buildSlice 45 1 #[(0, Operand.tmp 45)], type := 45, pos := "reply.go:127", after := #[{ on := 4, ground := Ground.data }], guard := none }) rfl (fun K hK => ?_) (AllReadyH.nil))
          · have k3 := cell_heap (o := 4) hst.hr
            go_simp
            refine hK.out _ _ hS (fun _ => ?_)
            clear hK K k3
            try simp only [Act.put, List.setIfInBounds_toArray, List.set_cons_zero, List.set_cons_succ]
            refine wpAnyH_ready (rs := [5]) (by kernel_rfl) (by simp) ?_
            refine AllReadyH.cons (o := { dst := some 46, op := Op.buildSlice 45 1 #[(0, Operand.tmp 45)], type := 45, pos := "reply.go:127", after := #[{ on := 4, ground := Ground.data }], guard := none }) rfl (fun K hK => ?_) (AllReadyH.nil)
            go_simp
            have hbA := (one_cells w103 #[.int .i64 (x : Int)] 3).1
            have hnb := World.news_of_block (alloc_new w103 (.cells #[.int .i64 (x : Int)] 3 (0, 0)))
            replace hst := hst.kept hbA
            replace hS := cell_below hbA hS
            refine hK.out _ _ hS (fun _ => ?_)
            clear hK K hbA
            try simp only [Act.put, List.setIfInBounds_toArray, List.set_cons_zero, List.set_cons_succ]
            generalize hgB2 : World.heap w103 = hpB at *
            generalize World.alloc w103 (.cells #[.int .i64 (x : Int)] 3) = wA at *
            clear hgB2
            refine wpAnyH_ready (rs := [6]) (by kernel_rfl) (by simp) ?_
            refine AllReadyH.cons (o := { dst := some 47, op := Op.call { callee := Callee.builtin Builtin.append, args := #[Operand.tmp 42, Operand.tmp 46], argTypes := #[45, 45] }, type := 45, pos := "reply.go:127", after := #[{ on := 1, ground := Ground.data }, { on := 5, ground := Ground.data }, { on := 3, ground := Ground.chain }], guard := none }) rfl (fun K hK => ?_) (AllReadyH.nil)
            refine step_append_lies _ rfl (.tmp 42) (.tmp 46) 45 rfl (gr + 1) 3 ii (.int .i64 0) 1 8 Try.underlying45 hii hi0 hi1 hi2 rfl (by decide) _ cs.length _ rfl hst.oc ⟨hpB.size, 0, none⟩ 1 1 [.int .i64 (x : Int)] rfl rfl hnb (by simp [Value.oneCell']) (by decide) (by unfold maxLen; omega) (by omega) hst.sz _ rfl ?_
            intro gX capX wR6 ho' hg' hor hltX
            refine hK.out _ _ (World.grownBy.cell hg' hS (own_ne' hst.oc hP.h2)) (fun _ => ?_)
            clear hK K
            try simp only [Act.put, List.setIfInBounds_toArray, List.set_cons_zero, List.set_cons_succ]
            refine wpAnyH_take (i := 7) (oi := { dst := some 48, op := Op.fieldAddr 47 (Operand.tmp 5) 4, type := 0, pos := "reply.go:127", after := #[{ on := 0, ground := Ground.phase }, { on := 1, ground := Ground.phase }, { on := 2, ground := Ground.phase }, { on := 3, ground := Ground.phase }, { on := 4, ground := Ground.phase }, { on := 5, ground := Ground.phase }, { on := 6, ground := Ground.phase }], guard := none }) (v := ?_) rfl (by kernel_rfl) (by kernel_rfl) (by kernel_rfl) (fun _ _ _ h => h) (Or.inl ⟨by rfl, ?_⟩) (by assumption) ?_
            rotate_left
            · (intro wS hS; go_simp <;> with_reducible rfl)
            try simp only [Act.put, List.setIfInBounds_toArray, List.set_cons_zero, List.set_cons_succ]
            refine wpAnyH_ready (rs := [8]) (by kernel_rfl) (by simp) ?_
            refine AllReadyH.cons (o := { dst := none, op := Op.store 45 (Operand.tmp 48) (Operand.tmp 47), type := 0, pos := "reply.go:127", after := #[{ on := 7, ground := Ground.data }, { on := 6, ground := Ground.data }, { on := 6, ground := Ground.chain }, { on := 0, ground := Ground.phase }, { on := 1, ground := Ground.phase }, { on := 2, ground := Ground.phase }, { on := 3, ground := Ground.phase }, { on := 4, ground := Ground.phase }, { on := 5, ground := Ground.phase }, { on := 6, ground := Ground.phase }], guard := none }) rfl (fun K hK => ?_) (AllReadyH.nil)
            have hr8 := gb_heap hg' hst.hr (own_ne' hst.oc hP.h3)
            have fz := frozen_heap (o := 4) hr8
            have fy : wR6.cell? ⟨gr, 4, none⟩ = some vc := cell_heap hr8
            have hst2 := hst.put (cs' := cs ++ [(x : Int)]) hP hwB hwr hg' (fun k hk => own_ne' hst.oc hk) (fun k hk => (hst.oc.lt k hk).1) 4 (.slice (some ⟨gX, 0, none⟩) (cs.length + 1) capX) rfl (hst.of.kept hg' (own_other hst.oc hst.of (by decide))) (hst.ol.kept hg' (own_other hst.oc hst.ol (by decide))) (by rw [List.length_append, inCs_append]; exact ho')
            go_simp
            refine hK.out _ _ (cell_heap hst2.hp) (fun _ => ?_)
            clear hK K
            try simp only [Act.put, List.setIfInBounds_toArray, List.set_cons_zero, List.set_cons_succ]
            refine wpAnyH_done (by kernel_rfl) ?_ _
            go_wp2_with fail
            go_roundw
            case rel => exact ⟨r.tail, fs, ls, cs ++ [(x : Int)], vf, vl, _, hst2, HG2, HL3, hsum2, HF⟩
            case measure => rw [HM.out, rdLen_of hst2.rd]; exact hrt
          · go_simp
            have hbA := (one_cells w103 #[.int .i64 (x : Int)] 3).1
            have hnb := World.news_of_block (alloc_new w103 (.cells #[.int .i64 (x : Int)] 3 (0, 0)))
            replace hst := hst.kept hbA
            replace hS := cell_below hbA hS
            refine hK.out _ _ hS (fun _ => ?_)
            clear hK K hbA
            try simp only [Act.put, List.setIfInBounds_toArray, List.set_cons_zero, List.set_cons_succ]
            generalize hgB2 : World.heap w103 = hpB at *
            generalize World.alloc w103 (.cells #[.int .i64 (x : Int)] 3) = wA at *
            clear hgB2
            refine wpAnyH_ready (rs := [1]) (by kernel_rfl) (by simp) ?_
            refine AllReadyH.cons (o := { dst := some 42, op := Op.load 45 (Operand.tmp 41), type := 45, pos := "reply.go:127", after := #[{ on := 0, ground := Ground.data }], guard := none }) rfl (fun K hK => ?_) (AllReadyH.nil)
            have k3 := cell_heap (o := 4) hst.hr
            go_simp
            refine hK.out _ _ hS (fun _ => ?_)
            clear hK K k3
            try simp only [Act.put, List.setIfInBounds_toArray, List.set_cons_zero, List.set_cons_succ]
            refine wpAnyH_ready (rs := [6]) (by kernel_rfl) (by simp) ?_
            refine AllReadyH.cons (o := { dst := some 47, op := Op.call { callee := Callee.builtin Builtin.append, args := #[Operand.tmp 42, Operand.tmp 46], argTypes := #[45, 45] }, type := 45, pos := "reply.go:127", after := #[{ on := 1, ground := Ground.data }, { on := 5, ground := Ground.data }, { on := 3, ground := Ground.chain }], guard := none }) rfl (fun K hK => ?_) (AllReadyH.nil)
            refine step_append_lies _ rfl (.tmp 42) (.tmp 46) 45 rfl (gr + 1) 3 ii (.int .i64 0) 1 8 Try.underlying45 hii hi0 hi1 hi2 rfl (by decide) _ cs.length _ rfl hst.oc ⟨hpB.size, 0, none⟩ 1 1 [.int .i64 (x : Int)] rfl rfl hnb (by simp [Value.oneCell']) (by decide) (by unfold maxLen; omega) (by omega) hst.sz _ rfl ?_
            intro gX capX wR6 ho' hg' hor hltX
            refine hK.out _ _ (World.grownBy.cell hg' hS (own_ne' hst.oc hP.h2)) (fun _ => ?_)
            clear hK K
            try simp only [Act.put, List.setIfInBounds_toArray, List.set_cons_zero, List.set_cons_succ]
            refine wpAnyH_take (i := 7) (oi := { dst := some 48, op := Op.fieldAddr 47 (Operand.tmp 5) 4, type := 0, pos := "reply.go:127", after := #[{ on := 0, ground := Ground.phase }, { on := 1, ground := Ground.phase }, { on := 2, ground := Ground.phase }, { on := 3, ground := Ground.phase }, { on := 4, ground := Ground.phase }, { on := 5, ground := Ground.phase }, { on := 6, ground := Ground.phase }], guard := none }) (v := ?_) rfl (by kernel_rfl) (by kernel_rfl) (by kernel_rfl) (fun _ _ _ h => h) (Or.inl ⟨by rfl, ?_⟩) (by assumption) ?_
            rotate_left
            · (intro wS hS; go_simp <;> with_reducible rfl)
            try simp only [Act.put, List.setIfInBounds_toArray, List.set_cons_zero, List.set_cons_succ]
            refine wpAnyH_ready (rs := [8]) (by kernel_rfl) (by simp) ?_
            refine AllReadyH.cons (o := { dst := none, op := Op.store 45 (Operand.tmp 48) (Operand.tmp 47), type := 0, pos := "reply.go:127", after := #[{ on := 7, ground := Ground.data }, { on := 6, ground := Ground.data }, { on := 6, ground := Ground.chain }, { on := 0, ground := Ground.phase }, { on := 1, ground := Ground.phase }, { on := 2, ground := Ground.phase }, { on := 3, ground := Ground.phase }, { on := 4, ground := Ground.phase }, { on := 5, ground := Ground.phase }, { on := 6, ground := Ground.phase }], guard := none }) rfl (fun K hK => ?_) (AllReadyH.nil)
            have hr8 := gb_heap hg' hst.hr (own_ne' hst.oc hP.h3)
            have fz := frozen_heap (o := 4) hr8
            have fy : wR6.cell? ⟨gr, 4, none⟩ = some vc := cell_heap hr8
            have hst2 := hst.put (cs' := cs ++ [(x : Int)]) hP hwB hwr hg' (fun k hk => own_ne' hst.oc hk) (fun k hk => (hst.oc.lt k hk).1) 4 (.slice (some ⟨gX, 0, none⟩) (cs.length + 1) capX) rfl (hst.of.kept hg' (own_other hst.oc hst.of (by decide))) (hst.ol.kept hg' (own_other hst.oc hst.ol (by decide))) (by rw [List.length_append, inCs_append]; exact ho')
            go_simp
            refine hK.out _ _ (cell_heap hst2.hp) (fun _ => ?_)
            clear hK K
            try simp only [Act.put, List.setIfInBounds_toArray, List.set_cons_zero, List.set_cons_succ]
            refine wpAnyH_done (by kernel_rfl) ?_ _
            go_wp2_with fail
            go_roundw
            case rel => exact ⟨r.tail, fs, ls, cs ++ [(x : Int)], vf, vl, _, hst2, HG2, HL3, hsum2, HF⟩
            case measure => rw [HM.out, rdLen_of hst2.rd]; exact hrt
      have HE := HG.out
      rw [parseGo_end h1 h2 h3] at HE
      have hb1 : (wl.headD [] == [102, 114, 97, 109, 101]) = false := by simpa using h1
      have hb2 : (wl.headD [] == [108, 111, 115, 116]) = false := by simpa using h2
      have hb3 : (wl.headD [] == [99, 111, 117, 110, 116]) = false := by simpa using h3
      simp only [Prod.mk.injEq] at HE
      obtain ⟨g1, g2, g3⟩ := HE
      have hlF : fs.length ≤ 1000000 ∧ ls.length ≤ 1000000 ∧ cs.length ≤ 1000000 := by omega
      have HOK : Hid (prsOk s ↔ (chkR R.e R.n fs ls cs = 0 ∧ textR R.e R.n fs ls cs = s)) := by
        show _ ↔ _
        unfold prsOk
        rw [← HR0.out, g1, g2, g3]
      have HRS : Hid (prs s = ⟨R.e, R.n, fs, ls, cs⟩) := by
        show _ = _
        rw [← HR0.out, ← g1, ← g2, ← g3]
      clear HR HR0 HG HL HLt HM hsum h1 h2 h3 g1 g2 g3
      generalize R.e = re at *
      generalize R.n = rn at *
      generalize wl.headD [] = s0 at *
      generalize wl.tail = wt2 at *
      obtain ⟨A1, k1, rfl, hr1, -⟩ := Rd.of_own hst.of
      obtain ⟨A2, k2, rfl, hr2, -⟩ := Rd.of_own hst.ol
      obtain ⟨A3, k3, rfl, hr3, -⟩ := Rd.of_own hst.oc
      obtain ⟨⟨y0, y1, y2, y3, y4⟩, -⟩ := five_cells hst.hr
      by_cases hgood : GoodR re rn fs ls cs
      · have KX := Lib.hid (rtext36_yes re rn fs ls cs A1 _ k1 A2 _ k2 A3 _ k3 w4 hr1 hr2 hr3 hgood)
        clear hr1 hr2 hr3
        have hch := chk_good.2 hgood
        by_cases htx : textR re rn fs ls cs = s
        · have hok : prsOk s := HOK.out.2 ⟨hch, htx⟩
          rw [htx] at KX
          clear hgood hch htx HOK HF
          go_wp2_with fail
          refine KX.out.mono ?_
          rintro x w5 ⟨rfl, hb5⟩
          have hst5 := hst.kept hb5
          clear KX hst hb5 y0 y1 y2 y3 y4
          obtain ⟨⟨y0, y1, y2, y3, y4⟩, -⟩ := five_cells hst5.hr
          obtain ⟨⟨z0, z1, z2, z3, z4⟩, f0, f1, f2, f3, f4⟩ := five_cells hst5.hz
          go_wp2_with fail
          have hG := five_gb w5 w.heap.size (.int .i64 (re : Int)) (.int .u64 (rn : Int)) (.slice A1 fs.length k1) (.slice A2 ls.length k2) (.slice A3 cs.length k3)
          have hh9 := five_heap hst5.hz (.int .i64 (re : Int)) (.int .u64 (rn : Int)) (.slice A1 fs.length k1) (.slice A2 ls.length k2) (.slice A3 cs.length k3)
          have hB9 := below_gbw hG hst5.bel (Nat.le_refl _)
          have o1 := Rd.of_own' (hst5.of.kept hG (own_ne hst5.of hP.h4))
          have o2 := Rd.of_own' (hst5.ol.kept hG (own_ne hst5.ol hP.h4))
          have o3 := Rd.of_own' (hst5.oc.kept hG (own_ne hst5.oc hP.h4))
          obtain ⟨⟨r0, r1, r2, r3, r4⟩, -⟩ := five_cells hh9
          rw [Exit.noGoto_ret]
          refine bodyPost_ret (v := .tuple #[rpl re rn A1 fs.length k1 A2 ls.length k2 A3 cs.length k3, .int .i64 0]) ?_ rfl ⟨hB9, fun _ => ?_, fun h => absurd hok h⟩
          · simp only [five] at r0 r1 r2 r3 r4
            simp [results, Try.results25, go_sem, r0, r1, r2, r3, r4]
          · rw [HRS.out]
            exact ⟨A1, k1, A2, k2, A3, k3, rfl, o1, o2, o3⟩
        · have hok : ¬ prsOk s := fun h => htx (HOK.out.1 h).2
          have hbe : (textR re rn fs ls cs == s) = false := by simpa using htx
          clear hgood hch htx HOK HF
          generalize textR re rn fs ls cs = tx at *
          go_wp2_with fail
          refine KX.out.mono ?_
          rintro x w5 ⟨rfl, hb5⟩
          have hst5 := hst.kept hb5
          clear KX hst hb5 y0 y1 y2 y3 y4
          obtain ⟨⟨z0, z1, z2, z3, z4⟩, f0, f1, f2, f3, f4⟩ := five_cells hst5.hz
          go_wp2_with fail
          have hG := five_gb w5 w.heap.size (.int .i64 0) (.int .u64 0) (.slice none 0 0) (.slice none 0 0) (.slice none 0 0)
          have hh9 := five_heap hst5.hz (.int .i64 0) (.int .u64 0) (.slice none 0 0) (.slice none 0 0) (.slice none 0 0)
          have hB9 := below_gbw hG hst5.bel (Nat.le_refl _)
          obtain ⟨⟨r0, r1, r2, r3, r4⟩, -⟩ := five_cells hh9
          rw [Exit.noGoto_ret]
          refine bodyPost_ret (v := .tuple #[rpl 0 0 none 0 0 none 0 0 none 0 0, .int .i64 6]) ?_ rfl ⟨hB9, fun h => absurd h hok, fun _ => rfl⟩
          simp only [five] at r0 r1 r2 r3 r4
          simp [results, Try.results25, go_sem, r0, r1, r2, r3, r4]
      · have hch : chkR re rn fs ls cs ≠ 0 := fun h => hgood (chk_good.1 h)
        have KX := Lib.hid (rtext36_no re rn fs ls cs A1 _ k1 A2 _ k2 A3 _ k3 w4 hr1 hr2 hr3 hlF (fun f hf => by have := HF.out f hf; omega) hch)
        have hok : ¬ prsOk s := fun h => hch (HOK.out.1 h).1
        have hbe : ((chkR re rn fs ls cs : Int) != 0) = true := by rw [bne_iff_ne]; omega
        clear hgood hch HOK HF hr1 hr2 hr3
        generalize chkR re rn fs ls cs = ch at *
        go_wp2_with fail
        refine KX.out.mono ?_
        rintro x w5 ⟨rfl, hb5⟩
        have hst5 := hst.kept hb5
        clear KX hst hb5 y0 y1 y2 y3 y4
        obtain ⟨⟨z0, z1, z2, z3, z4⟩, f0, f1, f2, f3, f4⟩ := five_cells hst5.hz
        go_wp2_with fail
        have hG := five_gb w5 w.heap.size (.int .i64 0) (.int .u64 0) (.slice none 0 0) (.slice none 0 0) (.slice none 0 0)
        have hh9 := five_heap hst5.hz (.int .i64 0) (.int .u64 0) (.slice none 0 0) (.slice none 0 0) (.slice none 0 0)
        have hB9 := below_gbw hG hst5.bel (Nat.le_refl _)
        obtain ⟨⟨r0, r1, r2, r3, r4⟩, -⟩ := five_cells hh9
        rw [Exit.noGoto_ret]
        refine bodyPost_ret (v := .tuple #[rpl 0 0 none 0 0 none 0 0 none 0 0, .int .i64 6]) ?_ rfl ⟨hB9, fun h => absurd h hok, fun _ => rfl⟩
        simp only [five] at r0 r1 r2 r3 r4
        simp [results, Try.results25, go_sem, r0, r1, r2, r3, r4]
end Go.Proofs.Ytefipigdkdopcaa
