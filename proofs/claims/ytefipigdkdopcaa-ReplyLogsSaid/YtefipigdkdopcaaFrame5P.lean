/- Contract of frame.Put. No condition but lengths' bounds. -/
import Derived.Test.YtefipigdkdopcaaFrame3P
import Derived.Test.YtefipigdkdopcaaBeOwnP
import Derived.Test.YtefipigdkdopcaaCrcP
import Derived.Lib.AppendStr
namespace Go.Proofs.Ytefipigdkdopcaa
open Go.RowKit

theorem info_u8s : ∃ i, Try.prog.info? 5 = some i ∧ i.zero = some (.int .u8 0) ∧ i.size = 1 ∧ i.bytes = 1 := by
  have h := info_u8
  cases hi : Try.prog.info? 5 with
  | none => rw [hi] at h; cases h
  | some i =>
    rw [hi] at h
    simp only [Option.map_some, Option.some.injEq, Prod.mk.injEq] at h
    exact ⟨i, rfl, h.1, h.2.1, h.2.2⟩
/-- 'append(b, s...)', s a string, b the call's own. -/
theorem wpl_append_str {w : World} {ops : Array Oper} {rest : List Oper} {o : Oper} {a : Act} {Q : Exit → Act → World → Prop} (hgd : o.guard = none) (sl x : Operand)
    (ho : o.op = .call { callee := .builtin .append, args := #[sl, x], argTypes := #[53, 9] })
    (base : Nat) (v : Value) (n : Nat) (xs : List UInt8) (hs : a.eval sl = v) (hown : w.ownsRow base 5 1 v n (bs xs)) (d : List UInt8) (hx : a.eval x = .string ⟨d.toArray⟩)
    (hl : n + d.length ≤ 140737488355328) (hbase : base ≤ w.heap.size)
    (h : ∀ v' w', w'.ownsRow base 5 1 v' (n + d.length) (bs (xs ++ d)) → w.grownBy w' v.ownBlock → wpList Try.prog ops Q rest (a.put o.dst v') w') : wpList Try.prog ops Q (o :: rest) a w := by
  obtain ⟨i, hi, hz, hsz, hby⟩ := info_u8s
  refine Lib.wpList_append_own_string (P := Try.prog) (w := w) hgd sl x 53 9 ho base 5 i Try.underlying53 Try.underlying9 hi hz hsz hby v n (bs xs) hs hown ⟨d.toArray⟩ hx ?_ ?_ hbase ?_
  · show n + d.length ≤ maxLen
    unfold maxLen; omega
  · exact hl
  · intro v' w' h1 h2 _
    refine h v' w' ?_ h2
    rw [bs_append]
    exact h1

theorem rowN_frm (nu id o t : Nat) (d : List UInt8) : rowN [1, 26, 4, nu, 4, id, 2, o, 2, t] 5 ++ d = frmH nu id o t d := by
  simp [rowN, frmH]

set_option maxRecDepth 100000 in
set_option maxHeartbeats 2000000 in
theorem fput_no (nu id : Nat) (o t : Int) (d : List UInt8) (w : World) (hd : d.length ≤ 1000000000) (h : mayF nu id o t d.length = false) :
    Calls Try.prog 76 #[frm nu id o t d] w fun e w' => e = .returned (.tuple #[.slice none 0 0, .int .i64 3]) ∧ Below w.heap.size w w' := by
  obtain ⟨hB, hca⟩ := one_cells w (frmCs nu id o t d) 100
  have c0 := hca 0 (.int .u64 (nu : Int)) rfl
  have c1 := hca 1 (.int .u64 (id : Int)) rfl
  have c2 := hca 2 (.int .i64 o) rfl
  have c3 := hca 3 (.int .i64 t) rfl
  have c4 := hca 4 (.string ⟨d.toArray⟩) rfl
  clear hca
  have K := fun w => Lib.hid (fcheck_any nu id o t d w hd)
  rw [h, if_neg (by decide)] at K
  clear h
  go_enter Try.func76, Try.ntmps76
  go_wp2_with (go_at_call 79; refine (K _).out.mono ?_; rintro e w' ⟨rfl, hb⟩)
  go_ret2
  exact ⟨rfl, below_trans hB hb⟩

set_option maxRecDepth 100000 in
set_option maxHeartbeats 2000000 in
theorem fput_any (nu id o t : Nat) (d : List UInt8) (w : World) (h : MayF nu id o t d.length) :
    Calls Try.prog 76 #[frm nu id o t d] w fun e w' => ∃ v, e = .returned (.tuple #[v, .int .i64 0]) ∧ w'.ownsRow w.heap.size 5 1 v (15 + d.length) (bs (frmP nu id o t d)) ∧ Below w.heap.size w w' := by
  obtain ⟨hB, hca⟩ := one_cells w (frmCs nu id o t d) 100
  have c0 := hca 0 (.int .u64 (nu : Int)) rfl
  have c1 := hca 1 (.int .u64 (id : Int)) rfl
  have c2 := hca 2 (.int .i64 (o : Int)) rfl
  have c3 := hca 3 (.int .i64 (t : Int)) rfl
  have c4 := hca 4 (.string ⟨d.toArray⟩) rfl
  clear hca
  have hdl : d.length ≤ 100 := by have := h.hl; omega
  have K := fun w => Lib.hid (fcheck_any nu id o t d w (by omega))
  rw [mayF_of h, if_pos rfl] at K
  have h1 := h.hnu
  have h2 := h.hid
  have h3 := h.ht
  have h4 := h.ho
  have HF := rowN_frm nu id o t d
  have hl0 : (rowN [1, 26, 4, nu, 4, id, 2, o, 2, t] 5).length = 13 := by have := congrArg List.length HF; rw [List.length_append, frmH_length] at this; omega
  have KR := fun A W hh => Lib.hid (row_own [1, 26, 4, nu, 4, id, 2, o, 2, t] A 10 10 W hh (by omega) (by
    intro i
    rcases Nat.lt_or_ge i 10 with hi | hi
    · rcases (by omega : i = 0 ∨ i = 1 ∨ i = 2 ∨ i = 3 ∨ i = 4 ∨ i = 5 ∨ i = 6 ∨ i = 7 ∨ i = 8 ∨ i = 9) with rfl | rfl | rfl | rfl | rfl | rfl | rfl | rfl | rfl | rfl <;> simp <;> omega
    · rw [List.getD_eq_getElem?_getD, List.getElem?_eq_none (by simpa using hi)]; decide))
  rw [show 10 / 2 = 5 from rfl] at KR
  have HP : Hid (frmH nu id o t d ++ putB 2 (crcS (frmH nu id o t d)) = frmP nu id o t d) := rfl
  have hcs := crcS_lt2 (frmH nu id o t d)
  have e1 : IntKind.u64.wrap (o : Int) = o := by rw [wrap_u64]; omega
  have e2 : IntKind.u64.wrap (t : Int) = t := by rw [wrap_u64]; omega
  have e3 : IntKind.u64.wrap ((crcS (frmH nu id o t d) : Nat) : Int) = (crcS (frmH nu id o t d) : Nat) := by rw [wrap_u64]; omega
  have hfl := frmH_length nu id o t d
  clear h h1 h2 h3 h4
  generalize hcs2 : crcS (frmH nu id o t d) = cs at *
  generalize rowN [1, 26, 4, nu, 4, id, 2, o, 2, t] 5 = r0 at *
  generalize frmP nu id o t d = fp at *
  go_enter Try.func76, Try.ntmps76
  go_wp2_with fail
  refine (K _).out.mono ?_
  rintro e w1 ⟨rfl, hb⟩
  replace hB := below_trans hB hb
  replace c0 := cell_below hb c0
  replace c1 := cell_below hb c1
  replace c2 := cell_below hb c2
  replace c3 := cell_below hb c3
  replace c4 := cell_below hb c4
  clear hb K
  have hu := cells_rd' (w := w1) (cs := #[.int .u64 1, .int .u64 26, .int .u64 4, .int .u64 (nu : Int), .int .u64 4, .int .u64 (id : Int), .int .u64 2, .int .u64 (o : Int), .int .u64 2, .int .u64 (t : Int)]) (e := 22) (n := 10) rfl (by decide)
  have hb1 := (one_cells w1 #[.int .u64 1, .int .u64 26, .int .u64 4, .int .u64 (nu : Int), .int .u64 4, .int .u64 (id : Int), .int .u64 2, .int .u64 (o : Int), .int .u64 2, .int .u64 (t : Int)] 22).1
  go_wp2_with fail
  refine (KR _ _ hu).out.mono ?_
  rintro e w2 ⟨A2, n2, cc2, rfl, ho, hb⟩
  have hn2 : n2 = 13 := by have := ho.1; rw [bs_length, hl0] at this; omega
  subst hn2
  replace ho := ownsRow_base ho (Nat.le_trans hB.size hb1.size)
  replace hB := below_trans (below_trans hB hb1) hb
  replace c4 := cell_below hb (cell_below hb1 c4)
  clear hb hb1 KR hu c0 c1 c2 c3 hl0
  go_wp2_with (first
    | (at_builtin; refine wpl_append_str rfl (.tmp 23) (.tmp 25) rfl w.heap.size _ 13 r0 rfl ho d rfl (by omega) hB.size ?_; intro v3 w3 ho3 hg3; rw [HF] at ho3; have hB3 := below_own hB ho hg3; obtain ⟨A3, c3, rfl, hr3, hbl3⟩ := Rd.of_own ho3; have KS := fun W hh => Lib.hid (short_any (frmH nu id o t d) A3 (13 + d.length) c3 W hh); rw [hcs2] at KS; clear hg3 c4)
    | (go_at_call 112; refine (KS _ hr3).out.mono ?_; rintro e w4 ⟨rfl, hb⟩; have hB4 := below_trans hB3 hb; have hr4 := hr3.below hb; clear hb)
    | fail)
  refine (put_any 2 cs (frmH nu id o t d) _ _ _ _ (by omega) hr4 (by omega)).mono ?_
  rintro e w5 ⟨v, rfl, ho5, hb⟩
  rw [show wid 2 = 2 from rfl, HP.out] at ho5
  replace ho5 := ownsRow_base ho5 hB4.size
  have hB5 := below_trans hB4 hb
  go_wp2_with fail
  go_ret2
  exact ⟨v, rfl, by rw [show 15 + d.length = 13 + d.length + 2 by omega]; exact ho5, hB5⟩
end Go.Proofs.Ytefipigdkdopcaa
