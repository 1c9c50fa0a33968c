/- Contracts of item's counter, put, and of lay for a number. Asked: the counter's cell, room in the count and the depth. -/
import Derived.Test.YtieigjlbjiielaaDoorLib2
import Derived.Test.YtieigjlbjiielaaDoorHead2D
import Derived.Lib.AppendStr
import Derived.Deep.DeepCutAuto
import Derived.OwnWalk
namespace Go.Proofs.YtieigjlbjiielaaDoor
open Go.RowKit

theorem it_size (xs : List UInt8) : (⟨xs.toArray⟩ : ByteArray).size = xs.length := by simp [ByteArray.size]
section
variable {P : Program}
/-- 'append(b, s...)', s a text. -/
theorem wpl_append_st {w : World} {ops : Array Oper} {rest : List Oper} {o : Oper} {a : Act} {Q : Exit → Act → World → Prop} (hgd : o.guard = none) (sl x : Operand) (t u : TypeId)
    (ho : o.op = .call { callee := .builtin .append, args := #[sl, x], argTypes := #[t, u] })
    (base : Nat) (e : TypeId) (ht : P.underlying t = some (.slice e)) (hu : P.underlying u = some .string) (hinfo : (P.info? e).map (fun i => (i.zero, i.size, i.bytes)) = some (some (.int .u8 0), 1, 1))
    (v : Value) (ys : List UInt8) (hs : a.eval sl = v) (hown : w.ownsRow base e 1 v ys.length (bs ys)) (zs : List UInt8) (hx : a.eval x = .string ⟨zs.toArray⟩)
    (h63 : ys.length + zs.length ≤ 140737488355328) (hbase : base ≤ w.heap.size)
    (h : ∀ v' w', w'.ownsRow base e 1 v' (ys ++ zs).length (bs (ys ++ zs)) → w.grownBy w' v.ownBlock → wpList P ops Q rest (a.put o.dst v') w') : wpList P ops Q (o :: rest) a w := by
  obtain ⟨i, hi, hz0, hz1, hz2⟩ := info_parts hinfo
  refine Lib.wpList_append_own_string w hgd sl x t u ho base e i ht hu hi hz0 hz1 hz2 v ys.length (bs ys) hs hown ⟨zs.toArray⟩ hx (by rw [it_size]; unfold maxLen; omega) (by rw [it_size]; exact h63) hbase ?_
  intro v' w' ho' hg _
  refine h v' w' ?_ hg
  rw [it_size] at ho'
  rw [bs_append, List.length_append]
  exact ho'
end
/-- The counter's cell. -/
abbrev cntO (m : Nat) : Obj := .cells #[.int .i64 (m : Int)] 81 (0, 0)

set_option maxRecDepth 100000 in
theorem cone_any (g m d : Nat) (W : World) (hg : W.heap[g]? = some (cntO m)) (hm : m < 4096) (hd : d ≤ 16) :
    Calls Tryd.prog 49 #[.pointer (some ⟨g, 0, none⟩), .int .i64 d] W fun e w' => e = .returned (.int .i64 0) ∧ w'.heap[g]? = some (cntO (m + 1)) ∧ w'.heap.size = W.heap.size ∧ W.grownBy w' (some g) := by
  have c0 : W.cell? ⟨g, 0, none⟩ = some (.int .i64 (m : Int)) := cell_heap (o := 0) hg
  have f0 := frozen_heap (o := 0) hg
  have hd' : ¬ (16 < (d : Int)) := by omega
  have hm' : ¬ (4096 < (m : Int) + 1) := by omega
  go_enter Tryd.func49, Tryd.ntmps49
  go_wp2_with fail
  go_ret
  refine ⟨rfl, ?_, by simp [World.setCell], gb_set W g 0 _⟩
  have := set_heap (o := 0) hg (.int .i64 ((m : Int) + 1))
  simpa [cntO] using this

set_option maxRecDepth 100000 in
theorem cput_any (mj n : Nat) (s : List UInt8) (w : World) (hm : mj < 8) (hn : n < 9223372036854775808) (hs : s.length ≤ 100000) :
    Calls Tryd.prog 51 #[.int .i64 mj, .int .i64 n, .string ⟨s.toArray⟩] w fun e w' => ∃ v, e = .returned v ∧ w'.ownsRow w.heap.size 5 1 v (headB mj n ++ s).length (bs (headB mj n ++ s)) ∧ Below w.heap.size w w' := by
  obtain ⟨hd, hh⟩ : ∃ x, x = headB mj n := ⟨_, rfl⟩
  have KH : ∀ W, Hid (Calls Tryd.prog 50 #[.int .i64 mj, .int .u64 n] W fun e w' => ∃ v, e = .returned (.tuple #[v, .int .i64 0]) ∧ w'.ownsRow W.heap.size 5 1 v hd.length (bs hd) ∧ Below W.heap.size W w') := fun W => Lib.hid ((hput_any mj n W hm (by omega)).mono (fun e w' h => by
    obtain ⟨v, h1, h2, h3⟩ := h
    rw [← headB_length mj n, ← hh] at h2
    exact ⟨v, h1, h2, h3⟩))
  have hl : hd.length = 1 + wideN n := by rw [hh]; exact headB_length mj n
  have HH := Lib.hid hh
  clear hh
  have hwl := wideN_le n
  have hu8 : (Tryd.prog.info? 5).map (fun i => (i.zero, i.size, i.bytes)) = some (some (.int .u8 0), 1, 1) := by kernel_rfl
  go_enter Tryd.func51, Tryd.ntmps51
  go_wp2_with fail
  refine (KH _).out.mono ?_
  rintro e w1 ⟨v, rfl, ho, hb⟩
  clear KH
  go_wp2_with (first
    | (at_builtin; refine wpl_append_st rfl (.tmp 16) (.tmp 17) 61 9 rfl w.heap.size 5 Tryd.underlying61 Tryd.underlying9 hu8 _ hd rfl ho s rfl (by omega) hb.size ?_; intro v2 w2 ho2 hg2; have hB2 := below_own hb ho hg2; clear hg2))
  go_ret
  exact ⟨_, rfl, by rw [← HH.out]; exact ho2, hB2⟩

theorem it_ta {P : Program} {t : TypeId} {d : TypeDesc} (hu : P.underlying t = some d) (hd : (match d with | .interface _ => true | _ => false) = false) (v : Value) (xT : TypeId) (w : World) :
    (Instr.typeAssert (.iface t v) xT t true).run P w = .ok (.tuple #[v, .bool true]) w := by
  cases d <;> simp_all [Instr.typeAssert, run_underlying hu]

/-- How what stands in a value is laid, beside a counter at g: bs its bytes, k how many values, dp how deep. -/
def LayAt (w0 : World) (g : Nat) (u : Value) (xs : List UInt8) (k dp : Nat) : Prop := ∀ (W : World) (m d : Nat), w0.grownBy W (some g) → W.heap[g]? = some (cntO m) → m + k ≤ 4096 → d + dp ≤ 16 →
  Calls Tryd.prog 42 #[.pointer (some ⟨g, 0, none⟩), u, .int .i64 (d : Int)] W fun e w' => ∃ v, e = .returned (.tuple #[v, .int .i64 0]) ∧ w'.ownsRow W.heap.size 5 1 v xs.length (bs xs) ∧ w'.heap[g]? = some (cntO (m + k)) ∧ W.grownBy w' (some g)

set_option maxRecDepth 100000 in
theorem lay_num (w0 : World) (g n : Nat) (hn : n < 18446744073709551616) : LayAt w0 g (.iface 22 (.int .u64 (n : Int))) (headB 0 n) 1 0 := by
  intro W m d hw hg hk hd
  have KO := Lib.hid (cone_any g m d W hg (by omega) (by omega))
  have KH := fun W => Lib.hid (hput_any 0 n W (by decide) hn)
  have hl := headB_length 0 n
  have kt := fun x w => it_ta (P := Tryd.prog) Tryd.underlying22 rfl (.int .u64 n) x w
  have hlt := heap_lt hg
  clear hg
  go_enter Tryd.func42, Tryd.ntmps42
  go_wp2_with fail
  refine KO.out.mono ?_
  rintro e w1 ⟨rfl, hg1, hs1, hgb⟩
  clear KO
  go_wp2_with fail
  refine (KH _).out.mono ?_
  rintro e w2 ⟨v, rfl, ho, hb⟩
  go_wp2_with fail
  go_ret2
  rw [hs1, ← hl] at ho
  exact ⟨_, rfl, ho, heap_below hb hg1, hgb.trans (gb_below hb _)⟩
end Go.Proofs.YtieigjlbjiielaaDoor
