/- Contracts of item.Put and item.Same over what can be laid. Asked: how it is laid. -/
import Derived.Test.YtieigjlbjiielaaDoorItem2
namespace Go.Proofs.YtieigjlbjiielaaDoor
open Go.RowKit

/-- item.Put lays these bytes. -/
def PutOk (w : World) (u : Value) (xs : List UInt8) : Prop := ∀ W, Below w.heap.size w W → Calls Tryd.prog 29 #[u] W fun e w' => ∃ v, e = .returned (.tuple #[v, .int .i64 0]) ∧ w'.ownsRow W.heap.size 5 1 v xs.length (bs xs) ∧ Below W.heap.size W w'

set_option maxRecDepth 100000 in
theorem iput_any (w : World) (u : Value) (xs : List UInt8) (k dp : Nat) (hk : k ≤ 4096) (hd : dp ≤ 16) (hL : ∀ W, Below w.heap.size w W → LayAt (W.alloc (cntO 0)) W.heap.size u xs k dp) : PutOk w u xs := by
  intro W hW
  have hg0 := alloc_new W (cntO 0)
  have hB := (one_cells W #[.int .i64 0] 81).1
  have KL := Lib.hid (hL W hW (W.alloc (cntO 0)) 0 0 (World.grownBy.refl _ _) hg0 (by omega) (by omega))
  clear hg0 hL
  have hsz : W.heap.size ≤ (W.alloc (cntO 0)).heap.size := hB.size
  go_enter Tryd.func29, Tryd.ntmps29
  go_wp2_with fail
  refine KL.out.mono ?_
  rintro e w1 ⟨v, rfl, ho, -, hgb⟩
  go_wp2_with fail
  go_ret2
  exact ⟨_, rfl, ownsRow_base ho hsz, below_gbw hgb hB (Nat.le_refl _)⟩

set_option maxRecDepth 100000 in
theorem isame_any (w : World) (a b : Value) (xs : List UInt8) (ha : PutOk w a xs) (hb : PutOk w b xs) : Calls Tryd.prog 9 #[a, b] w fun e w' => e = .returned (.bool true) ∧ Below w.heap.size w w' := by
  have KA := Lib.hid (ha w (Below.refl _ _))
  have KB := fun W h => Lib.hid (hb W h)
  clear ha hb
  go_enter Tryd.func9, Tryd.ntmps9
  go_wp2_with fail
  refine KA.out.mono ?_
  rintro e w1 ⟨v1, rfl, ho1, hb1⟩
  clear KA
  go_wp2_with fail
  refine (KB _ hb1).out.mono ?_
  rintro e w2 ⟨v2, rfl, ho2, hb2⟩
  clear KB
  replace ho1 := own_below ho1 hb2
  obtain ⟨A1, c1, rfl, hr1, -⟩ := Rd.of_own ho1
  obtain ⟨A2, c2, rfl, hr2, -⟩ := Rd.of_own ho2
  have s1 := run_string_of (P := Tryd.prog) 61 9 5 Tryd.underlying61 Tryd.underlying5 Tryd.underlying9 hr1
  have s2 := run_string_of (P := Tryd.prog) 61 9 5 Tryd.underlying61 Tryd.underlying5 Tryd.underlying9 hr2
  have hB := below_trans hb1 hb2
  clear ho1 ho2 hr1 hr2 hb1 hb2
  go_wp2_with fail
  go_ret
  exact ⟨rfl, hB⟩

theorem grown_alloc {w0 : World} {u : Value} {xs : List UInt8} {k dp g : Nat} (h : LayAt w0 g u xs k dp) {w1 : World} (hw : w0.grownBy w1 (some g)) : LayAt w1 g u xs k dp :=
  fun W m d hg => h W m d (hw.trans hg)
/-- A list of two numbers. -/
theorem putok_two (w : World) (A : Option Addr) (c a b : Nat) (ha : a < 18446744073709551616) (hb : b < 18446744073709551616) (hx : Rd w A 2 c 1 [.iface 22 (.int .u64 (a : Int)), .iface 22 (.int .u64 (b : Int))]) :
    PutOk w (.iface 36 (.slice A 2 c)) (headB 4 2 ++ (headB 0 a ++ headB 0 b)) := by
  refine iput_any w _ _ (1 + 2) (0 + 1) (by decide) (by decide) (fun W hW => ?_)
  have hl1 := headB_length 0 a
  have hl2 := headB_length 0 b
  have w1 := wideN_le a
  have w2 := wideN_le b
  have h := lay_list (W.alloc (cntO 0)) W.heap.size A 2 c [(.iface 22 (.int .u64 (a : Int)), headB 0 a, 1), (.iface 22 (.int .u64 (b : Int)), headB 0 b, 1)] ((hx.below hW).below (one_cells W #[.int .i64 0] 81).1)
    (fun ad e => by
      have := (hx.below hW).blk ad e (by decide)
      omega) (by decide) (by simp) (by simp; omega) 0 (by
        intro x hm
        simp only [List.mem_cons, List.not_mem_nil, or_false] at hm
        rcases hm with rfl | rfl
        · exact lay_num _ _ a ha
        · exact lay_num _ _ b hb)
  have e1 : layB [((.iface 22 (.int .u64 (a : Int)) : Value), headB 0 a, 1), (.iface 22 (.int .u64 (b : Int)), headB 0 b, 1)] 2 = headB 0 a ++ headB 0 b := by simp [layB]
  rw [e1] at h
  exact h
end Go.Proofs.YtieigjlbjiielaaDoor
