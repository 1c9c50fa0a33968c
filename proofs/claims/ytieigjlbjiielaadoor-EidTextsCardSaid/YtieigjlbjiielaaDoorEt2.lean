/- Contract of item's lay for a text of plain bytes; what is laid for a name's value. It asks the library's two tables. -/
import Derived.Test.YtieigjlbjiielaaDoorEt1
import Derived.Test.YtieigjlbjiielaaDoorItem3
namespace Go.Proofs.YtieigjlbjiielaaDoor
open Go.RowKit

theorem validGo_low : ∀ (n : Nat) (l : List UInt8), (∀ c ∈ l, c.toNat < 128) → Lib.validGoD n l = true := by
  intro n
  induction n with
  | zero => intro l _; rfl
  | succ n ih =>
    intro l hl
    unfold Lib.validGoD
    cases l with
    | nil => rw [if_pos rfl]
    | cons a r =>
      have ha : at8 (a :: r) 0 < 128 := hl a (by simp)
      have e : Lib.decodeL (a :: r) = (at8 (a :: r) 0, 1) := decL_low ha
      rw [if_neg (by simp), e, if_neg (by simp; omega)]
      exact ih r (fun c hc => hl c (by simp [hc]))
theorem valid_low (l : List UInt8) (h : ∀ c ∈ l, c.toNat < 128) : Lib.validD l = true := validGo_low _ _ h
theorem tabs_kept {w w' : World} {g : Nat} (hT : Lib.Utf8Tabs 0 1 w) (hg : w.grownBy w' (some g)) (h2 : 2 ≤ g) : Lib.Utf8Tabs 0 1 w' :=
  ⟨fun c hc => hg.cell (hT.1 c hc) (by simp; omega), fun i hi => ⟨hg.cell (hT.2 i hi).1 (by simp; omega), hg.cell (hT.2 i hi).2 (by simp; omega)⟩⟩

set_option maxRecDepth 100000 in
theorem lay_text (w0 : World) (g : Nat) (s : List UInt8) (hv : ∀ c ∈ s, c.toNat < 128) (hs : s.length ≤ 1000) (hT : Lib.Utf8Tabs 0 1 w0) (h2 : 2 ≤ g) : LayAt w0 g (.iface 9 (.string ⟨s.toArray⟩)) (headB 3 s.length ++ s) 1 0 := by
  intro W m d hw hg hk hd
  have KO := Lib.hid (cone_any g m d W hg (by omega) (by omega))
  have KP := fun W => Lib.hid (cput_any 3 s.length s W (by decide) (by omega) (by omega))
  have KV : ∀ W', W.grownBy W' (some g) → Hid (Calls Tryd.prog 52 #[.string ⟨s.toArray⟩] W' fun e w' => e = .returned (.bool true) ∧ Below W'.heap.size W' w') := fun W' hb => Lib.hid ((Tryd.utf8_ValidString ⟨s.toArray⟩ W' (by rw [it_size]; omega) (tabs_kept hT (hw.trans hb) h2)).mono (fun e w' h => ⟨by rw [h.1]; exact congrArg (fun b => Ending.returned (.bool b)) (valid_low s hv), h.2⟩))
  have kt := fun x w => it_ta (P := Tryd.prog) Tryd.underlying9 rfl (.string ⟨s.toArray⟩) x w
  have k1 : ∀ x w, (Instr.typeAssert (.iface 9 (.string ⟨s.toArray⟩)) x 22 true).run Tryd.prog w = .ok (.tuple #[.int .u64 0, .bool false]) w := fun x w => by simp [Instr.typeAssert, run_underlying Tryd.underlying22]
  have k2 : ∀ x w, (Instr.typeAssert (.iface 9 (.string ⟨s.toArray⟩)) x 64 true).run Tryd.prog w = .ok (.tuple #[.int .u64 0, .bool false]) w := fun x w => by simp [Instr.typeAssert, run_underlying Tryd.underlying64]
  have k3 : ∀ x w, (Instr.typeAssert (.iface 9 (.string ⟨s.toArray⟩)) x 61 true).run Tryd.prog w = .ok (.tuple #[.slice none 0 0, .bool false]) w := fun x w => by simp [Instr.typeAssert, run_underlying Tryd.underlying61]
  have hlt := heap_lt hg
  clear hg hv hT hw
  obtain ⟨h4, HH4⟩ : ∃ x, x = headB 3 s.length ++ s := ⟨_, rfl⟩
  simp only [← HH4] at KP ⊢
  clear HH4
  go_enter Tryd.func42, Tryd.ntmps42
  go_wp2_with fail
  refine KO.out.mono ?_
  rintro e w1 ⟨rfl, hg1, hs1, hgb⟩
  clear KO
  go_wp2_with fail
  refine (KV _ hgb).out.mono ?_
  rintro e w2 ⟨rfl, hb⟩
  have hg2 := heap_below hb hg1
  have hgw := hgb.trans (gb_below hb (some g))
  have hs2 : W.heap.size ≤ w2.heap.size := by have := hb.size; omega
  clear KV hb hg1 hgb
  go_wp2_with fail
  refine (KP _).out.mono ?_
  rintro e w3 ⟨v, rfl, ho, hb⟩
  go_wp2_with fail
  go_ret2
  exact ⟨_, rfl, ownsRow_base ho hs2, heap_below hb hg2, hgw.trans (gb_below hb _)⟩
end Go.Proofs.YtieigjlbjiielaaDoor
