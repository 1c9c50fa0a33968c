/- Contract of cmd.Parse. No condition but the length's bound. -/
import Derived.Test.YtefipigdkdopcaaCmd3
import Derived.Test.YtefipigdkdopcaaLines
namespace Go.Proofs.Ytefipigdkdopcaa
open Go.RowKit

theorem words_rd (xs : List UInt8) (w : World) (hN : xs.length ≤ 100000) :
    Calls Try.prog 55 #[.string ⟨xs.toArray⟩] w fun e w' => ∃ A c, e = .returned (.slice A (wordsL xs).length c) ∧ RdS w' A (wordsL xs).length c (wordsL xs) ∧ Below w.heap.size w w' :=
  (words_any xs w hN).mono (fun e w' ⟨v, he, ho, hb⟩ => by
    obtain ⟨A, c, rfl, hr, -⟩ := Rd.of_own ho
    exact ⟨A, c, he, hr, hb⟩)
theorem lines_rd (xs : List UInt8) (w : World) (hN : xs.length ≤ 1000000) :
    Calls Try.prog 62 #[.string ⟨xs.toArray⟩] w fun e w' => ∃ A c, e = .returned (.slice A (linesL xs).length c) ∧ RdS w' A (linesL xs).length c (linesL xs) ∧ Below w.heap.size w w' :=
  (lines_any xs w hN).mono (fun e w' ⟨v, he, ho, hb⟩ => by
    obtain ⟨A, c, rfl, hr, -⟩ := Rd.of_own ho
    exact ⟨A, c, he, hr, hb⟩)
theorem split_rd (xs : List UInt8) (a b : UInt8) (few : Bool) (A B : Int) (hA : A = (a.toNat : Int)) (hB' : B = (b.toNat : Int)) (w : World) (hN : xs.length ≤ 100000) :
    Calls Try.prog 61 #[.string ⟨xs.toArray⟩, .int .u8 A, .int .u8 B, .bool few] w fun e w' => ∃ A c, e = .returned (.slice A (split2 a b few xs).length c) ∧ RdS w' A (split2 a b few xs).length c (split2 a b few xs) ∧ Below w.heap.size w w' :=
  (split_any xs a b few A B hA hB' w hN).mono (fun e w' ⟨v, he, ho, hb⟩ => by
    obtain ⟨A, c, rfl, hr, -⟩ := Rd.of_own ho
    exact ⟨A, c, he, hr, hb⟩)
theorem spAt_outlen (a b : UInt8) (few : Bool) (s : List UInt8) : ∀ k, k ≤ s.length → (spAt a b few s k).out.length ≤ k := fun k h => (spAt_part a b few s k h).choose_spec.2.2
theorem split2_length (a b : UInt8) (few : Bool) (s : List UInt8) : (split2 a b few s).length ≤ s.length + 1 := by
  have := spAt_outlen a b few s s.length (Nat.le_refl _)
  unfold split2 spEnd
  split
  · rw [List.length_append, List.length_singleton]; omega
  · omega

abbrev three (w : World) (g : Nat) (a b c : Value) : World := ((w.setCell ⟨g, 0, none⟩ a).setCell ⟨g, 1, none⟩ b).setCell ⟨g, 2, none⟩ c
theorem three_heap {w : World} {g : Nat} {a0 b0 c0 : Value} {t : TypeId} (h : w.heap[g]? = some (.cells #[a0, b0, c0] t (0, 0))) (a b c : Value) : (three w g a b c).heap[g]? = some (.cells #[a, b, c] t (0, 0)) := by
  have h1 := set_heap (o := 0) h a
  have h2 := set_heap (o := 1) h1 b
  exact set_heap (o := 2) h2 c
theorem three_gb (w : World) (g : Nat) (a b c : Value) : w.grownBy (three w g a b c) (some g) :=
  ((gb_set _ _ _ _).trans (gb_set _ _ _ _)).trans (gb_set _ _ _ _)
theorem three_cells' {w : World} {g : Nat} {a b c : Value} {t : TypeId} (h : w.heap[g]? = some (.cells #[a, b, c] t (0, 0))) :
    (w.cell? ⟨g, 0, none⟩ = some a ∧ w.cell? ⟨g, 1, none⟩ = some b ∧ w.cell? ⟨g, 2, none⟩ = some c) ∧ (w.frozen? ⟨g, 0, none⟩ = false ∧ w.frozen? ⟨g, 1, none⟩ = false ∧ w.frozen? ⟨g, 2, none⟩ = false) :=
  ⟨⟨cell_heap h, cell_heap h, cell_heap h⟩, frozen_heap h, frozen_heap h, frozen_heap h⟩

/-- What a text is as a command, and the error. -/
structure Cm where
  k : Nat
  a : Nat
  b : Nat
  e : Nat
def parseC (s : List UInt8) : Cm :=
  match wordsL s with
  | [] => ⟨0, 0, 0, 17⟩
  | h :: r => if kindK h = 0 ∨ r.length ≠ manyK (kindK h : Nat) then ⟨0, 0, 0, 17⟩
    else if textK (kindK h : Nat) (numAt (h :: r) 1) (numAt (h :: r) 2) = s then ⟨kindK h, numAt (h :: r) 1, numAt (h :: r) 2, 0⟩ else ⟨0, 0, 0, 6⟩
theorem check_parsed (h : List UInt8) (r : List (List UInt8)) (hk : kindK h ≠ 0) (hl : r.length = manyK (kindK h : Nat)) : cmdCheck (kindK h : Nat) (numAt (h :: r) 1) (numAt (h :: r) 2) = 0 := by
  have h1 := numAt_le (h :: r) 1
  have h2 := numAt_le (h :: r) 2
  have h3 := kindK_le h
  unfold cmdCheck
  rw [if_neg (fun e => (wordK_nil _).1 e (by omega)), if_neg]
  rintro (g | g | ⟨g, g2⟩ | ⟨g, g2⟩)
  · omega
  · omega
  · apply g2; unfold numAt; rw [if_neg (by rw [List.length_cons]; omega)]
  · apply g2; unfold numAt; rw [if_neg (by rw [List.length_cons]; omega)]
end Go.Proofs.Ytefipigdkdopcaa
