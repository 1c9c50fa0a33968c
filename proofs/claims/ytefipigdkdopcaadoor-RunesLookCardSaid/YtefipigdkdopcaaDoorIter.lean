/- A range over a text, the iterator the call's first block. No condition. -/
import Derived.Test.YtefipigdkdopcaaDoorWords2
namespace Go.Proofs.YtefipigdkdopcaaDoor
open Go.RowKit

/-- Where a range over a text stands; 'B': the iterator's block. -/
structure ItSt (B : Nat) (xs : List UInt8) (pos : Nat) (wr : World) : Prop where
  it : wr.heap[B]? = some (.stringIter ⟨xs.toArray⟩ pos)
  sz : B + 1 ≤ wr.heap.size
theorem ItSt.start (w : World) (xs : List UInt8) : ItSt w.heap.size xs 0 (w.iter ⟨xs.toArray⟩ 0) ∧ Below w.heap.size w (w.iter ⟨xs.toArray⟩ 0) :=
  ⟨⟨World.iter_heap w _ 0, by unfold World.iter; rw [alloc_size]; omega⟩, (Below.refl _ _).alloc (Nat.le_refl _) _⟩
theorem ItSt.pos {B : Nat} {xs : List UInt8} {pos : Nat} {wr : World} (h : ItSt B xs pos wr) : wr.iterPos B = pos := by
  simp only [World.iterPos, h.it]
theorem ItSt.next {B : Nat} {xs : List UInt8} {pos : Nat} {wr : World} (h : ItSt B xs pos wr) (pos' : Nat) : ItSt B xs pos' (wr.iterAt B ⟨xs.toArray⟩ pos') :=
  ⟨Lib.iterAt_heap wr B _ pos pos' h.it, by rw [Lib.iterAt_size]; exact h.sz⟩
theorem below_iter {A B : Nat} {w wr : World} (h : Below A w wr) (hB : A ≤ B) (xs : List UInt8) (pos : Nat) : Below A w (wr.iterAt B ⟨xs.toArray⟩ pos) := Lib.below_iterAt h hB _ _
theorem ItSt.below {B : Nat} {xs : List UInt8} {pos : Nat} {wr w2 : World} (h : ItSt B xs pos wr) (hb : Below wr.heap.size wr w2) : ItSt B xs pos w2 :=
  ⟨heap_below hb h.it, Nat.le_trans h.sz hb.size⟩
theorem ItSt.grown {B : Nat} {xs : List UInt8} {pos : Nat} {wr w2 : World} (h : ItSt B xs pos wr) {base e size n : Nat} {v : Value} {cs : List Value} (hown : wr.ownsRow base e size v n cs) (hb : B < base) (hg : wr.grownBy w2 v.ownBlock) : ItSt B xs pos w2 :=
  ⟨gb_heap hg h.it (fun e => by have := (hown.lt _ e.symm).1; omega), Nat.le_trans h.sz (World.grownBy.size hg)⟩
theorem ItSt.own {B : Nat} {xs : List UInt8} {wr : World} {base e size n : Nat} {v : Value} {cs : List Value} (hown : wr.ownsRow base e size v n cs) (hb : B < base) (pos' : Nat) : (wr.iterAt B ⟨xs.toArray⟩ pos').ownsRow base e size v n cs :=
  hown.kept (gb_iterAt wr B ⟨xs.toArray⟩ pos') (.inr (fun e => by have := (hown.lt _ e).1; omega))
theorem ItSt.run {B : Nat} {xs : List UInt8} {pos : Nat} {wr : World} (h : ItSt B xs pos wr) (hp : pos < xs.length) (ty : TypeId) :
    (Instr.next (.pointer (some ⟨B, 0, none⟩)) true ty).run Tryd.prog wr = .ok (.tuple #[.bool true, .int .i64 pos, .int .i32 (runeAt xs pos : Nat)]) (wr.iterAt B ⟨xs.toArray⟩ (pos + widAt xs pos)) := by
  have := Lib.run_next_any_at (P := Tryd.prog) wr B ⟨xs.toArray⟩ pos ty h.it (by rw [size_list]; exact hp)
  rw [show Utf8.decode ⟨xs.toArray⟩ pos = (runeAt xs pos, widAt xs pos) from decode_drop xs pos (by omega)] at this
  exact this
theorem ItSt.stop {B : Nat} {xs : List UInt8} {pos : Nat} {wr : World} (h : ItSt B xs pos wr) (hp : ¬ pos < xs.length) (ty : TypeId) :
    (Instr.next (.pointer (some ⟨B, 0, none⟩)) true ty).run Tryd.prog wr = .ok (.tuple #[.bool false]) wr :=
  Lib.run_next_end_at (P := Tryd.prog) wr B ⟨xs.toArray⟩ pos ty h.it (by rw [size_list]; exact hp)
end Go.Proofs.YtefipigdkdopcaaDoor
