/- More of worlds. -/
import Derived.Test.YtieigjlbjiielaaDoorLib
namespace Go.Proofs.YtieigjlbjiielaaDoor
open Go.RowKit
theorem alloc_size (w : World) (o : Obj) : (w.alloc o).heap.size = w.heap.size + 1 := by
  show (w.heap.push o).size = _
  simp
theorem heap_below {w w1 : World} (h : Below w.heap.size w w1) {g : Nat} {o : Obj} (hh : w.heap[g]? = some o) : w1.heap[g]? = some o := (h.block g (heap_lt hh)).trans hh
theorem heap_belowB {B : Nat} {w w1 : World} (h : Below B w w1) {g : Nat} {o : Obj} (hB : g < B) (hh : w.heap[g]? = some o) : w1.heap[g]? = some o := (h.block g hB).trans hh
theorem wrap_u64 (x : Int) : IntKind.u64.wrap x = x % 18446744073709551616 := by
  simp [IntKind.wrap, IntKind.signed, IntKind.bits]
/-- Two blocks laid one behind the other: their cells. -/
theorem two_cells (w : World) (cs ds : Array Value) (t u : TypeId) :
    Below w.heap.size w ((w.alloc (.cells cs t)).alloc (.cells ds u)) ∧ (∀ o v, cs[o]? = some v → ((w.alloc (.cells cs t)).alloc (.cells ds u)).cell? ⟨w.heap.size, o, none⟩ = some v) ∧ (∀ o v, ds[o]? = some v → ((w.alloc (.cells cs t)).alloc (.cells ds u)).cell? ⟨w.heap.size + 1, o, none⟩ = some v) := by
  have hh0 := alloc_new w (.cells cs t (0, 0))
  have hB0 : Below w.heap.size w (w.alloc (.cells cs t)) := (Below.refl _ _).alloc (Nat.le_refl _) _
  have hh1 := alloc_new (w.alloc (.cells cs t)) (.cells ds u (0, 0))
  rw [alloc_size] at hh1
  have hb1 := (Below.refl _ (w.alloc (.cells cs t))).alloc (Nat.le_refl _) (.cells ds u)
  exact ⟨hB0.alloc hB0.size _, fun o v h => cell_below hb1 ((cell_heap (o := o) hh0).trans h), fun o v h => (cell_heap (o := o) hh1).trans h⟩
theorem three_cells (w : World) (cs ds es : Array Value) (t u v : TypeId) :
    Below w.heap.size w (((w.alloc (.cells cs t)).alloc (.cells ds u)).alloc (.cells es v)) ∧ (∀ o x, cs[o]? = some x → (((w.alloc (.cells cs t)).alloc (.cells ds u)).alloc (.cells es v)).cell? ⟨w.heap.size, o, none⟩ = some x) ∧ (∀ o x, ds[o]? = some x → (((w.alloc (.cells cs t)).alloc (.cells ds u)).alloc (.cells es v)).cell? ⟨w.heap.size + 1, o, none⟩ = some x) ∧ (((w.alloc (.cells cs t)).alloc (.cells ds u)).alloc (.cells es v)).heap[w.heap.size + 1 + 1]? = some (.cells es v (0, 0)) := by
  obtain ⟨hB, h1, h2⟩ := two_cells w cs ds t u
  have hb1 := (Below.refl _ ((w.alloc (.cells cs t)).alloc (.cells ds u))).alloc (Nat.le_refl _) (.cells es v)
  refine ⟨hB.alloc hB.size _, fun o x h => cell_below hb1 (h1 o x h), fun o x h => cell_below hb1 (h2 o x h), ?_⟩
  have := alloc_new ((w.alloc (.cells cs t)).alloc (.cells ds u)) (.cells es v (0, 0))
  rwa [alloc_size, alloc_size] at this
theorem one_cells (w : World) (cs : Array Value) (t : TypeId) :
    Below w.heap.size w (w.alloc (.cells cs t)) ∧ (∀ o v, cs[o]? = some v → (w.alloc (.cells cs t)).cell? ⟨w.heap.size, o, none⟩ = some v) :=
  ⟨(Below.refl _ _).alloc (Nat.le_refl _) _, fun o v h => (cell_heap (o := o) (alloc_new w (.cells cs t (0, 0)))).trans h⟩
theorem cells_rd' {w : World} {cs : Array Value} {e : TypeId} {n : Nat} (hn : cs.size = n) (hm : n ≤ maxLen) : Rd (w.alloc (.cells cs e)) (some ⟨w.heap.size, 0, none⟩) n n 1 cs.toList := by
  refine ⟨by simpa using hn, Nat.le_refl _, hm, fun e => (by cases e), fun ad e j u hu => ?_⟩
  cases e
  exact World.news_of_block (alloc_new w _) j u hu
/-- One byte that was just laid, read. -/
theorem rd_one {w : World} {e : TypeId} {x : Int} {b : UInt8} (h : x = (b.toNat : Int)) : RdB (w.alloc (.cells #[.int .u8 x] e)) (some ⟨w.heap.size, 0, none⟩) 1 1 [b] := by
  subst h; exact cells_rd' rfl (by decide)
/-- What is read lies in memory. -/
theorem Rd.blk {w : World} {A : Option Addr} {n c size : Nat} {cs : List Value} (h : Rd w A n c size cs) (ad : Addr) (e : A = some ad) (hp : 0 < n * size) : ad.block < w.heap.size := by
  have hl := h.len
  cases cs with
  | nil => simp at hl; omega
  | cons u r =>
    have := cell_lt (h.cell ad e 0 u rfl)
    rwa [add_block] at this
theorem gb_heap {w w' : World} {row : Option Nat} (hg : w.grownBy w' row) {g : Nat} {o : Obj} (hh : w.heap[g]? = some o) (hne : some g ≠ row) : w'.heap[g]? = some o := (hg.block g (heap_lt hh) hne).trans hh
theorem below_gbw {w w1 w2 : World} {g : Nat} (hg : w1.grownBy w2 (some g)) (hB : Below w.heap.size w w1) (hle : w.heap.size ≤ g) : Below w.heap.size w w2 := hB.trans (below_gb hg hB.size hle)
theorem below_of {B : Nat} {w w' : World} (h : Below w.heap.size w w') (hB : B ≤ w.heap.size) : Below B w w' := ⟨h.os, h.tape, h.output, h.size, fun k hk => h.block k (by omega)⟩
theorem ownsRow_base {w : World} {base base' : Nat} {e : TypeId} {size : Nat} {v : Value} {n : Nat} {xs : List Value} (h : w.ownsRow base e size v n xs) (hb : base' ≤ base) : w.ownsRow base' e size v n xs :=
  ⟨h.1, h.2.imp id fun ⟨g, cap, cur, h1, h2, h3⟩ => ⟨g, cap, cur, h1, Nat.le_trans hb h2, h3⟩⟩
/-- An operation whose guard lets it run. -/
theorem wpl_guard {P : Program} {ops : Array Oper} {Q : Exit → Act → World → Prop} {a : Act} {w : World} {rest : List Oper} {o : Oper} (hw : Region.wanted o (yielded ops a.tmps) = true) (h : wpList P ops Q ({ o with guard := none } :: rest) a w) : wpList P ops Q (o :: rest) a w := by
  unfold wpList at h ⊢
  rw [if_pos hw]
  rw [if_pos (by simp [Region.wanted])] at h
  exact h
theorem at_plus {w : World} {ad : Addr} {m : Nat} {v : Value} (h : w.cell? (ad.add (m + 1)) = some v) : w.cell? ⟨(ad.add m).block, (ad.add m).off + 1, none⟩ = some v := by
  have e : (⟨(ad.add m).block, (ad.add m).off + 1, none⟩ : Addr) = ad.add (m + 1) := by
    unfold Addr.add
    by_cases hm : m = 0 <;> simp [hm, Nat.add_assoc]
  rw [e]; exact h
end Go.Proofs.YtieigjlbjiielaaDoor
