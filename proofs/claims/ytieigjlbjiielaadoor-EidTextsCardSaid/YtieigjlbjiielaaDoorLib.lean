/- Lemmas of this seat's own: what a slice reads as, appending from any source, slicing, conversions. No condition. -/
import Derived.Test.YtieigjlbjiielaaDoorProg
import Derived.WalkKit
import Derived.WalkSpells
import Derived.WalkLawsBesides
import Derived.Laws.BytesArg
import Derived.Lib.ConvBytes
import Derived.Lib.SlBytesConst
import Derived.Lib.Hide
import Derived.Laws.AppendOwnNone
import Derived.Deep.AppendLies
import Derived.OpenShut
namespace Go.Proofs.YtieigjlbjiielaaDoor
open Go.RowKit

theorem below_then {B : Nat} {w w1 w2 : World} (h : Below B w w1) (k : Below w1.heap.size w1 w2) (hB : B ≤ w1.heap.size) : Below B w w2 :=
  h.trans (k.mono hB)

theorem below_trans {w w1 w2 : World} (h : Below w.heap.size w w1) (k : Below w1.heap.size w1 w2) : Below w.heap.size w w2 :=
  h.trans (k.mono h.size)

theorem below_drewN {B : Nat} {a w : World} (h : Below B a w) (n : Nat) : Below B a (w.drewN n) := ⟨h.os, h.tape, h.output, h.size, h.block⟩

theorem cell_lt {w : World} {a : Addr} {v : Value} (h : w.cell? a = some v) : a.block < w.heap.size := World.block_lt_of_cell? w a h

theorem cell_below {w w1 : World} (h : Below w.heap.size w w1) {a : Addr} {v : Value} (hc : w.cell? a = some v) : w1.cell? a = some v := (h.cell (cell_lt hc)).trans hc

theorem cell_belowB {B : Nat} {w w1 : World} (h : Below B w w1) {a : Addr} {v : Value} (hB : a.block < B) (hc : w.cell? a = some v) : w1.cell? a = some v := (h.cell hB).trans hc

theorem le_dec {a b : Nat} (h : ¬ a < b) : decide ((a : Int) < (b : Int)) = false := by simpa using h
theorem ret_int {k : IntKind} {a b : Int} (h : a = b) : Ending.returned (.int k a) = .returned (.int k b) := by rw [h]
theorem ret_bool {a b : Bool} (h : a = b) : Ending.returned (.bool a) = .returned (.bool b) := by rw [h]

/-- A slice's n elements of 'size' cells each read as cs. -/
structure Rd (w : World) (A : Option Addr) (n c size : Nat) (cs : List Value) : Prop where
  len : cs.length = n * size
  nc : n ≤ c
  cm : c ≤ maxLen
  nil : A = none → n = 0 ∧ c = 0
  cell : ∀ ad, A = some ad → ∀ j u, cs[j]? = some u → w.cell? (ad.add j) = some u

theorem add_block (a : Addr) (n : Nat) : (a.add n).block = a.block := by unfold Addr.add; split <;> rfl
theorem add_plain0 (g j : Nat) : (⟨g, 0, none⟩ : Addr).add j = ⟨g, j, none⟩ := by unfold Addr.add; split <;> simp_all
theorem add_add (a : Addr) (m n : Nat) : (a.add m).add n = a.add (m + n) := by
  unfold Addr.add
  by_cases hm : m = 0 <;> by_cases hn : n = 0 <;> simp [hm, hn, Nat.add_assoc]

theorem Rd.below {w w' : World} {A : Option Addr} {n c size : Nat} {cs : List Value} (h : Rd w A n c size cs) (hb : Below w.heap.size w w') : Rd w' A n c size cs :=
  ⟨h.len, h.nc, h.cm, h.nil, fun ad e j u hu => cell_below hb (h.cell ad e j u hu)⟩

theorem Rd.kept {w w' : World} {A : Option Addr} {n c size : Nat} {cs : List Value} (h : Rd w A n c size cs) {row : Option Nat} (hg : w.grownBy w' row) (hne : ∀ ad, A = some ad → some ad.block ≠ row) : Rd w' A n c size cs :=
  ⟨h.len, h.nc, h.cm, h.nil, fun ad e j u hu => hg.cell (h.cell ad e j u hu) (by rw [add_block]; exact hne ad e)⟩

theorem Rd.belowB {B : Nat} {w w' : World} {A : Option Addr} {n c size : Nat} {cs : List Value} (h : Rd w A n c size cs) (hb : Below B w w') (hB : ∀ ad, A = some ad → ad.block < B) : Rd w' A n c size cs :=
  ⟨h.len, h.nc, h.cm, h.nil, fun ad e j u hu => cell_belowB hb (by rw [add_block]; exact hB ad e) (h.cell ad e j u hu)⟩

theorem Rd.keptG {w0 w w' : World} {A : Option Addr} {n c size g : Nat} {cs : List Value} (h0 : Rd w0 A n c size cs) (h : Rd w A n c size cs) (hg : w.grownBy w' (some g)) (hgw : w0.heap.size ≤ g) : Rd w' A n c size cs :=
  ⟨h.len, h.nc, h.cm, h.nil, fun ad e j u hu => hg.cell (h.cell ad e j u hu) (by
    have := cell_lt (h0.cell ad e j u hu)
    simp; omega)⟩

theorem Rd.alloc {w : World} {A : Option Addr} {n c size : Nat} {cs : List Value} (h : Rd w A n c size cs) (o : Obj) : Rd (w.alloc o) A n c size cs := h.below ((Below.refl _ _).alloc (Nat.le_refl _) _)

theorem Rd.empty (w : World) (size : Nat) : Rd w Option.none 0 0 size [] := ⟨by simp, Nat.le_refl _, by decide, fun _ => ⟨rfl, rfl⟩, fun _ e => by cases e⟩

theorem Rd.some_of_pos {w : World} {A : Option Addr} {n c size : Nat} {cs : List Value} (h : Rd w A n c size cs) (hp : 0 < n) : ∃ ad, A = some ad := by
  cases A with
  | none => have := (h.nil rfl).1; omega
  | some ad => exact ⟨ad, rfl⟩

theorem Rd.of_own {w : World} {base e size : Nat} {v : Value} {n : Nat} {xs : List Value} (h : w.ownsRow base e size v n xs) :
    ∃ A c, v = .slice A n c ∧ Rd w A n c size xs ∧ (∀ ad, A = some ad → base ≤ ad.block) := by
  rcases h.2 with ⟨rfl, rfl⟩ | ⟨g, cap, cur, rfl, hb, hg, hnc, hcm, hcs, htake⟩
  · refine ⟨_, _, rfl, ⟨h.1, Nat.le_refl _, by decide, fun _ => ⟨rfl, rfl⟩, fun _ e => by cases e⟩, fun _ e => by cases e⟩
  · refine ⟨_, _, rfl, ⟨h.1, hnc, hcm, fun e => (by cases e), fun ad e j u hu => ?_⟩, fun ad e => ?_⟩
    · cases e
      exact h.cells (g := g) rfl j u hu
    · cases e
      exact hb

theorem Rd.sliced {w : World} {A : Option Addr} {n c size : Nat} {cs : List Value} (h : Rd w A n c size cs) (lo hi : Nat) (h1 : lo ≤ hi) (h2 : hi ≤ n) :
    Rd w (if c = lo then A else A.map (·.add (lo * size))) (hi - lo) (c - lo) size ((cs.drop (lo * size)).take ((hi - lo) * size)) := by
  have hnc := h.nc
  refine ⟨?_, by omega, by have := h.cm; omega, fun e => ?_, fun ad e j u hu => ?_⟩
  · rw [List.length_take, List.length_drop, h.len, Nat.min_eq_left]
    rw [← Nat.sub_mul]
    exact Nat.mul_le_mul_right _ (by omega)
  · by_cases hc : c = lo
    · omega
    · rw [if_neg hc] at e
      cases A with
      | none => have := h.nil rfl; omega
      | some ad => simp at e
  · by_cases hc : c = lo
    · have hz : hi - lo = 0 := by omega
      rw [hz] at hu
      simp at hu
    · rw [if_neg hc] at e
      cases A with
      | none => simp at e
      | some a0 =>
        simp at e
        subst e
        rw [add_add]
        refine h.cell a0 rfl (lo * size + j) u ?_
        rw [List.getElem?_take] at hu
        split at hu
        · rw [List.getElem?_drop] at hu
          exact hu
        · cases hu

theorem below_own {w W w1 : World} {e size n : Nat} {v : Value} {xs : List Value} (hB : Below w.heap.size w W) (hown : W.ownsRow w.heap.size e size v n xs) (hg : W.grownBy w1 v.ownBlock) : Below w.heap.size w w1 :=
  hB.grown hg hB.size fun k hk => (hown.lt k hk).1
theorem own_below {w w1 : World} {base e size n : Nat} {v : Value} {xs : List Value} (hown : w.ownsRow base e size v n xs) (hb : Below w.heap.size w w1) : w1.ownsRow base e size v n xs :=
  hown.kept (row := none) ⟨hb.os, hb.tape, hb.output, hb.size, fun k hk _ => hb.block k hk⟩ (by cases v.ownBlock <;> simp)
theorem own_empty (w : World) (e size : Nat) : (w.alloc (.cells #[] e)).ownsRow w.heap.size e size (.slice (some ⟨w.heap.size, 0, none⟩) 0 0) 0 [] :=
  World.ownsRow_lit w #[] 0 (Nat.le_refl _) (by decide) (by simp)

theorem gb_below {w w' : World} (h : Below w.heap.size w w') (row : Option Nat) : w.grownBy w' row := ⟨h.os, h.tape, h.output, h.size, fun k hk _ => h.block k hk⟩
theorem below_gb {B : Nat} {w w' : World} {g : Nat} (h : w.grownBy w' (some g)) (hB : B ≤ w.heap.size) (hg : B ≤ g) : Below B w w' :=
  ⟨h.os, h.tape, h.output, h.size, fun k hk => h.block k (by omega) (by simp; omega)⟩
theorem gb_drew (w : World) (row : Option Nat) : w.grownBy w.drew row := ⟨rfl, rfl, rfl, Nat.le_refl _, fun _ _ _ => rfl⟩
theorem gb_set (w : World) (g o : Nat) (v : Value) : w.grownBy (w.setCell ⟨g, o, none⟩ v) (some g) :=
  ⟨rfl, rfl, rfl, by simp [World.setCell], fun k _ hk => Below.heap_setCell _ _ _ _ (fun e => hk (by simp [e]))⟩
theorem cell_heap {w : World} {g o : Nat} {cs : Array Value} {t : TypeId} {fr : Nat × Nat} (h : w.heap[g]? = some (.cells cs t fr)) : w.cell? ⟨g, o, none⟩ = cs[o]? := by
  simp [World.cell?, h]
theorem frozen_heap {w : World} {g o : Nat} {cs : Array Value} {t : TypeId} (h : w.heap[g]? = some (.cells cs t (0, 0))) : w.frozen? ⟨g, o, none⟩ = false := frozen_of_row w g o cs t h
theorem set_heap {w : World} {g o : Nat} {cs : Array Value} {t : TypeId} (h : w.heap[g]? = some (.cells cs t (0, 0))) (v : Value) : (w.setCell ⟨g, o, none⟩ v).heap[g]? = some (.cells (cs.setIfInBounds o v) t (0, 0)) :=
  heap_setCell_same w g o cs t v h
theorem heap_lt {w : World} {g : Nat} {o : Obj} (h : w.heap[g]? = some o) : g < w.heap.size := (Array.getElem?_eq_some_iff.1 h).1

/-- Bytes as cells. -/
def bs (xs : List UInt8) : List Value := xs.map fun b => Value.int .u8 (b.toNat : Int)
theorem cat_bytes (xs ys : List UInt8) : (⟨xs.toArray⟩ : ByteArray) ++ ⟨ys.toArray⟩ = ⟨(xs ++ ys).toArray⟩ := by
  apply ByteArray.ext
  simp
theorem bs_length (xs : List UInt8) : (bs xs).length = xs.length := by simp [bs]
theorem bs_append (xs ys : List UInt8) : bs (xs ++ ys) = bs xs ++ bs ys := by simp [bs]
theorem bs_one (xs : List UInt8) : ∀ u ∈ bs xs, u.oneCell' = true := by
  intro u hu
  simp only [bs, List.mem_map] at hu
  obtain ⟨b, _, rfl⟩ := hu
  rfl
theorem bs_take (xs : List UInt8) (k : Nat) : (bs xs).take k = bs (xs.take k) := by simp [bs, List.map_take]
theorem bs_drop (xs : List UInt8) (k : Nat) : (bs xs).drop k = bs (xs.drop k) := by simp [bs, List.map_drop]
theorem bs_get (xs : List UInt8) (i : Nat) (h : i < xs.length) : (bs xs)[i]? = some (.int .u8 ((xs[i]).toNat : Int)) := by
  simp [bs, h]

theorem one8 {k : IntKind} {x : Int} : ∀ u ∈ #[Value.int k x], u.oneCell' = true := by
  intro u hu
  simp only [Array.mem_singleton, List.mem_toArray, List.mem_singleton] at hu
  subst hu
  rfl

/-- A slice of bytes. -/
abbrev RdB (w : World) (A : Option Addr) (n c : Nat) (xs : List UInt8) : Prop := Rd w A n c 1 (bs xs)

theorem Rd.blen {w : World} {A : Option Addr} {n c : Nat} {xs : List UInt8} (h : RdB w A n c xs) : xs.length = n := by
  have := h.len
  rw [bs_length] at this
  omega

theorem Rd.bat {w : World} {A : Option Addr} {n c : Nat} {xs : List UInt8} (h : RdB w A n c xs) (i : Nat) (hi : i < n) : ∃ ad, A = some ad ∧ w.cell? (ad.add i) = some (.int .u8 ((xs.getD i 0).toNat : Int)) := by
  obtain ⟨ad, e⟩ := Rd.some_of_pos h (by omega)
  have hl := Rd.blen h
  refine ⟨ad, e, h.cell ad e i _ ?_⟩
  rw [bs_get xs i (by omega)]
  simp [List.getD, show i < xs.length by omega]

theorem Rd.bcell {w : World} {ad : Addr} {n c : Nat} {xs : List UInt8} (h : RdB w (some ad) n c xs) (i : Nat) (hi : i < n) : w.cell? (ad.add i) = some (.int .u8 ((xs.getD i 0).toNat : Int)) := by
  obtain ⟨a, e, h⟩ := h.bat i hi
  cases e
  exact h

theorem Rd.bsliced {w : World} {A : Option Addr} {n c : Nat} {xs : List UInt8} (h : RdB w A n c xs) (lo hi : Nat) (h1 : lo ≤ hi) (h2 : hi ≤ n) :
    RdB w (if c = lo then A else A.map (·.add lo)) (hi - lo) (c - lo) ((xs.drop lo).take (hi - lo)) := by
  have := Rd.sliced h lo hi h1 h2
  rw [Nat.mul_one, Nat.mul_one, bs_drop, bs_take] at this
  exact this

theorem Rd.btake {w : World} {A : Option Addr} {n c : Nat} {xs : List UInt8} (h : RdB w A n c xs) (q : Nat) (hq : q ≤ n) : RdB w A q c (xs.take q) := by
  have hnc := h.nc
  have hl := h.blen
  refine ⟨by rw [bs_length, List.length_take]; omega, by omega, h.cm, fun e => ?_, fun ad e j u hu => ?_⟩
  · have := h.nil e; omega
  · refine h.cell ad e j u ?_
    rw [← bs_take, List.getElem?_take] at hu
    split at hu
    · exact hu
    · cases hu
theorem Rd.bdrop {w : World} {A : Option Addr} {n c : Nat} {xs : List UInt8} (h : RdB w A n c xs) (q : Nat) (hq : q ≤ n) : RdB w (if c = q then A else A.map (·.add q)) (n - q) (c - q) (xs.drop q) := by
  have := Rd.bsliced h q n hq (Nat.le_refl _)
  rwa [List.take_of_length_le (by rw [List.length_drop, h.blen]; omega)] at this
theorem byte_lt (b : UInt8) : b.toNat < 256 := b.toNat_lt
theorem toNat_lt (b : UInt8) : (b.toNat : Int) < 256 := by have := b.toNat_lt; omega

theorem alloc_new (w : World) (o : Obj) : (w.alloc o).heap[w.heap.size]? = some o := by
  show (w.heap.push o)[w.heap.size]? = _
  simp

/-- Numbers of 64 bits as cells. -/
def us (ps : List Nat) : List Value := ps.map fun (p : Nat) => Value.int .u64 (p : Int)
theorem us_length (ps : List Nat) : (us ps).length = ps.length := by simp [us]
theorem us_get (ps : List Nat) (i : Nat) (h : i < ps.length) : (us ps)[i]? = some (.int .u64 ((ps.getD i 0 : Nat) : Int)) := by
  simp [us, h]
abbrev RdU (w : World) (A : Option Addr) (n c : Nat) (ps : List Nat) : Prop := Rd w A n c 1 (us ps)
theorem Rd.ulen {w : World} {A : Option Addr} {n c : Nat} {ps : List Nat} (h : RdU w A n c ps) : ps.length = n := by
  have := h.len
  rw [us_length] at this
  omega
theorem Rd.uat {w : World} {A : Option Addr} {n c : Nat} {ps : List Nat} (h : RdU w A n c ps) (i : Nat) (hi : i < n) : ∃ ad, A = some ad ∧ w.cell? (ad.add i) = some (.int .u64 ((ps.getD i 0 : Nat) : Int)) := by
  obtain ⟨ad, e⟩ := Rd.some_of_pos h (by omega)
  have hl := Rd.ulen h
  exact ⟨ad, e, h.cell ad e i _ (us_get ps i (by omega))⟩

section
variable {P : Program}

/-- 'append(s, x...)', s the call's own, x from anywhere. -/
theorem wpl_append {w : World} {ops : Array Oper} {rest : List Oper} {o : Oper} {a : Act} {Q : Exit → Act → World → Prop} (hgd : o.guard = none) (s x : Operand) (t : TypeId)
    (ho : o.op = .call { callee := .builtin .append, args := #[s, x], argTypes := #[t, t] })
    (base : Nat) (e : TypeId) (z : Value) (size bytes : Nat) (ht : P.underlying t = some (.slice e)) (hinfo : (P.info? e).map (fun i => (i.zero, i.size, i.bytes)) = some (some z, size, bytes)) (hzs : z.cells.size = size) (hsz : 0 < size)
    (v : Value) (n : Nat) (xs : List Value) (hs : a.eval s = v) (hown : w.ownsRow base e size v n xs)
    (A : Option Addr) (m c : Nat) (news : List Value) (hx : a.eval x = .slice A m c) (hr : Rd w A m c size news) (h1 : ∀ u ∈ news, u.oneCell' = true)
    (hl : n + m ≤ maxLen) (hbytes : (n + m) * bytes ≤ 140737488355328) (hbase : base ≤ w.heap.size)
    (h : ∀ v' w', w'.ownsRow base e size v' (n + m) (xs ++ news) → w.grownBy w' v.ownBlock → wpList P ops Q rest (a.put o.dst v') w') : wpList P ops Q (o :: rest) a w := by
  obtain ⟨i, hi, hz0, hz1, hz2⟩ := info_parts hinfo
  cases A with
  | none =>
    obtain ⟨rfl, rfl⟩ := hr.nil rfl
    have hn : news = [] := List.eq_nil_of_length_eq_zero (by simpa using hr.len)
    subst hn
    refine wpList_append_own_none hgd s x t ho base e i size ht hi v n xs hs hown hx ?_
    exact h v w (by simpa using hown) (World.grownBy.refl _ _)
  | some ad =>
    refine wpList_append_own w hgd s x t ho base e i z size bytes ht hi hz0 hz1 hz2 hzs hsz v n xs hs hown ad m c news hx hr.len (hr.cell ad rfl) h1 hl hbytes hbase ?_
    intro v' w' ho' hg _
    exact h v' w' ho' hg

/-- 'append(s, x)': x has been laid in a block of its own. -/
theorem wpl_append1 {w : World} {ops : Array Oper} {rest : List Oper} {o : Oper} {a : Act} {Q : Exit → Act → World → Prop} (hgd : o.guard = none) (s x : Operand) (t : TypeId)
    (ho : o.op = .call { callee := .builtin .append, args := #[s, x], argTypes := #[t, t] })
    (base : Nat) (e : TypeId) (z : Value) (size bytes : Nat) (ht : P.underlying t = some (.slice e)) (hinfo : (P.info? e).map (fun i => (i.zero, i.size, i.bytes)) = some (some z, size, bytes)) (hzs : z.cells.size = size) (hsz : 0 < size)
    (v : Value) (n : Nat) (xs : List Value) (hs : a.eval s = v) (hown : w.ownsRow base e size v n xs)
    (cs : Array Value) (fr : Nat × Nat) (m : Nat) (hx : a.eval x = .slice (some ⟨w.heap.size, 0, none⟩) m m) (hm : cs.size = m * size) (h1 : ∀ u ∈ cs, u.oneCell' = true)
    (hl : n + m ≤ maxLen) (hbytes : (n + m) * bytes ≤ 140737488355328) (hbase : base ≤ w.heap.size)
    (h : ∀ v' w', w'.ownsRow base e size v' (n + m) (xs ++ cs.toList) → w.grownBy w' v.ownBlock → wpList P ops Q rest (a.put o.dst v') w') : wpList P ops Q (o :: rest) a (w.alloc (.cells cs e fr)) := by
  obtain ⟨i, hi, hz0, hz1, hz2⟩ := info_parts hinfo
  refine wpList_append_own (w.alloc (.cells cs e fr)) hgd s x t ho base e i z size bytes ht hi hz0 hz1 hz2 hzs hsz v n xs hs (hown.alloc _) ⟨w.heap.size, 0, none⟩ m m cs.toList hx (by simpa using hm)
    (World.news_of_block (alloc_new w _)) (by simpa using h1) hl hbytes (by simp; omega) ?_
  intro v' w' ho' hg _
  exact h v' w' ho' (World.grownBy.trans (World.grownBy_alloc w _ _) hg)

theorem run_string_of {w : World} (src dst e : TypeId) (hs : P.underlying src = some (.slice e)) (he : P.underlying e = some (.int .u8)) (hd : P.underlying dst = some .string)
    {A : Option Addr} {n c : Nat} {xs : List UInt8} (h : RdB w A n c xs) : (convert src dst (.slice A n c)).run P w = .ok (.string ⟨xs.toArray⟩) w := by
  have hl := h.blen
  cases A with
  | none =>
    obtain ⟨rfl, rfl⟩ := h.nil rfl
    obtain rfl : xs = [] := List.eq_nil_of_length_eq_zero hl
    exact run_convert_bytes_nil w src e hs he 0 0 dst hd
  | some ad =>
    obtain ⟨b, off, sp⟩ := ad
    by_cases hn : n = 0
    · subst hn
      obtain rfl : xs = [] := List.eq_nil_of_length_eq_zero hl
      have hld : (loadCells ⟨b, off, sp⟩ 0).run P w = .ok #[] w := by simp [loadCells, loadCellsFrom]
      rw [run_convert_bytes_string w src dst e _ 0 c hs he hd, run_bytesToString w _ 0 c [] (by simpa using hld)]
      rfl
    · have h0 := h.bcell 0 (by omega)
      have hsp : sp = none := by
        have := World.cell?_spot h0
        simpa [Addr.add] using this
      subst hsp
      have := run_convert_bytes_arg w src e hs he b off n c (xs.map fun b => (b.toNat : Int)) (by simpa using hl) (fun i hi => by
        have hc := h.bcell i hi
        have ha : (⟨b, off, none⟩ : Addr).add i = ⟨b, off + i, none⟩ := by unfold Addr.add; split <;> simp_all
        rw [ha] at hc
        rw [hc]
        simp [List.getD, show i < xs.length by omega]) dst hd
      rw [this]
      congr 2
      simp [strOfNums, Function.comp_def]

theorem bytesWorld_below (w : World) (e : TypeId) (s : ByteArray) : Below w.heap.size w (Lib.bytesWorld w e s) :=
  ⟨rfl, rfl, rfl, by rw [Lib.bytesWorld_size]; omega, fun k hk => Lib.bytesWorld_at_old w e s k hk⟩

theorem grownCap_max (w : World) (s : ByteArray) (e : TypeId) (h : s.size ≤ maxLen) : grownCap w s.size 0 e ≤ maxLen := grownCap_le_maxLen _ _ _ _ h

theorem data_length (s : ByteArray) : s.data.toList.length = s.size := Array.length_toList

theorem rd_bytesWorld (w : World) (e : TypeId) (s : ByteArray) (h : s.size ≤ maxLen) : RdB (Lib.bytesWorld w e s) (some ⟨w.heap.size, 0, none⟩) s.size (grownCap w s.size 0 e) s.data.toList := by
  refine ⟨by rw [bs_length, data_length, Nat.mul_one], grownCap_ge _ _ _ _, grownCap_max _ _ _ h, fun e => (by cases e), fun ad ea j u hu => ?_⟩
  cases ea
  have hj : j < s.data.toList.length := by
    have := (List.getElem?_eq_some_iff.1 hu).1
    rwa [bs_length] at this
  have ha : (⟨w.heap.size, 0, none⟩ : Addr).add j = ⟨w.heap.size, j, none⟩ := add_plain0 _ _
  rw [bs_get _ _ hj] at hu
  rw [ha, Lib.bytesWorld_cell w e s j (by rw [← data_length]; exact hj), ← hu]
  rw [List.getD_eq_getElem?_getD, List.getElem?_eq_getElem hj]
  rfl

/-- A slice of bytes that came in, as the row's frame opens it. -/
theorem rdb_of {w : World} {a : Option Addr} {len cap : Nat} {zs : List Int}
    (h : (a = none ∧ len = 0 ∧ cap = 0 ∧ zs = []) ∨ ∃ x, a = some x ∧ len ≤ cap ∧ cap ≤ maxLen ∧ zs.length = cap ∧ (∀ i, i < zs.length → w.cell? (x.add i) = some (.int .u8 (zs.getD i 0))) ∧ ∀ n ∈ zs, (Lit.int .u8 n).wf = true) :
    ∃ xs, RdB w a len cap xs := by
  rcases h with ⟨rfl, rfl, rfl, rfl⟩ | ⟨x, rfl, hl, hm, hz, hcell, hwf⟩
  · exact ⟨[], Rd.empty _ _⟩
  · refine ⟨(zs.take len).map fun z => UInt8.ofNat z.toNat, ?_, hl, hm, fun e => (by cases e), fun ad e j u hu => ?_⟩
    · rw [bs_length, List.length_map, List.length_take]; omega
    · cases e
      have hj : j < len := by
        have := (List.getElem?_eq_some_iff.1 hu).1
        rw [bs_length, List.length_map, List.length_take] at this
        omega
      rw [hcell j (by omega)]
      have hmem : zs.getD j 0 ∈ zs := by
        rw [List.getD_eq_getElem?_getD, List.getElem?_eq_getElem (show j < zs.length by omega)]
        exact List.getElem_mem _
      have hb := bounds_u8 (hwf _ hmem)
      have e2 : (bs ((zs.take len).map fun z => UInt8.ofNat z.toNat))[j]? = some (.int .u8 (zs.getD j 0)) := by
        simp only [bs, List.getElem?_map, List.getElem?_take, if_pos hj, List.getElem?_eq_getElem (show j < zs.length by omega), Option.map_some, List.getD_eq_getElem?_getD, Option.getD_some]
        congr 2
        rw [List.getD_eq_getElem?_getD, List.getElem?_eq_getElem (show j < zs.length by omega), Option.getD_some] at hb
        simp only [UInt8.toNat_ofNat']
        omega
      rw [e2] at hu
      exact hu

/-- 's[lo:hi]' of what is read, in whatever world. -/
theorem Rd.cut {P : Program} {w : World} (t e : TypeId) (ht : P.underlying t = some (.slice e)) (hinfo : (P.info? e).map (·.size) = some 1) {A : Option Addr} {n c : Nat} {xs : List UInt8} (h : RdB w A n c xs) (lo hi : Nat) (h1 : lo ≤ hi) (h2 : hi ≤ n) :
    ∃ A' c', (∀ W : World, (Instr.slice t (.slice A n c) (some (.int .i64 (lo : Int))) (some (.int .i64 (hi : Int))) none).run P W = .ok (.slice A' (hi - lo) c') W) ∧ RdB w A' (hi - lo) c' ((xs.drop lo).take (hi - lo)) ∧ (∀ ad, A' = some ad → ∃ a0, A = some a0 ∧ ad.block = a0.block) := by
  have hnc := h.nc
  refine ⟨if c = lo then A else A.map (·.add lo), c - lo, fun W => ?_, h.bsliced lo hi h1 h2, ?_⟩
  · have hel : P.elem t = e := by simp [Program.elem, ht]
    rw [run_slice_lh W t A n c (by rw [hel]; exact ht) .i64 .i64 lo hi (by omega) (by omega) (by omega), hel]
    obtain ⟨i, hi', hs⟩ := Option.map_eq_some_iff.1 hinfo
    simp [sizeOf, typeInfo, hi', hs, Go.sliced]
  · intro ad e
    by_cases hc : c = lo
    · rw [if_pos hc] at e; exact ⟨ad, e, rfl⟩
    · rw [if_neg hc] at e
      cases A with
      | none => simp at e
      | some a0 => simp at e; exact ⟨a0, rfl, by rw [← e, add_block]⟩
theorem Rd.cutl {P : Program} {w : World} (t e : TypeId) (ht : P.underlying t = some (.slice e)) (hinfo : (P.info? e).map (·.size) = some 1) {A : Option Addr} {n c : Nat} {xs : List UInt8} (h : RdB w A n c xs) (lo : Nat) (h1 : lo ≤ n) :
    ∃ A' c', (∀ W : World, (Instr.slice t (.slice A n c) (some (.int .i64 (lo : Int))) none none).run P W = .ok (.slice A' (n - lo) c') W) ∧ RdB w A' (n - lo) c' (xs.drop lo) ∧ (∀ ad, A' = some ad → ∃ a0, A = some a0 ∧ ad.block = a0.block) := by
  have hnc := h.nc
  refine ⟨if c = lo then A else A.map (·.add lo), c - lo, fun W => ?_, h.bdrop lo h1, ?_⟩
  · have hel : P.elem t = e := by simp [Program.elem, ht]
    rw [run_slice_l W t A n c (by rw [hel]; exact ht) .i64 lo (by omega) (by omega), hel]
    obtain ⟨i, hi', hs⟩ := Option.map_eq_some_iff.1 hinfo
    simp [sizeOf, typeInfo, hi', hs, Go.sliced]
  · intro ad e
    by_cases hc : c = lo
    · rw [if_pos hc] at e; exact ⟨ad, e, rfl⟩
    · rw [if_neg hc] at e
      cases A with
      | none => simp at e
      | some a0 => simp at e; exact ⟨a0, rfl, by rw [← e, add_block]⟩
end
end Go.Proofs.YtieigjlbjiielaaDoor
