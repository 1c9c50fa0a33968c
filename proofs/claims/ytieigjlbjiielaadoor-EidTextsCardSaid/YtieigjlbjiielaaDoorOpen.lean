/- Arguments of whatever shape (numbers, bools, texts, slices, structs, arrays, nested) opened to values and cells. No condition. -/
import Derived.Test.YtieigjlbjiielaaDoorLib
import Derived.Deep.Slices
import Derived.ChangeArms
import Derived.ChangeSame
import Derived.WideShapes
namespace Go.Proofs.YtieigjlbjiielaaDoor
open Go.RowKit

/-- A type's shape. -/
inductive Ty where
  | int (k : IntKind)
  | bool
  | str
  | sl (e : TypeId) (t : Ty)
  | st (fs : Ty)
  | nil
  | cons (a b : Ty)
  | arr (n : Nat) (e : TypeId) (t : Ty)

namespace Ty
def size : Ty → Nat
  | int _ | bool | str | sl _ _ => 1
  | st fs => fs.size
  | nil => 0
  | cons a b => a.size + b.size
  | arr n _ t => n * t.size
@[reducible] def El : Ty → Type
  | int _ => Int
  | bool => Bool
  | str => ByteArray
  | sl _ t => List t.El
  | st fs => fs.El
  | nil => Unit
  | cons a b => a.El × b.El
  | arr _ _ t => List t.El
/-- The cells cs read as x, in world w. -/
def Reads (w : World) : (t : Ty) → List Value → t.El → Prop
  | int k, cs, x => cs = [.int k x] ∧ (Lit.int k x).wf = true
  | bool, cs, x => cs = [.bool x]
  | str, cs, x => cs = [.string x] ∧ x.size ≤ maxLen
  | sl _ t, cs, x => ∃ (A : Option Addr) (c : Nat) (all : List Value), cs = [.slice A x.length c] ∧ Rd w A x.length c t.size all ∧ ∀ i (h : i < x.length), t.Reads w ((all.drop (i * t.size)).take t.size) x[i]
  | st fs, cs, x => fs.Reads w cs x
  | nil, cs, _ => cs = []
  | cons a b, cs, x => ∃ ca cb, cs = ca ++ cb ∧ a.Reads w ca x.1 ∧ b.Reads w cb x.2
  | arr n _ t, cs, x => x.length = n ∧ cs.length = n * t.size ∧ ∀ i (h : i < x.length), t.Reads w ((cs.drop (i * t.size)).take t.size) x[i]
/-- A type of the program has this shape (of a struct: its fields, from an offset on). -/
def Fits (P : Program) : Ty → TypeId ⊕ (List Field × Nat) → Prop
  | int k, .inl t => P.underlying t = some (.int k)
  | bool, .inl t => P.underlying t = some .bool
  | str, .inl t => P.underlying t = some .string
  | sl e ty, .inl t => P.underlying t = some (.slice e) ∧ P.cellsOf e = ty.size ∧ ty.Fits P (.inl e)
  | st fs, .inl t => ∃ l, P.underlying t = some (.struct l) ∧ P.cellsOf t = fs.size ∧ fs.Fits P (.inr (l.toList, 0))
  | nil, .inr (l, _) => l = []
  | cons a b, .inr (f :: l, off) => f.offset = off ∧ P.cellsOf f.type = a.size ∧ a.Fits P (.inl f.type) ∧ b.Fits P (.inr (l, off + a.size))
  | arr n e ty, .inl t => P.underlying t = some (.array n e) ∧ P.cellsOf e = ty.size ∧ P.cellsOf t = n * ty.size ∧ ty.Fits P (.inl e)
  | _, _ => False

theorem fits_int {P : Program} {k : IntKind} {t : TypeId} (h : P.underlying t = some (.int k)) : (int k).Fits P (.inl t) := h
theorem fits_bool {P : Program} {t : TypeId} (h : P.underlying t = some .bool) : bool.Fits P (.inl t) := h
theorem fits_str {P : Program} {t : TypeId} (h : P.underlying t = some .string) : str.Fits P (.inl t) := h
theorem fits_sl {P : Program} {e : TypeId} {ty : Ty} {t : TypeId} (h : P.underlying t = some (.slice e)) (h2 : P.cellsOf e = ty.size) (h3 : ty.Fits P (.inl e)) : (sl e ty).Fits P (.inl t) := ⟨h, h2, h3⟩
theorem fits_st {P : Program} {fs : Ty} {t : TypeId} {l : Array Field} (h : P.underlying t = some (.struct l)) (h2 : P.cellsOf t = fs.size) (h3 : fs.Fits P (.inr (l.toList, 0))) : (st fs).Fits P (.inl t) := ⟨l, h, h2, h3⟩
theorem fits_nil {P : Program} {off : Nat} : nil.Fits P (.inr ([], off)) := rfl
theorem fits_cons {P : Program} {a b : Ty} {f : Field} {l : List Field} {off : Nat} (h1 : f.offset = off) (h2 : P.cellsOf f.type = a.size) (h3 : a.Fits P (.inl f.type)) (h4 : b.Fits P (.inr (l, off + a.size))) : (cons a b).Fits P (.inr (f :: l, off)) := ⟨h1, h2, h3, h4⟩
theorem fits_arr {P : Program} {n : Nat} {e : TypeId} {ty : Ty} {t : TypeId} (h : P.underlying t = some (.array n e)) (h2 : P.cellsOf e = ty.size) (h3 : P.cellsOf t = n * ty.size) (h4 : ty.Fits P (.inl e)) : (arr n e ty).Fits P (.inl t) := ⟨h, h2, h3, h4⟩

theorem Reads.length {w : World} : ∀ (t : Ty) (cs : List Value) (x : t.El), t.Reads w cs x → cs.length = t.size
  | int _, _, _, h => by rw [h.1]; rfl
  | bool, _, _, h => by rw [h]; rfl
  | str, _, _, h => by rw [h.1]; rfl
  | sl _ _, _, _, h => by obtain ⟨A, c, all, rfl, _⟩ := h; rfl
  | st fs, cs, x, h => Reads.length fs cs x h
  | nil, _, _, h => by rw [show _ = [] from h]; rfl
  | cons a b, _, x, h => by
    obtain ⟨ca, cb, rfl, h1, h2⟩ := h
    rw [List.length_append, Reads.length a ca x.1 h1, Reads.length b cb x.2 h2]; rfl
  | arr _ _ _, _, _, h => h.2.1

theorem Reads.below {w w' : World} (hb : Below w.heap.size w w') : ∀ (t : Ty) (cs : List Value) (x : t.El), t.Reads w cs x → t.Reads w' cs x
  | int _, _, _, h => h
  | bool, _, _, h => h
  | str, _, _, h => h
  | sl _ t, _, _, h => by
    obtain ⟨A, c, all, rfl, h1, h2⟩ := h
    exact ⟨A, c, all, rfl, h1.below hb, fun i hi => Reads.below hb t _ _ (h2 i hi)⟩
  | st fs, cs, x, h => Reads.below hb fs cs x h
  | nil, _, _, h => h
  | cons a b, _, x, h => by
    obtain ⟨ca, cb, rfl, h1, h2⟩ := h
    exact ⟨ca, cb, rfl, Reads.below hb a _ _ h1, Reads.below hb b _ _ h2⟩
  | arr _ _ t, _, _, h => ⟨h.1, h.2.1, fun i hi => Reads.below hb t _ _ (h.2.2 i hi)⟩
end Ty

section
variable {H : Type} {enc : TypeId × Value → H} {P : Program} {w : World} {base : Nat} {spare : Nat → Bool} {held : Bool}

theorem list_of {α : Type} (n : Nat) (R : Nat → α → Prop) (h : ∀ i, i < n → ∃ x, R i x) : ∃ l : List α, l.length = n ∧ ∀ i (hi : i < l.length), R i l[i] := by
  induction n with
  | zero => exact ⟨[], rfl, fun i hi => absurd hi (by simp)⟩
  | succ n ih =>
    obtain ⟨l, hl, hr⟩ := ih (fun i hi => h i (by omega))
    obtain ⟨x, hx⟩ := h n (by omega)
    refine ⟨l ++ [x], by simp [hl], fun i hi => ?_⟩
    by_cases hi2 : i < l.length
    · rw [List.getElem_append_left hi2]; exact hr i hi2
    · have : i = n := by rw [List.length_append] at hi; simp at hi; omega
      subst this
      rw [List.getElem_append_right (by omega)]
      simpa using hx

theorem flat_get {α : Type} (s : Nat) : ∀ (css : List (List α)), (∀ c ∈ css, c.length = s) → css.flatten.length = css.length * s ∧ ∀ i (h : i < css.length), (css.flatten.drop (i * s)).take s = css[i]
  | [], _ => ⟨by simp, fun i h => absurd h (by simp)⟩
  | c :: css, h => by
    obtain ⟨h1, h2⟩ := flat_get s css (fun c hc => h c (List.mem_cons_of_mem _ hc))
    have hc := h c List.mem_cons_self
    refine ⟨by simp only [List.flatten_cons, List.length_append, h1, hc, List.length_cons, Nat.add_mul]; omega, fun i hi => ?_⟩
    cases i with
    | zero => simp [← hc]
    | succ i =>
      have e : (i + 1) * s = c.length + i * s := by rw [hc, Nat.add_mul]; omega
      rw [List.flatten_cons, e, ← List.drop_drop, List.drop_left]
      simpa using h2 i (by simpa using hi)

/-- What can be read as data reads as a value of its shape. -/
theorem opens : ∀ (ty : Ty), (∀ (t : TypeId) (fuel : Nat) (cs : List Value) (d : DataW H × List MemPlace), ty.Fits P (.inl t) → DataW.trod enc P w base spare held fuel t cs = some d → ∃ x : ty.El, ty.Reads w cs x) ∧
    (∀ (l : List Field) (off n : Nat) (cs : List Value), ty.Fits P (.inr (l, off)) → (∀ f ∈ l, ∃ d, DataW.trod enc P w base spare held n f.type ((cs.drop f.offset).take (P.cellsOf f.type)) = some d) → ∃ x : ty.El, ty.Reads w ((cs.drop off).take ty.size) x)
  | .int k => ⟨fun t fuel cs d hf h => by
      obtain ⟨n, rfl, _, hw⟩ := DataW.trod_int hf h
      exact ⟨n, rfl, hw⟩, fun _ _ _ _ hf _ => (show False from hf).elim⟩
  | .bool => ⟨fun t fuel cs d hf h => by
      obtain ⟨b, rfl, _⟩ := DataW.trod_bool hf h
      exact ⟨b, rfl⟩, fun _ _ _ _ hf _ => (show False from hf).elim⟩
  | .str => ⟨fun t fuel cs d hf h => by
      obtain ⟨s, rfl, _, hs⟩ := DataW.trod_string hf h
      exact ⟨s, rfl, hs⟩, fun _ _ _ _ hf _ => (show False from hf).elim⟩
  | .sl e ty => ⟨fun t fuel cs d hf h => by
      obtain ⟨ht, hc, hfe⟩ := hf
      rcases Go.Deep.open_slice ht h with ⟨rfl, _⟩ | ⟨a, len, cap, m, n, D, Pl, rfl, hb, hl, hm, hmm, hx, hi⟩
      · exact ⟨[], none, 0, [], rfl, Rd.empty _ _, fun i hi => absurd hi (by simp)⟩
      · have hlm : len ≤ m := by rw [hmm]; split <;> omega
        have key : ∀ i, i < len → ∃ y : List Value × ty.El, y.1.length = ty.size ∧ (∀ j, j < ty.size → w.cell? ((a.add (i * ty.size)).add j) = y.1[j]?) ∧ ty.Reads w y.1 y.2 := by
          intro i hil
          obtain ⟨cs', h1, h2⟩ := hi i (by omega)
          rw [hc] at h1
          obtain ⟨_, h4, h5⟩ := World.cells?_some h1
          obtain ⟨x, hx⟩ := (opens ty).1 e n cs' _ hfe h2
          exact ⟨(cs', x), h4, h5, hx⟩
        obtain ⟨l, hll, hlr⟩ := list_of len _ key
        obtain ⟨hfl, hfg⟩ := flat_get ty.size (l.map (·.1)) (fun c hc => by
          obtain ⟨y, hy, rfl⟩ := List.mem_map.1 hc
          obtain ⟨i, hil, rfl⟩ := List.mem_iff_getElem.1 hy
          exact (hlr i hil).1)
        rw [List.length_map] at hfl
        refine ⟨l.map (·.2), some a, cap, (l.map (·.1)).flatten, by simp [hll], ⟨by rw [hfl, List.length_map], by rw [List.length_map, hll]; exact hl, hm, (fun e => nomatch e), fun ad e j u hu => ?_⟩, fun i hil => ?_⟩
        · cases e
          have hj : j < len * ty.size := by
            have := (List.getElem?_eq_some_iff.1 hu).1
            rw [hfl, hll] at this; exact this
          have hs : 0 < ty.size := by
            rcases Nat.eq_zero_or_pos ty.size with h0 | h0
            · rw [h0] at hj; omega
            · exact h0
          have hq : j / ty.size < l.length := by rw [hll]; exact (Nat.div_lt_iff_lt_mul hs).2 hj
          have hr : j % ty.size < ty.size := Nat.mod_lt _ hs
          have hjj : j = (j / ty.size) * ty.size + j % ty.size := by rw [Nat.mul_comm]; exact (Nat.div_add_mod j ty.size).symm
          have h3 := (hlr (j / ty.size) hq).2.1 (j % ty.size) hr
          rw [add_add, ← hjj] at h3
          rw [h3, ← hu]
          have h6 := hfg (j / ty.size) (by rw [List.length_map]; exact hq)
          rw [List.getElem_map] at h6
          rw [← h6, List.getElem?_take_of_lt hr, List.getElem?_drop, ← hjj]
        · rw [List.length_map] at hil
          have h6 := hfg i (by rw [List.length_map]; exact hil)
          rw [List.getElem_map] at h6
          rw [h6, List.getElem_map]
          exact (hlr i hil).2.2, fun _ _ _ _ hf _ => (show False from hf).elim⟩
  | .st fs => ⟨fun t fuel cs d hf h => by
      obtain ⟨l, ht, hc, hfs⟩ := hf
      obtain ⟨xs, n, _, _, hlen, hxl, hg⟩ := DataW.trod_struct ht h
      have := (opens fs).2 l.toList 0 n cs hfs (fun f hf => by
        obtain ⟨i, hi, rfl⟩ := List.mem_iff_getElem.1 hf
        have hi' : i < l.size := by simpa using hi
        have := hg i l[i] (by simp [hi'])
        rw [List.getElem?_eq_getElem (by omega)] at this
        exact ⟨_, by simpa using this⟩)
      rw [List.drop_zero, List.take_of_length_le (by rw [hlen, hc]; exact Nat.le_refl _)] at this
      exact this, fun _ _ _ _ hf _ => (show False from hf).elim⟩
  | .nil => ⟨fun _ _ _ _ hf _ => (show False from hf).elim, fun l off n cs hf _ => ⟨(), by show _ = []; simp [Ty.size]⟩⟩
  | .cons a b => ⟨fun _ _ _ _ hf _ => (show False from hf).elim, fun l off n cs hf h => by
      cases l with
      | nil => exact (show False from hf).elim
      | cons f l =>
        obtain ⟨h1, h2, h3, h4⟩ := hf
        obtain ⟨d, hd⟩ := h f List.mem_cons_self
        rw [h1, h2] at hd
        obtain ⟨x, hx⟩ := (opens a).1 f.type n _ d h3 hd
        obtain ⟨y, hy⟩ := (opens b).2 l (off + a.size) n cs h4 (fun g hg => h g (List.mem_cons_of_mem _ hg))
        refine ⟨(x, y), _, _, ?_, hx, hy⟩
        show (cs.drop off).take (a.size + b.size) = _
        rw [List.take_add, List.drop_drop]⟩
  | .arr n e ty => ⟨fun t fuel cs d hf h => by
      obtain ⟨ht, hc, hct, hfe⟩ := hf
      obtain ⟨fuel', rfl⟩ : ∃ m, fuel = m + 1 := by
        cases fuel with
        | zero => simp [DataW.trod] at h
        | succ m => exact ⟨m, rfl⟩
      unfold DataW.trod at h
      rw [ht] at h
      simp only [Option.map_eq_some_iff] at h
      split at h
      · rename_i hlen
        obtain ⟨xs, hp, _⟩ := Option.map_eq_some_iff.1 h
        have hxl : xs.length = n := by simpa using mapM_some_length hp
        have key : ∀ i, i < n → ∃ x : ty.El, ty.Reads w ((cs.drop (i * ty.size)).take ty.size) x := by
          intro i hi
          have h1 := mapM_some_get hp i i (by simp [hi])
          rw [hc, List.getElem?_eq_getElem (by omega)] at h1
          exact (opens ty).1 e fuel' _ _ hfe h1
        obtain ⟨l, hl, hr⟩ := list_of n _ key
        exact ⟨l, hl, by rw [hlen, hct], hr⟩
      · (cases h), fun _ _ _ _ hf _ => (show False from hf).elim⟩
end

/-- A struct that came in by value. -/
theorem open_st {H : Type} {enc : TypeId × Value → H} {P : Program} {w : World} {base b0 : Nat} {spare : Nat → Bool} {held : Bool} {r : Reach} {t : TypeId} {v : Value} {d : DataW H} {p : List MemPlace} {l : Array Field} (fs : Ty)
    (ht : P.underlying t = some (.struct l)) (hf : (Ty.st fs).Fits P (.inl t)) (hv : Value.okWide P w r b0 t v) (h : DataW.Trod enc P w base spare held t v d p) :
    ∃ (cs : List Value) (x : fs.El), v = .agg cs.toArray ∧ fs.Reads w cs x := by
  obtain ⟨cs, rfl, _⟩ := Go.WideShapes.okWide_struct ht hv
  obtain ⟨fuel, hfl⟩ := h
  obtain ⟨x, hx⟩ := (opens (.st fs)).1 t fuel _ _ hf hfl
  exact ⟨cs.toList, x, by simp, hx⟩
/-- A slice that came in. -/
theorem open_sl {H : Type} {enc : TypeId × Value → H} {P : Program} {w : World} {base b0 : Nat} {spare : Nat → Bool} {held : Bool} {r : Reach} {t e : TypeId} {v : Value} {d : DataW H} {p : List MemPlace} (ty : Ty)
    (hf : (Ty.sl e ty).Fits P (.inl t)) (hv : Value.okWide P w r b0 t v) (h : DataW.Trod enc P w base spare held t v d p) :
    ∃ (A : Option Addr) (c : Nat) (all : List Value) (x : List ty.El), v = .slice A x.length c ∧ Rd w A x.length c ty.size all ∧ ∀ i (h : i < x.length), ty.Reads w ((all.drop (i * ty.size)).take ty.size) x[i] := by
  obtain ⟨a, n, c, rfl⟩ := Go.WideShapes.okWide_slice hf.1 hv
  obtain ⟨fuel, hfl⟩ := h
  obtain ⟨x, A, c', all, h1, h2, h3⟩ := (opens (.sl e ty)).1 t fuel _ _ hf hfl
  simp [Value.cells] at h1
  obtain ⟨rfl, rfl, rfl⟩ := h1
  exact ⟨a, c, all, x, rfl, h2, h3⟩
/-- A slice's cells are its elements' cells, one after the other. -/
theorem flat_opened {α : Type} (s : Nat) (f : α → List Value) : ∀ (x : List α) (all : List Value), all.length = x.length * s → (∀ i (h : i < x.length), (all.drop (i * s)).take s = f x[i]) → all = x.flatMap f
  | [], all, h, _ => by simpa using h
  | a :: x, all, h, hx => by
    have h0 := hx 0 (by simp)
    rw [Nat.zero_mul, List.drop_zero] at h0
    have := flat_opened s f x (all.drop s) (by rw [List.length_drop, h, List.length_cons, Nat.add_mul]; omega) (fun i hi => by
      have := hx (i + 1) (by simpa using hi)
      rw [Nat.add_mul, Nat.one_mul, Nat.add_comm (i * s)] at this
      rw [List.drop_drop]; simpa using this)
    rw [List.flatMap_cons, ← this, ← show _ = f a from h0, List.take_append_drop]
/-- The bytes of a slice of bytes that was opened. -/
theorem rd_ints {w : World} {A : Option Addr} {c : Nat} {k : IntKind} {all : List Value} {x : List Int} (h : Rd w A x.length c 1 all) (hx : ∀ i (h : i < x.length), (Ty.int k).Reads w ((all.drop (i * 1)).take 1) x[i]) :
    all = x.map (.int k ·) ∧ ∀ n ∈ x, (Lit.int k n).wf = true := by
  have hl : all.length = x.length := by have := h.1; omega
  refine ⟨List.ext_getElem (by simpa using hl) fun i h1 h2 => ?_, fun n hn => ?_⟩
  · have := (hx i (by simpa using h2)).1
    rw [Nat.mul_one] at this
    have h3 : ((all.drop i).take 1)[0]? = [Value.int k (x[i]'(by simpa using h2))][0]? := by rw [this]
    rw [List.getElem?_take_of_lt (by omega), List.getElem?_drop, Nat.add_zero, List.getElem?_eq_getElem h1] at h3
    simpa using h3
  · obtain ⟨i, hi, rfl⟩ := List.mem_iff_getElem.1 hn
    exact (hx i hi).2
theorem rdb_opened {w : World} {A : Option Addr} {c : Nat} {all : List Value} {x : List Int} (h : Rd w A x.length c 1 all) (hx : ∀ i (h : i < x.length), (Ty.int .u8).Reads w ((all.drop (i * 1)).take 1) x[i]) :
    ∃ xs : List UInt8, RdB w A x.length c xs := by
  obtain ⟨rfl, hw⟩ := rd_ints h hx
  refine ⟨x.map (fun n => UInt8.ofNat n.toNat), ?_⟩
  have e : x.map (Value.int .u8 ·) = bs (x.map (fun n => UInt8.ofNat n.toNat)) := by
    simp only [bs, List.map_map]
    refine List.map_congr_left fun n hn => ?_
    have hb := bounds_u8 (hw n hn)
    simp only [Function.comp, UInt8.toNat_ofNat']
    congr 1
    omega
  show Rd _ _ _ _ _ _
  rw [← e]; exact h
theorem rdu_opened {w : World} {A : Option Addr} {c : Nat} {all : List Value} {x : List Int} (h : Rd w A x.length c 1 all) (hx : ∀ i (h : i < x.length), (Ty.int .u64).Reads w ((all.drop (i * 1)).take 1) x[i]) :
    ∃ ps : List Nat, RdU w A x.length c ps ∧ ∀ i, ps.getD i 0 < 18446744073709551616 := by
  obtain ⟨rfl, hw⟩ := rd_ints h hx
  refine ⟨x.map Int.toNat, ?_, fun i => ?_⟩
  · have e : x.map (Value.int .u64 ·) = us (x.map Int.toNat) := by
      simp only [us, List.map_map]
      refine List.map_congr_left fun n hn => ?_
      have hb := bounds_u64 (hw n hn)
      simp only [Function.comp]
      congr 1
      omega
    show Rd _ _ _ _ _ _
    rw [← e]; exact h
  · rw [List.getD_eq_getElem?_getD, List.getElem?_map]
    cases e : x[i]? with
    | none => simp
    | some n =>
      have hb := bounds_u64 (hw n (List.mem_of_getElem? e))
      simp
      omega
theorem u64_opened {m : Int} (h : (Lit.int .u64 m).wf = true) : ∃ n : Nat, m = n ∧ n < 18446744073709551616 := by
  have := bounds_u64 h
  exact ⟨m.toNat, by omega, by omega⟩
theorem u32_opened {m : Int} (h : (Lit.int .u32 m).wf = true) : ∃ n : Nat, m = n ∧ n < 4294967296 := by
  have := bounds_u32 h
  exact ⟨m.toNat, by omega, by omega⟩
theorem u16_opened {m : Int} (h : (Lit.int .u16 m).wf = true) : ∃ n : Nat, m = n ∧ n < 65536 := by
  have := bounds_u16 h
  exact ⟨m.toNat, by omega, by omega⟩
theorem u8_opened {m : Int} (h : (Lit.int .u8 m).wf = true) : ∃ n : Nat, m = n ∧ n < 256 := by
  have := bounds_u8 h
  exact ⟨m.toNat, by omega, by omega⟩
end Go.Proofs.YtieigjlbjiielaaDoor
