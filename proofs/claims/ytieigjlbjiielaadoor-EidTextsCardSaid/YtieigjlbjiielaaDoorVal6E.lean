/- The name of any value: the plain cases; contract of eid.Of. No condition. -/
import Derived.Test.YtieigjlbjiielaaDoorVal5E
namespace Go.Proofs.YtieigjlbjiielaaDoor
open Go.RowKit

def VT.kind : VT → Int
  | .mk k _ _ _ => k
def VT.num : VT → Nat
  | .mk _ n _ _ => n
def VT.str : VT → List UInt8
  | .mk _ _ s _ => s
def VT.lst : VT → List VT
  | .mk _ _ _ l => l
/-- Two numbers in a list. -/
def VT.two (v : VT) : Prop := v.kind = 4 ∧ ∃ a b : VT, v.lst = [a, b] ∧ a.kind = 0 ∧ b.kind = 0
/-- The name of a value, and what is wrong with it. -/
inductive OfC : VT → Int → List UInt8 → Nat → Nat → Int → Prop
  | notlist (v : VT) (h : v.kind ≠ 4 ∨ v.lst.length ≠ 2) : OfC v 0 [] 0 0 18
  | first (v a b : VT) (h : v.kind = 4) (hl : v.lst = [a, b]) (ha : a.kind ≠ 0) : OfC v 0 [] 0 0 18
  | none (v a b : VT) (h : v.kind = 4) (hl : v.lst = [a, b]) (ha : a.kind = 0) (h1 : a.num = 1) (hb : b.kind = 0) (hz : b.num ≠ 0) : OfC v 0 [] 0 0 6
  | nobody (v a b : VT) (h : v.kind = 4) (hl : v.lst = [a, b]) (ha : a.kind = 0) (h1 : a.num = 1) (hb : b.kind = 0) (hz : b.num = 0) : OfC v 1 [] 0 0 0
  | badname (v a b : VT) (h : v.kind = 4) (hl : v.lst = [a, b]) (ha : a.kind = 0) (h1 : a.num = 1) (hb : b.kind = 3) (hz : b.str = [] ∨ rightE 1 b.str 0 0 = false) : OfC v 0 [] 0 0 6
  | name (v a b : VT) (h : v.kind = 4) (hl : v.lst = [a, b]) (ha : a.kind = 0) (h1 : a.num = 1) (hb : b.kind = 3) (hn : b.str ≠ []) (hz : rightE 1 b.str 0 0 = true) : OfC v 1 b.str 0 0 0
  | ipn (v a b x y : VT) (h : v.kind = 4) (hl : v.lst = [a, b]) (ha : a.kind = 0) (h2 : a.num = 2) (hb : b.kind = 4) (hbl : b.lst = [x, y]) (hx : x.kind = 0) (hy : y.kind = 0) : OfC v 2 [] x.num y.num 0
  | rest (v a b : VT) (h : v.kind = 4) (hl : v.lst = [a, b]) (ha : a.kind = 0) (h1 : ¬ (a.num = 1 ∧ b.kind = 0)) (h3 : ¬ (a.num = 1 ∧ b.kind = 3)) (h2 : ¬ (a.num = 2 ∧ b.two)) : OfC v 0 [] 0 0 18
theorem of_total (v : VT) : ∃ sc nm nd sv er, OfC v sc nm nd sv er := by
  by_cases h4 : v.kind = 4
  · by_cases hl : v.lst.length = 2
    · obtain ⟨a, b, hl⟩ : ∃ a b, v.lst = [a, b] := by
        match h : v.lst, hl with
        | [a, b], _ => exact ⟨a, b, rfl⟩
      by_cases ha : a.kind = 0
      · by_cases h1 : a.num = 1 ∧ b.kind = 0
        · by_cases hz : b.num = 0
          · exact ⟨_, _, _, _, _, .nobody v a b h4 hl ha h1.1 h1.2 hz⟩
          · exact ⟨_, _, _, _, _, .none v a b h4 hl ha h1.1 h1.2 hz⟩
        · by_cases h3 : a.num = 1 ∧ b.kind = 3
          · by_cases hz : b.str = [] ∨ rightE 1 b.str 0 0 = false
            · exact ⟨_, _, _, _, _, .badname v a b h4 hl ha h3.1 h3.2 hz⟩
            · exact ⟨_, _, _, _, _, .name v a b h4 hl ha h3.1 h3.2 (fun h => hz (.inl h)) (by simpa using fun h => hz (.inr h))⟩
          · by_cases h2 : a.num = 2 ∧ b.two
            · obtain ⟨h2, hb, x, y, hbl, hx, hy⟩ := h2
              exact ⟨_, _, _, _, _, .ipn v a b x y h4 hl ha h2 hb hbl hx hy⟩
            · exact ⟨_, _, _, _, _, .rest v a b h4 hl ha h1 h3 h2⟩
      · exact ⟨_, _, _, _, _, .first v a b h4 hl ha⟩
    · exact ⟨_, _, _, _, _, .notlist v (.inr hl)⟩
  · exact ⟨_, _, _, _, _, .notlist v (.inl h4)⟩

/-- What item.Uint tells of what stands for a value. -/
theorem uint_of {w : World} {S : Nat → Prop} {v : VT} {u : Value} (h : AR w S v u) : ∃ (y : Nat) (b : Bool), (b = true ↔ v.kind = 0) ∧ (b = true → y = v.num) ∧
    ∀ W, Hid (Calls Tryd.prog 28 #[u] W fun e w' => e = .returned (.tuple #[.int .u64 y, .bool b]) ∧ W = w') := by
  cases h with
  | num n s l hn => exact ⟨n, true, by simp [VT.kind], fun _ => rfl, fun W => Lib.hid (uint_any n W)⟩
  | text n s l => exact ⟨0, false, by simp [VT.kind], fun h => (by cases h), fun W => Lib.hid (uint_no _ W (.inr ⟨_, _, rfl, by decide⟩))⟩
  | list n s l A c xs hx hb hS hl => exact ⟨0, false, by simp [VT.kind], fun h => (by cases h), fun W => Lib.hid (uint_no _ W (.inr ⟨_, _, rfl, by decide⟩))⟩
  | other k n s l _ h0 h3 h4 a b c => exact ⟨0, false, by simpa [VT.kind] using h0, fun h => (by cases h), fun W => Lib.hid (uint_no _ W a)⟩
theorem uint_nil (W : World) : Hid (Calls Tryd.prog 28 #[.nilIface] W fun e w' => e = .returned (.tuple #[.int .u64 ((0 : Nat) : Int), .bool false]) ∧ W = w') := Lib.hid (uint_no _ W (.inl rfl))
/-- What item.Text tells. -/
theorem text_of {w : World} {S : Nat → Prop} {v : VT} {u : Value} (h : AR w S v u) : ∃ (y : List UInt8) (b : Bool), (b = true ↔ v.kind = 3) ∧ (b = true → y = v.str) ∧
    ∀ W, Hid (Calls Tryd.prog 38 #[u] W fun e w' => e = .returned (.tuple #[.string ⟨y.toArray⟩, .bool b]) ∧ W = w') := by
  cases h with
  | num n s l hn => exact ⟨[], false, by simp [VT.kind], fun h => (by cases h), fun W => Lib.hid (text_not _ W (.inr ⟨_, _, rfl, by decide⟩))⟩
  | text n s l => exact ⟨s, true, by simp [VT.kind], fun h => rfl, fun W => Lib.hid (text_yes s W)⟩
  | list n s l A c xs hx hb hS hl => exact ⟨[], false, by simp [VT.kind], fun h => (by cases h), fun W => Lib.hid (text_not _ W (.inr ⟨_, _, rfl, by decide⟩))⟩
  | other k n s l _ h0 h3 h4 a b c => exact ⟨[], false, by simpa [VT.kind] using h3, fun h => (by cases h), fun W => Lib.hid (text_not _ W b)⟩
theorem AR.one {w : World} {S : Nat → Prop} {l : List VT} {A : Option Addr} {c : Nat} {xs : List Value} (hx : Rd w A l.length c 1 xs) (hl : ∀ i (h : i < l.length) u, xs[i]? = some u → AR w S l[i] u) : ∀ u ∈ xs, u.oneCell' = true := by
  intro u hu
  obtain ⟨i, hi, rfl⟩ := List.mem_iff_getElem.1 hu
  have := hx.len
  exact (hl i (by omega) _ (List.getElem?_eq_getElem hi)).isI.one
/-- What eid.pair tells. -/
theorem pair_of {w : World} {S : Nat → Prop} {v : VT} {u : Value} (h : AR w S v u) : ∃ (p q : Value) (b : Bool), (b = true ↔ v.kind = 4 ∧ v.lst.length = 2) ∧
    (b = true → ∃ x y, v.lst = [x, y] ∧ AR w S x p ∧ AR w S y q) ∧ (b = false → p = .nilIface ∧ q = .nilIface) ∧
    ∀ W, Below w.heap.size w W → Hid (Calls Tryd.prog 36 #[u] W fun e w' => e = .returned (.tuple #[p, q, .bool b]) ∧ Below W.heap.size W w') := by
  cases h with
  | num n s l hn => exact ⟨_, _, false, by simp [VT.kind], fun h => (by cases h), fun _ => ⟨rfl, rfl⟩, fun W _ => Lib.hid (pair_no _ W (.inr ⟨_, _, rfl, by decide⟩))⟩
  | text n s l => exact ⟨_, _, false, by simp [VT.kind], fun h => (by cases h), fun _ => ⟨rfl, rfl⟩, fun W _ => Lib.hid (pair_no _ W (.inr ⟨_, _, rfl, by decide⟩))⟩
  | list n s l A c xs hx hb hS hl =>
    by_cases h2 : l.length = 2
    · obtain ⟨a, b, rfl⟩ : ∃ a b, l = [a, b] := by
        match l, h2 with
        | [a, b], _ => exact ⟨a, b, rfl⟩
      obtain ⟨p, q, rfl⟩ : ∃ p q, xs = [p, q] := by
        have := hx.len
        match xs, this with
        | [p, q], _ => exact ⟨p, q, rfl⟩
      have hp := hl 0 (by simp) p rfl
      have hq := hl 1 (by simp) q rfl
      exact ⟨p, q, true, by simp [VT.kind, VT.lst], fun _ => ⟨a, b, rfl, hp, hq⟩, fun h => (by cases h), fun W hb => Lib.hid (pair_yes A c p q W (hx.below hb) hp.isI hq.isI)⟩
    · exact ⟨_, _, false, by simp [VT.kind, VT.lst, h2], fun h => (by cases h), fun _ => ⟨rfl, rfl⟩, fun W hbw => Lib.hid (pair_len A l.length c xs W (hx.below hbw) (AR.one hx hl) (by omega) h2)⟩
  | other k n s l _ h0 h3 h4 a b c => exact ⟨_, _, false, by simp [VT.kind, h4], fun h => (by cases h), fun _ => ⟨rfl, rfl⟩, fun W _ => Lib.hid (pair_no _ W c)⟩

theorem within_no (sc : Nat) {w : World} {S : Nat → Prop} {v : VT} {u : Value} (h : AR w S v u) (h1 : ¬ (sc = 1 ∧ v.kind = 0)) (h3 : ¬ (sc = 1 ∧ v.kind = 3)) (h2 : ¬ (sc = 2 ∧ v.two)) (W : World) (hW : Below w.heap.size w W) :
    Calls Tryd.prog 37 #[.int .u64 sc, u] W fun e w' => (∃ (k : Int) (m : List UInt8) (n1 n2 : Int), e = .returned (.tuple #[eidV k m n1 n2, .bool false])) ∧ Below W.heap.size W w' := by
  obtain ⟨x, bx, hx, -, KU⟩ := uint_of h
  obtain ⟨t, bs, hs, -, KT⟩ := text_of h
  obtain ⟨p, q, bp, hp, hpt, hpf, KP⟩ := pair_of h
  have KP' : ∀ W', Below W.heap.size W W' → Hid (Calls Tryd.prog 36 #[u] W' fun e w' => e = .returned (.tuple #[p, q, .bool bp]) ∧ Below W'.heap.size W' w') := fun W' hb => KP W' (below_then hW hb hW.size)
  have key : ∃ (y z : Nat) (b1 b2 : Bool), (bp = true → b1 = true → b2 = true → sc ≠ 2) ∧
      (∀ W, Hid (Calls Tryd.prog 28 #[p] W fun e w' => e = .returned (.tuple #[.int .u64 y, .bool b1]) ∧ W = w')) ∧ (∀ W, Hid (Calls Tryd.prog 28 #[q] W fun e w' => e = .returned (.tuple #[.int .u64 z, .bool b2]) ∧ W = w')) := by
    cases bp with
    | false =>
      obtain ⟨rfl, rfl⟩ := hpf rfl
      exact ⟨0, 0, false, false, fun h => (by cases h), uint_nil, uint_nil⟩
    | true =>
      obtain ⟨a, b, hl, ha, hb⟩ := hpt rfl
      obtain ⟨y, b1, hy, -, KX⟩ := uint_of ha
      obtain ⟨z, b2, hz, -, KY⟩ := uint_of hb
      exact ⟨y, z, b1, b2, fun _ e1 e2 e3 => h2 ⟨e3, (hp.1 rfl).1, a, b, hl, hy.1 e1, hz.1 e2⟩, KX, KY⟩
  obtain ⟨y, z, b1, b2, hne, KX, KY⟩ := key
  refine within_gen sc u p q x y z ⟨t.toArray⟩ bx bs bp b1 b2 W KU KT KP' KX KY ?_
  cases bx with
  | true =>
    have k0 := hx.1 rfl
    have e1 : bs = false := by cases bs with | false => rfl | true => have := hs.1 rfl; omega
    have e2 : bp = false := by cases bp with | false => rfl | true => have := (hp.1 rfl).1; omega
    exact .inl ⟨rfl, fun e => h1 ⟨e, k0⟩, e1, e2⟩
  | false =>
    cases bs with
    | true =>
      have k3 := hs.1 rfl
      have e2 : bp = false := by cases bp with | false => rfl | true => have := (hp.1 rfl).1; omega
      exact .inr (.inl ⟨rfl, rfl, fun e => h3 ⟨e, k3⟩, e2⟩)
    | false =>
      cases bp with
      | false => exact .inr (.inr (.inl ⟨rfl, rfl, rfl⟩))
      | true =>
        cases b1 with
        | false => exact .inr (.inr (.inr (.inl ⟨rfl, rfl, rfl, rfl⟩)))
        | true =>
          cases b2 with
          | false => exact .inr (.inr (.inr (.inr (.inl ⟨rfl, rfl, rfl, rfl, rfl⟩))))
          | true => exact .inr (.inr (.inr (.inr (.inr ⟨rfl, rfl, rfl, rfl, rfl, hne rfl rfl rfl⟩))))
end Go.Proofs.YtieigjlbjiielaaDoor
