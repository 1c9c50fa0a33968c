/- stamp.Of over what stands for a value; the law StampValues, walked. No condition but the kinds' bounds. -/
import Derived.Test.YtieigjlbjiielaaDoorSv1
import Derived.Test.YtieigjlbjiielaaDoorItem3
namespace Go.Proofs.YtieigjlbjiielaaDoor
open Go.RowKit

def VT.kind : VT → Int
  | .mk k _ _ _ => k
def VT.num : VT → Nat
  | .mk _ n _ _ => n
def VT.str : VT → List UInt8
  | .mk _ _ s _ => s
def VT.lst : VT → List VT
  | .mk _ _ _ l => l
/-- What item.Uint tells of what stands for a value. -/
theorem uint_of {w : World} {S : Nat → Prop} {v : VT} {u : Value} (h : AR w S v u) : ∃ (y : Nat) (b : Bool), (b = true ↔ v.kind = 0) ∧ (b = true → y = v.num) ∧
    ∀ W, Hid (Calls Tryd.prog 28 #[u] W fun e w' => e = .returned (.tuple #[.int .u64 y, .bool b]) ∧ W = w') := by
  cases h with
  | num n s l hn => exact ⟨n, true, by simp [VT.kind], fun _ => rfl, fun W => Lib.hid (uint_any n W)⟩
  | text n s l => exact ⟨0, false, by simp [VT.kind], fun h => (by cases h), fun W => Lib.hid (uint_no _ W (.inr ⟨_, _, rfl, by decide⟩))⟩
  | list n s l A c xs hx hb hS hl => exact ⟨0, false, by simp [VT.kind], fun h => (by cases h), fun W => Lib.hid (uint_no _ W (.inr ⟨_, _, rfl, by decide⟩))⟩
  | other k n s l _ h0 h3 h4 a b c => exact ⟨0, false, by simpa [VT.kind] using h0, fun h => (by cases h), fun W => Lib.hid (uint_no _ W a)⟩
theorem AR.one {w : World} {S : Nat → Prop} {l : List VT} {A : Option Addr} {c : Nat} {xs : List Value} (hx : Rd w A l.length c 1 xs) (hl : ∀ i (h : i < l.length) u, xs[i]? = some u → AR w S l[i] u) : ∀ u ∈ xs, u.oneCell' = true := by
  intro u hu
  obtain ⟨i, hi, rfl⟩ := List.mem_iff_getElem.1 hu
  have := hx.len
  exact (hl i (by omega) _ (List.getElem?_eq_getElem hi)).isI.one
theorem vr_cells {w : World} {v : VT} {cs : List Value} (h : VR w v cs) : ∃ (A : Option Addr) (c : Nat) (all : List Value), cs = [.int .i64 v.kind, .int .u64 (v.num : Int), .string ⟨v.str.toArray⟩, .slice A v.lst.length c] ∧ Rd w A v.lst.length c 4 all ∧
    ∀ i (h : i < v.lst.length), VR w v.lst[i] ((all.drop (i * 4)).take 4) := by
  cases h with
  | mk k n s l A c all hn hs hr hl => exact ⟨A, c, all, rfl, hr, hl⟩
/-- The cells of a list of two. -/
theorem vr_two {w : World} {A : Option Addr} {c : Nat} {all : List Value} {l : List VT} {a b : VT} (hl : l = [a, b]) (hr : Rd w A l.length c 4 all) (hv : ∀ i (h : i < l.length), VR w l[i] ((all.drop (i * 4)).take 4)) :
    ∃ ad c1 c2 A1 A2 all1 all2, A = some ad ∧ (Rd w A1 a.lst.length c1 4 all1 ∧ ∀ i (h : i < a.lst.length), VR w a.lst[i] ((all1.drop (i * 4)).take 4)) ∧ (Rd w A2 b.lst.length c2 4 all2 ∧ ∀ i (h : i < b.lst.length), VR w b.lst[i] ((all2.drop (i * 4)).take 4)) ∧
      (w.cell? ad = some (.int .i64 a.kind) ∧ w.cell? ⟨ad.block, ad.off + 1, none⟩ = some (.int .u64 (a.num : Int))) ∧
      (w.cell? ⟨ad.block, ad.off + 4, none⟩ = some (.int .i64 b.kind) ∧ w.cell? ⟨ad.block, ad.off + 4 + 1, none⟩ = some (.int .u64 (b.num : Int)) ∧ w.cell? ⟨ad.block, ad.off + 4 + 2, none⟩ = some (.string ⟨b.str.toArray⟩) ∧ w.cell? ⟨ad.block, ad.off + 4 + 3, none⟩ = some (.slice A2 b.lst.length c2)) := by
  subst hl
  obtain ⟨A1, c1, all1, e1, hr1, hv1⟩ := vr_cells (hv 0 (by simp))
  obtain ⟨A2, c2, all2, e2, hr2, hv2⟩ := vr_cells (hv 1 (by simp))
  obtain ⟨ad, rfl, x0, x1, x2, x3⟩ := rows4 hr 0 (by simp) e1
  obtain ⟨ad', hd, y0, y1, y2, y3⟩ := rows4 hr 1 (by simp) e2
  cases hd
  have q0 : (ad.add (0 * 4)) = ad := rfl
  have q1 : (ad.add (1 * 4)) = ⟨ad.block, ad.off + 4, none⟩ := rfl
  rw [q0] at x0 x1
  rw [q1] at y0 y1 y2 y3
  exact ⟨ad, c1, c2, A1, A2, all1, all2, rfl, ⟨hr1, hv1⟩, ⟨hr2, hv2⟩, ⟨x0, x1⟩, ⟨y0, y1, y2, y3⟩⟩


theorem stof_yes {w : World} {S : Nat → Prop} {v a b : VT} {u : Value} (h : AR w S v u) (h4 : v.kind = 4) (hl : v.lst = [a, b]) (ha : a.kind = 0) (hb : b.kind = 0) :
    Calls Tryd.prog 8 #[u] w fun e w' => e = .returned (.tuple #[stp a.num b.num, .int .i64 0]) ∧ Below w.heap.size w w' := by
  cases h with
  | num n s l hn => simp [VT.kind] at h4
  | text n s l => simp [VT.kind] at h4
  | list n s l A c xs hx hbs hS hel =>
    obtain rfl : l = [a, b] := hl
    obtain ⟨p, q, rfl⟩ : ∃ p q, xs = [p, q] := by
      have := hx.len
      match xs, this with
      | [p, q], _ => exact ⟨p, q, rfl⟩
    have hp := hel 0 (by simp) p rfl
    have hq := hel 1 (by simp) q rfl
    obtain ⟨n1, b1, e1, f1, K1⟩ := uint_of hp
    obtain ⟨n2, b2, e2, f2, K2⟩ := uint_of hq
    obtain rfl : b1 = true := e1.2 ha
    obtain rfl : b2 = true := e2.2 hb
    obtain rfl : n1 = a.num := f1 rfl
    obtain rfl : n2 = b.num := f2 rfl
    exact sof_pair p q a.num b.num true true A c w hx hp.isI hq.isI K1 K2
  | other k n s l _ h0 h3 h4' a' b' c' => exact absurd h4 h4'
theorem stof_no {w : World} {S : Nat → Prop} {v : VT} {u : Value} (h : AR w S v u) (hn : ¬ (v.kind = 4 ∧ ∃ a b, v.lst = [a, b] ∧ a.kind = 0 ∧ b.kind = 0)) :
    Calls Tryd.prog 8 #[u] w fun e w' => e = .returned (.tuple #[stp 0 0, .int .i64 18]) ∧ Below w.heap.size w w' := by
  cases h with
  | num n s l hn => exact sof_no _ w (.inr ⟨_, _, rfl, by decide⟩)
  | text n s l => exact sof_no _ w (.inr ⟨_, _, rfl, by decide⟩)
  | list n s l A c xs hx hbs hS hel =>
    by_cases h2 : l.length = 2
    · obtain ⟨a, b, rfl⟩ : ∃ a b, l = [a, b] := by
        match l, h2 with
        | [a, b], _ => exact ⟨a, b, rfl⟩
      obtain ⟨p, q, rfl⟩ : ∃ p q, xs = [p, q] := by
        have := hx.len
        match xs, this with
        | [p, q], _ => exact ⟨p, q, rfl⟩
      have hp := hel 0 (by simp) p rfl
      have hq := hel 1 (by simp) q rfl
      obtain ⟨n1, b1, e1, f1, K1⟩ := uint_of hp
      obtain ⟨n2, b2, e2, f2, K2⟩ := uint_of hq
      have hbb : (b1 && b2) = false := by
        cases b1 with
        | false => rfl
        | true =>
          cases b2 with
          | false => rfl
          | true => exact absurd ⟨rfl, a, b, rfl, e1.1 rfl, e2.1 rfl⟩ hn
      have := sof_pair p q n1 n2 b1 b2 A c w hx hp.isI hq.isI K1 K2
      rw [hbb] at this
      exact this
    · exact sof_len A l.length c xs w hx (AR.one hx hel) (by omega) h2
  | other k n s l _ h0 h3 h4 a b c => exact sof_no _ w c
end Go.Proofs.YtieigjlbjiielaaDoor
