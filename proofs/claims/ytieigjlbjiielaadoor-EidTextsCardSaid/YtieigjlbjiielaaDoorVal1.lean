/- Values of the document (a struct that holds a slice of itself): a tree; one that came in, read as a tree. No condition. -/
import Derived.Test.YtieigjlbjiielaaDoorOpen
import Derived.SizedLaws
namespace Go.Proofs.YtieigjlbjiielaaDoor
open Go.RowKit

/-- A value: its kind, number, text, list. -/
inductive VT where
  | mk (k : Int) (n : Nat) (s : List UInt8) (l : List VT)
/-- Four cells read as a value. -/
inductive VR (w : World) : VT → List Value → Prop
  | mk (k : Int) (n : Nat) (s : List UInt8) (l : List VT) (A : Option Addr) (c : Nat) (all : List Value) (hn : n < 18446744073709551616) (hb : l.length * 56 ≤ 140737488351232) (hr : Rd w A l.length c 4 all)
      (hl : ∀ i (h : i < l.length), VR w l[i] ((all.drop (i * 4)).take 4)) : VR w (.mk k n s l) [.int .i64 k, .int .u64 (n : Int), .string ⟨s.toArray⟩, .slice A l.length c]
theorem VR.keep {w w' : World} (hb : Below w.heap.size w w') {v : VT} {cs : List Value} (h : VR w v cs) : VR w' v cs := by
  induction h with
  | mk k n s l A c all hn hs hr hl ih => exact .mk k n s l A c all hn hs (hr.below hb) ih
theorem VR.length {w : World} {v : VT} {cs : List Value} (h : VR w v cs) : cs.length = 4 := by cases h; rfl

set_option maxRecDepth 100000 in
/-- Rows of what was read piece by piece. -/
theorem rd_rows {α : Type} {w : World} {R : α → List Value → Prop} {a : Addr} {len cap s : Nat} (hl : len ≤ cap) (hm : cap ≤ maxLen) (hs : 0 < s)
    (key : ∀ i, i < len → ∃ y : List Value × α, y.1.length = s ∧ (∀ j, j < s → w.cell? ((a.add (i * s)).add j) = y.1[j]?) ∧ R y.2 y.1) :
    ∃ (l : List α) (all : List Value), l.length = len ∧ Rd w (some a) len cap s all ∧ ∀ i (h : i < l.length), R l[i] ((all.drop (i * s)).take s) := by
  obtain ⟨l, hll, hlr⟩ := list_of len _ key
  obtain ⟨hfl, hfg⟩ := flat_get s (l.map (·.1)) (fun c hc => by
    obtain ⟨y, hy, rfl⟩ := List.mem_map.1 hc
    obtain ⟨i, hil, rfl⟩ := List.mem_iff_getElem.1 hy
    exact (hlr i hil).1)
  rw [List.length_map] at hfl
  refine ⟨l.map (·.2), (l.map (·.1)).flatten, by simp [hll], ⟨by rw [hfl, hll], hl, hm, (fun e => nomatch e), fun ad e j u hu => ?_⟩, fun i hil => ?_⟩
  · cases e
    have hj : j < len * s := by
      have := (List.getElem?_eq_some_iff.1 hu).1
      rw [hfl, hll] at this; exact this
    have hq : j / s < l.length := by rw [hll]; exact (Nat.div_lt_iff_lt_mul hs).2 hj
    have hr : j % s < s := Nat.mod_lt _ hs
    have hjj : j = (j / s) * s + j % s := by rw [Nat.mul_comm]; exact (Nat.div_add_mod j s).symm
    have h3 := (hlr (j / s) hq).2.1 (j % s) hr
    rw [add_add, ← hjj] at h3
    rw [h3, ← hu]
    have h6 := hfg (j / s) (by rw [List.length_map]; exact hq)
    rw [List.getElem_map] at h6
    rw [← h6, List.getElem?_take_of_lt hr, List.getElem?_drop, ← hjj]
  · rw [List.length_map] at hil
    have h6 := hfg i (by rw [List.length_map]; exact hil)
    rw [List.getElem_map] at h6
    rw [h6, List.getElem_map]
    exact (hlr i hil).2.2

section
variable {H : Type} {enc : TypeId × Value → H} {w : World} {base : Nat} {spare : Nat → Bool} {held : Bool}
theorem weightsAll_mem {P : Program} {e : TypeId} : ∀ {l : List (DataW H)} {d : DataW H}, d ∈ l → ∀ n ∈ d.weights P e, n ∈ DataW.weightsAll P e l
  | a :: l, d, hd, n, hn => by
    simp only [DataW.weightsAll, List.mem_append]
    rcases List.mem_cons.1 hd with rfl | hd
    · exact Or.inl hn
    · exact Or.inr (weightsAll_mem hd n hn)
set_option maxRecDepth 100000 in
theorem v_opens (fuel : Nat) : ∀ (cs : List Value) (d : DataW H × List MemPlace), DataW.trod enc Tryd.prog w base spare held fuel 27 cs = some d → (∀ n ∈ d.1.weights Tryd.prog 27, n ≤ reachBytes) → ∃ v : VT, VR w v cs := by
  induction fuel using Nat.strongRecOn with
  | ind fuel ih =>
    intro cs d h hwt
    obtain ⟨xs, n, hfu, hdx, hlen, hxl, hg⟩ := DataW.trod_struct Tryd.underlying27 h
    have c3 : Tryd.prog.cellsOf 3 = 1 := by kernel_rfl
    have c22 : Tryd.prog.cellsOf 22 = 1 := by kernel_rfl
    have c9 : Tryd.prog.cellsOf 9 = 1 := by kernel_rfl
    have cs1 : Tryd.prog.cellsOf 25 = 1 := by kernel_rfl
    have cv : Tryd.prog.cellsOf 27 = 4 := by kernel_rfl
    rw [cv] at hlen
    have hx4 : xs.length = 4 := by simpa using hxl
    have hw3 : ∀ n ∈ (xs[3]'(by omega)).1.weights Tryd.prog 25, n ≤ reachBytes := fun n hn => hwt n (by
      rw [hdx]
      simp only [DataW.weights, Tryd.underlying27]
      exact DataW.weights_mem_each (j := 3) (t := 25) (d := (xs[3]'(by omega)).1) rfl (by rw [List.getElem?_map, List.getElem?_eq_getElem (by omega)]; rfl) n hn)
    have h0 : DataW.trod enc Tryd.prog w base spare held n 3 (List.take (Tryd.prog.cellsOf 3) (List.drop 0 cs)) = some (xs[0]'(by omega)) := by
      have := hg 0 _ rfl
      rw [List.getElem?_eq_getElem (by omega)] at this
      exact this
    have h1 : DataW.trod enc Tryd.prog w base spare held n 22 (List.take (Tryd.prog.cellsOf 22) (List.drop 1 cs)) = some (xs[1]'(by omega)) := by
      have := hg 1 _ rfl
      rw [List.getElem?_eq_getElem (by omega)] at this
      exact this
    have h2 : DataW.trod enc Tryd.prog w base spare held n 9 (List.take (Tryd.prog.cellsOf 9) (List.drop 2 cs)) = some (xs[2]'(by omega)) := by
      have := hg 2 _ rfl
      rw [List.getElem?_eq_getElem (by omega)] at this
      exact this
    have h3 : DataW.trod enc Tryd.prog w base spare held n 25 (List.take (Tryd.prog.cellsOf 25) (List.drop 3 cs)) = some (xs[3]'(by omega)) := by
      have := hg 3 _ rfl
      rw [List.getElem?_eq_getElem (by omega)] at this
      exact this
    rw [c3] at h0
    rw [c22] at h1
    rw [c9] at h2
    rw [cs1] at h3
    obtain ⟨a, b, c, e, rfl⟩ : ∃ a b c e, cs = [a, b, c, e] := by
      match cs, hlen with
      | [a, b, c, e], _ => exact ⟨a, b, c, e, rfl⟩
    obtain ⟨k, e0, _, w0⟩ := DataW.trod_int Tryd.underlying3 h0
    obtain ⟨m, e1, _, w1⟩ := DataW.trod_int Tryd.underlying22 h1
    obtain ⟨s, e2, _, hs⟩ := DataW.trod_string Tryd.underlying9 h2
    simp at e0 e1 e2
    subst e0 e1 e2
    obtain ⟨m, rfl, hm⟩ := u64_opened w1
    obtain ⟨⟨s⟩⟩ := s
    rcases DataW.trod_slice Tryd.underlying25 h3 with ⟨e3, _⟩ | ⟨ad, len, cap, elems, rest, n', hn', e3, hx3, hb, hl, hmx, hel, hee, _, _⟩
    · simp at e3
      subst e3
      exact ⟨.mk k m s [], .mk k m s [] none 0 [] hm (by decide) (Rd.empty _ _) (fun i hi => absurd hi (by simp))⟩
    · simp at e3
      subst e3
      rw [hx3] at hw3
      simp only [DataW.weights, Tryd.underlying25] at hw3
      have hbs : Tryd.prog.bytesOf 27 = 56 := by kernel_rfl
      have hsz := hw3 _ List.mem_cons_self
      rw [hbs, List.length_map, List.length_map, hel] at hsz
      unfold reachBytes at hsz
      obtain ⟨l, all, g1, g2, g3⟩ := rd_rows (R := fun v cs => VR w v cs) (s := 4) hl hmx (by decide) (fun i hi => by
        have hi2 := hee i hi
        rw [cv, List.getElem?_eq_getElem (by omega)] at hi2
        obtain ⟨cs', q1, q2⟩ := Option.bind_eq_some_iff.1 hi2
        obtain ⟨_, q4, q5⟩ := World.cells?_some q1
        obtain ⟨v, hv⟩ := ih n' (by omega) cs' _ q2 (fun n hn => hw3 n (List.mem_cons_of_mem _ (List.mem_append_left _ (weightsAll_mem (List.mem_map.2 ⟨_, List.getElem_mem _, rfl⟩) n hn))))
        exact ⟨(cs', v), q4, q5, hv⟩)
      subst g1
      exact ⟨.mk k m s l, .mk k m s l (some ad) cap all hm (by omega) g2 g3⟩
end
set_option maxRecDepth 100000 in
/-- A value that came in. -/
theorem open_v {H : Type} {enc : TypeId × Value → H} {w : World} {base b0 : Nat} {spare : Nat → Bool} {held : Bool} {r : Reach} {u : Value} {d : DataW H} {p : List MemPlace}
    (hv : Value.okWide Tryd.prog w r b0 27 u) (h : DataW.Trod enc Tryd.prog w base spare held 27 u d p) (hwt : ∀ n ∈ d.weights Tryd.prog 27, n ≤ reachBytes) :
    ∃ (cs : List Value) (x : VT), u = .agg cs.toArray ∧ VR w x cs := by
  obtain ⟨cs, rfl, _⟩ := Go.WideShapes.okWide_struct Tryd.underlying27 hv
  obtain ⟨fuel, hfl⟩ := h
  obtain ⟨x, hx⟩ := v_opens fuel _ _ hfl hwt
  exact ⟨cs.toList, x, by simp, hx⟩
end Go.Proofs.YtieigjlbjiielaaDoor
