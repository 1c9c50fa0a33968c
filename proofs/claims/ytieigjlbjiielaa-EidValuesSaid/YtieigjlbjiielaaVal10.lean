/- The reference's Of; the law EidValues, walked. Asked: that the library's variable holds a number. -/
import Derived.Test.YtieigjlbjiielaaVal9
import Derived.Test.YtieigjlbjiielaaEid8
namespace Go.Proofs.Ytieigjlbjiielaa
open Go.RowKit

theorem rof_any {w : World} {v : VT} {cs : List Value} {sc : Int} {nm : List UInt8} {nd sv : Nat} {er : Int} (h : VR w v cs) (hc : OfC v sc nm nd sv er) : Calls Try.prog 25 #[.agg cs.toArray] w (ofRes w sc nm nd sv er) := by
  obtain ⟨A, c, all, rfl, hr, hv⟩ := vr_cells h
  cases hc with
  | notlist hn =>
    by_cases h4 : v.kind = 4
    · rw [h4]; exact rof_len w (hn.resolve_left (fun h => h h4))
    · exact rof_kind w h4
  | first a b h4 hl ha =>
    obtain ⟨ad, c1, c2, A1, A2, all1, all2, rfl, -, hb, ⟨x0, x1⟩, y0, y1, y2, y3⟩ := vr_two hl hr hv
    rw [h4, show v.lst.length = 2 by rw [hl]; rfl]
    exact rof_first w x0 x1 y0 y1 y2 y3 ha
  | none a b h4 hl ha h1 hb hz =>
    obtain ⟨ad, c1, c2, A1, A2, all1, all2, rfl, -, -, ⟨x0, x1⟩, y0, y1, y2, y3⟩ := vr_two hl hr hv
    rw [h4, show v.lst.length = 2 by rw [hl]; rfl]
    rw [ha] at x0; rw [h1] at x1; rw [hb] at y0
    exact rof_none w x0 x1 y0 y1 y2 y3 hz
  | nobody a b h4 hl ha h1 hb hz =>
    obtain ⟨ad, c1, c2, A1, A2, all1, all2, rfl, -, -, ⟨x0, x1⟩, y0, y1, y2, y3⟩ := vr_two hl hr hv
    rw [h4, show v.lst.length = 2 by rw [hl]; rfl]
    rw [ha] at x0; rw [h1] at x1; rw [hb] at y0; rw [hz] at y1
    exact rof_nobody w x0 x1 y0 y1 y2 y3
  | badname a b h4 hl ha h1 hb hz =>
    obtain ⟨ad, c1, c2, A1, A2, all1, all2, rfl, -, -, ⟨x0, x1⟩, y0, y1, y2, y3⟩ := vr_two hl hr hv
    rw [h4, show v.lst.length = 2 by rw [hl]; rfl]
    rw [ha] at x0; rw [h1] at x1; rw [hb] at y0
    by_cases hs : b.str = []
    · rw [hs] at y2
      exact rof_empty w x0 x1 y0 y1 y2 y3
    · exact rof_bad w x0 x1 y0 y1 y2 y3 hs (hz.resolve_left hs)
  | name a b h4 hl ha h1 hb hn hz =>
    obtain ⟨ad, c1, c2, A1, A2, all1, all2, rfl, -, -, ⟨x0, x1⟩, y0, y1, y2, y3⟩ := vr_two hl hr hv
    rw [h4, show v.lst.length = 2 by rw [hl]; rfl]
    rw [ha] at x0; rw [h1] at x1; rw [hb] at y0
    exact rof_name w x0 x1 y0 y1 y2 y3 hn hz
  | ipn a b x y h4 hl ha h2 hb hbl hx hy =>
    obtain ⟨ad, c1, c2, A1, A2, all1, all2, rfl, -, ⟨hr2, hv2⟩, ⟨x0, x1⟩, y0, y1, y2, y3⟩ := vr_two hl hr hv
    obtain ⟨a2, e1, e2, B1, B2, all3, all4, rfl, -, -, ⟨p0, p1⟩, q0, q1, -, -⟩ := vr_two hbl hr2 hv2
    rw [h4, show v.lst.length = 2 by rw [hl]; rfl]
    rw [show b.lst.length = 2 by rw [hbl]; rfl] at y3
    rw [ha] at x0; rw [h2] at x1; rw [hb] at y0; rw [hx] at p0; rw [hy] at q0
    exact rof_ipn w x0 x1 y0 y1 y2 y3 p0 p1 q0 q1
  | rest a b h4 hl ha h1 h3 h2 =>
    obtain ⟨ad, c1, c2, A1, A2, all1, all2, rfl, -, ⟨hr2, hv2⟩, ⟨x0, x1⟩, y0, y1, y2, y3⟩ := vr_two hl hr hv
    rw [h4, show v.lst.length = 2 by rw [hl]; rfl]
    rw [ha] at x0
    by_cases e1 : a.num = 1
    · rw [e1] at x1
      exact rof_rest1 w x0 x1 y0 y1 y2 y3 (fun e => h1 ⟨e1, e⟩) (fun e => h3 ⟨e1, e⟩)
    · by_cases e2 : a.num = 2
      · rw [e2] at x1
        by_cases e3 : b.kind = 4
        · rw [e3] at y0
          by_cases e4 : b.lst.length = 2
          · obtain ⟨x, y, hbl⟩ : ∃ x y, b.lst = [x, y] := by
              match h : b.lst, e4 with
              | [x, y], _ => exact ⟨x, y, rfl⟩
            obtain ⟨a2, f1, f2, B1, B2, all3, all4, rfl, -, -, ⟨p0, p1⟩, q0, q1, -, -⟩ := vr_two hbl hr2 hv2
            rw [e4] at y3
            by_cases e5 : x.kind = 0
            · rw [e5] at p0
              exact rof_rest6 w x0 x1 y0 y1 y2 y3 p0 p1 q0 q1 (fun e => h2 ⟨e2, e3, x, y, hbl, e5, e⟩)
            · exact rof_rest5 w x0 x1 y0 y1 y2 y3 p0 p1 q0 q1 e5
          · exact rof_rest4 w x0 x1 y0 y1 y2 y3 e4
        · exact rof_rest3 w x0 x1 y0 y1 y2 y3 e3
      · exact rof_rest2 w x0 x1 y0 y1 y2 y3 e1 e2
end Go.Proofs.Ytieigjlbjiielaa
