/- The law BeReads of layer 1, walked: it returns true and writes nothing that was there. No condition. -/
import Derived.Test.YthkabhejfkekjaaBeLaw
namespace Go.Proofs.Ythkabhejfkekjaa
open Go.RowKit

/-- Steps as cells: two a step. -/
def sts : List (Int × Int) → List Value
  | [] => []
  | s :: l => .int .i64 s.1 :: .int .i64 s.2 :: sts l
theorem sts_length (l : List (Int × Int)) : (sts l).length = l.length * 2 := by
  induction l with
  | nil => rfl
  | cons s l ih => simp [sts, ih]; omega
theorem sts_get (l : List (Int × Int)) : ∀ i, i < l.length → (sts l)[i * 2]? = some (.int .i64 (l.getD i (0, 0)).1) ∧ (sts l)[i * 2 + 1]? = some (.int .i64 (l.getD i (0, 0)).2) := by
  induction l with
  | nil => intro i h; simp at h
  | cons s l ih =>
    intro i h
    cases i with
    | zero => simp [sts]
    | succ i =>
      have := ih i (by simpa using h)
      rw [show (i + 1) * 2 = i * 2 + 1 + 1 by omega]
      simpa [sts] using this

theorem getN_take (xs : List UInt8) (a m : Nat) (ha : a + m ≤ xs.length) (hm : m ≤ 8) : getN ((xs.drop a).take m) 0 m = getN xs a m := by
  rw [show (0 : Int) = ((0 : Nat) : Int) from rfl, getN_in _ _ _ (by omega) hm, getN_in _ _ _ (by omega) hm]
  refine numN_congr _ (fun i hi => ?_)
  have h1 : i < ((xs.drop a).take m).length := by rw [List.length_take, List.length_drop]; omega
  rw [show (((0 : Nat) : Int) + (i : Int)) = ((i : Nat) : Int) by omega, byteAt_in h1, show ((a : Int) + (i : Int)) = ((a + i : Nat) : Int) by omega, byteAt_in (by omega)]
  simp [List.getD, List.getElem?_take, hi, List.getElem?_drop]

set_option maxRecDepth 100000 in
set_option maxHeartbeats 2000000 in
theorem bereads_law (xs : List UInt8) (A : Option Addr) (n c : Nat) (l : List (Int × Int)) (A' : Option Addr) (n' c' : Nat) (w : World) (hx : RdB w A n c xs) (hl : Rd w A' n' c' 2 (sts l)) :
    Calls Try.prog 8 #[.slice A n c, .slice A' n' c'] w fun e w' => e = .returned (.bool true) ∧ Below w.heap.size w w' := by
  have hm := hx.cm
  have hnc := hx.nc
  have hm' := hl.cm
  have hnc' := hl.nc
  unfold maxLen at hm hm'
  have hB := Below.refl w.heap.size w
  by_cases hlen : 300 < n
  · go_enter Try.func8, Try.ntmps8
    go_wp2_with (go_at_call 27; refine (awake01_any _).mono ?_; rintro e w2 ⟨rfl, hb⟩; replace hB := below_trans hB hb; clear hb)
    go_ret
    exact ⟨rfl, hB⟩
  have hd : decide ((300 : Int) < n) = false := by simp; omega
  have K := Lib.hid (over_any xs A n c w hx (by omega))
  go_enter Try.func8, Try.ntmps8
  go_wp2_with fail
  refine K.out.mono ?_
  rintro e w1 ⟨g, rfl, hg, hr, hb⟩
  have hx1 := hx.below hb
  have hl1 := hl.below hb
  replace hB := below_trans hB hb
  clear hb K hd
  have Hx := Lib.hid hx
  have Hl := Lib.hid hl
  clear hx hl
  go_wp2_with fail
  go_loopw [6, 7, 8] (fun a s i wr => ∃ (q i' : Nat) (sh : Bool) (ls : List UInt8), q ≤ n ∧ i' ≤ n' ∧ i' ≤ 60 ∧ a = .int .i64 q ∧ s = .bool sh ∧ i = .int .i64 i' ∧ (sh = false → ls = xs.drop q) ∧ Rdr wr g ls sh ∧ w1.grownBy wr (some g)) (fun _ _ i _ => n' - (intOf i).toNat)
  case atStart => exact ⟨0, 0, false, xs, by omega, by omega, by omega, rfl, rfl, rfl, fun _ => by simp, hr, World.grownBy.refl _ _⟩
  case round =>
    obtain ⟨q, i', sh, ls, hq, hi, hi6, rfl, rfl, rfl, hls, hrd, hgb⟩ := hrel
    have hxr := Rd.keptG Hx.out hx1 hgb hg
    have hlr := Rd.keptG Hl.out hl1 hgb hg
    by_cases hlt : i' < n' ∧ i' < 60
    · obtain ⟨h1, h2⟩ := hlt
      obtain ⟨ad, rfl⟩ := Rd.some_of_pos hlr (by omega)
      have hll : l.length = n' := by have := hlr.len; rw [sts_length] at this; omega
      obtain ⟨g1, g2⟩ := sts_get l i' (by omega)
      have e1 := hlr.cell ad rfl _ _ g1
      have e2' := hlr.cell ad rfl _ _ g2
      rw [← add_add] at e2'
      have e2 : wr.cell? ⟨(ad.add (i' * 2)).block, (ad.add (i' * 2)).off + 1, none⟩ = some (.int .i64 (l.getD i' (0, 0)).2) := e2'
      clear e2'
      generalize (l.getD i' (0, 0)).1 = kd at *
      generalize (l.getD i' (0, 0)).2 = m at *
      clear g1 g2 hll
      have hkk : ((kd == 1) = true ∧ (kd != 1) = false) ∨ ((kd == 1) = false ∧ (kd != 1) = true) := by
        by_cases h : kd = 1
        · exact .inl ⟨by simp [h], by simp [h]⟩
        · exact .inr ⟨by simp [h], by simp [h]⟩
      have Hll := Lib.hid hrd.len
      cases sh
      case true =>
        clear hls
        rcases hkk with ⟨hk1, hk2⟩ | ⟨hk1, hk2⟩
        · have hsh : rdShort ls true m = true := rfl
          have hout : rdOut ls true m = [] := rfl
          have hleft : rdLeft ls true m = ls := rfl
          have K := Lib.hid (rdB_any ls true m g wr hrd)
          rw [hsh, hout, hleft] at K
          clear hsh hout hleft
          go_wp2_with fail
          refine K.out.mono ?_
          rintro e w2 ⟨A3, n3, c3, rfl, hy, hrd2, hgb2⟩
          have hy0 := hy.blen
          obtain rfl : n3 = 0 := by simpa using hy0.symm
          have hgb3 := World.grownBy.trans hgb hgb2
          clear K hy hy0 hgb2 hrd e1 e2 hxr hlr
          go_wp2_with fail
          go_quiet (fail)
          have hrd3 : Rdr (w2.drewN nq) g ls true := hrd2.kept (below_drewN (Below.refl _ _) nq)
          have hgb4 : w1.grownBy (w2.drewN nq) (some g) := World.grownBy.trans hgb3 (gb_below (below_drewN (Below.refl _ _) nq) _)
          clear hrd2 hgb3
          generalize w2.drewN nq = w3 at *
          have hrd2 := hrd3
          go_wp2_with (go_at_call 38; refine (rdLeft_any _ _ _ _ hrd2).mono ?_; rintro e w5 ⟨rfl, rfl⟩)
          go_roundw
          case rel => exact ⟨q, i' + 1, true, ls, hq, by omega, by omega, rfl, rfl, by go_num, (fun h => by cases h), hrd3, hgb4⟩
          case measure => simp [intOf]; omega
        · have hsh : rdShort ls true (nw m) = true := rfl
          have hnum : rdNum ls true m = 0 := getN_nil _ _
          have hleft : rdLeft ls true (nw m) = ls := rfl
          have K := Lib.hid (rdN_any ls true m g wr hrd)
          rw [hnum, hsh, hleft] at K
          clear hsh hnum hleft
          go_wp2_with fail
          refine K.out.mono ?_
          rintro e w2 ⟨rfl, hrd2, hgb2⟩
          have hgb3 := World.grownBy.trans hgb hgb2
          clear K hgb2 hrd e1 e2 hxr hlr
          go_wp2_with (go_at_call 38; refine (rdLeft_any _ _ _ _ hrd2).mono ?_; rintro e w5 ⟨rfl, rfl⟩)
          go_roundw
          case rel => exact ⟨q, i' + 1, true, ls, hq, by omega, by omega, rfl, rfl, by go_num, (fun h => by cases h), hrd2, hgb3⟩
          case measure => simp [intOf]; omega
      case false =>
        have hls' := hls rfl
        have hlsl : ls.length = n - q := by rw [hls', List.length_drop, hx1.blen]
        clear hls
        have Hls := Lib.hid hls'
        have Hlsl := Lib.hid hlsl
        clear hls' hlsl
        rcases hkk with ⟨hk1, hk2⟩ | ⟨hk1, hk2⟩
        · by_cases hbad : m < 0 ∨ ((n : Int) - q < m)
          · have hsh : rdShort ls false m = true := by unfold rdShort; rw [Hlsl.out]; simp; omega
            have hout : rdOut ls false m = [] := by unfold rdOut; rw [hsh]; rfl
            have hleft : rdLeft ls false m = ls := by unfold rdLeft; rw [hsh]; rfl
            by_cases h0 : m < 0
            · clear hbad
              have K := Lib.hid (rdB_any ls false m g wr hrd)
              rw [hsh, hout, hleft] at K
              clear hsh hout hleft
              go_wp2_with fail
              refine K.out.mono ?_
              rintro e w2 ⟨A3, n3, c3, rfl, hy, hrd2, hgb2⟩
              have hy0 := hy.blen
              obtain rfl : n3 = 0 := by simpa using hy0.symm
              have hgb3 := World.grownBy.trans hgb hgb2
              clear K hy hy0 hgb2 hrd e1 e2 hxr hlr
              go_wp2_with fail
              go_quiet (fail)
              have hrd3 : Rdr (w2.drewN nq) g ls true := hrd2.kept (below_drewN (Below.refl _ _) nq)
              have hgb4 : w1.grownBy (w2.drewN nq) (some g) := World.grownBy.trans hgb3 (gb_below (below_drewN (Below.refl _ _) nq) _)
              clear hrd2 hgb3
              generalize w2.drewN nq = w3 at *
              have hrd2 := hrd3
              go_wp2_with (go_at_call 38; refine (rdLeft_any _ _ _ _ hrd2).mono ?_; rintro e w5 ⟨rfl, rfl⟩)
              go_roundw
              case rel => exact ⟨q, i' + 1, true, ls, hq, by omega, by omega, rfl, rfl, by go_num, (fun h => by cases h), hrd3, hgb4⟩
              case measure => simp [intOf]; omega
            · have hd0 : decide (m < 0) = false := by simp; omega
              have hb1 : (n : Int) - q < m := by omega
              clear hbad
              have K := Lib.hid (rdB_any ls false m g wr hrd)
              rw [hsh, hout, hleft] at K
              clear hsh hout hleft
              go_wp2_with fail
              refine K.out.mono ?_
              rintro e w2 ⟨A3, n3, c3, rfl, hy, hrd2, hgb2⟩
              have hy0 := hy.blen
              obtain rfl : n3 = 0 := by simpa using hy0.symm
              have hgb3 := World.grownBy.trans hgb hgb2
              clear K hy hy0 hgb2 hrd e1 e2 hxr hlr
              go_wp2_with fail
              go_quiet (fail)
              have hrd3 : Rdr (w2.drewN nq) g ls true := hrd2.kept (below_drewN (Below.refl _ _) nq)
              have hgb4 : w1.grownBy (w2.drewN nq) (some g) := World.grownBy.trans hgb3 (gb_below (below_drewN (Below.refl _ _) nq) _)
              clear hrd2 hgb3
              generalize w2.drewN nq = w3 at *
              have hrd2 := hrd3
              go_wp2_with (go_at_call 38; refine (rdLeft_any _ _ _ _ hrd2).mono ?_; rintro e w5 ⟨rfl, rfl⟩)
              go_roundw
              case rel => exact ⟨q, i' + 1, true, ls, hq, by omega, by omega, rfl, rfl, by go_num, (fun h => by cases h), hrd3, hgb4⟩
              case measure => simp [intOf]; omega
          · obtain ⟨mm, rfl⟩ := Int.eq_ofNat_of_zero_le (show 0 ≤ m by omega)
            have hmq : q + mm ≤ n := by omega
            have hsh : rdShort ls false (mm : Int) = false := by unfold rdShort; rw [Hlsl.out]; simp; omega
            have hout : rdOut ls false (mm : Int) = ls.take mm := by unfold rdOut; rw [hsh]; rfl
            have hleft : rdLeft ls false (mm : Int) = ls.drop mm := by unfold rdLeft; rw [hsh]; rfl
            have K := Lib.hid (rdB_any ls false mm g wr hrd)
            rw [hsh, hout, hleft] at K
            clear hsh hout hleft hbad
            have hb1 : ¬ ((n : Int) - q < mm) := by omega
            have hd1 : decide ((n : Int) - q < mm) = false := by simp; omega
            go_wp2_with fail
            refine K.out.mono ?_
            rintro e w2 ⟨A3, n3, c3, rfl, hy, hrd2, hgb2⟩
            have hy0 := hy.blen
            obtain rfl : n3 = mm := by rw [← hy0, List.length_take, Hlsl.out]; omega
            have hgb3 := World.grownBy.trans hgb hgb2
            have hxr2 := Rd.keptG Hx.out hxr hgb2 hg
            clear K hy0 hgb2 hrd e1 e2 hxr hlr
            rw [Hls.out] at hy
            have hk1 := fun j => run_string_of (P := Try.prog) 22 9 5 Try.underlying22 Try.underlying5 Try.underlying9 (hy.below (below_drewN (Below.refl _ _) j))
            obtain ⟨A4, c4, hcut, hsl, -⟩ := hxr2.cut (P := Try.prog) 22 5 Try.underlying22 size_u8 q (q + n3) (by omega) hmq
            rw [show q + n3 - q = n3 by omega] at hsl hcut
            rw [show ((q + n3 : Nat) : Int) = (q : Int) + n3 by omega] at hcut
            have hk2 := fun j => run_string_of (P := Try.prog) 22 9 5 Try.underlying22 Try.underlying5 Try.underlying9 (hsl.below (below_drewN (Below.refl _ _) j))
            have hd0 : decide ((n3 : Int) < 0) = false := by simp
            have hn8 : True := trivial
            clear hy hsl hxr2
            go_wp2_with fail
            go_quiet (fail)
            have hrd3 : Rdr (w2.drewN nq) g (ls.drop n3) false := hrd2.kept (below_drewN (Below.refl _ _) nq)
            have hgb4 : w1.grownBy (w2.drewN nq) (some g) := World.grownBy.trans hgb3 (gb_below (below_drewN (Below.refl _ _) nq) _)
            clear hrd2 hgb3 hk1 hk2 hcut
            generalize w2.drewN nq = w3 at *
            have hll : (ls.drop n3).length = n - (q + n3) := by rw [List.length_drop, Hlsl.out]; omega
            have hnx : ls.drop n3 = xs.drop (q + n3) := by rw [Hls.out, List.drop_drop]
            have hrd2 := Lib.hid hrd3
            have K2 := Lib.hid (rdLeft_any _ _ _ _ hrd3)
            rw [if_neg (by simp), hll] at K2
            have hnn : ((n - (q + n3) : Nat) : Int) = (n : Int) - ((q : Int) + n3) := by omega
            rw [hnn] at K2
            clear hll hnn hrd3
            have Hnx := Lib.hid hnx
            clear hnx
            go_wp2_with (go_at_call 38; refine K2.out.mono ?_; rintro e w5 ⟨rfl, rfl⟩)
            go_roundw
            case rel => exact ⟨q + n3, i' + 1, false, ls.drop n3, hmq, by omega, by omega, by go_num, rfl, by go_num, (fun _ => Hnx.out), hrd2.out, hgb4⟩
            case measure => simp [intOf]; omega
        · by_cases hbad : m < 1 ∨ 8 < m ∨ ((n : Int) - q < m)
          · have hsh : rdShort ls false (nw m) = true := by unfold rdShort nw; rw [Hlsl.out]; split <;> simp <;> omega
            have hnum : rdNum ls false m = 0 := by unfold rdNum rdOut; rw [hsh]; exact getN_nil _ _
            have hleft : rdLeft ls false (nw m) = ls := by unfold rdLeft; rw [hsh]; rfl
            have hcs : m < 0 ∨ (¬ m < 0 ∧ (n : Int) - q < m) ∨ (¬ m < 0 ∧ ¬ (n : Int) - q < m ∧ m < 1) ∨ (¬ m < 0 ∧ ¬ (n : Int) - q < m ∧ ¬ m < 1 ∧ 8 < m) := by omega
            clear hbad
            rcases hcs with h0 | ⟨h0, hb1⟩ | ⟨h0, hb1, hb2⟩ | ⟨h0, hb1, hb2, hb3⟩
            case' inr.inl => have hd0 : decide (m < 0) = false := by simp; omega
            case' inr.inr.inl => (have hd0 : decide (m < 0) = false := by simp; omega); (have hd1 : decide ((n : Int) - q < m) = false := by simp; omega)
            case' inr.inr.inr => (have hd0 : decide (m < 0) = false := by simp; omega); (have hd1 : decide ((n : Int) - q < m) = false := by simp; omega); (have hd2 : decide (m < 1) = false := by simp; omega)
            all_goals
              have K := Lib.hid (rdN_any ls false m g wr hrd)
              rw [hnum, hsh, hleft] at K
              clear hsh hnum hleft
              go_wp2_with fail
              refine K.out.mono ?_
              rintro e w2 ⟨rfl, hrd2, hgb2⟩
              have hgb3 := World.grownBy.trans hgb hgb2
              clear K hgb2 hrd e1 e2 hxr hlr
              go_wp2_with (go_at_call 38; refine (rdLeft_any _ _ _ _ hrd2).mono ?_; rintro e w5 ⟨rfl, rfl⟩)
              go_roundw
              case rel => exact ⟨q, i' + 1, true, ls, hq, by omega, by omega, rfl, rfl, by go_num, (fun h => by cases h), hrd2, hgb3⟩
              case measure => simp [intOf]; omega
          · obtain ⟨mm, rfl⟩ := Int.eq_ofNat_of_zero_le (show 0 ≤ m by omega)
            have hmq : q + mm ≤ n := by omega
            have hnw : nw (mm : Int) = mm := by unfold nw; rw [if_neg (by omega)]
            have hsh : rdShort ls false (nw (mm : Int)) = false := by rw [hnw]; unfold rdShort; rw [Hlsl.out]; simp; omega
            have hnum : rdNum ls false (mm : Int) = getN xs q mm := by
              unfold rdNum rdOut
              rw [hsh, hnw, Hls.out]
              exact getN_take xs q mm (by rw [hx1.blen]; omega) (by omega)
            have hleft : rdLeft ls false (nw (mm : Int)) = ls.drop mm := by unfold rdLeft; rw [hsh, hnw]; rfl
            have K := Lib.hid (rdN_any ls false mm g wr hrd)
            rw [hsh, hnum, hleft] at K
            clear hsh hnum hleft hnw
            have hb1 : ¬ ((n : Int) - q < mm) := by omega
            have hd0 : decide ((mm : Int) < 0) = false := by simp
            have hd1 : decide ((n : Int) - q < mm) = false := by simp; omega
            have hd2 : decide ((mm : Int) < 1) = false := by simp; omega
            have hd3 : decide ((8 : Int) < mm) = false := by simp; omega
            have hm1 : 1 ≤ mm := by omega
            have hm8 : mm ≤ 8 := by omega
            clear hbad
            go_wp2_with fail
            refine K.out.mono ?_
            rintro e w2 ⟨rfl, hrd2, hgb2⟩
            have hgb3 := World.grownBy.trans hgb hgb2
            have hxr2 := Rd.keptG Hx.out hxr hgb2 hg
            clear K hgb2 hrd e1 e2 hxr hlr
            have K2 := Lib.hid (refnumber_any q mm xs A n c w2 hxr2 (by omega))
            clear hxr2
            generalize getN xs q mm = rr at *
            have hll : (ls.drop mm).length = n - (q + mm) := by rw [List.length_drop, Hlsl.out]; omega
            have hnx : ls.drop mm = xs.drop (q + mm) := by rw [Hls.out, List.drop_drop]
            have K3 := Lib.hid (rdLeft_any _ _ _ _ hrd2)
            rw [if_neg (by simp), hll] at K3
            have hnn : ((n - (q + mm) : Nat) : Int) = (n : Int) - ((q : Int) + mm) := by omega
            rw [hnn] at K3
            clear hll hnn
            have Hnx := Lib.hid hnx
            clear hnx
            go_wp2_with (first | (go_at_call 32; refine K2.out.mono ?_; rintro e w5 ⟨rfl, rfl⟩) | (go_at_call 38; refine K3.out.mono ?_; rintro e w5 ⟨rfl, rfl⟩))
            go_roundw
            case rel => exact ⟨q + mm, i' + 1, false, ls.drop mm, hmq, by omega, by omega, by go_num, rfl, by go_num, (fun _ => Hnx.out), hrd2, hgb3⟩
            case measure => simp [intOf]; omega
    · have hends : ((sh = true ∧ (if sh then (5 : Int) else if ls = [] then 0 else 6) = 5) ∨ (sh = false ∧ q = n ∧ (if sh then (5 : Int) else if ls = [] then 0 else 6) = 0) ∨ (sh = false ∧ q < n ∧ (if sh then (5 : Int) else if ls = [] then 0 else 6) = 6)) := by
        cases sh
        · have e := hls rfl
          have el : ls.length = n - q := by rw [e, List.length_drop, hx1.blen]
          by_cases h : q = n
          · refine .inr (.inl ⟨rfl, h, ?_⟩)
            have : ls = [] := List.eq_nil_of_length_eq_zero (by omega)
            simp [this]
          · refine .inr (.inr ⟨rfl, by omega, ?_⟩)
            have : ¬ ls = [] := fun hh => by rw [hh] at el; simp at el; omega
            simp [this]
        · exact .inl ⟨rfl, rfl⟩
      have K := Lib.hid (rdEnd_any ls sh g wr hrd)
      have hBr := hB.trans (below_gb hgb hB.size hg)
      have htests : (¬ i' < n') ∨ (i' < n' ∧ ¬ i' < 60) := by omega
      clear hxr hlr hrd hgb hls hlt
      rcases hends with ⟨rfl, he⟩ | ⟨rfl, hq2, he⟩ | ⟨rfl, hq2, he⟩
      case' inr.inl => (have hqn : ((q : Int) == n) = true := by rw [beq_iff_eq]; omega); clear hq2
      case' inr.inr => (have hqn : ((q : Int) == n) = false := by rw [beq_eq_false_iff_ne]; omega); clear hq2
      all_goals
        rw [he] at K
        clear he
        rcases htests with ht | ⟨ht, ht2⟩
        case' inl => have hd4 : decide ((i' : Int) < n') = false := by simp; omega
        case' inr => (have hd4 : decide ((i' : Int) < n') = true := by simp; omega); (have hd5 : decide ((i' : Int) < 60) = false := by simp; omega)
        all_goals
          go_wp2_with (first
            | (go_at_call 39; first | (with_reducible refine K.out.mono ?_; rintro e w5 ⟨rfl, rfl⟩) | (refine (nilEnd_any _).mono ?_; rintro e w5 ⟨rfl, rfl⟩))
            | (go_at_call 27; refine (awake01_any _).mono ?_; rintro e w5 ⟨rfl, hb⟩; replace hBr := below_trans hBr hb; clear hb)
            | (go_at_call 37; refine (nilN_any _ _).mono ?_; rintro e w5 ⟨rfl, hb⟩; replace hBr := below_trans hBr hb; clear hb)
            | (go_at_call 36; refine (nilB_any _ _).mono ?_; rintro e w5 ⟨rfl, rfl⟩)
            | (go_at_call 38; refine (nilLeft_any _).mono ?_; rintro e w5 ⟨rfl, rfl⟩))
          go_ret
          exact ⟨rfl, hBr⟩
end Go.Proofs.Ythkabhejfkekjaa
