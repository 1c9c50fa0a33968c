/- Layer 41 (tape): contract of read. No condition but lengths' bounds. -/
import Derived.Test.YtefipigdkdopcaaTap9
namespace Go.Proofs.Ytefipigdkdopcaa
open Go.RowKit

/-- A script, told plainly. -/
structure ScP where
  x : Int
  y : Int
  z : Int
  bl : List Int
  fl : List (Int × Int × List UInt8)
  ss : List StV
def ftP (f : FtV) : Int × Int × List UInt8 := (f.at_, f.k, f.x)
/-- What a line does to a script that stands at a part; how far on it is, and the error. -/
def readF (sc : ScP) (t : List UInt8) (at_ : Int) : Int × Nat × ScP :=
  match wordsL t with
  | [] => (at_, 17, sc)
  | h :: r =>
    if h = wGeom then
      if 0 ≤ at_ ∨ r.length ≠ 3 then (at_, 17, sc)
      else (if firstS (numF (r.getD 0 [])) (numF (r.getD 1 [])) (numF (r.getD 2 [])) = t then 0 else at_, if firstS (numF (r.getD 0 [])) (numF (r.getD 1 [])) (numF (r.getD 2 [])) = t then 0 else 6, ⟨numF (r.getD 0 []), numF (r.getD 1 []), numF (r.getD 2 []), sc.bl, sc.fl, sc.ss⟩)
    else if h = wBad then
      if at_ < 0 ∨ 1 < at_ ∨ r.length ≠ 1 then (at_, 17, sc)
      else (if badS (numF (r.getD 0 [])) = t then 1 else at_, if badS (numF (r.getD 0 [])) = t then 0 else 6, ⟨sc.x, sc.y, sc.z, sc.bl ++ [numF (r.getD 0 [])], sc.fl, sc.ss⟩)
    else if h = wFail then
      if at_ < 0 ∨ 2 < at_ ∨ r.length ≠ 2 then (at_, 17, sc)
      else (if harmS (numF (r.getD 0 [])) 1 (bytesW (r.getD 1 [])) = t then 2 else at_, if harmS (numF (r.getD 0 [])) 1 (bytesW (r.getD 1 [])) = t then 0 else 6, ⟨sc.x, sc.y, sc.z, sc.bl, sc.fl ++ [(numF (r.getD 0 []), 1, bytesW (r.getD 1 []))], sc.ss⟩)
    else if h = wCut then
      if at_ < 0 ∨ 2 < at_ ∨ r.length ≠ 2 then (at_, 17, sc)
      else (if harmS (numF (r.getD 0 [])) 2 (bytesW (r.getD 1 [])) = t then 2 else at_, if harmS (numF (r.getD 0 [])) 2 (bytesW (r.getD 1 [])) = t then 0 else 6, ⟨sc.x, sc.y, sc.z, sc.bl, sc.fl ++ [(numF (r.getD 0 []), 2, bytesW (r.getD 1 []))], sc.ss⟩)
    else if at_ < 0 ∨ 3 < at_ then (at_, 17, sc)
    else (3, (stepF t).2, ⟨sc.x, sc.y, sc.z, sc.bl, sc.fl, sc.ss ++ [(stepF t).1]⟩)
def rdPost (W0 : World) (B gs : Nat) (Kp : World → Prop) (R : Int × Nat × ScP) (e : Ending) (w' : World) : Prop :=
  e = .returned (.tuple #[.int .i64 R.1, .int .i64 (R.2.1 : Nat)]) ∧ ∃ fs' vb' vf' vs', TSt W0 B gs Kp R.2.2.x R.2.2.y R.2.2.z R.2.2.bl fs' R.2.2.ss vb' vf' vs' w' ∧ fs'.map ftP = R.2.2.fl

set_option maxRecDepth 100000 in
set_option maxHeartbeats 16000000 in
theorem read_any (W0 : World) (B gs : Nat) (Kp : World → Prop) (x y z : Int) (bl : List Int) (fs : List FtV) (ss : List StV) (vb vf vs : Value) (w : World) (h : TSt W0 B gs Kp x y z bl fs ss vb vf vs w) (hP : TPl W0 B gs)
    (t : List UInt8) (at_ : Int) (hN : t.length ≤ 20000) (hne : wordsL t ≠ []) (hL : bl.length ≤ 1000000 ∧ fs.length ≤ 1000000 ∧ ss.length ≤ 1000000) :
    Calls Try.prog 84 #[.pointer (some ⟨gs, 0, none⟩), .string ⟨t.toArray⟩, .int .i64 at_] w fun e w' => rdPost W0 B gs Kp (readF ⟨x, y, z, bl, fs.map ftP, ss⟩ t at_) e w' := by
  have KW := fun W => Lib.hid (words_rd t W (by omega))
  have hall : ∀ p ∈ wordsL t, p.length ≤ 20000 := fun p hp => by have := (split2_free 32 9 true t p hp).2.2; omega
  obtain ⟨R, hR⟩ : ∃ R, R = readF ⟨x, y, z, bl, fs.map ftP, ss⟩ t at_ := ⟨_, rfl⟩
  rw [← hR]
  unfold readF at hR
  generalize wordsL t = l at *
  cases l with
  | nil => exact absurd rfl hne
  | cons hw r =>
  clear hne
  dsimp only at hR
  have HL : Hid (∀ p ∈ r, p.length ≤ 20000) := fun p hp => hall p (by simp [hp])
  have KO := fun W => Lib.hid (order_any hw W)
  have HR := Lib.hid hR
  clear hall hR
  rw [List.length_cons] at KW
  by_cases h_wGeom : hw = wGeom
  · have ho : ordF hw = (0, 4) := by rw [h_wGeom]; rfl
    rw [ho] at KO
    rw [if_pos h_wGeom] at HR
    dsimp only at KO
    clear ho
    unfold wGeom at h_wGeom
    subst h_wGeom
    by_cases c1 : 0 ≤ at_
    · have HR2 : Hid (R = (at_, 17, ⟨x, y, z, bl, fs.map ftP, ss⟩)) := by show _ = _; rw [HR.out, if_pos (.inl c1)]
      have d0 : decide (at_ < 0) = false := by rw [decide_eq_false_iff_not]; omega
      have d1 : decide (0 ≤ at_) = true := by rw [decide_eq_true_iff]; omega
      clear HR HL
      go_enter Try.func84, Try.ntmps84
      go_wp2_with fail
      refine (KW _).out.mono ?_
      rintro e w2 ⟨A, c, rfl, hx, hb⟩
      replace h := h.kept hb
      clear hb KW
      obtain ⟨ad, rfl⟩ := hx.some_of_pos (by omega)
      have e0 : w2.cell? ad = some (.string ⟨#[103, 101, 111, 109]⟩) := by
        have := hx.scell 0 (by omega)
        have e : ad.add 0 = ad := by unfold Addr.add; simp
        rw [e] at this
        exact this
      have hcm := hx.cm
      have hnc := hx.nc
      unfold maxLen at hcm
      go_wp2_with fail
      refine (KO _).out.mono ?_
      rintro e w3 ⟨rfl, rfl⟩
      clear KO e0
      go_wp2_with fail
      go_ret2
      exact ⟨by rw [HR2.out]; rfl, fs, vb, vf, vs, by rw [HR2.out]; exact h, by rw [HR2.out]⟩
    by_cases c3 : r.length ≠ 3
    · have HR2 : Hid (R = (at_, 17, ⟨x, y, z, bl, fs.map ftP, ss⟩)) := by show _ = _; rw [HR.out, if_pos (.inr c3)]
      have d0 : decide (at_ < 0) = true := by rw [decide_eq_true_iff]; omega
      have d1 : decide (0 ≤ at_) = false := by rw [decide_eq_false_iff_not]; omega
      have d2 : decide (0 < at_) = false := by rw [decide_eq_false_iff_not]; omega
      have d3 : ((r.length : Int) + 1 != 4) = true := by rw [bne_iff_ne]; omega
      clear HR HL
      go_enter Try.func84, Try.ntmps84
      go_wp2_with fail
      refine (KW _).out.mono ?_
      rintro e w2 ⟨A, c, rfl, hx, hb⟩
      replace h := h.kept hb
      clear hb KW
      obtain ⟨ad, rfl⟩ := hx.some_of_pos (by omega)
      have e0 : w2.cell? ad = some (.string ⟨#[103, 101, 111, 109]⟩) := by
        have := hx.scell 0 (by omega)
        have e : ad.add 0 = ad := by unfold Addr.add; simp
        rw [e] at this
        exact this
      have hcm := hx.cm
      have hnc := hx.nc
      unfold maxLen at hcm
      go_wp2_with fail
      refine (KO _).out.mono ?_
      rintro e w3 ⟨rfl, rfl⟩
      clear KO e0
      go_wp2_with fail
      go_ret2
      exact ⟨by rw [HR2.out]; rfl, fs, vb, vf, vs, by rw [HR2.out]; exact h, by rw [HR2.out]⟩
    rw [if_neg (fun h => h.elim c1 c3)] at HR
    obtain ⟨u0, u1, u2, rfl⟩ : ∃ u0 u1 u2, r = [u0, u1, u2] := by
      have c4 : r.length = 3 := by omega
      match r, c4 with
      | [u0, u1, u2], _ => exact ⟨u0, u1, u2, rfl⟩
    have hl_u0 := HL.out u0 (by simp)
    have hl_u1 := HL.out u1 (by simp)
    have hl_u2 := HL.out u2 (by simp)
    have d0 : decide (at_ < 0) = true := by rw [decide_eq_true_iff]; omega
    have d1 : decide (0 ≤ at_) = false := by rw [decide_eq_false_iff_not]; omega
    have d2 : decide (0 < at_) = false := by rw [decide_eq_false_iff_not]; omega
    clear c1 c3 HL
    by_cases hq : firstS (numF u0) (numF u1) (numF u2) = t
    · have HR2 : Hid (R = (0, 0, ⟨numF u0, numF u1, numF u2, bl, fs.map ftP, ss⟩)) := by show _ = _; rw [HR.out]; show ((if firstS (numF u0) (numF u1) (numF u2) = t then _ else _), (if firstS (numF u0) (numF u1) (numF u2) = t then _ else _), _) = _; rw [if_pos hq, if_pos hq]; try rfl
      clear HR
      go_enter Try.func84, Try.ntmps84
      go_wp2_with fail
      refine (KW _).out.mono ?_
      rintro e w2 ⟨A, c, rfl, hx, hb⟩
      replace h := h.kept hb
      clear hb KW
      obtain ⟨ad, rfl⟩ := hx.some_of_pos (by omega)
      have e0 : w2.cell? ad = some (.string ⟨#[103, 101, 111, 109]⟩) := by
        have := hx.scell 0 (by omega)
        have e : ad.add 0 = ad := by unfold Addr.add; simp
        rw [e] at this
        exact this
      have hcm := hx.cm
      have hnc := hx.nc
      unfold maxLen at hcm
      go_wp2_with fail
      refine (KO _).out.mono ?_
      rintro e w3 ⟨rfl, rfl⟩
      clear KO e0
      go_wp2_with fail
      have KT := Lib.hid (take_geom W0 B gs Kp x y z bl fs ss vb vf vs _ h hP u0 u1 u2 (some ad) c hx ⟨by omega, by omega, by omega⟩)
      rw [hq] at KT
      refine KT.out.mono ?_
      rintro e w4 ⟨rfl, hT⟩
      clear KT hq
      go_wp2_with fail
      go_ret2
      exact ⟨by rw [HR2.out]; rfl, fs, vb, vf, vs, by rw [HR2.out]; exact hT, by rw [HR2.out]⟩
    · have HR2 : Hid (R = (at_, 6, ⟨numF u0, numF u1, numF u2, bl, fs.map ftP, ss⟩)) := by show _ = _; rw [HR.out]; show ((if firstS (numF u0) (numF u1) (numF u2) = t then _ else _), (if firstS (numF u0) (numF u1) (numF u2) = t then _ else _), _) = _; rw [if_neg hq, if_neg hq]; try rfl
      have hbe : (firstS (numF u0) (numF u1) (numF u2) == t) = false := by simpa using hq
      clear HR
      go_enter Try.func84, Try.ntmps84
      go_wp2_with fail
      refine (KW _).out.mono ?_
      rintro e w2 ⟨A, c, rfl, hx, hb⟩
      replace h := h.kept hb
      clear hb KW
      obtain ⟨ad, rfl⟩ := hx.some_of_pos (by omega)
      have e0 : w2.cell? ad = some (.string ⟨#[103, 101, 111, 109]⟩) := by
        have := hx.scell 0 (by omega)
        have e : ad.add 0 = ad := by unfold Addr.add; simp
        rw [e] at this
        exact this
      have hcm := hx.cm
      have hnc := hx.nc
      unfold maxLen at hcm
      go_wp2_with fail
      refine (KO _).out.mono ?_
      rintro e w3 ⟨rfl, rfl⟩
      clear KO e0
      go_wp2_with fail
      have KT := Lib.hid (take_geom W0 B gs Kp x y z bl fs ss vb vf vs _ h hP u0 u1 u2 (some ad) c hx ⟨by omega, by omega, by omega⟩)
      generalize firstS (numF u0) (numF u1) (numF u2) = fx at *
      refine KT.out.mono ?_
      rintro e w4 ⟨rfl, hT⟩
      clear KT
      go_wp2_with fail
      go_ret2
      exact ⟨by rw [HR2.out]; rfl, fs, vb, vf, vs, by rw [HR2.out]; exact hT, by rw [HR2.out]⟩
  rw [if_neg h_wGeom] at HR
  by_cases h_wBad : hw = wBad
  · have ho : ordF hw = (1, 2) := by rw [h_wBad]; rfl
    rw [ho] at KO
    rw [if_pos h_wBad] at HR
    dsimp only at KO
    clear ho h_wGeom
    unfold wBad at h_wBad
    subst h_wBad
    by_cases c1 : at_ < 0
    · have HR2 : Hid (R = (at_, 17, ⟨x, y, z, bl, fs.map ftP, ss⟩)) := by show _ = _; rw [HR.out, if_pos (.inl c1)]
      have d0 : decide (at_ < 0) = true := by rw [decide_eq_true_iff]; omega
      clear HR HL
      go_enter Try.func84, Try.ntmps84
      go_wp2_with fail
      refine (KW _).out.mono ?_
      rintro e w2 ⟨A, c, rfl, hx, hb⟩
      replace h := h.kept hb
      clear hb KW
      obtain ⟨ad, rfl⟩ := hx.some_of_pos (by omega)
      have e0 : w2.cell? ad = some (.string ⟨#[98, 97, 100]⟩) := by
        have := hx.scell 0 (by omega)
        have e : ad.add 0 = ad := by unfold Addr.add; simp
        rw [e] at this
        exact this
      have hcm := hx.cm
      have hnc := hx.nc
      unfold maxLen at hcm
      go_wp2_with fail
      refine (KO _).out.mono ?_
      rintro e w3 ⟨rfl, rfl⟩
      clear KO e0
      go_wp2_with fail
      go_ret2
      exact ⟨by rw [HR2.out]; rfl, fs, vb, vf, vs, by rw [HR2.out]; exact h, by rw [HR2.out]⟩
    by_cases c2 : 1 < at_
    · have HR2 : Hid (R = (at_, 17, ⟨x, y, z, bl, fs.map ftP, ss⟩)) := by show _ = _; rw [HR.out, if_pos (.inr (.inl c2))]
      have d0 : decide (at_ < 0) = false := by rw [decide_eq_false_iff_not]; omega
      have d1 : decide (0 ≤ at_) = true := by rw [decide_eq_true_iff]; omega
      have d2 : decide (1 < at_) = true := by rw [decide_eq_true_iff]; omega
      clear HR HL
      go_enter Try.func84, Try.ntmps84
      go_wp2_with fail
      refine (KW _).out.mono ?_
      rintro e w2 ⟨A, c, rfl, hx, hb⟩
      replace h := h.kept hb
      clear hb KW
      obtain ⟨ad, rfl⟩ := hx.some_of_pos (by omega)
      have e0 : w2.cell? ad = some (.string ⟨#[98, 97, 100]⟩) := by
        have := hx.scell 0 (by omega)
        have e : ad.add 0 = ad := by unfold Addr.add; simp
        rw [e] at this
        exact this
      have hcm := hx.cm
      have hnc := hx.nc
      unfold maxLen at hcm
      go_wp2_with fail
      refine (KO _).out.mono ?_
      rintro e w3 ⟨rfl, rfl⟩
      clear KO e0
      go_wp2_with fail
      go_ret2
      exact ⟨by rw [HR2.out]; rfl, fs, vb, vf, vs, by rw [HR2.out]; exact h, by rw [HR2.out]⟩
    by_cases c3 : r.length ≠ 1
    · have HR2 : Hid (R = (at_, 17, ⟨x, y, z, bl, fs.map ftP, ss⟩)) := by show _ = _; rw [HR.out, if_pos (.inr (.inr c3))]
      have d0 : decide (at_ < 0) = false := by rw [decide_eq_false_iff_not]; omega
      have d1 : decide (0 ≤ at_) = true := by rw [decide_eq_true_iff]; omega
      have d2 : decide (1 < at_) = false := by rw [decide_eq_false_iff_not]; omega
      have d3 : ((r.length : Int) + 1 != 2) = true := by rw [bne_iff_ne]; omega
      clear HR HL
      go_enter Try.func84, Try.ntmps84
      go_wp2_with fail
      refine (KW _).out.mono ?_
      rintro e w2 ⟨A, c, rfl, hx, hb⟩
      replace h := h.kept hb
      clear hb KW
      obtain ⟨ad, rfl⟩ := hx.some_of_pos (by omega)
      have e0 : w2.cell? ad = some (.string ⟨#[98, 97, 100]⟩) := by
        have := hx.scell 0 (by omega)
        have e : ad.add 0 = ad := by unfold Addr.add; simp
        rw [e] at this
        exact this
      have hcm := hx.cm
      have hnc := hx.nc
      unfold maxLen at hcm
      go_wp2_with fail
      refine (KO _).out.mono ?_
      rintro e w3 ⟨rfl, rfl⟩
      clear KO e0
      go_wp2_with fail
      go_ret2
      exact ⟨by rw [HR2.out]; rfl, fs, vb, vf, vs, by rw [HR2.out]; exact h, by rw [HR2.out]⟩
    rw [if_neg (fun h => h.elim c1 (fun h => h.elim c2 c3))] at HR
    obtain ⟨u0, rfl⟩ : ∃ u0, r = [u0] := by
      have c4 : r.length = 1 := by omega
      match r, c4 with
      | [u0], _ => exact ⟨u0, rfl⟩
    have hl_u0 := HL.out u0 (by simp)
    have d0 : decide (at_ < 0) = false := by rw [decide_eq_false_iff_not]; omega
    have d1 : decide (0 ≤ at_) = true := by rw [decide_eq_true_iff]; omega
    have d2 : decide (1 < at_) = false := by rw [decide_eq_false_iff_not]; omega
    clear c1 c3 HL c2
    by_cases hq : badS (numF u0) = t
    · have HR2 : Hid (R = (1, 0, ⟨x, y, z, bl ++ [numF u0], fs.map ftP, ss⟩)) := by show _ = _; rw [HR.out]; show ((if badS (numF u0) = t then _ else _), (if badS (numF u0) = t then _ else _), _) = _; rw [if_pos hq, if_pos hq]; try rfl
      clear HR
      go_enter Try.func84, Try.ntmps84
      go_wp2_with fail
      refine (KW _).out.mono ?_
      rintro e w2 ⟨A, c, rfl, hx, hb⟩
      replace h := h.kept hb
      clear hb KW
      obtain ⟨ad, rfl⟩ := hx.some_of_pos (by omega)
      have e0 : w2.cell? ad = some (.string ⟨#[98, 97, 100]⟩) := by
        have := hx.scell 0 (by omega)
        have e : ad.add 0 = ad := by unfold Addr.add; simp
        rw [e] at this
        exact this
      have hcm := hx.cm
      have hnc := hx.nc
      unfold maxLen at hcm
      go_wp2_with fail
      refine (KO _).out.mono ?_
      rintro e w3 ⟨rfl, rfl⟩
      clear KO e0
      go_wp2_with fail
      have KT := Lib.hid (take_bad W0 B gs Kp x y z bl fs ss vb vf vs _ h hP u0 (some ad) c hx (by omega) hL.1)
      rw [hq] at KT
      refine KT.out.mono ?_
      rintro e w4 ⟨rfl, vb', hT⟩
      clear KT hq
      go_wp2_with fail
      go_ret2
      exact ⟨by rw [HR2.out]; rfl, fs, vb', vf, vs, by rw [HR2.out]; exact hT, by rw [HR2.out]⟩
    · have HR2 : Hid (R = (at_, 6, ⟨x, y, z, bl ++ [numF u0], fs.map ftP, ss⟩)) := by show _ = _; rw [HR.out]; show ((if badS (numF u0) = t then _ else _), (if badS (numF u0) = t then _ else _), _) = _; rw [if_neg hq, if_neg hq]; try rfl
      have hbe : (badS (numF u0) == t) = false := by simpa using hq
      clear HR
      go_enter Try.func84, Try.ntmps84
      go_wp2_with fail
      refine (KW _).out.mono ?_
      rintro e w2 ⟨A, c, rfl, hx, hb⟩
      replace h := h.kept hb
      clear hb KW
      obtain ⟨ad, rfl⟩ := hx.some_of_pos (by omega)
      have e0 : w2.cell? ad = some (.string ⟨#[98, 97, 100]⟩) := by
        have := hx.scell 0 (by omega)
        have e : ad.add 0 = ad := by unfold Addr.add; simp
        rw [e] at this
        exact this
      have hcm := hx.cm
      have hnc := hx.nc
      unfold maxLen at hcm
      go_wp2_with fail
      refine (KO _).out.mono ?_
      rintro e w3 ⟨rfl, rfl⟩
      clear KO e0
      go_wp2_with fail
      have KT := Lib.hid (take_bad W0 B gs Kp x y z bl fs ss vb vf vs _ h hP u0 (some ad) c hx (by omega) hL.1)
      generalize badS (numF u0) = fx at *
      refine KT.out.mono ?_
      rintro e w4 ⟨rfl, vb', hT⟩
      clear KT
      go_wp2_with fail
      go_ret2
      exact ⟨by rw [HR2.out]; rfl, fs, vb', vf, vs, by rw [HR2.out]; exact hT, by rw [HR2.out]⟩
  rw [if_neg h_wBad] at HR
  by_cases h_wFail : hw = wFail
  · have ho : ordF hw = (2, 3) := by rw [h_wFail]; rfl
    rw [ho] at KO
    rw [if_pos h_wFail] at HR
    dsimp only at KO
    clear ho h_wGeom h_wBad
    unfold wFail at h_wFail
    subst h_wFail
    by_cases c1 : at_ < 0
    · have HR2 : Hid (R = (at_, 17, ⟨x, y, z, bl, fs.map ftP, ss⟩)) := by show _ = _; rw [HR.out, if_pos (.inl c1)]
      have d0 : decide (at_ < 0) = true := by rw [decide_eq_true_iff]; omega
      clear HR HL
      go_enter Try.func84, Try.ntmps84
      go_wp2_with fail
      refine (KW _).out.mono ?_
      rintro e w2 ⟨A, c, rfl, hx, hb⟩
      replace h := h.kept hb
      clear hb KW
      obtain ⟨ad, rfl⟩ := hx.some_of_pos (by omega)
      have e0 : w2.cell? ad = some (.string ⟨#[102, 97, 105, 108]⟩) := by
        have := hx.scell 0 (by omega)
        have e : ad.add 0 = ad := by unfold Addr.add; simp
        rw [e] at this
        exact this
      have hcm := hx.cm
      have hnc := hx.nc
      unfold maxLen at hcm
      go_wp2_with fail
      refine (KO _).out.mono ?_
      rintro e w3 ⟨rfl, rfl⟩
      clear KO e0
      go_wp2_with fail
      go_ret2
      exact ⟨by rw [HR2.out]; rfl, fs, vb, vf, vs, by rw [HR2.out]; exact h, by rw [HR2.out]⟩
    by_cases c2 : 2 < at_
    · have HR2 : Hid (R = (at_, 17, ⟨x, y, z, bl, fs.map ftP, ss⟩)) := by show _ = _; rw [HR.out, if_pos (.inr (.inl c2))]
      have d0 : decide (at_ < 0) = false := by rw [decide_eq_false_iff_not]; omega
      have d1 : decide (0 ≤ at_) = true := by rw [decide_eq_true_iff]; omega
      have d2 : decide (2 < at_) = true := by rw [decide_eq_true_iff]; omega
      clear HR HL
      go_enter Try.func84, Try.ntmps84
      go_wp2_with fail
      refine (KW _).out.mono ?_
      rintro e w2 ⟨A, c, rfl, hx, hb⟩
      replace h := h.kept hb
      clear hb KW
      obtain ⟨ad, rfl⟩ := hx.some_of_pos (by omega)
      have e0 : w2.cell? ad = some (.string ⟨#[102, 97, 105, 108]⟩) := by
        have := hx.scell 0 (by omega)
        have e : ad.add 0 = ad := by unfold Addr.add; simp
        rw [e] at this
        exact this
      have hcm := hx.cm
      have hnc := hx.nc
      unfold maxLen at hcm
      go_wp2_with fail
      refine (KO _).out.mono ?_
      rintro e w3 ⟨rfl, rfl⟩
      clear KO e0
      go_wp2_with fail
      go_ret2
      exact ⟨by rw [HR2.out]; rfl, fs, vb, vf, vs, by rw [HR2.out]; exact h, by rw [HR2.out]⟩
    by_cases c3 : r.length ≠ 2
    · have HR2 : Hid (R = (at_, 17, ⟨x, y, z, bl, fs.map ftP, ss⟩)) := by show _ = _; rw [HR.out, if_pos (.inr (.inr c3))]
      have d0 : decide (at_ < 0) = false := by rw [decide_eq_false_iff_not]; omega
      have d1 : decide (0 ≤ at_) = true := by rw [decide_eq_true_iff]; omega
      have d2 : decide (2 < at_) = false := by rw [decide_eq_false_iff_not]; omega
      have d3 : ((r.length : Int) + 1 != 3) = true := by rw [bne_iff_ne]; omega
      clear HR HL
      go_enter Try.func84, Try.ntmps84
      go_wp2_with fail
      refine (KW _).out.mono ?_
      rintro e w2 ⟨A, c, rfl, hx, hb⟩
      replace h := h.kept hb
      clear hb KW
      obtain ⟨ad, rfl⟩ := hx.some_of_pos (by omega)
      have e0 : w2.cell? ad = some (.string ⟨#[102, 97, 105, 108]⟩) := by
        have := hx.scell 0 (by omega)
        have e : ad.add 0 = ad := by unfold Addr.add; simp
        rw [e] at this
        exact this
      have hcm := hx.cm
      have hnc := hx.nc
      unfold maxLen at hcm
      go_wp2_with fail
      refine (KO _).out.mono ?_
      rintro e w3 ⟨rfl, rfl⟩
      clear KO e0
      go_wp2_with fail
      go_ret2
      exact ⟨by rw [HR2.out]; rfl, fs, vb, vf, vs, by rw [HR2.out]; exact h, by rw [HR2.out]⟩
    rw [if_neg (fun h => h.elim c1 (fun h => h.elim c2 c3))] at HR
    obtain ⟨u0, u1, rfl⟩ : ∃ u0 u1, r = [u0, u1] := by
      have c4 : r.length = 2 := by omega
      match r, c4 with
      | [u0, u1], _ => exact ⟨u0, u1, rfl⟩
    have hl_u0 := HL.out u0 (by simp)
    have hl_u1 := HL.out u1 (by simp)
    have d0 : decide (at_ < 0) = false := by rw [decide_eq_false_iff_not]; omega
    have d1 : decide (0 ≤ at_) = true := by rw [decide_eq_true_iff]; omega
    have d2 : decide (2 < at_) = false := by rw [decide_eq_false_iff_not]; omega
    clear c1 c3 HL c2
    by_cases hq : harmS (numF u0) 1 (bytesW u1) = t
    · have HR2 : Hid (R = (2, 0, ⟨x, y, z, bl, fs.map ftP ++ [(numF u0, 1, bytesW u1)], ss⟩)) := by show _ = _; rw [HR.out]; show ((if harmS (numF u0) 1 (bytesW u1) = t then _ else _), (if harmS (numF u0) 1 (bytesW u1) = t then _ else _), _) = _; rw [if_pos hq, if_pos hq]; try rfl
      clear HR
      go_enter Try.func84, Try.ntmps84
      go_wp2_with fail
      refine (KW _).out.mono ?_
      rintro e w2 ⟨A, c, rfl, hx, hb⟩
      replace h := h.kept hb
      clear hb KW
      obtain ⟨ad, rfl⟩ := hx.some_of_pos (by omega)
      have e0 : w2.cell? ad = some (.string ⟨#[102, 97, 105, 108]⟩) := by
        have := hx.scell 0 (by omega)
        have e : ad.add 0 = ad := by unfold Addr.add; simp
        rw [e] at this
        exact this
      have hcm := hx.cm
      have hnc := hx.nc
      unfold maxLen at hcm
      go_wp2_with fail
      refine (KO _).out.mono ?_
      rintro e w3 ⟨rfl, rfl⟩
      clear KO e0
      go_wp2_with fail
      have KT := Lib.hid (take_fail W0 B gs Kp x y z bl fs ss vb vf vs _ h hP u0 u1 (some ad) c hx ⟨by omega, by omega⟩ hL.2.1)
      rw [hq] at KT
      refine KT.out.mono ?_
      rintro e w4 ⟨rfl, vf', A5, m5, c5, hT⟩
      clear KT hq
      go_wp2_with fail
      go_ret2
      exact ⟨by rw [HR2.out]; rfl, fs ++ [ftOf u0 1 A5 m5 c5 u1], vb, vf', vs, by rw [HR2.out]; exact hT, by rw [HR2.out]; simp [ftP, ftOf]⟩
    · have HR2 : Hid (R = (at_, 6, ⟨x, y, z, bl, fs.map ftP ++ [(numF u0, 1, bytesW u1)], ss⟩)) := by show _ = _; rw [HR.out]; show ((if harmS (numF u0) 1 (bytesW u1) = t then _ else _), (if harmS (numF u0) 1 (bytesW u1) = t then _ else _), _) = _; rw [if_neg hq, if_neg hq]; try rfl
      have hbe : (harmS (numF u0) 1 (bytesW u1) == t) = false := by simpa using hq
      clear HR
      go_enter Try.func84, Try.ntmps84
      go_wp2_with fail
      refine (KW _).out.mono ?_
      rintro e w2 ⟨A, c, rfl, hx, hb⟩
      replace h := h.kept hb
      clear hb KW
      obtain ⟨ad, rfl⟩ := hx.some_of_pos (by omega)
      have e0 : w2.cell? ad = some (.string ⟨#[102, 97, 105, 108]⟩) := by
        have := hx.scell 0 (by omega)
        have e : ad.add 0 = ad := by unfold Addr.add; simp
        rw [e] at this
        exact this
      have hcm := hx.cm
      have hnc := hx.nc
      unfold maxLen at hcm
      go_wp2_with fail
      refine (KO _).out.mono ?_
      rintro e w3 ⟨rfl, rfl⟩
      clear KO e0
      go_wp2_with fail
      have KT := Lib.hid (take_fail W0 B gs Kp x y z bl fs ss vb vf vs _ h hP u0 u1 (some ad) c hx ⟨by omega, by omega⟩ hL.2.1)
      generalize harmS (numF u0) 1 (bytesW u1) = fx at *
      refine KT.out.mono ?_
      rintro e w4 ⟨rfl, vf', A5, m5, c5, hT⟩
      clear KT
      go_wp2_with fail
      go_ret2
      exact ⟨by rw [HR2.out]; rfl, fs ++ [ftOf u0 1 A5 m5 c5 u1], vb, vf', vs, by rw [HR2.out]; exact hT, by rw [HR2.out]; simp [ftP, ftOf]⟩
  rw [if_neg h_wFail] at HR
  by_cases h_wCut : hw = wCut
  · have ho : ordF hw = (2, 3) := by rw [h_wCut]; rfl
    rw [ho] at KO
    rw [if_pos h_wCut] at HR
    dsimp only at KO
    clear ho h_wGeom h_wBad h_wFail
    unfold wCut at h_wCut
    subst h_wCut
    by_cases c1 : at_ < 0
    · have HR2 : Hid (R = (at_, 17, ⟨x, y, z, bl, fs.map ftP, ss⟩)) := by show _ = _; rw [HR.out, if_pos (.inl c1)]
      have d0 : decide (at_ < 0) = true := by rw [decide_eq_true_iff]; omega
      clear HR HL
      go_enter Try.func84, Try.ntmps84
      go_wp2_with fail
      refine (KW _).out.mono ?_
      rintro e w2 ⟨A, c, rfl, hx, hb⟩
      replace h := h.kept hb
      clear hb KW
      obtain ⟨ad, rfl⟩ := hx.some_of_pos (by omega)
      have e0 : w2.cell? ad = some (.string ⟨#[99, 117, 116]⟩) := by
        have := hx.scell 0 (by omega)
        have e : ad.add 0 = ad := by unfold Addr.add; simp
        rw [e] at this
        exact this
      have hcm := hx.cm
      have hnc := hx.nc
      unfold maxLen at hcm
      go_wp2_with fail
      refine (KO _).out.mono ?_
      rintro e w3 ⟨rfl, rfl⟩
      clear KO e0
      go_wp2_with fail
      go_ret2
      exact ⟨by rw [HR2.out]; rfl, fs, vb, vf, vs, by rw [HR2.out]; exact h, by rw [HR2.out]⟩
    by_cases c2 : 2 < at_
    · have HR2 : Hid (R = (at_, 17, ⟨x, y, z, bl, fs.map ftP, ss⟩)) := by show _ = _; rw [HR.out, if_pos (.inr (.inl c2))]
      have d0 : decide (at_ < 0) = false := by rw [decide_eq_false_iff_not]; omega
      have d1 : decide (0 ≤ at_) = true := by rw [decide_eq_true_iff]; omega
      have d2 : decide (2 < at_) = true := by rw [decide_eq_true_iff]; omega
      clear HR HL
      go_enter Try.func84, Try.ntmps84
      go_wp2_with fail
      refine (KW _).out.mono ?_
      rintro e w2 ⟨A, c, rfl, hx, hb⟩
      replace h := h.kept hb
      clear hb KW
      obtain ⟨ad, rfl⟩ := hx.some_of_pos (by omega)
      have e0 : w2.cell? ad = some (.string ⟨#[99, 117, 116]⟩) := by
        have := hx.scell 0 (by omega)
        have e : ad.add 0 = ad := by unfold Addr.add; simp
        rw [e] at this
        exact this
      have hcm := hx.cm
      have hnc := hx.nc
      unfold maxLen at hcm
      go_wp2_with fail
      refine (KO _).out.mono ?_
      rintro e w3 ⟨rfl, rfl⟩
      clear KO e0
      go_wp2_with fail
      go_ret2
      exact ⟨by rw [HR2.out]; rfl, fs, vb, vf, vs, by rw [HR2.out]; exact h, by rw [HR2.out]⟩
    by_cases c3 : r.length ≠ 2
    · have HR2 : Hid (R = (at_, 17, ⟨x, y, z, bl, fs.map ftP, ss⟩)) := by show _ = _; rw [HR.out, if_pos (.inr (.inr c3))]
      have d0 : decide (at_ < 0) = false := by rw [decide_eq_false_iff_not]; omega
      have d1 : decide (0 ≤ at_) = true := by rw [decide_eq_true_iff]; omega
      have d2 : decide (2 < at_) = false := by rw [decide_eq_false_iff_not]; omega
      have d3 : ((r.length : Int) + 1 != 3) = true := by rw [bne_iff_ne]; omega
      clear HR HL
      go_enter Try.func84, Try.ntmps84
      go_wp2_with fail
      refine (KW _).out.mono ?_
      rintro e w2 ⟨A, c, rfl, hx, hb⟩
      replace h := h.kept hb
      clear hb KW
      obtain ⟨ad, rfl⟩ := hx.some_of_pos (by omega)
      have e0 : w2.cell? ad = some (.string ⟨#[99, 117, 116]⟩) := by
        have := hx.scell 0 (by omega)
        have e : ad.add 0 = ad := by unfold Addr.add; simp
        rw [e] at this
        exact this
      have hcm := hx.cm
      have hnc := hx.nc
      unfold maxLen at hcm
      go_wp2_with fail
      refine (KO _).out.mono ?_
      rintro e w3 ⟨rfl, rfl⟩
      clear KO e0
      go_wp2_with fail
      go_ret2
      exact ⟨by rw [HR2.out]; rfl, fs, vb, vf, vs, by rw [HR2.out]; exact h, by rw [HR2.out]⟩
    rw [if_neg (fun h => h.elim c1 (fun h => h.elim c2 c3))] at HR
    obtain ⟨u0, u1, rfl⟩ : ∃ u0 u1, r = [u0, u1] := by
      have c4 : r.length = 2 := by omega
      match r, c4 with
      | [u0, u1], _ => exact ⟨u0, u1, rfl⟩
    have hl_u0 := HL.out u0 (by simp)
    have hl_u1 := HL.out u1 (by simp)
    have d0 : decide (at_ < 0) = false := by rw [decide_eq_false_iff_not]; omega
    have d1 : decide (0 ≤ at_) = true := by rw [decide_eq_true_iff]; omega
    have d2 : decide (2 < at_) = false := by rw [decide_eq_false_iff_not]; omega
    clear c1 c3 HL c2
    by_cases hq : harmS (numF u0) 2 (bytesW u1) = t
    · have HR2 : Hid (R = (2, 0, ⟨x, y, z, bl, fs.map ftP ++ [(numF u0, 2, bytesW u1)], ss⟩)) := by show _ = _; rw [HR.out]; show ((if harmS (numF u0) 2 (bytesW u1) = t then _ else _), (if harmS (numF u0) 2 (bytesW u1) = t then _ else _), _) = _; rw [if_pos hq, if_pos hq]; try rfl
      clear HR
      go_enter Try.func84, Try.ntmps84
      go_wp2_with fail
      refine (KW _).out.mono ?_
      rintro e w2 ⟨A, c, rfl, hx, hb⟩
      replace h := h.kept hb
      clear hb KW
      obtain ⟨ad, rfl⟩ := hx.some_of_pos (by omega)
      have e0 : w2.cell? ad = some (.string ⟨#[99, 117, 116]⟩) := by
        have := hx.scell 0 (by omega)
        have e : ad.add 0 = ad := by unfold Addr.add; simp
        rw [e] at this
        exact this
      have hcm := hx.cm
      have hnc := hx.nc
      unfold maxLen at hcm
      go_wp2_with fail
      refine (KO _).out.mono ?_
      rintro e w3 ⟨rfl, rfl⟩
      clear KO e0
      go_wp2_with fail
      have KT := Lib.hid (take_cut W0 B gs Kp x y z bl fs ss vb vf vs _ h hP u0 u1 (some ad) c hx ⟨by omega, by omega⟩ hL.2.1)
      rw [hq] at KT
      refine KT.out.mono ?_
      rintro e w4 ⟨rfl, vf', A5, m5, c5, hT⟩
      clear KT hq
      go_wp2_with fail
      go_ret2
      exact ⟨by rw [HR2.out]; rfl, fs ++ [ftOf u0 2 A5 m5 c5 u1], vb, vf', vs, by rw [HR2.out]; exact hT, by rw [HR2.out]; simp [ftP, ftOf]⟩
    · have HR2 : Hid (R = (at_, 6, ⟨x, y, z, bl, fs.map ftP ++ [(numF u0, 2, bytesW u1)], ss⟩)) := by show _ = _; rw [HR.out]; show ((if harmS (numF u0) 2 (bytesW u1) = t then _ else _), (if harmS (numF u0) 2 (bytesW u1) = t then _ else _), _) = _; rw [if_neg hq, if_neg hq]; try rfl
      have hbe : (harmS (numF u0) 2 (bytesW u1) == t) = false := by simpa using hq
      clear HR
      go_enter Try.func84, Try.ntmps84
      go_wp2_with fail
      refine (KW _).out.mono ?_
      rintro e w2 ⟨A, c, rfl, hx, hb⟩
      replace h := h.kept hb
      clear hb KW
      obtain ⟨ad, rfl⟩ := hx.some_of_pos (by omega)
      have e0 : w2.cell? ad = some (.string ⟨#[99, 117, 116]⟩) := by
        have := hx.scell 0 (by omega)
        have e : ad.add 0 = ad := by unfold Addr.add; simp
        rw [e] at this
        exact this
      have hcm := hx.cm
      have hnc := hx.nc
      unfold maxLen at hcm
      go_wp2_with fail
      refine (KO _).out.mono ?_
      rintro e w3 ⟨rfl, rfl⟩
      clear KO e0
      go_wp2_with fail
      have KT := Lib.hid (take_cut W0 B gs Kp x y z bl fs ss vb vf vs _ h hP u0 u1 (some ad) c hx ⟨by omega, by omega⟩ hL.2.1)
      generalize harmS (numF u0) 2 (bytesW u1) = fx at *
      refine KT.out.mono ?_
      rintro e w4 ⟨rfl, vf', A5, m5, c5, hT⟩
      clear KT
      go_wp2_with fail
      go_ret2
      exact ⟨by rw [HR2.out]; rfl, fs ++ [ftOf u0 2 A5 m5 c5 u1], vb, vf', vs, by rw [HR2.out]; exact hT, by rw [HR2.out]; simp [ftP, ftOf]⟩
  rw [if_neg h_wCut] at HR
  have ho : ordF hw = (3, 0) := by unfold ordF; rw [if_neg h_wGeom, if_neg h_wBad, if_neg (fun h => h.elim h_wFail h_wCut)]
  rw [ho] at KO
  dsimp only at KO
  clear ho h_wGeom h_wBad h_wFail h_wCut
  by_cases c1 : at_ < 0
  · have HR2 : Hid (R = (at_, 17, ⟨x, y, z, bl, fs.map ftP, ss⟩)) := by show _ = _; rw [HR.out, if_pos (.inl c1)]
    have d0 : decide (at_ < 0) = true := by rw [decide_eq_true_iff]; omega
    clear HR HL
    go_enter Try.func84, Try.ntmps84
    go_wp2_with fail
    refine (KW _).out.mono ?_
    rintro e w2 ⟨A, c, rfl, hx, hb⟩
    replace h := h.kept hb
    clear hb KW
    obtain ⟨ad, rfl⟩ := hx.some_of_pos (by omega)
    have e0 : w2.cell? ad = some (.string ⟨hw.toArray⟩) := by
      have := hx.scell 0 (by omega)
      have e : ad.add 0 = ad := by unfold Addr.add; simp
      rw [e] at this
      exact this
    have hcm := hx.cm
    have hnc := hx.nc
    unfold maxLen at hcm
    go_wp2_with fail
    refine (KO _).out.mono ?_
    rintro e w3 ⟨rfl, rfl⟩
    clear KO e0
    go_wp2_with fail
    go_ret2
    exact ⟨by rw [HR2.out]; rfl, fs, vb, vf, vs, by rw [HR2.out]; exact h, by rw [HR2.out]⟩
  by_cases c2 : 3 < at_
  · have HR2 : Hid (R = (at_, 17, ⟨x, y, z, bl, fs.map ftP, ss⟩)) := by show _ = _; rw [HR.out, if_pos (.inr c2)]
    have d0 : decide (at_ < 0) = false := by rw [decide_eq_false_iff_not]; omega
    have d1 : decide (0 ≤ at_) = true := by rw [decide_eq_true_iff]; omega
    have d2 : decide (3 < at_) = true := by rw [decide_eq_true_iff]; omega
    clear HR HL
    go_enter Try.func84, Try.ntmps84
    go_wp2_with fail
    refine (KW _).out.mono ?_
    rintro e w2 ⟨A, c, rfl, hx, hb⟩
    replace h := h.kept hb
    clear hb KW
    obtain ⟨ad, rfl⟩ := hx.some_of_pos (by omega)
    have e0 : w2.cell? ad = some (.string ⟨hw.toArray⟩) := by
      have := hx.scell 0 (by omega)
      have e : ad.add 0 = ad := by unfold Addr.add; simp
      rw [e] at this
      exact this
    have hcm := hx.cm
    have hnc := hx.nc
    unfold maxLen at hcm
    go_wp2_with fail
    refine (KO _).out.mono ?_
    rintro e w3 ⟨rfl, rfl⟩
    clear KO e0
    go_wp2_with fail
    go_ret2
    exact ⟨by rw [HR2.out]; rfl, fs, vb, vf, vs, by rw [HR2.out]; exact h, by rw [HR2.out]⟩
  have HR2 : Hid (R = (3, (stepF t).2, ⟨x, y, z, bl, fs.map ftP, ss ++ [(stepF t).1]⟩)) := by show _ = _; rw [HR.out, if_neg (fun h => h.elim c1 c2)]
  have KS := fun W => Lib.hid (tstep_any t W hN)
  have d0 : decide (at_ < 0) = false := by rw [decide_eq_false_iff_not]; omega
  have d1 : decide (0 ≤ at_) = true := by rw [decide_eq_true_iff]; omega
  have d2 : decide (3 < at_) = false := by rw [decide_eq_false_iff_not]; omega
  obtain ⟨hL1, hL2, hL3⟩ := hL
  clear HR HL c1 c2
  generalize stepF t = sf at *
  obtain ⟨⟨sk, sd, sp, sa, sb⟩, se⟩ := sf
  dsimp only at KS HR2
  go_enter Try.func84, Try.ntmps84
  go_wp2_with fail
  refine (KW _).out.mono ?_
  rintro e w2 ⟨A, c, rfl, hx, hb⟩
  replace h := h.kept hb
  clear hb KW
  obtain ⟨ad, rfl⟩ := hx.some_of_pos (by omega)
  have e0 : w2.cell? ad = some (.string ⟨hw.toArray⟩) := by
    have := hx.scell 0 (by omega)
    have e : ad.add 0 = ad := by unfold Addr.add; simp
    rw [e] at this
    exact this
  have hcm := hx.cm
  have hnc := hx.nc
  unfold maxLen at hcm
  go_wp2_with fail
  refine (KO _).out.mono ?_
  rintro e w3 ⟨rfl, rfl⟩
  clear KO e0
  clear hx
  go_wp2_with fail
  refine (KS _).out.mono ?_
  rintro e w4 ⟨rfl, hb⟩
  replace h := h.kept hb
  have hB4 := h.sz
  have hP1 := hP.h1
  have hP5 := hP.h5
  have hvs : ∀ k, w4.heap.size ≤ k → (vs.ownBlock = none ∨ vs.ownBlock ≠ some k) := fun k hk => .inr (fun e => by have := (h.os.lt k e).2; omega)
  obtain ⟨hb6, hca⟩ := one_cells w4 (stA ⟨sk, sd, sp, sa, sb⟩) 78
  have q0 := hca 0 (.int .i64 sk) rfl
  have q1 := hca 1 (.string ⟨sd.toArray⟩) rfl
  have q2 := hca 2 (.int .i64 sp) rfl
  have q3 := hca 3 (.int .u64 (sa : Int)) rfl
  have q4 := hca 4 (.int .u64 (sb : Int)) rfl
  replace h := h.kept hb6
  have hz6 := heap_lt (alloc_new w4 (.cells (stA ⟨sk, sd, sp, sa, sb⟩) 78 (0, 0)))
  clear hb KS hca hb6 d0 d1 d2
  go_upto_region 10 with fail
  generalize w4.alloc (.cells #[.int .i64 sk, .string ⟨sd.toArray⟩, .int .i64 sp, .int .u64 (sa : Int), .int .u64 (sb : Int)] 78) = w5 at *
  obtain ⟨g6, hg6d⟩ : ∃ g, g = w4.heap.size := ⟨_, rfl⟩
  have hg6 : w4.heap.size ≤ g6 := by omega
  rw [← hg6d] at q0 q1 q2 q3 q4 hz6 hB4 ⊢
  replace hvs := hvs g6 hg6
  clear hg6d hg6
  replace h := h.kept ((Below.refl w5.heap.size w5).drew)
  have hS0 : w5.drew.cell? ⟨g6, 0, none⟩ = some (.int .i64 sk) ∧ w5.drew.cell? ⟨g6, 1, none⟩ = some (.string ⟨sd.toArray⟩) ∧ w5.drew.cell? ⟨g6, 2, none⟩ = some (.int .i64 sp) ∧ w5.drew.cell? ⟨g6, 3, none⟩ = some (.int .u64 (sa : Int)) ∧ w5.drew.cell? ⟨g6, 4, none⟩ = some (.int .u64 (sb : Int)) := ⟨cell_below ((Below.refl _ _).drew) q0, cell_below ((Below.refl _ _).drew) q1, cell_below ((Below.refl _ _).drew) q2, cell_below ((Below.refl _ _).drew) q3, cell_below ((Below.refl _ _).drew) q4⟩
  obtain ⟨ii, hii, hi0, hi1, hi2⟩ := info_parts info_st
  clear q0 q1 q2 q3 q4
  refine wp_region_held (S := fun W => W.cell? ⟨g6, 0, none⟩ = some (.int .i64 sk) ∧ W.cell? ⟨g6, 1, none⟩ = some (.string ⟨sd.toArray⟩) ∧ W.cell? ⟨g6, 2, none⟩ = some (.int .i64 sp) ∧ W.cell? ⟨g6, 3, none⟩ = some (.int .u64 (sa : Int)) ∧ W.cell? ⟨g6, 4, none⟩ = some (.int .u64 (sb : Int))) (by kernel_rfl) ?_
  change wpAnyH _ _ _ _ _ _ _ _ (w5).drew
  have hS : (fun W => W.cell? ⟨g6, 0, none⟩ = some (.int .i64 sk) ∧ W.cell? ⟨g6, 1, none⟩ = some (.string ⟨sd.toArray⟩) ∧ W.cell? ⟨g6, 2, none⟩ = some (.int .i64 sp) ∧ W.cell? ⟨g6, 3, none⟩ = some (.int .u64 (sa : Int)) ∧ W.cell? ⟨g6, 4, none⟩ = some (.int .u64 (sb : Int))) (w5).drew := hS0
  generalize (w5).drew = wd at hS h ⊢
  refine wpAnyH_take (i := 0) (oi := { dst := some 68, op := Op.move (Operand.tmp 0), type := 163, pos := "tape.go:202", after := #[], guard := none }) (v := ?_) rfl (by kernel_rfl) (by kernel_rfl) (by kernel_rfl) (fun _ _ _ h => h) (Or.inl ⟨by rfl, ?_⟩) (by assumption) ?_
  rotate_left
  · (intro wS hS; go_simp <;> with_reducible rfl)
  try simp only [Act.put, List.setIfInBounds_toArray, List.set_cons_zero, List.set_cons_succ]
  refine wpAnyH_take (i := 1) (oi := { dst := some 69, op := Op.move (Operand.tmp 0), type := 163, pos := "tape.go:202", after := #[], guard := none }) (v := ?_) rfl (by kernel_rfl) (by kernel_rfl) (by kernel_rfl) (fun _ _ _ h => h) (Or.inl ⟨by rfl, ?_⟩) (by assumption) ?_
  rotate_left
  · (intro wS hS; go_simp <;> with_reducible rfl)
  try simp only [Act.put, List.setIfInBounds_toArray, List.set_cons_zero, List.set_cons_succ]
  refine wpAnyH_take (i := 2) (oi := { dst := some 70, op := Op.nilCheck (Operand.tmp 69), type := 0, pos := "tape.go:202", after := #[{ on := 1, ground := Ground.data }], guard := none }) (v := ?_) rfl (by kernel_rfl) (by kernel_rfl) (by kernel_rfl) (fun _ _ _ h => h) (Or.inl ⟨by rfl, ?_⟩) (by assumption) ?_
  rotate_left
  · (intro wS hS; go_simp <;> with_reducible rfl)
  try simp only [Act.put, List.setIfInBounds_toArray, List.set_cons_zero, List.set_cons_succ]
  refine wpAnyH_take (i := 3) (oi := { dst := some 71, op := Op.fieldAddr 69 (Operand.tmp 70) 3, type := 0, pos := "tape.go:202", after := #[{ on := 2, ground := Ground.data }], guard := none }) (v := ?_) rfl (by kernel_rfl) (by kernel_rfl) (by kernel_rfl) (fun _ _ _ h => h) (Or.inl ⟨by rfl, ?_⟩) (by assumption) ?_
  rotate_left
  · (intro wS hS; go_simp <;> with_reducible rfl)
  try simp only [Act.put, List.setIfInBounds_toArray, List.set_cons_zero, List.set_cons_succ]
  refine wpAnyH_take (i := 5) (oi := { dst := some 73, op := Op.load 78 (Operand.tmp 11), type := 78, pos := "tape.go:202", after := #[], guard := none }) (v := ?_) rfl (by kernel_rfl) (by kernel_rfl) (by kernel_rfl) (fun _ _ _ h => h) (Or.inl ⟨by rfl, ?_⟩) (by assumption) ?_
  rotate_left
  · (intro wS hS; have q0 := hS.1; have q1 := hS.2.1; have q2 := hS.2.2.1; have q3 := hS.2.2.2.1; have q4 := hS.2.2.2.2; go_simp <;> with_reducible rfl)
  try simp only [Act.put, List.setIfInBounds_toArray, List.set_cons_zero, List.set_cons_succ]
  refine wpAnyH_ready (rs := [4, 6]) (by kernel_rfl) (by simp) ?_
  refine AllReadyH.cons (o := { dst := some 72, op := Op.load 67 (Operand.tmp 71), type := 67, pos := "tape.go:202", after := #[{ on := 3, ground := Ground.data }], guard := none }) rfl (fun K hK => ?_) (AllReadyH.cons (o := { dst := some 74, op := Op.buildSlice 67 1 #[(0, Operand.tmp 73)], type := 67, pos := "tape.go:202", after := #[{ on := 5, ground := Ground.data }], guard := none }) rfl (fun K hK => ?_) (AllReadyH.nil))
  · have k3 := cell_heap (o := 5) h.hs
    go_simp
    refine hK.out _ _ hS (fun _ => ?_)
    clear hK K k3
    try simp only [Act.put, List.setIfInBounds_toArray, List.set_cons_zero, List.set_cons_succ]
    refine wpAnyH_ready (rs := [6]) (by kernel_rfl) (by simp) ?_
    refine AllReadyH.cons (o := { dst := some 74, op := Op.buildSlice 67 1 #[(0, Operand.tmp 73)], type := 67, pos := "tape.go:202", after := #[{ on := 5, ground := Ground.data }], guard := none }) rfl (fun K hK => ?_) (AllReadyH.nil)
    go_simp
    have hbA := (one_cells wd #[.int .i64 sk, .string ⟨sd.toArray⟩, .int .i64 sp, .int .u64 (sa : Int), .int .u64 (sb : Int)] 78).1
    have hnb := World.news_of_block (alloc_new wd (.cells #[.int .i64 sk, .string ⟨sd.toArray⟩, .int .i64 sp, .int .u64 (sa : Int), .int .u64 (sb : Int)] 78 (0, 0)))
    replace h := h.kept hbA
    have hS2 := And.intro (cell_below hbA hS.1) (And.intro (cell_below hbA hS.2.1) (And.intro (cell_below hbA hS.2.2.1) (And.intro (cell_below hbA hS.2.2.2.1) (cell_below hbA hS.2.2.2.2))))
    refine hK.out _ _ hS2 (fun _ => ?_)
    clear hK K hbA hS
    have hS := hS2
    clear hS2
    try simp only [Act.put, List.setIfInBounds_toArray, List.set_cons_zero, List.set_cons_succ]
    generalize hgB2 : World.heap wd = hpB at *
    generalize World.alloc wd (.cells #[.int .i64 sk, .string ⟨sd.toArray⟩, .int .i64 sp, .int .u64 (sa : Int), .int .u64 (sb : Int)] 78) = wA at *
    clear hgB2
    refine wpAnyH_ready (rs := [7]) (by kernel_rfl) (by simp) ?_
    refine AllReadyH.cons (o := { dst := some 75, op := Op.call { callee := Callee.builtin Builtin.append, args := #[Operand.tmp 72, Operand.tmp 74], argTypes := #[67, 67] }, type := 67, pos := "tape.go:202", after := #[{ on := 4, ground := Ground.data }, { on := 6, ground := Ground.data }], guard := none }) rfl (fun K hK => ?_) (AllReadyH.nil)
    refine step_append_lies _ rfl (.tmp 72) (.tmp 74) 67 rfl B 78 ii (.agg zSt) 5 48 Try.underlying67 hii hi0 hi1 hi2 rfl (by decide) _ ss.length _ rfl h.os ⟨hpB.size, 0, none⟩ 1 1 [.int .i64 sk, .string ⟨sd.toArray⟩, .int .i64 sp, .int .u64 (sa : Int), .int .u64 (sb : Int)] rfl rfl hnb (by simp [Value.oneCell']) (by decide) (by unfold maxLen; omega) (by omega) h.sz _ rfl ?_
    intro gX capX wR7 ho' hg' hor hltX
    have hne6 : some g6 ≠ vs.ownBlock := ne_of_or hvs
    have hS3 := And.intro (World.grownBy.cell hg' hS.1 hne6) (And.intro (World.grownBy.cell hg' hS.2.1 hne6) (And.intro (World.grownBy.cell hg' hS.2.2.1 hne6) (And.intro (World.grownBy.cell hg' hS.2.2.2.1 hne6) (World.grownBy.cell hg' hS.2.2.2.2 hne6))))
    refine hK.out _ _ hS3 (fun _ => ?_)
    clear hK K
    try simp only [Act.put, List.setIfInBounds_toArray, List.set_cons_zero, List.set_cons_succ]
    refine wpAnyH_take (i := 8) (oi := { dst := some 76, op := Op.nilCheck (Operand.tmp 68), type := 0, pos := "tape.go:202", after := #[{ on := 0, ground := Ground.data }, { on := 0, ground := Ground.phase }, { on := 1, ground := Ground.phase }, { on := 2, ground := Ground.phase }, { on := 3, ground := Ground.phase }, { on := 4, ground := Ground.phase }, { on := 5, ground := Ground.phase }, { on := 6, ground := Ground.phase }, { on := 7, ground := Ground.phase }], guard := none }) (v := ?_) rfl (by kernel_rfl) (by kernel_rfl) (by kernel_rfl) (fun _ _ _ h => h) (Or.inl ⟨by rfl, ?_⟩) (by assumption) ?_
    rotate_left
    · (intro wS hS; go_simp <;> with_reducible rfl)
    try simp only [Act.put, List.setIfInBounds_toArray, List.set_cons_zero, List.set_cons_succ]
    refine wpAnyH_take (i := 9) (oi := { dst := some 77, op := Op.fieldAddr 69 (Operand.tmp 76) 3, type := 0, pos := "tape.go:202", after := #[{ on := 8, ground := Ground.data }, { on := 0, ground := Ground.phase }, { on := 1, ground := Ground.phase }, { on := 2, ground := Ground.phase }, { on := 3, ground := Ground.phase }, { on := 4, ground := Ground.phase }, { on := 5, ground := Ground.phase }, { on := 6, ground := Ground.phase }, { on := 7, ground := Ground.phase }], guard := none }) (v := ?_) rfl (by kernel_rfl) (by kernel_rfl) (by kernel_rfl) (fun _ _ _ h => h) (Or.inl ⟨by rfl, ?_⟩) (by assumption) ?_
    rotate_left
    · (intro wS hS; go_simp <;> with_reducible rfl)
    try simp only [Act.put, List.setIfInBounds_toArray, List.set_cons_zero, List.set_cons_succ]
    refine wpAnyH_ready (rs := [10]) (by kernel_rfl) (by simp) ?_
    refine AllReadyH.cons (o := { dst := none, op := Op.store 67 (Operand.tmp 77) (Operand.tmp 75), type := 0, pos := "tape.go:202", after := #[{ on := 9, ground := Ground.data }, { on := 7, ground := Ground.data }, { on := 7, ground := Ground.chain }, { on := 0, ground := Ground.phase }, { on := 1, ground := Ground.phase }, { on := 2, ground := Ground.phase }, { on := 3, ground := Ground.phase }, { on := 4, ground := Ground.phase }, { on := 5, ground := Ground.phase }, { on := 6, ground := Ground.phase }, { on := 7, ground := Ground.phase }], guard := none }) rfl (fun K hK => ?_) (AllReadyH.nil)
    have hr7 := gb_heap hg' h.hs (own_ne' h.os hP.h1)
    have fz := frozen_heap (o := 5) hr7
    have fy : wR7.cell? ⟨gs, 5, none⟩ = some vs := cell_heap hr7
    have hGs := gb_set wR7 gs 5 (.slice (some ⟨gX, 0, none⟩) (ss.length + 1) capX)
    have h8 := h.put hP (ss' := ss ++ [⟨sk, sd, sp, sa, sb⟩]) hg' (fun k hk => own_ne' h.os hk) (fun k hk => (h.os.lt k hk).1) hGs (set_heap (o := 5) hr7 (.slice (some ⟨gX, 0, none⟩) (ss.length + 1) capX)) (h.ob.kept hg' (own_other h.os h.ob (by decide))) (h.of.kept hg' (own_other h.os h.of (by decide))) (by rw [List.length_append, stCs_append]; exact ho') (fun f hf => (h.om f hf).kept hg' (own_other h.os (h.om f hf) (by decide)))
    have hne7 : some g6 ≠ some gs := by (simp; omega)
    have hS4 := And.intro (World.grownBy.cell hGs hS3.1 hne7) (And.intro (World.grownBy.cell hGs hS3.2.1 hne7) (And.intro (World.grownBy.cell hGs hS3.2.2.1 hne7) (And.intro (World.grownBy.cell hGs hS3.2.2.2.1 hne7) (World.grownBy.cell hGs hS3.2.2.2.2 hne7))))
    go_simp
    refine hK.out _ _ hS4 (fun _ => ?_)
    clear hK K
    try simp only [Act.put, List.setIfInBounds_toArray, List.set_cons_zero, List.set_cons_succ]
    refine wpAnyH_done (by kernel_rfl) ?_ _
    go_wp2_with fail
    go_ret2
    exact ⟨by rw [HR2.out]; rfl, fs, vb, vf, _, by rw [HR2.out]; exact h8, by rw [HR2.out]⟩
  · go_simp
    have hbA := (one_cells wd #[.int .i64 sk, .string ⟨sd.toArray⟩, .int .i64 sp, .int .u64 (sa : Int), .int .u64 (sb : Int)] 78).1
    have hnb := World.news_of_block (alloc_new wd (.cells #[.int .i64 sk, .string ⟨sd.toArray⟩, .int .i64 sp, .int .u64 (sa : Int), .int .u64 (sb : Int)] 78 (0, 0)))
    replace h := h.kept hbA
    have hS2 := And.intro (cell_below hbA hS.1) (And.intro (cell_below hbA hS.2.1) (And.intro (cell_below hbA hS.2.2.1) (And.intro (cell_below hbA hS.2.2.2.1) (cell_below hbA hS.2.2.2.2))))
    refine hK.out _ _ hS2 (fun _ => ?_)
    clear hK K hbA hS
    have hS := hS2
    clear hS2
    try simp only [Act.put, List.setIfInBounds_toArray, List.set_cons_zero, List.set_cons_succ]
    generalize hgB2 : World.heap wd = hpB at *
    generalize World.alloc wd (.cells #[.int .i64 sk, .string ⟨sd.toArray⟩, .int .i64 sp, .int .u64 (sa : Int), .int .u64 (sb : Int)] 78) = wA at *
    clear hgB2
    refine wpAnyH_ready (rs := [4]) (by kernel_rfl) (by simp) ?_
    refine AllReadyH.cons (o := { dst := some 72, op := Op.load 67 (Operand.tmp 71), type := 67, pos := "tape.go:202", after := #[{ on := 3, ground := Ground.data }], guard := none }) rfl (fun K hK => ?_) (AllReadyH.nil)
    have k3 := cell_heap (o := 5) h.hs
    go_simp
    refine hK.out _ _ hS (fun _ => ?_)
    clear hK K k3
    try simp only [Act.put, List.setIfInBounds_toArray, List.set_cons_zero, List.set_cons_succ]
    refine wpAnyH_ready (rs := [7]) (by kernel_rfl) (by simp) ?_
    refine AllReadyH.cons (o := { dst := some 75, op := Op.call { callee := Callee.builtin Builtin.append, args := #[Operand.tmp 72, Operand.tmp 74], argTypes := #[67, 67] }, type := 67, pos := "tape.go:202", after := #[{ on := 4, ground := Ground.data }, { on := 6, ground := Ground.data }], guard := none }) rfl (fun K hK => ?_) (AllReadyH.nil)
    refine step_append_lies _ rfl (.tmp 72) (.tmp 74) 67 rfl B 78 ii (.agg zSt) 5 48 Try.underlying67 hii hi0 hi1 hi2 rfl (by decide) _ ss.length _ rfl h.os ⟨hpB.size, 0, none⟩ 1 1 [.int .i64 sk, .string ⟨sd.toArray⟩, .int .i64 sp, .int .u64 (sa : Int), .int .u64 (sb : Int)] rfl rfl hnb (by simp [Value.oneCell']) (by decide) (by unfold maxLen; omega) (by omega) h.sz _ rfl ?_
    intro gX capX wR7 ho' hg' hor hltX
    have hne6 : some g6 ≠ vs.ownBlock := ne_of_or hvs
    have hS3 := And.intro (World.grownBy.cell hg' hS.1 hne6) (And.intro (World.grownBy.cell hg' hS.2.1 hne6) (And.intro (World.grownBy.cell hg' hS.2.2.1 hne6) (And.intro (World.grownBy.cell hg' hS.2.2.2.1 hne6) (World.grownBy.cell hg' hS.2.2.2.2 hne6))))
    refine hK.out _ _ hS3 (fun _ => ?_)
    clear hK K
    try simp only [Act.put, List.setIfInBounds_toArray, List.set_cons_zero, List.set_cons_succ]
    refine wpAnyH_take (i := 8) (oi := { dst := some 76, op := Op.nilCheck (Operand.tmp 68), type := 0, pos := "tape.go:202", after := #[{ on := 0, ground := Ground.data }, { on := 0, ground := Ground.phase }, { on := 1, ground := Ground.phase }, { on := 2, ground := Ground.phase }, { on := 3, ground := Ground.phase }, { on := 4, ground := Ground.phase }, { on := 5, ground := Ground.phase }, { on := 6, ground := Ground.phase }, { on := 7, ground := Ground.phase }], guard := none }) (v := ?_) rfl (by kernel_rfl) (by kernel_rfl) (by kernel_rfl) (fun _ _ _ h => h) (Or.inl ⟨by rfl, ?_⟩) (by assumption) ?_
    rotate_left
    · (intro wS hS; go_simp <;> with_reducible rfl)
    try simp only [Act.put, List.setIfInBounds_toArray, List.set_cons_zero, List.set_cons_succ]
    refine wpAnyH_take (i := 9) (oi := { dst := some 77, op := Op.fieldAddr 69 (Operand.tmp 76) 3, type := 0, pos := "tape.go:202", after := #[{ on := 8, ground := Ground.data }, { on := 0, ground := Ground.phase }, { on := 1, ground := Ground.phase }, { on := 2, ground := Ground.phase }, { on := 3, ground := Ground.phase }, { on := 4, ground := Ground.phase }, { on := 5, ground := Ground.phase }, { on := 6, ground := Ground.phase }, { on := 7, ground := Ground.phase }], guard := none }) (v := ?_) rfl (by kernel_rfl) (by kernel_rfl) (by kernel_rfl) (fun _ _ _ h => h) (Or.inl ⟨by rfl, ?_⟩) (by assumption) ?_
    rotate_left
    · (intro wS hS; go_simp <;> with_reducible rfl)
    try simp only [Act.put, List.setIfInBounds_toArray, List.set_cons_zero, List.set_cons_succ]
    refine wpAnyH_ready (rs := [10]) (by kernel_rfl) (by simp) ?_
    refine AllReadyH.cons (o := { dst := none, op := Op.store 67 (Operand.tmp 77) (Operand.tmp 75), type := 0, pos := "tape.go:202", after := #[{ on := 9, ground := Ground.data }, { on := 7, ground := Ground.data }, { on := 7, ground := Ground.chain }, { on := 0, ground := Ground.phase }, { on := 1, ground := Ground.phase }, { on := 2, ground := Ground.phase }, { on := 3, ground := Ground.phase }, { on := 4, ground := Ground.phase }, { on := 5, ground := Ground.phase }, { on := 6, ground := Ground.phase }, { on := 7, ground := Ground.phase }], guard := none }) rfl (fun K hK => ?_) (AllReadyH.nil)
    have hr7 := gb_heap hg' h.hs (own_ne' h.os hP.h1)
    have fz := frozen_heap (o := 5) hr7
    have fy : wR7.cell? ⟨gs, 5, none⟩ = some vs := cell_heap hr7
    have hGs := gb_set wR7 gs 5 (.slice (some ⟨gX, 0, none⟩) (ss.length + 1) capX)
    have h8 := h.put hP (ss' := ss ++ [⟨sk, sd, sp, sa, sb⟩]) hg' (fun k hk => own_ne' h.os hk) (fun k hk => (h.os.lt k hk).1) hGs (set_heap (o := 5) hr7 (.slice (some ⟨gX, 0, none⟩) (ss.length + 1) capX)) (h.ob.kept hg' (own_other h.os h.ob (by decide))) (h.of.kept hg' (own_other h.os h.of (by decide))) (by rw [List.length_append, stCs_append]; exact ho') (fun f hf => (h.om f hf).kept hg' (own_other h.os (h.om f hf) (by decide)))
    have hne7 : some g6 ≠ some gs := by (simp; omega)
    have hS4 := And.intro (World.grownBy.cell hGs hS3.1 hne7) (And.intro (World.grownBy.cell hGs hS3.2.1 hne7) (And.intro (World.grownBy.cell hGs hS3.2.2.1 hne7) (And.intro (World.grownBy.cell hGs hS3.2.2.2.1 hne7) (World.grownBy.cell hGs hS3.2.2.2.2 hne7))))
    go_simp
    refine hK.out _ _ hS4 (fun _ => ?_)
    clear hK K
    try simp only [Act.put, List.setIfInBounds_toArray, List.set_cons_zero, List.set_cons_succ]
    refine wpAnyH_done (by kernel_rfl) ?_ _
    go_wp2_with fail
    go_ret2
    exact ⟨by rw [HR2.out]; rfl, fs, vb, vf, _, by rw [HR2.out]; exact h8, by rw [HR2.out]⟩
end Go.Proofs.Ytefipigdkdopcaa
