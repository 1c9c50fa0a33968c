/- Contract of runes.Back. It asks the library's variables; the length's bound. -/
import Derived.Test.YtefipigdkdopcaaDoorBack1
import Derived.Deep.DeepCutAuto
namespace Go.Proofs.YtefipigdkdopcaaDoor
open Go.RowKit

/-- A text cut at the first byte c. -/
def cutAtB (c : UInt8) : List UInt8 → Option (List UInt8 × List UInt8)
  | [] => none
  | b :: r => if b = c then some ([], r) else (cutAtB c r).map (fun p => (b :: p.1, p.2))
theorem index_one (c : UInt8) (s : List UInt8) : (∀ p, cutAtB c s = some p → Lib.index s [c] = (p.1.length : Int) ∧ s = p.1 ++ c :: p.2) ∧ (cutAtB c s = none → Lib.index s [c] = -1) := by
  induction s with
  | nil => exact ⟨(fun p h => by cases h), (fun _ => by simp [Lib.index])⟩
  | cons b r ih =>
    unfold cutAtB Lib.index
    by_cases hb : b = c
    · subst hb
      rw [if_pos rfl]
      refine ⟨fun p h => ?_, (fun h => by cases h)⟩
      cases h
      simp
    · have hb2 : ([c] : List UInt8).isPrefixOf (b :: r) = false := by have hb' : ¬ c = b := fun e => hb e.symm
                                                                      simp [List.isPrefixOf, hb']
      rw [if_neg hb, hb2]
      cases hc : cutAtB c r with
      | none =>
        have := ih.2 hc
        rw [this]
        exact ⟨(fun p h => by cases h), (fun _ => by simp)⟩
      | some q =>
        obtain ⟨h1, h2⟩ := ih.1 q hc
        rw [h1]
        refine ⟨fun p h => ?_, (fun h => by cases h)⟩
        simp only [Option.map_some, Option.some.injEq] at h
        subst h
        refine ⟨?_, by conv => lhs; rw [h2]
                       simp⟩
        have : ((q.1.length : Int) == -1) = false := by rw [beq_eq_false_iff_ne]; omega
        simp only [Bool.false_eq_true, if_false, this, List.length_cons]
        omega
theorem cut_eq (c : UInt8) (s : List UInt8) : Lib.cut s [c] = match cutAtB c s with | some p => (p.1, p.2, true) | none => (s, [], false) := by
  obtain ⟨h1, h2⟩ := index_one c s
  unfold Lib.cut
  cases hc : cutAtB c s with
  | none =>
    rw [h2 hc]
    simp
  | some p =>
    obtain ⟨g1, g2⟩ := h1 p hc
    rw [g1]
    rw [if_pos (by simp)]
    dsimp only
    rw [Int.toNat_natCast]
    refine Prod.ext ?_ (Prod.ext ?_ rfl)
    · show s.take p.1.length = p.1
      rw [g2]; simp
    · show s.drop (p.1.length + [c].length) = p.2
      rw [g2]; simp
/-- An escaped text read. -/
def backGo : Nat → List UInt8 → List UInt8 → Option (List UInt8)
  | _, [], acc => some acc
  | 0, _ :: _, _ => none
  | f + 1, b :: r, acc => if b ≠ 92 then backGo f r (acc ++ [b]) else match cutAtB 46 r with
    | none => none
    | some p => backGo f p.2 (acc ++ oneF p.1)
theorem encode_len (r : Int) : (Utf8.encode r).data.toList.length ≤ 4 := by
  unfold Utf8.encode
  dsimp only
  generalize (if Utf8.valid r = true then r.toNat else Utf8.runeError) = c
  by_cases h1 : c < 128
  · rw [if_pos h1]; simp
  · rw [if_neg h1]
    by_cases h2 : c < 2048
    · rw [if_pos h2]; simp
    · rw [if_neg h2]
      by_cases h3 : c < 65536
      · rw [if_pos h3]; simp
      · rw [if_neg h3]; simp
theorem oneF_len (t : List UInt8) : (oneF t).length ≤ 4 := by
  unfold oneF
  split
  · simp
  · exact encode_len _
/-- What Back hands back. -/
structure Bk where
  t : List UInt8
  e : Nat
def backF (s : List UInt8) : Bk := match backGo s.length s [] with
  | none => ⟨[], 6⟩
  | some b => if escF b 0 = s then ⟨b, 0⟩ else ⟨[], 6⟩

theorem cutdot_any (s : List UInt8) (w : World) (hN : s.length ≤ 100000) (hL : LV w) : Calls Tryd.prog 27 #[.string ⟨s.toArray⟩, .string ⟨#[46]⟩] w fun e w' => (match cutAtB 46 s with | some p => e = .returned (.tuple #[.string ⟨p.1.toArray⟩, .string ⟨p.2.toArray⟩, .bool true]) | none => ∃ a b, e = .returned (.tuple #[.string a, .string b, .bool false])) ∧ Below w.heap.size w w' := by
  obtain ⟨m, hm⟩ := hL.mx
  refine (Tryd.strings_Cut ⟨s.toArray⟩ ⟨#[46]⟩ m w (by rw [size_list]; omega) hm).mono (fun e w' h => ?_)
  obtain ⟨he, n, rfl⟩ := h
  refine ⟨?_, below_drewN (Below.refl _ _) n⟩
  have hc := cut_eq 46 s
  rw [he]
  show match cutAtB 46 s with | some p => _ | none => _
  have e1 : ((⟨s.toArray⟩ : ByteArray).data.toList) = s := rfl
  have e2 : ((⟨#[46]⟩ : ByteArray).data.toList) = [46] := rfl
  rw [e1, e2, hc]
  cases cutAtB 46 s with
  | none => exact ⟨_, _, rfl⟩
  | some p => rfl

set_option maxRecDepth 100000 in
set_option maxHeartbeats 2000000 in
theorem rback_any (s : List UInt8) (w : World) (hN : s.length ≤ 10000) (hL : LV w) : Calls Tryd.prog 9 #[.string ⟨s.toArray⟩] w fun e w' => e = .returned (.tuple #[.string ⟨(backF s).t.toArray⟩, .int .i64 ((backF s).e : Nat)]) ∧ Below w.heap.size w w' := by
  have hB0 := Below.refl w.heap.size w
  have HLV := Lib.hid hL
  clear hL
  go_enter Tryd.func9, Tryd.ntmps9
  go_wp2_with fail
  go_loopw [4, 5] (fun v q wr => ∃ (f : Nat) (rest acc : List UInt8), q = .string ⟨rest.toArray⟩ ∧ rest.length ≤ f ∧ rest.length ≤ 10000 ∧ acc.length + 4 * rest.length ≤ 4 * s.length ∧ Hid (backGo s.length s [] = backGo f rest acc) ∧ wr.ownsRow w.heap.size 5 1 v acc.length (bs acc) ∧ Below w.heap.size w wr) (fun _ q _ => strSize q)
  case atStart => exact ⟨s.length, s, [], rfl, by omega, by omega, by simp, rfl, World.ownsRow_nil _ _ _ _, hB0⟩
  case round =>
    obtain ⟨f, rest, acc, rfl, hrf, hrl, hacc, HG, hown, hB⟩ := hrel
    clear hB0
    cases rest with
    | nil =>
      have HE : Hid (backGo s.length s [] = some acc) := by
        show _ = _
        rw [HG.out]
        cases f <;> rfl
      have HF : Hid (backF s = if escF acc 0 = s then ⟨acc, 0⟩ else ⟨[], 6⟩) := by
        show _ = _
        unfold backF
        rw [HE.out]
      have hal : acc.length ≤ 40000 := by omega
      have KE := fun W hL => Lib.hid (resc_any acc W (by omega) hL)
      obtain ⟨A, c, rfl, hr, hbb⟩ := Rd.of_own hown
      have hst := run_string_of (P := Tryd.prog) 39 9 5 Tryd.underlying39 Tryd.underlying5 Tryd.underlying9 hr
      have hLi := HLV.out.below hB
      clear HG HE
      go_wp2_with fail
      refine (KE _ hLi).out.mono ?_
      rintro e w2 ⟨rfl, hb⟩
      have hr2 := hr.below hb
      have hst2 := run_string_of (P := Tryd.prog) 39 9 5 Tryd.underlying39 Tryd.underlying5 Tryd.underlying9 hr2
      have hB2 := below_then hB hb hB.size
      clear hst hr hown KE hb hLi
      by_cases he : escF acc 0 = s
      · rw [if_pos he] at HF
        rw [he]
        clear he
        go_wp2_with fail
        go_ret2
        exact ⟨by rw [HF.out]; rfl, hB2⟩
      · rw [if_neg he] at HF
        have hbe : (escF acc 0 == s) = false := by simpa using he
        clear he
        generalize escF acc 0 = es at *
        go_wp2_with fail
        go_ret2
        exact ⟨by rw [HF.out]; rfl, hB2⟩
    | cons b r =>
      obtain ⟨f', rfl⟩ : ∃ f', f = f' + 1 := ⟨f - 1, by rw [List.length_cons] at hrf; omega⟩
      rw [List.length_cons] at hrf hrl hacc
      have hx : (⟨(b :: r).toArray⟩ : ByteArray).extract 1 (r.length + 1) = ⟨r.toArray⟩ := by
        have := extract_list (b :: r) 1 (r.length + 1)
        rw [this]
        simp
      by_cases hb92 : b = 92
      · subst hb92
        have hLi := HLV.out.below hB
        have KC := Lib.hid (cutdot_any r wr (by omega) hLi)
        cases hc : cutAtB 46 r with
        | none =>
          have HF : Hid (backF s = ⟨[], 6⟩) := by
            show _ = _
            unfold backF
            rw [HG.out]
            simp only [backGo, ne_eq, not_true_eq_false, if_false, hc]
          have KC2 := KC.out
          rw [hc] at KC2
          have KC3 := Lib.hid KC2
          clear KC KC2 HG hc hLi
          go_wp2_with fail
          refine KC3.out.mono ?_
          rintro e w2 ⟨⟨a1, a2, rfl⟩, hb⟩
          go_wp2_with fail
          go_ret2
          exact ⟨by rw [HF.out]; rfl, below_then hB hb hB.size⟩
        | some p =>
          obtain ⟨t, r2⟩ := p
          have HE : Hid (backGo s.length s [] = backGo f' r2 (acc ++ oneF t)) := by
            show _ = _
            rw [HG.out]
            simp only [backGo, ne_eq, not_true_eq_false, if_false, hc]
          have hsplit := ((index_one 46 r).1 _ hc).2
          have hl2 : r.length = t.length + (r2.length + 1) := by
            have := congrArg List.length hsplit
            rw [List.length_append, List.length_cons] at this
            exact this
          have KC2 := KC.out
          rw [hc] at KC2
          have KC3 := Lib.hid KC2
          have KO := fun W => Lib.hid (rone_any t W (by omega))
          have hol := oneF_len t
          have hl3 : t.length + (r2.length + 1) ≤ r.length := by omega
          clear hl2
          clear KC KC2 HG hc hLi hsplit
          generalize oneF t = ot at *
          go_wp2_with fail
          refine KC3.out.mono ?_
          rintro e w2 ⟨rfl, hb⟩
          replace hB := below_then hB hb hB.size
          replace hown := own_below hown hb
          clear hb KC3
          go_wp2_with fail
          refine (KO _).out.mono ?_
          rintro e w3 ⟨rfl, hb⟩
          replace hB := below_then hB hb hB.size
          replace hown := own_below hown hb
          have hsz := hB.size
          clear hb KO
          go_wp2_with (first
            | (at_builtin; refine wpl_append_str rfl (.tmp 31) (.tmp 33) 39 9 rfl w.heap.size 5 Tryd.underlying39 Tryd.underlying9 info_u8' _ acc rfl hown ot rfl (by omega) hsz ?_; intro v5 w5 hown5 hg5; have hB5 := below_own hB hown hg5; clear hg5))
          go_roundw
          case rel => exact ⟨f', r2, acc ++ ot, rfl, by omega, by omega, by rw [List.length_append]; omega, HE, hown5, hB5⟩
          case measure => simp [strSize, ByteArray.size]; omega
      · have HE : Hid (backGo s.length s [] = backGo f' r (acc ++ [b])) := by
          show _ = _
          rw [HG.out]
          simp only [backGo, ne_eq, hb92, not_false_eq_true, if_true]
        have hbn : ((b.toNat : Int) != 92) = true := by
          rw [bne_iff_ne]
          intro h
          exact hb92 (UInt8.toNat_inj.1 (by have : b.toNat = 92 := by omega
                                            rw [this]; rfl))
        have hsz := hB.size
        have i0 : ∀ h : 0 < (⟨(b :: r).toArray⟩ : ByteArray).size, ((⟨(b :: r).toArray⟩ : ByteArray)[0]'h) = b := fun _ => rfl
        have hal : acc.length ≤ 40000 := by omega
        have hb8 := toNat_lt b
        clear HG hb92
        go_wp2_with (first
          | (at_builtin; refine wpl_append1 rfl (.tmp 15) (.tmp 18) 39 rfl w.heap.size 5 (.int .u8 0) 1 1 Tryd.underlying39 info_u8' rfl (by decide) _ acc.length _ rfl hown #[.int .u8 (b.toNat : Int)] (0, 0) 1 rfl rfl one8 (by unfold maxLen; omega) (by omega) hsz ?_; intro v5 w5 hown5 hg5; have hB5 := below_own hB hown hg5; clear hg5))
        go_roundw
        case rel => exact ⟨f', r, acc ++ [b], rfl, by omega, by omega, by rw [List.length_append, List.length_singleton]; omega, HE, by rw [bs_append, List.length_append]; exact hown5, hB5⟩
        case measure => simp [strSize, ByteArray.size]
end Go.Proofs.YtefipigdkdopcaaDoor
