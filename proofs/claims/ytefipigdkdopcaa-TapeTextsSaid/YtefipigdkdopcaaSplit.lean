/- Contract of the reference's Split. No condition but the length's bound. -/
import Derived.Test.YtefipigdkdopcaaWords2
namespace Go.Proofs.Ytefipigdkdopcaa
open Go.RowKit

theorem index_list (xs : List UInt8) (k : Nat) (h : k < (⟨xs.toArray⟩ : ByteArray).size) : ((⟨xs.toArray⟩ : ByteArray)[k]'h) = xs.getD k 0 := by
  have h' : k < xs.length := by rwa [size_list] at h
  rw [List.getD_eq_getElem?_getD, List.getElem?_eq_getElem h']
  rfl
theorem take_one (xs : List UInt8) (k : Nat) (h : k < xs.length) : (xs.drop k).take 1 = [xs.getD k 0] := by
  rw [List.getD_eq_getElem?_getD, List.getElem?_eq_getElem h, Option.getD_some, List.drop_eq_getElem_cons h]
  rfl
theorem extract_one (xs : List UInt8) (k : Nat) (h : k < xs.length) : (⟨xs.toArray⟩ : ByteArray).extract k (k + 1) = ⟨([xs.getD k 0] : List UInt8).toArray⟩ := by
  rw [extract_list, show k + 1 - k = 1 by omega, take_one xs k h]

set_option maxRecDepth 100000 in
set_option maxHeartbeats 2000000 in
theorem split_any (xs : List UInt8) (a b : UInt8) (few : Bool) (A B : Int) (hA : A = (a.toNat : Int)) (hB' : B = (b.toNat : Int)) (w : World) (hN : xs.length ≤ 100000) :
    Calls Try.prog 61 #[.string ⟨xs.toArray⟩, .int .u8 A, .int .u8 B, .bool few] w fun e w' => ∃ v, e = .returned v ∧ w'.ownsRow w.heap.size 9 1 v (split2 a b few xs).length (strs (split2 a b few xs)) ∧ Below w.heap.size w w' := by
  subst hA hB'
  have hB0 := Below.refl w.heap.size w
  have HE : Hid (split2 a b few xs = spEnd (spAt a b few xs xs.length)) := rfl
  go_enter Try.func61, Try.ntmps61
  go_wp2_with fail
  go_loopw [9, 10, 11] (fun v p i wr => ∃ k : Nat, k ≤ xs.length ∧ i = .int .i64 k ∧ p = .string ⟨(spAt a b few xs k).part.toArray⟩ ∧ (spAt a b few xs k).out.length ≤ k ∧ (spAt a b few xs k).part.length ≤ k ∧ wr.ownsRow w.heap.size 9 1 v (spAt a b few xs k).out.length (strs (spAt a b few xs k).out) ∧ Below w.heap.size w wr) (fun _ _ i _ => xs.length - (intOf i).toNat)
  case atStart => exact ⟨0, by omega, rfl, by rw [spAt_zero], by rw [spAt_zero]; simp, by rw [spAt_zero]; simp, by rw [spAt_zero]; exact World.ownsRow_nil _ _ _ _, hB0⟩
  case round =>
    obtain ⟨k, hk, rfl, rfl, hol, hpl, hown, hB⟩ := hrel
    clear hB0
    by_cases hlt : k < xs.length
    · have HS := Lib.hid (spAt_succ a b few xs k hlt)
      have hidx : ∀ h : k < (⟨xs.toArray⟩ : ByteArray).size, ((⟨xs.toArray⟩ : ByteArray)[k]'h) = xs.getD k 0 := index_list xs k
      have hx := extract_one xs k hlt
      have hki : (k : Int) < (xs.length : Int) := by omega
      clear HE
      generalize hst : spAt a b few xs k = st at *
      obtain ⟨out, part⟩ := st
      dsimp only at hol hpl hown
      clear hst
      generalize xs.getD k 0 = c at *
      have HC : Hid ((c ≠ a ∧ c ≠ b) → spAt a b few xs (k + 1) = ⟨out, part ++ [c]⟩) := fun h => by rw [HS.out]; unfold spStep; rw [if_pos h]
      have HD : Hid (¬ (c ≠ a ∧ c ≠ b) → spAt a b few xs (k + 1) = ⟨if part ≠ [] ∨ few = false then out ++ [part] else out, []⟩) := fun h => by rw [HS.out]; unfold spStep; rw [if_neg h]
      clear HS
      dsimp only
      have tb : ∀ (d : UInt8) (D : Int), D = (d.toNat : Int) → (c = d → ((c.toNat : Int) == D) = true ∧ ((c.toNat : Int) != D) = false) ∧ (c ≠ d → ((c.toNat : Int) == D) = false ∧ ((c.toNat : Int) != D) = true) := by
        intro d D e
        rw [e]
        constructor
        · rintro rfl; simp
        · intro hne
          have : (c.toNat : Int) ≠ (d.toNat : Int) := fun e => hne (UInt8.toNat_inj.1 (by omega))
          exact ⟨by rw [beq_eq_false_iff_ne]; exact this, by rw [bne_iff_ne]; exact this⟩
      have ta := tb a _ rfl
      have tb2 := tb b _ rfl
      clear tb
      by_cases hcc : c ≠ a ∧ c ≠ b
      · have HN := Lib.hid (HC.out hcc)
        obtain ⟨a1, a2⟩ := ta.2 hcc.1
        obtain ⟨b1, b2⟩ := tb2.2 hcc.2
        clear ta tb2 hcc HC HD
        have hl1 : ¬ (9223372036854775807 < part.length + [c].length) := by simp; omega
        go_wp2_with fail
        rw [cat_bytes]
        go_roundw
        case rel => exact ⟨k + 1, by omega, by go_num, by rw [HN.out], by rw [HN.out]; dsimp only; omega, by rw [HN.out]; simp; omega, by rw [HN.out]; exact hown, hB⟩
        case measure => simp [intOf]; omega
      · have HN := Lib.hid (HD.out hcc)
        have hways : (((c.toNat : Int) == (a.toNat : Int)) = true ∧ ((c.toNat : Int) != (a.toNat : Int)) = false) ∨ ((((c.toNat : Int) == (a.toNat : Int)) = false ∧ ((c.toNat : Int) != (a.toNat : Int)) = true) ∧ (((c.toNat : Int) == (b.toNat : Int)) = true ∧ ((c.toNat : Int) != (b.toNat : Int)) = false)) := by
          by_cases e1 : c = a
          · exact .inl (ta.1 e1)
          · by_cases e2 : c = b
            · exact .inr ⟨ta.2 e1, tb2.1 e2⟩
            · exact absurd ⟨e1, e2⟩ hcc
        clear ta tb2 hcc HC HD
        rcases hways with ⟨a1, a2⟩ | ⟨⟨a1, a2⟩, b1, b2⟩
        all_goals
          cases part with
          | nil =>
            cases few with
            | true =>
              rw [if_neg (by simp)] at HN
              go_wp2_with fail
              go_roundw
              case rel => exact ⟨k + 1, by omega, by go_num, by rw [HN.out], by rw [HN.out]; dsimp only; omega, by rw [HN.out]; simp, by rw [HN.out]; exact hown, hB⟩
              case measure => simp [intOf]; omega
            | false =>
              rw [if_pos (by simp)] at HN
              go_wp2_with (first
                | (at_builtin; refine wpl_append1 rfl (.tmp 43) (.tmp 45) 91 rfl w.heap.size 9 (.string ⟨#[]⟩) 1 16 Try.underlying91 info_str rfl (by decide) _ out.length _ rfl hown #[.string ⟨([] : List UInt8).toArray⟩] (0, 0) 1 rfl rfl (by simp [Value.oneCell']) (by unfold maxLen; omega) (by omega) hB.size ?_; intro v3 w3 hown3 hg3; have hB3 := below_own hB hown hg3; clear hg3))
              go_roundw
              case rel => exact ⟨k + 1, by omega, by go_num, by rw [HN.out], by rw [HN.out]; simp; omega, by rw [HN.out]; simp, by rw [HN.out]; dsimp only; rw [strs_append]; simpa [strs] using hown3, hB3⟩
              case measure => simp [intOf]; omega
          | cons p0 pr =>
            rw [if_pos (by simp)] at HN
            go_wp2_with (first
              | (at_builtin; refine wpl_append1 rfl (.tmp 43) (.tmp 45) 91 rfl w.heap.size 9 (.string ⟨#[]⟩) 1 16 Try.underlying91 info_str rfl (by decide) _ out.length _ rfl hown #[.string ⟨(p0 :: pr).toArray⟩] (0, 0) 1 rfl rfl (by simp [Value.oneCell']) (by unfold maxLen; omega) (by omega) hB.size ?_; intro v3 w3 hown3 hg3; have hB3 := below_own hB hown hg3; clear hg3))
            go_roundw
            case rel => exact ⟨k + 1, by omega, by go_num, by rw [HN.out], by rw [HN.out]; simp; omega, by rw [HN.out]; simp, by rw [HN.out]; dsimp only; rw [strs_append]; simpa [strs] using hown3, hB3⟩
            case measure => simp [intOf]; omega
    · obtain rfl : k = xs.length := by omega
      generalize hst : spAt a b few xs xs.length = st at *
      obtain ⟨out, part⟩ := st
      dsimp only at hol hpl hown HE ⊢
      clear hst
      unfold spEnd at HE
      dsimp only at HE
      cases part with
      | nil =>
        rw [if_neg (by simp)] at HE
        go_wp2_with fail
        go_ret
        exact ⟨_, rfl, by rw [HE.out]; exact hown, hB⟩
      | cons p0 pr =>
        rw [if_pos (by simp)] at HE
        go_wp2_with (first
          | (at_builtin; refine wpl_append1 rfl (.tmp 49) (.tmp 51) 91 rfl w.heap.size 9 (.string ⟨#[]⟩) 1 16 Try.underlying91 info_str rfl (by decide) _ out.length _ rfl hown #[.string ⟨(p0 :: pr).toArray⟩] (0, 0) 1 rfl rfl (by simp [Value.oneCell']) (by unfold maxLen; omega) (by omega) hB.size ?_; intro v3 w3 hown3 hg3; have hB3 := below_own hB hown hg3; clear hg3))
        go_ret
        exact ⟨_, rfl, by rw [HE.out, strs_append]; simpa [strs] using hown3, hB3⟩
end Go.Proofs.Ytefipigdkdopcaa
