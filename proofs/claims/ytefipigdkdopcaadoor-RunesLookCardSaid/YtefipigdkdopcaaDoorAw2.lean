/- Plain facts on the texts that layer 4 asks for at any rate. No condition. -/
import Derived.Test.YtefipigdkdopcaaDoorBack3
import Derived.Test.YtefipigdkdopcaaDoorNumber
import Derived.Test.YtefipigdkdopcaaDoorSplit
import Derived.Test.YtefipigdkdopcaaDoorTextB
namespace Go.Proofs.YtefipigdkdopcaaDoor
open Go.RowKit

theorem aw_two : twoN 32 = [50, 48] ∧ twoN 92 = [53, 99] := by
  have h2 : hexN 2 = [50] := by rw [hexN, if_pos (by decide)]; rfl
  have h5 : hexN 5 = [53] := by rw [hexN, if_pos (by decide)]; rfl
  constructor
  · unfold twoN; rw [if_neg (by decide), hexN, if_neg (by decide), show 32 / 16 = 2 from rfl, h2]; rfl
  · unfold twoN; rw [if_neg (by decide), hexN, if_neg (by decide), show 92 / 16 = 5 from rfl, h5]; rfl
theorem aw_low (xs : List UInt8) (i : Nat) (h : i < xs.length) (hb : at8 xs i < 128) : runeAt xs i = at8 xs i ∧ widAt xs i = 1 ∧ ¬ brk (xs.drop i) := by
  rcases rune_at xs i h with ⟨-, h2, h3⟩ | ⟨h1, -⟩
  · refine ⟨h2, h3, fun hk => ?_⟩
    unfold brk at hk
    unfold runeAt at h2
    rw [hk] at h2
    dsimp only at h2
    omega
  · omega
theorem aw_esc : escF [97, 32, 92] 0 = [97, 92, 50, 48, 46, 92, 53, 99, 46] := by
  obtain ⟨r0, w0, b0⟩ := aw_low [97, 32, 92] 0 (by decide) (by decide)
  obtain ⟨r1, w1, b1⟩ := aw_low [97, 32, 92] 1 (by decide) (by decide)
  obtain ⟨r2, w2, b2⟩ := aw_low [97, 32, 92] 2 (by decide) (by decide)
  have a0 : at8 [97, 32, 92] 0 = 97 := rfl
  have a1 : at8 [97, 32, 92] 1 = 32 := rfl
  have a2 : at8 [97, 32, 92] 2 = 92 := rfl
  rw [a0] at r0; rw [a1] at r1; rw [a2] at r2
  have e0 : escOne [97, 32, 92] 0 = [97] := by unfold escOne; rw [if_neg b0, r0, if_pos (by decide)]; rfl
  have e1 : escOne [97, 32, 92] 1 = [92, 50, 48, 46] := by unfold escOne; rw [if_neg b1, r1, if_neg (by decide), aw_two.1]; rfl
  have e2 : escOne [97, 32, 92] 2 = [92, 53, 99, 46] := by unfold escOne; rw [if_neg b2, r2, if_neg (by decide), aw_two.2]; rfl
  rw [escF, dif_pos (by decide), w0, e0, escF, dif_pos (by decide), w1, e1, escF, dif_pos (by decide), w2, e2, escF, dif_neg (by decide)]
  rfl
theorem aw_back : backF [97, 92, 50, 48, 46, 92, 53, 99, 46] = ⟨[97, 32, 92], 0⟩ := by rw [← aw_esc]; exact back_of_esc _
theorem aw_d12 : digs 12 = [49, 50] := by
  rw [digs, if_neg (by decide), show 12 / 10 = 1 from rfl, digs, if_pos (by decide)]; rfl
theorem aw_d305 : digI 305 = [51, 48, 53] := by
  rw [show (305 : Int) = ((305 : Nat) : Int) from rfl, digI_nat, digs, if_neg (by decide), show 305 / 10 = 30 from rfl, digs, if_neg (by decide), show 30 / 10 = 3 from rfl, digs, if_pos (by decide)]; rfl
theorem aw_num : numF [45, 49, 50] = -12 ∧ numOk [45, 49, 50] = true := by
  have h := numF_digI (n := -12) (by decide) (by decide)
  have e : digI (-12) = [45, 49, 50] := by unfold digI; rw [if_pos (by decide)]; show 45 :: digs 12 = _; rw [aw_d12]
  rwa [e] at h
theorem aw_count : countF [97, 195, 169] 0 = 2 := by
  obtain ⟨r0, w0, b0⟩ := aw_low [97, 195, 169] 0 (by decide) (by decide)
  have w1 : widAt [97, 195, 169] 1 = 2 := by unfold widAt; rw [decL_eq]; decide
  rw [countF, dif_pos (by decide), w0, countF, dif_pos (by decide), w1, countF, dif_neg (by decide)]
theorem aw_plain : (plainF [120] 0 && !([120] : List UInt8).isEmpty) = true := by
  obtain ⟨r0, w0, b0⟩ := aw_low [120] 0 (by decide) (by decide)
  rw [plainF, dif_pos (by decide), w0, r0, plainF, dif_neg (by decide)]
  decide
theorem aw_right : rightF [195, 169] 0 = true := by
  have w1 : widAt [195, 169] 0 = 2 := by unfold widAt; rw [decL_eq]; decide
  have b1 : ¬ brk ([195, 169].drop 0) := by unfold brk; rw [decL_eq]; decide
  rw [rightF, dif_pos (by decide), w1, rightF, dif_neg (by decide), decide_eq_true b1]
  rfl
theorem aw_words : split2 32 9 true [32, 97, 32, 32, 98] = [[97], [98]] := by decide
end Go.Proofs.YtefipigdkdopcaaDoor
