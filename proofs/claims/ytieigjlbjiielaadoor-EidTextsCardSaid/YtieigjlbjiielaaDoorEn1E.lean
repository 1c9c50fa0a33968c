/- eid.number reads digits exactly. Asked: digits alone, whose number fits. -/
import Derived.Test.YtieigjlbjiielaaDoorEid1E
namespace Go.Proofs.YtieigjlbjiielaaDoor
open Go.RowKit

theorem valD_take (xs : List UInt8) (j : Nat) (h : j < xs.length) : valD (xs.take (j + 1)) = 10 * valD (xs.take j) + ((xs.getD j 0).toNat - 48) := by
  rw [show xs.take (j + 1) = xs.take j ++ [xs.getD j 0] by rw [List.take_add_one, List.getElem?_eq_getElem h, List.getD_eq_getElem?_getD, List.getElem?_eq_getElem h]; rfl, valD_snoc]
set_option maxRecDepth 100000 in
set_option maxHeartbeats 1000000 in
theorem enumber_digs (xs : List UInt8) (w : World) (hN : xs.length ≤ 1000) (hd : ∀ c ∈ xs, isD c) (hv : valD xs < 18446744073709551616) : Calls Tryd.prog 35 #[.string ⟨xs.toArray⟩] w fun e w' => e = .returned (.int .u64 (valD xs : Nat)) ∧ Below w.heap.size w w' := by
  obtain ⟨hI0, hB0⟩ := ItSt.start w xs
  have HV := Lib.hid hv
  have HD := Lib.hid hd
  clear hv hd
  go_enter Tryd.func35, Tryd.ntmps35
  go_wp2_with fail
  generalize w.iter ⟨xs.toArray⟩ 0 = w0 at *
  go_loopw [3, 5] (fun n _ wr => ∃ pos m : Nat, n = .int .u64 m ∧ pos ≤ xs.length ∧ Hid (m = valD (xs.take pos)) ∧ ItSt w.heap.size xs pos wr ∧ Below w.heap.size w wr) (fun _ _ wr => xs.length - wr.iterPos w.heap.size)
  case atStart => exact ⟨0, 0, rfl, by omega, by show _ = _; simp [valD], hI0, hB0⟩
  case round =>
    obtain ⟨pos, m, rfl, hpl, HG, hI, hB⟩ := hrel
    clear hI0 hB0
    by_cases hp : pos < xs.length
    · have hnx := hI.run hp
      have HM := Lib.hid hI.pos
      have hI2 := hI.next (pos + widAt xs pos)
      have hB2 := below_iter hB (Nat.le_refl _) xs (pos + widAt xs pos)
      obtain ⟨q1, q2⟩ : isD (xs.getD pos 0) := HD.out _ (by rw [List.getD_eq_getElem?_getD, List.getElem?_eq_getElem hp]; exact List.getElem_mem _)
      have ha : at8 xs pos = (xs.getD pos 0).toNat := rfl
      obtain ⟨hr, hw⟩ : runeAt xs pos = (xs.getD pos 0).toNat ∧ widAt xs pos = 1 := by
        rcases rune_at xs pos hp with ⟨r1, r2, r3⟩ | ⟨r1, r2, _⟩ <;> omega
      have HT := valD_take xs pos hp
      have HL := valD_mono xs (pos + 1) (by omega)
      have HV2 := HV.out
      rw [← HG.out] at HT
      clear ha
      rw [hr] at hnx
      rw [hw] at hnx hI2 hB2
      generalize (xs.getD pos 0).toNat = r at *
      have hmx : 10 * m + (r - 48) < 18446744073709551616 := by omega
      have HE := Lib.hid HT
      clear HT HL HV2 hr hw hI hB
      generalize wr.iterAt w.heap.size ⟨xs.toArray⟩ (pos + 1) = wi at *
      have d1 : ¬ (r : Int) < 48 := by omega
      have d2 : ¬ (57 : Int) < (r : Int) := by omega
      have hwp : IntKind.i32.wrap ((r : Int) - 48) = (r : Int) - 48 := by rw [IntKind.wrap_i32]; omega
      have hwp2 : IntKind.u64.wrap ((r : Int) - 48) = (r : Int) - 48 := by rw [IntKind.wrap_u64]; omega
      go_wp2_with fail
      go_roundw
      case rel =>
        refine ⟨pos + 1, 10 * m + (r - 48), ?_, by omega, by show _ = _; rw [HE.out], hI2, hB2⟩
        congr 1
        omega
      case measure => rw [hI2.pos, HM.out]; omega
    · have hnx := hI.stop hp
      have hpe : pos = xs.length := by omega
      have HF : Hid (m = valD xs) := by
        have := HG.out
        rw [hpe, List.take_length] at this
        exact this
      clear HG
      go_wp2_with fail
      go_ret
      exact ⟨by rw [← HF.out] <;> rfl, hB⟩
theorem enumber_of (n : Nat) (w : World) (hn : n < 18446744073709551616) : Calls Tryd.prog 35 #[.string ⟨(digs n).toArray⟩] w fun e w' => e = .returned (.int .u64 (n : Nat)) ∧ Below w.heap.size w w' := by
  have hl := digs_len hn
  have h1 := valD_digs n
  have := enumber_digs (digs n) w (by omega) (digs_all n) (by omega)
  rwa [h1] at this
end Go.Proofs.YtieigjlbjiielaaDoor
