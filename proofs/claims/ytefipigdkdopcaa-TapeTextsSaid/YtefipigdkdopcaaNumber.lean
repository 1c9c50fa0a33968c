/- Contract of runes.Number: a number's text read. No condition but the length's bound. -/
import Derived.Test.YtefipigdkdopcaaRunes1
import Derived.Test.YtefipigdkdopcaaWords2
import Derived.Test.YtefipigdkdopcaaShelf
namespace Go.Proofs.Ytefipigdkdopcaa
open Go.RowKit

theorem rdigits_any (n : Int) (w : World) (h0 : -9223372036854775808 ≤ n) (h1 : n ≤ 9223372036854775807) :
    Calls Try.prog 53 #[.int .i64 n] w fun e w' => e = .returned (.string ⟨(digI n).toArray⟩) ∧ w = w' := by
  unfold digI
  by_cases h : n < 0
  · rw [if_pos h]
    have := rdigits_neg n.natAbs w (by omega) (by omega)
    rwa [show -(n.natAbs : Int) = n by omega] at this
  · rw [if_neg h]
    have := rdigits_nat n.natAbs w (by omega)
    rwa [show (n.natAbs : Int) = n by omega] at this

theorem neg_prefix (xs : List UInt8) : Lib.hasPrefix xs [45] = decide (xs.head? = some 45) ∧ Lib.trimPrefix xs [45] = unsigned xs := by
  cases xs with
  | nil => exact ⟨rfl, rfl⟩
  | cons c r =>
    unfold Lib.trimPrefix Lib.hasPrefix unsigned
    by_cases h : c = 45
    · subst h; simp
    · have h2 : ¬ (45 : UInt8) = c := fun e => h e.symm
      have e : ([45] : List UInt8).isPrefixOf (c :: r) = false := by simp [List.isPrefixOf, h2]
      rw [e]; simp [h]

theorem unsigned_len (xs : List UInt8) : (unsigned xs).length ≤ xs.length := by
  unfold unsigned
  split
  · rw [List.length_tail]; omega
  · omega

set_option maxRecDepth 100000 in
set_option maxHeartbeats 1000000 in
theorem number_any (xs : List UInt8) (w : World) (hN : xs.length ≤ 100000) :
    Calls Try.prog 58 #[.string ⟨xs.toArray⟩] w fun e w' => e = .returned (.tuple #[.int .i64 (numF xs), .bool (numOk xs)]) ∧ Below w.heap.size w w' := by
  have KC := Lib.hid ((Try.strings_CutPrefix ⟨xs.toArray⟩ ⟨#[45]⟩ w).mono (fun e w' h => (show e = .returned (.tuple #[.string ⟨(unsigned xs).toArray⟩, .bool (decide (xs.head? = some 45))]) ∧ w = w' from ⟨by rw [h.1, ← (neg_prefix xs).1, ← (neg_prefix xs).2], h.2.symm⟩)))
  have HV : Hid (numV xs = if xs.head? = some 45 then -(valD (unsigned xs) : Int) else (valD (unsigned xs) : Int)) := rfl
  have HO : Hid (numOk xs = true → (∀ c ∈ unsigned xs, isD c) ∧ valD (unsigned xs) ≤ farN) := fun h => ⟨numOk_digits h, numOk_small h⟩
  have hl : (unsigned xs).length ≤ 100000 := Nat.le_trans (unsigned_len xs) hN
  generalize unsigned xs = t at *
  obtain ⟨ng, Hng⟩ : ∃ ng : Bool, Hid (ng = decide (xs.head? = some 45)) := ⟨_, rfl⟩
  rw [← Hng.out] at KC
  have hit0 : (w.iter ⟨t.toArray⟩ 0).heap[w.heap.size]? = some (.stringIter ⟨t.toArray⟩ 0) := World.iter_heap w _ 0
  have hB0 : Below w.heap.size w (w.iter ⟨t.toArray⟩ 0) := (Below.refl _ _).alloc (Nat.le_refl _) _
  have hz0 : w.heap.size + 1 ≤ (w.iter ⟨t.toArray⟩ 0).heap.size := by unfold World.iter; rw [alloc_size]; omega
  go_enter Try.func58, Try.ntmps58
  go_wp2_with ((refine KC.out.mono ?_); rintro e w' ⟨rfl, rfl⟩)
  generalize w.iter ⟨t.toArray⟩ 0 = w0 at *
  clear KC
  go_loopw [6] (fun n wr => ∃ (pos : Nat), n = .int .i64 (valD (t.take pos) : Nat) ∧ pos ≤ t.length ∧ (∀ c ∈ t.take pos, isD c) ∧ valD (t.take pos) ≤ 10995116277769 ∧ wr.heap[w.heap.size]? = some (.stringIter ⟨t.toArray⟩ pos) ∧ w.heap.size + 1 ≤ wr.heap.size ∧ Below w.heap.size w wr) (fun _ wr => t.length - wr.iterPos w.heap.size)
  case atStart => exact ⟨0, by simp [valD], by omega, by simp, by simp [valD], hit0, hz0, hB0⟩
  case round =>
    obtain ⟨pos, rfl, hpl, hall, hbd, hit, hz, hB⟩ := hrel
    clear hit0 hB0 hz0
    have HA := Lib.hid hall
    clear hall
    by_cases hp : pos < t.length
    · have hnx := fun ty => Lib.run_next_any_at (P := Try.prog) wr w.heap.size ⟨t.toArray⟩ pos ty hit (by rw [size_list]; exact hp)
      rw [show Utf8.decode ⟨t.toArray⟩ pos = (runeAt t pos, widAt t pos) from decode_drop t pos hpl] at hnx
      dsimp only at hnx
      have HM : Hid (wr.iterPos w.heap.size = pos) := by show _ = _; simp only [World.iterPos, hit]
      have hg := gb_iterAt wr w.heap.size ⟨t.toArray⟩ (pos + widAt t pos)
      have hit2 := Lib.iterAt_heap wr w.heap.size _ pos (pos + widAt t pos) hit
      have hz2 := Nat.le_trans hz (World.grownBy.size hg)
      have hB2 := hB.grown hg hB.size (fun k hk => by cases hk; omega)
      have HR := Lib.hid (rune_at t pos hp)
      clear hg hit hz hB
      generalize wr.iterAt w.heap.size ⟨t.toArray⟩ (pos + widAt t pos) = wi at *
      have hv := valD_mono t pos hpl
      have Hts : Hid (t.take (pos + 1) = t.take pos ++ [t.getD pos 0]) := by
        show _ = _
        rw [List.take_succ_eq_append_getElem hp, List.getD_eq_getElem?_getD, List.getElem?_eq_getElem hp]; rfl
      by_cases hd : 48 ≤ runeAt t pos ∧ runeAt t pos ≤ 57
      · obtain ⟨d1, d2⟩ := hd
        have hrd : runeAt t pos = at8 t pos ∧ widAt t pos = 1 := by
          rcases HR.out with ⟨r1, r2, r3⟩ | ⟨r1, r2, _⟩
          · exact ⟨r2, r3⟩
          · omega
        obtain ⟨hr1, hr2⟩ := hrd
        rw [hr2] at hit2
        have HW : Hid (valD (t.take (pos + 1)) = 10 * valD (t.take pos) + (runeAt t pos - 48)) := by
          show _ = _
          rw [Hts.out, valD_snoc, hr1]
        have HA2 : Hid (∀ c ∈ t.take (pos + 1), isD c) := by
          show ∀ c ∈ _, _
          rw [Hts.out]
          intro c hc
          rcases List.mem_append.1 hc with hc | hc
          · exact HA.out c hc
          · simp only [List.mem_singleton] at hc
            subst hc
            unfold isD
            unfold at8 at hr1
            omega
        clear HR Hts hr1 hr2
        generalize runeAt t pos = r at *
        have d1' : (48 : Int) ≤ (r : Int) := by omega
        have d2' : (r : Int) ≤ 57 := by omega
        by_cases hf : valD (t.take pos) ≤ 1099511627776
        · clear HO HV
          generalize valD (t.take pos) = n at *
          have hwp : IntKind.i32.wrap ((r : Int) - 48) = (r : Int) - 48 := by simp [IntKind.wrap, IntKind.signed, IntKind.bits]; omega
          have hf' : (n : Int) ≤ 1099511627776 := by omega
          go_wp2_with fail
          go_roundw
          case rel => exact ⟨pos + 1, by rw [HW.out]; go_num, by omega, HA2.out, by rw [HW.out]; omega, hit2, hz2, hB2⟩
          case measure => rw [HM.out]; simp only [World.iterPos, hit2]; omega
        · have hok : numOk xs = false := by
            cases ho : numOk xs with
            | false => rfl
            | true =>
              have := (HO.out ho).2
              unfold farN at this
              omega
          have HF := Lib.hid (numF_false hok)
          clear HO HV hv
          generalize valD (t.take pos) = n at *
          have hf' : (1099511627776 : Int) < (n : Int) := by omega
          have HK := Lib.hid hok
          clear hok
          go_wp2_with fail
          go_ret2
          exact ⟨by rw [HF.out, HK.out]; rfl, hB2⟩
      · have hok : numOk xs = false := by
          cases ho : numOk xs with
          | false => rfl
          | true =>
            have hm : t.getD pos 0 ∈ t := by
              rw [List.getD_eq_getElem?_getD, List.getElem?_eq_getElem hp]; exact List.getElem_mem _
            have := (HO.out ho).1 _ hm
            unfold isD at this
            rcases HR.out with ⟨r1, r2, r3⟩ | ⟨r1, r2, _⟩
            · unfold at8 at *; omega
            · unfold at8 at *; omega
        have HF := Lib.hid (numF_false hok)
        have HK := Lib.hid hok
        clear hok HO HV hv HR Hts
        generalize runeAt t pos = r at *
        generalize valD (t.take pos) = n at *
        by_cases h1 : r < 48
        · have h1' : (r : Int) < 48 := by omega
          go_wp2_with fail
          go_ret2
          exact ⟨by rw [HF.out, HK.out]; rfl, hB2⟩
        · have h1' : ¬ (r : Int) < 48 := by omega
          have h2' : (57 : Int) < (r : Int) := by omega
          go_wp2_with fail
          go_ret2
          exact ⟨by rw [HF.out, HK.out]; rfl, hB2⟩
    · obtain rfl : pos = t.length := by omega
      have hnx := fun ty => Lib.run_next_end_at (P := Try.prog) wr w.heap.size ⟨t.toArray⟩ t.length ty hit (by rw [size_list]; exact hp)
      rw [List.take_of_length_le (Nat.le_refl _)] at hbd
      rw [List.take_of_length_le (Nat.le_refl _)]
      clear HA
      generalize valD t = n at *
      obtain ⟨z, Hz⟩ : ∃ z : Int, Hid (z = if ng = true then -(n : Int) else n) := ⟨_, rfl⟩
      have HZ : Hid (numV xs = z) := by
        show _ = _
        rw [HV.out, Hz.out, Hng.out]
        simp
      have hz1 : -10995116277769 ≤ z ∧ z ≤ 10995116277769 := by
        rw [Hz.out]; split <;> omega
      obtain ⟨hz1, hz2⟩ := hz1
      by_cases hrg : -1099511627776 ≤ z ∧ z ≤ 1099511627776
      · obtain ⟨hg1, hg2⟩ := hrg
        have KD := fun W => Lib.hid (rdigits_any z W (by omega) (by omega))
        by_cases hxx : digI z = xs
        · have hok : numOk xs = true := by
            unfold numOk
            rw [HZ.out, decide_eq_true_iff]
            exact ⟨by unfold farN; omega, by unfold farN; omega, hxx⟩
          have HF := Lib.hid ((numF_true hok).trans HZ.out)
          have HK := Lib.hid hok
          rw [hxx] at KD
          clear hok hxx HO HV HZ Hng
          cases ng with
          | true =>
            obtain rfl : z = -(n : Int) := by rw [Hz.out]; simp
            clear Hz
            go_wp2_with ((refine (KD _).out.mono ?_); rintro e w' ⟨rfl, rfl⟩)
            go_ret2
            exact ⟨by rw [HF.out, HK.out]; rfl, hB⟩
          | false =>
            obtain rfl : z = (n : Int) := by rw [Hz.out]; simp
            clear Hz
            go_wp2_with ((refine (KD _).out.mono ?_); rintro e w' ⟨rfl, rfl⟩)
            go_ret2
            exact ⟨by rw [HF.out, HK.out]; rfl, hB⟩
        · have hok : numOk xs = false := by
            unfold numOk
            rw [HZ.out, decide_eq_false_iff_not]
            exact fun h => hxx h.2.2
          have HF := Lib.hid (numF_false hok)
          have HK := Lib.hid hok
          clear hok HO HV HZ Hng
          generalize digI z = dz at *
          have hxx2 : (dz == xs) = false := by simpa using hxx
          clear hxx
          cases ng with
          | true =>
            obtain rfl : z = -(n : Int) := by rw [Hz.out]; simp
            clear Hz
            go_wp2_with ((refine (KD _).out.mono ?_); rintro e w' ⟨rfl, rfl⟩)
            go_ret2
            exact ⟨by rw [HF.out, HK.out]; rfl, hB⟩
          | false =>
            obtain rfl : z = (n : Int) := by rw [Hz.out]; simp
            clear Hz
            go_wp2_with ((refine (KD _).out.mono ?_); rintro e w' ⟨rfl, rfl⟩)
            go_ret2
            exact ⟨by rw [HF.out, HK.out]; rfl, hB⟩
      · have hok : numOk xs = false := by
          unfold numOk
          rw [HZ.out, decide_eq_false_iff_not]
          unfold farN
          exact fun h => hrg ⟨by have := h.1; omega, by have := h.2.1; omega⟩
        have HF := Lib.hid (numF_false hok)
        have HK := Lib.hid hok
        clear hok HO HV HZ Hng
        cases ng with
        | true =>
          obtain rfl : z = -(n : Int) := by rw [Hz.out]; simp
          clear Hz
          have h1 : -(n : Int) < -1099511627776 := by omega
          go_wp2_with fail
          go_ret2
          exact ⟨by rw [HF.out, HK.out]; rfl, hB⟩
        | false =>
          obtain rfl : z = (n : Int) := by rw [Hz.out]; simp
          clear Hz
          have h1 : ¬ ((n : Int) < -1099511627776) := by omega
          have h2 : (1099511627776 : Int) < (n : Int) := by omega
          go_wp2_with fail
          go_ret2
          exact ⟨by rw [HF.out, HK.out]; rfl, hB⟩
end Go.Proofs.Ytefipigdkdopcaa
