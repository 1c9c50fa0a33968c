/- Contracts of runes.value and runes.one. No condition but the length's bound. -/
import Derived.Test.YtefipigdkdopcaaDoorEsc2
namespace Go.Proofs.YtefipigdkdopcaaDoor
open Go.RowKit

/-- Which digit from 0 to f a byte is; -1: none. -/
def hexI (b : UInt8) : Int := Lib.indexByte [48, 49, 50, 51, 52, 53, 54, 55, 56, 57, 97, 98, 99, 100, 101, 102] b
theorem indexByte_le (l : List UInt8) (b : UInt8) : -1 ≤ Lib.indexByte l b ∧ Lib.indexByte l b < l.length := by
  induction l with
  | nil => simp [Lib.indexByte]
  | cons c r ih =>
    unfold Lib.indexByte
    split
    · simp
    · split
      · simp only [List.length_cons]; omega
      · rename_i h; simp at h ⊢; omega
theorem hexI_le (b : UInt8) : -1 ≤ hexI b ∧ hexI b ≤ 15 := by
  have := indexByte_le [48, 49, 50, 51, 52, 53, 54, 55, 56, 57, 97, 98, 99, 100, 101, 102] b
  unfold hexI
  simp only [List.length_cons, List.length_nil] at this
  omega
/-- The number of a row of such digits; -1: there is none. -/
def valGo : List UInt8 → Nat → Int
  | [], n => n
  | b :: r, n => if 126 < b.toNat ∨ hexI b < 0 ∨ 1114111 < n then -1 else valGo r (16 * n + (hexI b).toNat)
theorem valGo_drop (t : List UInt8) (k n : Nat) (h : k < t.length) : valGo (t.drop k) n = if 126 < at8 t k ∨ hexI (t.getD k 0) < 0 ∨ 1114111 < n then -1 else valGo (t.drop (k + 1)) (16 * n + (hexI (t.getD k 0)).toNat) := by
  rw [List.drop_eq_getElem_cons h]
  unfold at8
  rw [List.getD_eq_getElem?_getD, List.getElem?_eq_getElem h]
  rfl
theorem valGo_le (t : List UInt8) : ∀ n, n ≤ 17825791 → -1 ≤ valGo t n ∧ valGo t n ≤ 17825791 := by
  induction t with
  | nil => intro n h; unfold valGo; omega
  | cons b r ih =>
    intro n h
    unfold valGo
    split
    · omega
    · have := hexI_le b
      exact ih _ (by omega)

set_option maxRecDepth 100000 in
set_option maxHeartbeats 1000000 in
theorem rvalue_any (t : List UInt8) (w : World) (hN : t.length ≤ 100000) : Calls Tryd.prog 36 #[.string ⟨t.toArray⟩] w fun e w' => e = .returned (.int .i32 (valGo t 0)) ∧ Below w.heap.size w w' := by
  obtain ⟨hI0, hB0⟩ := ItSt.start w t
  have KI := fun (c : Int) W => Lib.hid ((Tryd.strings_IndexByte ⟨#[48, 49, 50, 51, 52, 53, 54, 55, 56, 57, 97, 98, 99, 100, 101, 102]⟩ c W).mono (fun e w' h => (show e = .returned (.int .i64 (hexI c.toNat.toUInt8)) ∧ W = w' from ⟨h.1, h.2.symm⟩)))
  go_enter Tryd.func36, Tryd.ntmps36
  go_wp2_with fail
  generalize w.iter ⟨t.toArray⟩ 0 = w0 at *
  go_loopw [3] (fun v wr => ∃ k n : Nat, v = .int .i32 n ∧ k ≤ t.length ∧ n ≤ 17825791 ∧ Hid (valGo t 0 = valGo (t.drop k) n) ∧ ItSt w.heap.size t k wr ∧ Below w.heap.size w wr) (fun _ wr => t.length - wr.iterPos w.heap.size)
  case atStart => exact ⟨0, 0, rfl, by omega, by omega, rfl, hI0, hB0⟩
  case round =>
    obtain ⟨k, n, rfl, hk, hn, HG, hI, hB⟩ := hrel
    clear hI0 hB0
    by_cases hkl : k < t.length
    · have hnx := hI.run hkl
      have HM := Lib.hid hI.pos
      have hI2 := hI.next (k + widAt t k)
      have hB2 := below_iter hB (Nat.le_refl _) t (k + widAt t k)
      have HD := Lib.hid (valGo_drop t k n hkl)
      have HR := Lib.hid (rune_at t k hkl)
      have hrl := rune_le t k hkl
      clear hI hB
      generalize wr.iterAt w.heap.size ⟨t.toArray⟩ (k + widAt t k) = wi at *
      have hwr : IntKind.u8.wrap (runeAt t k : Int) = (runeAt t k : Int) % 256 := by simp [IntKind.wrap, IntKind.signed, IntKind.bits]
      by_cases hbad : 126 < runeAt t k
      · have HE : Hid (valGo t 0 = -1) := by
          show _ = _
          rw [HG.out, HD.out, if_pos]
          refine .inl ?_
          rcases HR.out with ⟨h1, h2, _⟩ | ⟨h1, _⟩ <;> omega
        clear HG HD HR
        generalize runeAt t k = r at *
        have h1 : (126 : Int) < (r : Int) := by omega
        go_wp2_with (refine (KI _ _).out.mono ?_; rintro e w' ⟨rfl, rfl⟩)
        go_ret
        exact ⟨by rw [HE.out]; rfl, hB2⟩
      · have hrw : runeAt t k = at8 t k ∧ widAt t k = 1 := by
          rcases HR.out with ⟨h1, h2, h3⟩ | ⟨h1, h2, _⟩
          · exact ⟨h2, h3⟩
          · omega
        obtain ⟨hr1, hw1⟩ := hrw
        rw [hw1] at hI2
        have hb8 : ((runeAt t k : Int) % 256).toNat.toUInt8 = t.getD k 0 := by
          rw [hr1]
          have := at8_lt t k
          rw [show ((at8 t k : Int) % 256).toNat = at8 t k by omega]
          unfold at8
          simp
        have KJ := fun W => KI ((runeAt t k : Int) % 256) W
        rw [hb8] at KJ
        have hj := hexI_le (t.getD k 0)
        rw [← hr1] at HD
        clear HR hr1 hw1 hb8 KI
        generalize hexI (t.getD k 0) = j at *
        generalize runeAt t k = r at *
        have h1 : ¬ (126 : Int) < (r : Int) := by omega
        by_cases hj0 : j < 0
        · have HE : Hid (valGo t 0 = -1) := by
            show _ = _
            rw [HG.out, HD.out, if_pos (.inr (.inl hj0))]
          clear HG HD
          go_wp2_with (refine (KJ _).out.mono ?_; rintro e w' ⟨rfl, rfl⟩)
          go_ret
          exact ⟨by rw [HE.out]; rfl, hB2⟩
        · by_cases hn2 : 1114111 < n
          · have HE : Hid (valGo t 0 = -1) := by
              show _ = _
              rw [HG.out, HD.out, if_pos (.inr (.inr hn2))]
            have hn2' : (1114111 : Int) < (n : Int) := by omega
            clear HG HD
            go_wp2_with (refine (KJ _).out.mono ?_; rintro e w' ⟨rfl, rfl⟩)
            go_ret
            exact ⟨by rw [HE.out]; rfl, hB2⟩
          · have HE : Hid (valGo t 0 = valGo (t.drop (k + 1)) (16 * n + j.toNat)) := by
              show _ = _
              rw [HG.out, HD.out, if_neg (by omega)]
            obtain ⟨jn, rfl⟩ : ∃ jn : Nat, j = jn := ⟨j.toNat, by omega⟩
            rw [Int.toNat_natCast] at HE
            have hn2' : ¬ (1114111 : Int) < (n : Int) := by omega
            have hjw : IntKind.i32.wrap (jn : Int) = jn := by simp [IntKind.wrap, IntKind.signed, IntKind.bits]; omega
            clear HG HD
            go_wp2_with (refine (KJ _).out.mono ?_; rintro e w' ⟨rfl, rfl⟩)
            go_roundw
            case rel => exact ⟨k + 1, 16 * n + jn, by go_num, by omega, by omega, HE, hI2, hB2⟩
            case measure => rw [hI2.pos, HM.out]; omega
    · obtain rfl : k = t.length := by omega
      have hnx := hI.stop hkl
      rw [List.drop_length] at HG
      go_wp2_with fail
      go_ret
      exact ⟨by rw [HG.out]; rfl, hB⟩

/-- What stands behind a backslash, read. -/
def oneF (t : List UInt8) : List UInt8 := if t.head? = some 120 then [UInt8.ofNat (max (valGo t.tail 0) 0).toNat] else (Utf8.encode (max (valGo t 0) 0)).data.toList
theorem x_prefix (xs : List UInt8) : Lib.hasPrefix xs [120] = decide (xs.head? = some 120) ∧ Lib.trimPrefix xs [120] = if xs.head? = some 120 then xs.tail else xs := by
  cases xs with
  | nil => exact ⟨rfl, rfl⟩
  | cons c r =>
    unfold Lib.trimPrefix Lib.hasPrefix
    by_cases h : c = 120
    · subst h; simp
    · have h2 : ¬ (120 : UInt8) = c := fun e => h e.symm
      have e : ([120] : List UInt8).isPrefixOf (c :: r) = false := by simp [List.isPrefixOf, h2]
      rw [e]; simp [h]

set_option maxRecDepth 100000 in
set_option maxHeartbeats 1000000 in
theorem rone_any (t : List UInt8) (w : World) (hN : t.length ≤ 100000) : Calls Tryd.prog 28 #[.string ⟨t.toArray⟩] w fun e w' => e = .returned (.string ⟨(oneF t).toArray⟩) ∧ Below w.heap.size w w' := by
  have KC := Lib.hid ((Tryd.strings_CutPrefix ⟨t.toArray⟩ ⟨#[120]⟩ w).mono (fun e w' h => (show e = .returned (.tuple #[.string ⟨(if t.head? = some 120 then t.tail else t).toArray⟩, .bool (decide (t.head? = some 120))]) ∧ w = w' from ⟨by rw [h.1, ← (x_prefix t).1, ← (x_prefix t).2], h.2.symm⟩)))
  have HO : Hid (oneF t = if t.head? = some 120 then [UInt8.ofNat (max (valGo t.tail 0) 0).toNat] else (Utf8.encode (max (valGo t 0) 0)).data.toList) := rfl
  by_cases hx : t.head? = some 120
  · rw [if_pos hx] at HO KC
    rw [show decide (t.head? = some 120) = true by simpa using hx] at KC
    have KV := fun W => Lib.hid (rvalue_any t.tail W (by rw [List.length_tail]; omega))
    have hv := valGo_le t.tail 0 (by omega)
    clear hx
    generalize valGo t.tail 0 = v at *
    generalize t.tail = tt at *
    obtain ⟨m, Hm⟩ : ∃ m : Nat, Hid (max v 0 = (m : Int)) := ⟨(max v 0).toNat, by show _ = _; omega⟩
    rw [Hm.out, Int.toNat_natCast] at HO
    have hmb : m ≤ 17825791 := by have := Hm.out; omega
    have hmx := Hm.out
    have hmx2 : max (0 : Int) v = m := by omega
    obtain ⟨b, Hb⟩ : ∃ b : UInt8, Hid (b = UInt8.ofNat m) := ⟨_, rfl⟩
    rw [← Hb.out] at HO
    have hb2 : (m : Int) % 256 = (b.toNat : Int) := by rw [Hb.out, UInt8.toNat_ofNat']; omega
    have hwr : IntKind.u8.wrap (m : Int) = (m : Int) % 256 := by simp [IntKind.wrap, IntKind.signed, IntKind.bits]
    rw [hb2] at hwr
    clear hb2 Hb
    go_enter Tryd.func28, Tryd.ntmps28
    go_wp2_with fail
    refine KC.out.mono ?_
    rintro e w' ⟨rfl, rfl⟩
    go_wp2_with fail
    refine (KV _).out.mono ?_
    rintro e w1 ⟨rfl, hB⟩
    have ks := run_string_of (P := Tryd.prog) 39 9 5 Tryd.underlying39 Tryd.underlying5 Tryd.underlying9 (rd_one (w := w1) (e := 5) (x := (b.toNat : Int)) rfl)
    have hB1 : Below w.heap.size w (w1.alloc (.cells #[.int .u8 (b.toNat : Int)] 5)) := hB.alloc hB.size _
    go_wp2_with fail
    go_ret
    exact ⟨by rw [HO.out]; rfl, hB1⟩
  · rw [if_neg hx] at HO KC
    rw [show decide (t.head? = some 120) = false by simpa using hx] at KC
    have KV := fun W => Lib.hid (rvalue_any t W hN)
    have hv := valGo_le t 0 (by omega)
    clear hx
    generalize valGo t 0 = v at *
    obtain ⟨m, Hm⟩ : ∃ m : Nat, Hid (max v 0 = (m : Int)) := ⟨(max v 0).toNat, by show _ = _; omega⟩
    rw [Hm.out] at HO
    have hmx := Hm.out
    have hmx2 : max (0 : Int) v = m := by omega
    go_enter Tryd.func28, Tryd.ntmps28
    go_wp2_with fail
    refine KC.out.mono ?_
    rintro e w' ⟨rfl, rfl⟩
    go_wp2_with fail
    refine (KV _).out.mono ?_
    rintro e w1 ⟨rfl, hB⟩
    go_wp2_with fail
    go_ret
    have HE2 : Hid (∀ E : ByteArray, (⟨E.data.toList.toArray⟩ : ByteArray) = E) := fun E => by cases E; simp
    refine ⟨?_, hB⟩
    rw [HO.out, HE2.out]
    generalize Utf8.encode (m : Int) = E
    rfl
end Go.Proofs.YtefipigdkdopcaaDoor
