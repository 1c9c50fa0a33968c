/- Slices of texts: what they read as, cutting texts. No condition. -/
import Derived.Test.YtefipigdkdopcaaRunePlain
import Derived.Test.YtefipigdkdopcaaHeld
namespace Go.Proofs.Ytefipigdkdopcaa
open Go.RowKit

/-- Texts as cells. -/
def strs (l : List (List UInt8)) : List Value := l.map fun s => Value.string ⟨s.toArray⟩
theorem strs_length (l : List (List UInt8)) : (strs l).length = l.length := by simp [strs]
theorem strs_append (l m : List (List UInt8)) : strs (l ++ m) = strs l ++ strs m := by simp [strs]
theorem strs_get (l : List (List UInt8)) (i : Nat) (h : i < l.length) : (strs l)[i]? = some (.string ⟨(l.getD i []).toArray⟩) := by simp [strs, h]
theorem strs_take (l : List (List UInt8)) (k : Nat) : (strs l).take k = strs (l.take k) := by simp [strs, List.map_take]
theorem strs_drop (l : List (List UInt8)) (k : Nat) : (strs l).drop k = strs (l.drop k) := by simp [strs, List.map_drop]
theorem strs_one (l : List (List UInt8)) : ∀ u ∈ strs l, u.oneCell' = true := by
  intro u hu
  simp only [strs, List.mem_map] at hu
  obtain ⟨b, _, rfl⟩ := hu
  rfl
abbrev RdS (w : World) (A : Option Addr) (n c : Nat) (l : List (List UInt8)) : Prop := Rd w A n c 1 (strs l)
theorem Rd.slen {w : World} {A : Option Addr} {n c : Nat} {l : List (List UInt8)} (h : RdS w A n c l) : l.length = n := by
  have := h.len
  rw [strs_length] at this
  omega
theorem Rd.sat {w : World} {A : Option Addr} {n c : Nat} {l : List (List UInt8)} (h : RdS w A n c l) (i : Nat) (hi : i < n) : ∃ ad, A = some ad ∧ w.cell? (ad.add i) = some (.string ⟨(l.getD i []).toArray⟩) := by
  obtain ⟨ad, e⟩ := Rd.some_of_pos h (by omega)
  have hl := Rd.slen h
  exact ⟨ad, e, h.cell ad e i _ (strs_get l i (by omega))⟩
theorem Rd.scell {w : World} {ad : Addr} {n c : Nat} {l : List (List UInt8)} (h : RdS w (some ad) n c l) (i : Nat) (hi : i < n) : w.cell? (ad.add i) = some (.string ⟨(l.getD i []).toArray⟩) := by
  obtain ⟨a, e, h⟩ := h.sat i hi
  cases e
  exact h
theorem extract_list (xs : List UInt8) (i j : Nat) : (⟨xs.toArray⟩ : ByteArray).extract i j = ⟨((xs.drop i).take (j - i)).toArray⟩ := by
  apply ByteArray.ext
  simp [ByteArray.extract, ByteArray.copySlice]
theorem info_str : (Try.prog.info? 9).map (fun i => (i.zero, i.size, i.bytes)) = some (some (.string ⟨#[]⟩), 1, 16) := by kernel_rfl
theorem info_strs : ∃ i, Try.prog.info? 9 = some i ∧ i.zero = some (.string ⟨#[]⟩) ∧ i.size = 1 ∧ i.bytes = 16 := info_parts info_str
end Go.Proofs.Ytefipigdkdopcaa
