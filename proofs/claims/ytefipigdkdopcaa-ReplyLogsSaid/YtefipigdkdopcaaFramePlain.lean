/- Plain facts on frames: their bytes, what bytes begin with, one byte that is another. No condition. -/
import Derived.Test.YtefipigdkdopcaaBePlain
import Derived.Test.YtefipigdkdopcaaCrcPlain
namespace Go.Proofs.Ytefipigdkdopcaa

/-- A frame's bytes ahead of its sum; all its bytes. -/
def frmH (nu id o t : Nat) (d : List UInt8) : List UInt8 := putB 1 26 ++ putB 4 nu ++ putB 4 id ++ putB 2 o ++ putB 2 t ++ d
def frmP (nu id o t : Nat) (d : List UInt8) : List UInt8 := frmH nu id o t d ++ putB 2 (crcS (frmH nu id o t d))
theorem frmH_length (nu id o t : Nat) (d : List UInt8) : (frmH nu id o t d).length = 13 + d.length := by
  simp [frmH, putB_length]; try omega
theorem frmP_length (nu id o t : Nat) (d : List UInt8) : (frmP nu id o t d).length = 15 + d.length := by
  simp [frmP, frmH_length, putB_length]; try omega
/-- May a frame's place be? -/
def lenOk (o t : Int) : Bool := decide (1 ≤ t ∧ t ≤ 3192 ∧ 0 ≤ o ∧ o < t ∧ o % 100 = 0)
def mayF (nu id : Nat) (o t : Int) (l : Nat) : Bool := lenOk o t && decide (nu < 2147483648 ∧ id < 2147483648 ∧ (l : Int) = min 100 (t - o))
structure MayF (nu id o t l : Nat) : Prop where
  hnu : nu < 2147483648
  hid : id < 2147483648
  ht1 : 1 ≤ t
  ht : t ≤ 3192
  ho : o < t
  hoo : o % 100 = 0
  hl : l = min 100 (t - o)

theorem getN_mid (pre post : List UInt8) (k m : Nat) (hk : k ≤ 8) (hm : m < 256 ^ k) : getN (pre ++ putB k m ++ post) ((pre.length : Nat) : Int) (k : Int) = m := by
  rw [getN_in _ _ _ (by simp [putB_length]) hk, numN_congr (g := fun i => ((putB k m).getD i 0).toNat) k (fun i hi => ?_), numN_putB, Nat.mod_eq_of_lt hm]
  rw [show ((pre.length : Int) + (i : Int)) = ((pre.length + i : Nat) : Int) by omega, byteAt_in (by simp [putB_length]; omega)]
  congr 1
  rw [List.getD_eq_getElem?_getD, List.getD_eq_getElem?_getD, List.append_assoc, List.getElem?_append_right (by omega), List.getElem?_append_left (by simp [putB_length]; omega)]
  congr 2; omega
theorem getN_congr (xs ys : List UInt8) (at_ k : Nat) (hk : k ≤ 8) (h1 : at_ + k ≤ xs.length) (h2 : at_ + k ≤ ys.length) (h : ∀ i, at_ ≤ i → i < at_ + k → xs.getD i 0 = ys.getD i 0) : getN xs at_ k = getN ys at_ k := by
  rw [getN_in _ _ _ (by omega) hk, getN_in _ _ _ (by omega) hk]
  refine numN_congr _ (fun i hi => ?_)
  rw [show ((at_ : Int) + (i : Int)) = ((at_ + i : Nat) : Int) by omega, byteAt_in (by omega), byteAt_in (by omega), h _ (by omega) (by omega)]
theorem getN_lt2 (xs : List UInt8) (at_ : Int) : getN xs at_ 2 < 65536 := numN_lt (fun i => byteAt_lt _ _) 2
theorem getN_lt4 (xs : List UInt8) (at_ : Int) : getN xs at_ 4 < 4294967296 := numN_lt (fun i => byteAt_lt _ _) 4

/-- What bytes begin with: number, id, place, size, data; what is wrong. -/
def fgetF (xs : List UInt8) : Nat × Nat × Nat × Nat × List UInt8 × Nat :=
  if xs.length = 0 then (0, 0, 0, 0, [], 5)
  else if (xs.getD 0 0).toNat ≠ 26 then (0, 0, 0, 0, [], 6)
  else if xs.length < 13 then (0, 0, 0, 0, [], 5)
  else if lenOk (getN xs 9 2) (getN xs 11 2) = false then (0, 0, 0, 0, [], 6)
  else if xs.length < 15 + min 100 (getN xs 11 2 - getN xs 9 2) then (0, 0, 0, 0, [], 5)
  else if getN xs ((13 + min 100 (getN xs 11 2 - getN xs 9 2) : Nat) : Int) 2 ≠ crcS (xs.take (13 + min 100 (getN xs 11 2 - getN xs 9 2))) then (0, 0, 0, 0, [], 7)
  else if 2147483648 ≤ getN xs 1 4 ∨ 2147483648 ≤ getN xs 5 4 then (0, 0, 0, 0, [], 6)
  else (getN xs 1 4, getN xs 5 4, getN xs 9 2, getN xs 11 2, (xs.drop 13).take (min 100 (getN xs 11 2 - getN xs 9 2)), 0)

theorem lenOk_nat {o t : Nat} : lenOk o t = true ↔ 1 ≤ t ∧ t ≤ 3192 ∧ o < t ∧ o % 100 = 0 := by
  unfold lenOk
  rw [decide_eq_true_iff]
  omega
theorem lenOk_may {nu id o t l : Nat} (h : MayF nu id o t l) : lenOk o t = true := lenOk_nat.2 ⟨h.ht1, h.ht, h.ho, h.hoo⟩

theorem frm_fields (nu id o t : Nat) (d more : List UInt8) (h : MayF nu id o t d.length) :
    (frmH nu id o t d ++ more).getD 0 0 = 26 ∧ getN (frmH nu id o t d ++ more) 1 4 = nu ∧ getN (frmH nu id o t d ++ more) 5 4 = id ∧ getN (frmH nu id o t d ++ more) 9 2 = o ∧ getN (frmH nu id o t d ++ more) 11 2 = t := by
  have e1 : frmH nu id o t d ++ more = (putB 1 26) ++ putB 4 nu ++ (putB 4 id ++ putB 2 o ++ putB 2 t ++ d ++ more) := by simp [frmH]
  have e2 : frmH nu id o t d ++ more = (putB 1 26 ++ putB 4 nu) ++ putB 4 id ++ (putB 2 o ++ putB 2 t ++ d ++ more) := by simp [frmH]
  have e3 : frmH nu id o t d ++ more = (putB 1 26 ++ putB 4 nu ++ putB 4 id) ++ putB 2 o ++ (putB 2 t ++ d ++ more) := by simp [frmH]
  have e4 : frmH nu id o t d ++ more = (putB 1 26 ++ putB 4 nu ++ putB 4 id ++ putB 2 o) ++ putB 2 t ++ (d ++ more) := by simp [frmH]
  have h1 := h.hnu
  have h2 := h.hid
  have h3 := h.ht
  have h4 := h.ho
  refine ⟨by simp [frmH, putB], ?_, ?_, ?_, ?_⟩
  · have := getN_mid (putB 1 26) (putB 4 id ++ putB 2 o ++ putB 2 t ++ d ++ more) 4 nu (by omega) (by omega)
    rw [← e1] at this; simpa [putB_length] using this
  · have := getN_mid (putB 1 26 ++ putB 4 nu) (putB 2 o ++ putB 2 t ++ d ++ more) 4 id (by omega) (by omega)
    rw [← e2] at this; simpa [putB_length] using this
  · have := getN_mid (putB 1 26 ++ putB 4 nu ++ putB 4 id) (putB 2 t ++ d ++ more) 2 o (by omega) (by omega)
    rw [← e3] at this; simpa [putB_length] using this
  · have := getN_mid (putB 1 26 ++ putB 4 nu ++ putB 4 id ++ putB 2 o) (d ++ more) 2 t (by omega) (by omega)
    rw [← e4] at this; simpa [putB_length] using this
theorem crcS_lt2 (xs : List UInt8) : crcS xs < 65536 := crcGo_lt (n := 16) (p := 33800) (s := 0) (by omega) (by omega) (by omega)

theorem fget_put (nu id o t : Nat) (d more : List UInt8) (h : MayF nu id o t d.length) : fgetF (frmP nu id o t d ++ more) = (nu, id, o, t, d, 0) := by
  obtain ⟨f0, f1, f2, f3, f4⟩ := frm_fields nu id o t d (putB 2 (crcS (frmH nu id o t d)) ++ more) h
  have e : frmP nu id o t d ++ more = frmH nu id o t d ++ (putB 2 (crcS (frmH nu id o t d)) ++ more) := by simp [frmP]
  have hl := frmH_length nu id o t d
  have hs := getN_mid (frmH nu id o t d) more 2 (crcS (frmH nu id o t d)) (by omega) (by have := crcS_lt2 (frmH nu id o t d); omega)
  rw [List.append_assoc] at hs
  have hlen : (frmH nu id o t d ++ (putB 2 (crcS (frmH nu id o t d)) ++ more)).length = 15 + d.length + more.length := by simp [hl, putB_length]; omega
  have htk : (frmH nu id o t d ++ (putB 2 (crcS (frmH nu id o t d)) ++ more)).take (13 + d.length) = frmH nu id o t d := by rw [← hl]; simp
  have hdr : ((frmH nu id o t d ++ (putB 2 (crcS (frmH nu id o t d)) ++ more)).drop 13).take d.length = d := by
    have : frmH nu id o t d ++ (putB 2 (crcS (frmH nu id o t d)) ++ more) = (putB 1 26 ++ putB 4 nu ++ putB 4 id ++ putB 2 o ++ putB 2 t) ++ (d ++ (putB 2 (crcS (frmH nu id o t d)) ++ more)) := by simp [frmH]
    rw [this, List.drop_left' (by simp [putB_length])]
    simp
  have hdl := h.hl
  have hok := lenOk_may h
  rw [e]
  generalize frmH nu id o t d ++ (putB 2 (crcS (frmH nu id o t d)) ++ more) = xs at *
  unfold fgetF
  rw [f0, f1, f2, f3, f4, ← hdl, htk, hdr, hok]
  rw [hl] at hs
  have hs2 : getN xs ((13 + d.length : Nat) : Int) 2 = crcS (frmH nu id o t d) := hs
  have g1 := h.hnu
  have g2 := h.hid
  rw [if_neg (by omega), if_neg (by decide), if_neg (by omega), if_neg (by decide), if_neg (by omega), if_neg (by rw [hs2]; simp), if_neg (by omega)]

theorem fget_may (xs : List UInt8) (nu id o t : Nat) (d : List UInt8) (h : fgetF xs = (nu, id, o, t, d, 0)) : MayF nu id o t d.length ∧ 15 + d.length ≤ xs.length := by
  unfold fgetF at h
  split at h
  · simp at h
  split at h
  · simp at h
  split at h
  · simp at h
  split at h
  · simp at h
  split at h
  · simp at h
  split at h
  · simp at h
  split at h
  · simp at h
  rename_i h1 h2 h3 h4 h5 h6 h7
  simp only [Prod.mk.injEq] at h
  obtain ⟨e1, e2, e3, e4, e5, -⟩ := h
  have hok : lenOk (getN xs 9 2 : Nat) (getN xs 11 2 : Nat) = true := by simpa using h4
  obtain ⟨k1, k2, k3, k4⟩ := lenOk_nat.1 hok
  have hdl : d.length = min 100 (getN xs 11 2 - getN xs 9 2) := by
    rw [← e5, List.length_take, List.length_drop]; omega
  subst e1 e2 e3 e4
  exact ⟨⟨by omega, by omega, k1, k2, k3, k4, hdl⟩, by omega⟩

theorem fget_bad (xs : List UInt8) (nu id o t : Nat) (d : List UInt8) (e : Nat) (h : fgetF xs = (nu, id, o, t, d, e)) : e = 0 ∨ (nu = 0 ∧ id = 0 ∧ o = 0 ∧ t = 0 ∧ d = [] ∧ 5 ≤ e ∧ e ≤ 7) := by
  unfold fgetF at h
  split at h
  · simp only [Prod.mk.injEq] at h; obtain ⟨h1, h2, h3, h4, h5, h6⟩ := h; exact .inr ⟨h1.symm, h2.symm, h3.symm, h4.symm, h5.symm, by omega, by omega⟩
  split at h
  · simp only [Prod.mk.injEq] at h; obtain ⟨h1, h2, h3, h4, h5, h6⟩ := h; exact .inr ⟨h1.symm, h2.symm, h3.symm, h4.symm, h5.symm, by omega, by omega⟩
  split at h
  · simp only [Prod.mk.injEq] at h; obtain ⟨h1, h2, h3, h4, h5, h6⟩ := h; exact .inr ⟨h1.symm, h2.symm, h3.symm, h4.symm, h5.symm, by omega, by omega⟩
  split at h
  · simp only [Prod.mk.injEq] at h; obtain ⟨h1, h2, h3, h4, h5, h6⟩ := h; exact .inr ⟨h1.symm, h2.symm, h3.symm, h4.symm, h5.symm, by omega, by omega⟩
  split at h
  · simp only [Prod.mk.injEq] at h; obtain ⟨h1, h2, h3, h4, h5, h6⟩ := h; exact .inr ⟨h1.symm, h2.symm, h3.symm, h4.symm, h5.symm, by omega, by omega⟩
  split at h
  · simp only [Prod.mk.injEq] at h; obtain ⟨h1, h2, h3, h4, h5, h6⟩ := h; exact .inr ⟨h1.symm, h2.symm, h3.symm, h4.symm, h5.symm, by omega, by omega⟩
  split at h
  · simp only [Prod.mk.injEq] at h; obtain ⟨h1, h2, h3, h4, h5, h6⟩ := h; exact .inr ⟨h1.symm, h2.symm, h3.symm, h4.symm, h5.symm, by omega, by omega⟩
  simp only [Prod.mk.injEq] at h
  exact .inl h.2.2.2.2.2.symm

theorem getD_set_ne (xs : List UInt8) (i j : Nat) (b : UInt8) (h : i ≠ j) : (xs.set i b).getD j 0 = xs.getD j 0 := by
  simp [List.getD_eq_getElem?_getD, List.getElem?_set, h]
theorem getD_set_eq (xs : List UInt8) (i : Nat) (b : UInt8) (h : i < xs.length) : (xs.set i b).getD i 0 = b := by
  rw [List.getD_eq_getElem?_getD, List.getElem?_set_self h]; rfl
theorem getN_two (xs : List UInt8) (j : Nat) (h : j + 2 ≤ xs.length) : getN xs j 2 = (xs.getD j 0).toNat * 256 + (xs.getD (j + 1) 0).toNat := by
  have := getN_in xs j 2 (by omega) (by omega)
  rw [show ((2 : Nat) : Int) = 2 from rfl] at this
  rw [this]
  simp only [numN]
  rw [show ((j : Int) + ((0 : Nat) : Int)) = ((j : Nat) : Int) by omega, show ((j : Int) + ((0 + 1 : Nat) : Int)) = ((j + 1 : Nat) : Int) by omega, byteAt_in (by omega), byteAt_in (by omega)]
  omega

/-- A frame in which one byte, but of its place and size, is another one. -/
theorem fget_turned (nu id o t : Nat) (d : List UInt8) (h : MayF nu id o t d.length) (i : Nat) (b : UInt8) (hi : i < 15 + d.length) (hout : i < 9 ∨ 12 < i) (hb : b ≠ (frmP nu id o t d).getD i 0) :
    ∃ e, fgetF ((frmP nu id o t d).set i b) = (0, 0, 0, 0, [], e) ∧ 5 ≤ e ∧ e ≤ 7 := by
  obtain ⟨f0, f1, f2, f3, f4⟩ := frm_fields nu id o t d (putB 2 (crcS (frmH nu id o t d))) h
  have hl := frmH_length nu id o t d
  have hpl := frmP_length nu id o t d
  have hs := getN_mid (frmH nu id o t d) [] 2 (crcS (frmH nu id o t d)) (by omega) (by have := crcS_lt2 (frmH nu id o t d); omega)
  rw [List.append_nil] at hs
  have htk : (frmP nu id o t d).take (13 + d.length) = frmH nu id o t d := by rw [← hl]; simp [frmP]
  change (frmP nu id o t d).getD 0 0 = 26 at f0
  change getN (frmP nu id o t d) 9 2 = o at f3
  change getN (frmP nu id o t d) 11 2 = t at f4
  change getN (frmP nu id o t d) ((frmH nu id o t d).length : Int) 2 = _ at hs
  rw [hl] at hs
  have hdl := h.hl
  have hok := lenOk_may h
  generalize hX : frmP nu id o t d = xs at *
  have hsl : (xs.set i b).length = 15 + d.length := by simp [hpl]
  by_cases h0 : i = 0
  · subst h0
    refine ⟨6, ?_, by omega, by omega⟩
    unfold fgetF
    have e0 : (xs.set 0 b).getD 0 0 = b := getD_set_eq _ _ _ (by omega)
    rw [if_neg (by omega), if_pos]
    rw [e0]
    intro hh
    refine hb ?_
    rw [f0]
    exact UInt8.toNat.inj hh
  · refine ⟨7, ?_, by omega, by omega⟩
    have e0 : (xs.set i b).getD 0 0 = 26 := by rw [getD_set_ne _ _ _ _ h0, f0]
    have e3 : getN (xs.set i b) 9 2 = o := by
      rw [← f3]; exact getN_congr _ _ 9 2 (by omega) (by omega) (by omega) (fun j h1 h2 => getD_set_ne _ _ _ _ (by omega))
    have e4 : getN (xs.set i b) 11 2 = t := by
      rw [← f4]; exact getN_congr _ _ 11 2 (by omega) (by omega) (by omega) (fun j h1 h2 => getD_set_ne _ _ _ _ (by omega))
    have e5 : getN (xs.set i b) ((13 + d.length : Nat) : Int) 2 ≠ crcS ((xs.set i b).take (13 + d.length)) := by
      by_cases hlt : i < 13 + d.length
      · rw [List.take_set, htk]
        have e6 : getN (xs.set i b) ((13 + d.length : Nat) : Int) 2 = getN xs ((13 + d.length : Nat) : Int) 2 :=
          getN_congr _ _ (13 + d.length) 2 (by omega) (by omega) (by omega) (fun j h1 h2 => getD_set_ne _ _ _ _ (by omega))
        rw [e6, hs]
        have hb2 : b ≠ (frmH nu id o t d).getD i 0 := by
          intro hh; refine hb ?_
          rw [hh, ← htk]
          simp [List.getD_eq_getElem?_getD, List.getElem?_take, hlt]
        exact fun hh => crcGo_turned (n := 16) (p := 33800) (by omega) (by omega) (by omega) 0 (by omega) (frmH nu id o t d) i (by omega) b hb2 hh.symm
      · rw [List.take_set_of_le (by omega), htk, ← hs]
        rw [getN_two _ _ (by omega), getN_two _ _ (by omega)]
        have hbn : b.toNat ≠ (xs.getD i 0).toNat := fun hh => hb (UInt8.toNat.inj hh)
        rcases (by omega : i = 13 + d.length ∨ i = 13 + d.length + 1) with rfl | rfl
        · rw [getD_set_ne _ _ (13 + d.length + 1) _ (by omega)]
          have : (xs.set (13 + d.length) b).getD (13 + d.length) 0 = b := getD_set_eq _ _ _ (by omega)
          rw [this]; omega
        · rw [getD_set_ne _ _ (13 + d.length) _ (by omega)]
          have : (xs.set (13 + d.length + 1) b).getD (13 + d.length + 1) 0 = b := getD_set_eq _ _ _ (by omega)
          rw [this]; omega
    unfold fgetF
    rw [e0, e3, e4, ← hdl, hok, if_neg (by omega), if_neg (by decide), if_neg (by omega), if_neg (by decide), if_neg (by omega), if_pos e5]
end Go.Proofs.Ytefipigdkdopcaa
