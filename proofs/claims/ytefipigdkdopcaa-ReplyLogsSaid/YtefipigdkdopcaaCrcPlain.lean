/- Plain facts on the two sums, over natural numbers: the reference's division and the program's table-free step agree; one turned bit turns the sum. No condition. -/
import Derived.Laws.BitsLemmas
namespace Go.Proofs.Ytefipigdkdopcaa

def cstep (p s : Nat) : Nat := if s % 2 = 1 then (s / 2) ^^^ p else s / 2
def citer (p : Nat) : Nat → Nat → Nat
  | 0, s => s
  | k + 1, s => citer p k (cstep p s)
def con (p s c : Nat) : Nat := citer p 8 (s ^^^ c)
def thr (p s : Nat) (xs : List UInt8) : Nat := xs.foldl (fun s c => con p s c.toNat) s
def crcGo (m p s : Nat) (xs : List UInt8) : Nat := m ^^^ thr p (m ^^^ s) xs
def crcS (xs : List UInt8) : Nat := crcGo 65535 33800 0 xs
def crcL (xs : List UInt8) : Nat := crcGo 4294967295 2197175160 0 xs
def crcOf (kind : Int) (xs : List UInt8) : Nat := if kind = 1 then crcS xs else if kind = 2 then crcL xs else 0

theorem bits_xor (k : IntKind) (j : Nat) (hj : j ≤ k.bits) (hk : ∀ n : Int, 0 ≤ n → n < 2 ^ j → k.wrap n = n) (a b : Nat) (ha : a < 2 ^ j) (hb : b < 2 ^ j) :
    bits .xor k a b = ((a ^^^ b : Nat) : Int) := by
  have hp : 2 ^ j ≤ 2 ^ k.bits := Nat.pow_le_pow_right (by decide) hj
  have ha' : a % 2 ^ k.bits = a := Nat.mod_eq_of_lt (Nat.lt_of_lt_of_le ha hp)
  have hb' : b % 2 ^ k.bits = b := Nat.mod_eq_of_lt (Nat.lt_of_lt_of_le hb hp)
  have cast : ∀ n : Nat, n < 2 ^ j → ((n : Nat) : Int) < 2 ^ j := fun n h => by exact_mod_cast h
  simp only [bits, BitVec.ofInt_natCast, BitVec.toNat_xor, BitVec.toNat_ofNat, ha', hb']
  exact hk _ (Int.natCast_nonneg _) (cast _ (Nat.xor_lt_two_pow ha hb))
theorem wraps_u32 (n : Int) (h₀ : 0 ≤ n) (h₁ : n < 2 ^ 32) : IntKind.u32.wrap n = n := by rw [IntKind.wrap_u32]; omega
theorem wraps_u16 (n : Int) (h₀ : 0 ≤ n) (h₁ : n < 2 ^ 16) : IntKind.u16.wrap n = n := by
  simp [IntKind.wrap, IntKind.bits, IntKind.signed]; omega
theorem wraps_u64 (n : Int) (h₀ : 0 ≤ n) (h₁ : n < 2 ^ 64) : IntKind.u64.wrap n = n := by
  simp [IntKind.wrap, IntKind.bits, IntKind.signed]; omega
theorem xor32 (a b : Nat) (ha : a < 4294967296) (hb : b < 4294967296) : bits .xor .u32 a b = ((a ^^^ b : Nat) : Int) := bits_xor .u32 32 (by decide) wraps_u32 a b ha hb
theorem xor64 (a b : Nat) (ha : a < 18446744073709551616) (hb : b < 18446744073709551616) : bits .xor .u64 a b = ((a ^^^ b : Nat) : Int) := bits_xor .u64 64 (by decide) wraps_u64 a b ha hb
theorem and32_1 (a : Nat) (ha : a < 4294967296) : bits .and .u32 a 1 = ((a % 2 : Nat) : Int) := by
  have := (bits_nat .u32 32 (by decide) wraps_u32 a 1 ha (by decide)).1
  rw [Nat.and_one_is_mod] at this
  exact this

theorem xor_lt {n a b : Nat} (ha : a < 2 ^ n) (hb : b < 2 ^ n) : a ^^^ b < 2 ^ n := Nat.xor_lt_two_pow ha hb
theorem cstep_lt {n p s : Nat} (hp : p < 2 ^ n) (hs : s < 2 ^ n) : cstep p s < 2 ^ n := by
  have h : s / 2 < 2 ^ n := by omega
  unfold cstep
  split
  · exact xor_lt h hp
  · exact h
theorem citer_lt {n p : Nat} (hp : p < 2 ^ n) : ∀ (k s : Nat), s < 2 ^ n → citer p k s < 2 ^ n
  | 0, _, h => h
  | k + 1, s, h => citer_lt hp k _ (cstep_lt hp h)
theorem con_lt {n p s c : Nat} (hn : 8 ≤ n) (hp : p < 2 ^ n) (hs : s < 2 ^ n) (hc : c < 256) : con p s c < 2 ^ n :=
  citer_lt hp _ _ (xor_lt hs (Nat.lt_of_lt_of_le hc ((show 2 ^ 8 ≤ 2 ^ n from Nat.pow_le_pow_right (by decide) hn))))
theorem thr_lt {n p : Nat} (hn : 8 ≤ n) (hp : p < 2 ^ n) : ∀ (xs : List UInt8) (s : Nat), s < 2 ^ n → thr p s xs < 2 ^ n
  | [], _, h => h
  | x :: xs, s, h => thr_lt hn hp xs _ (con_lt hn hp h x.toNat_lt)
theorem thr_append (p s : Nat) (xs ys : List UInt8) : thr p s (xs ++ ys) = thr p (thr p s xs) ys := by simp [thr]
theorem thr_snoc (p s : Nat) (xs : List UInt8) (y : UInt8) : thr p s (xs ++ [y]) = con p (thr p s xs) y.toNat := by simp [thr]
theorem take_snoc (xs : List UInt8) (k : Nat) (h : k < xs.length) : xs.take (k + 1) = xs.take k ++ [xs.getD k 0] := by
  rw [List.take_succ_eq_append_getElem h, List.getD_eq_getElem?_getD, List.getElem?_eq_getElem h]; rfl
theorem thr_take (p s : Nat) (xs : List UInt8) (k : Nat) (h : k < xs.length) : thr p s (xs.take (k + 1)) = con p (thr p s (xs.take k)) (xs.getD k 0).toNat := by
  rw [take_snoc xs k h, thr_snoc]
theorem citer_add (p : Nat) : ∀ (j k s : Nat), citer p (j + k) s = citer p k (citer p j s)
  | 0, k, s => by simp [citer]
  | j + 1, k, s => by rw [Nat.add_right_comm]; exact citer_add p j k _
theorem citer_succ (p j s : Nat) : citer p (j + 1) s = cstep p (citer p j s) := by rw [citer_add]; rfl

theorem xor_cancel (m s : Nat) : m ^^^ (m ^^^ s) = s := by rw [← Nat.xor_assoc, Nat.xor_self, Nat.zero_xor]
theorem crcGo_lt {n p s : Nat} {xs : List UInt8} (hn : 8 ≤ n) (hp : p < 2 ^ n) (hs : s < 2 ^ n) : crcGo (2 ^ n - 1) p s xs < 2 ^ n := by
  have hm : 2 ^ n - 1 < 2 ^ n := by have := Nat.two_pow_pos n; omega
  exact xor_lt hm (thr_lt hn hp xs _ (xor_lt hm hs))
theorem crcGo_append (m p s : Nat) (xs ys : List UInt8) : crcGo m p s (xs ++ ys) = crcGo m p (crcGo m p s xs) ys := by
  unfold crcGo
  rw [xor_cancel, thr_append]

/-- The reference's byte: eight steps of a division. -/
def rbyte (p : Nat) : Nat → Nat → Nat → Nat
  | 0, s, _ => s
  | k + 1, s, c => rbyte p k (if (s + c) % 2 = 1 then (s / 2) ^^^ p else s / 2) (c / 2)
theorem xor_mod2 (a b : Nat) : (a ^^^ b) % 2 = (a + b) % 2 := by
  have h := Nat.xor_mod_two_pow (n := 1) (a := a) (b := b)
  simp at h
  rw [h]
  rcases Nat.mod_two_eq_zero_or_one a with ha | ha <;> rcases Nat.mod_two_eq_zero_or_one b with hb | hb <;> rw [ha, hb] <;> simp <;> omega
theorem xor_div2 (a b : Nat) : (a ^^^ b) / 2 = (a / 2) ^^^ (b / 2) := by
  have h := Nat.xor_div_two_pow (n := 1) (a := a) (b := b)
  simpa using h
theorem rbyte_eq (p : Nat) : ∀ (k s c : Nat), c < 2 ^ k → rbyte p k s c = citer p k (s ^^^ c)
  | 0, s, c, h => by
    have : c = 0 := by simp at h; exact h
    subst this
    simp [rbyte, citer]
  | k + 1, s, c, h => by
    have hc : c / 2 < 2 ^ k := by rw [Nat.pow_succ] at h; omega
    rw [rbyte, rbyte_eq p k _ _ hc, citer]
    congr 1
    unfold cstep
    rw [xor_mod2, xor_div2]
    split
    · rw [Nat.xor_assoc, Nat.xor_comm p, ← Nat.xor_assoc]
    · rfl

/-- One turned bit. -/
theorem cstep_inj {n p s t : Nat} (hn : 0 < n) (hp1 : 2 ^ (n - 1) ≤ p) (hp : p < 2 ^ n) (hs : s < 2 ^ n) (ht : t < 2 ^ n) (h : cstep p s = cstep p t) : s = t := by
  have hh : 2 ^ n = 2 * 2 ^ (n - 1) := by
    obtain ⟨m, rfl⟩ : ∃ m, n = m + 1 := ⟨n - 1, by omega⟩
    rw [Nat.add_sub_cancel, Nat.pow_succ]; omega
  have top : ∀ a, a < 2 ^ n → (a / 2).testBit (n - 1) = false := fun a ha => Nat.testBit_lt_two_pow (by omega)
  have hpt : p.testBit (n - 1) = true := by
    have : p = 2 ^ (n - 1) + (p - 2 ^ (n - 1)) := by omega
    rw [this, Nat.testBit_two_pow_add_eq, Nat.testBit_lt_two_pow (by omega)]; rfl
  unfold cstep at h
  split at h <;> split at h
  · have h2 : s / 2 = t / 2 := by
      have := congrArg (· ^^^ p) h
      simp only [Nat.xor_assoc, Nat.xor_self, Nat.xor_zero] at this
      exact this
    omega
  · have := congrArg (Nat.testBit · (n - 1)) h
    simp [Nat.testBit_xor, top s hs, top t ht, hpt] at this
  · have := congrArg (Nat.testBit · (n - 1)) h
    simp [Nat.testBit_xor, top s hs, top t ht, hpt] at this
  · omega
theorem citer_inj {n p : Nat} (hn : 0 < n) (hp1 : 2 ^ (n - 1) ≤ p) (hp : p < 2 ^ n) : ∀ (k s t : Nat), s < 2 ^ n → t < 2 ^ n → citer p k s = citer p k t → s = t
  | 0, _, _, _, _, h => h
  | k + 1, s, t, hs, ht, h => cstep_inj hn hp1 hp hs ht (citer_inj hn hp1 hp k _ _ (cstep_lt hp hs) (cstep_lt hp ht) h)
theorem xor_right_inj (a b c : Nat) (h : a ^^^ c = b ^^^ c) : a = b := by
  have := congrArg (· ^^^ c) h
  simpa [Nat.xor_assoc] using this
theorem con_inj {n p s t c : Nat} (hn : 8 ≤ n) (hp1 : 2 ^ (n - 1) ≤ p) (hp : p < 2 ^ n) (hs : s < 2 ^ n) (ht : t < 2 ^ n) (hc : c < 256) (h : con p s c = con p t c) : s = t := by
  have hc' : c < 2 ^ n := Nat.lt_of_lt_of_le hc ((show 2 ^ 8 ≤ 2 ^ n from Nat.pow_le_pow_right (by decide) hn))
  exact xor_right_inj _ _ _ (citer_inj (by omega) hp1 hp 8 _ _ (xor_lt hs hc') (xor_lt ht hc') h)
theorem con_inj_right {n p s c d : Nat} (hn : 8 ≤ n) (hp1 : 2 ^ (n - 1) ≤ p) (hp : p < 2 ^ n) (hs : s < 2 ^ n) (hc : c < 256) (hd : d < 256) (h : con p s c = con p s d) : c = d := by
  have h8 := (show 2 ^ 8 ≤ 2 ^ n from Nat.pow_le_pow_right (by decide) hn)
  have := citer_inj (by omega) hp1 hp 8 _ _ (xor_lt hs (Nat.lt_of_lt_of_le hc h8)) (xor_lt hs (Nat.lt_of_lt_of_le hd h8)) h
  rw [Nat.xor_comm s, Nat.xor_comm s] at this
  exact xor_right_inj _ _ _ this
theorem thr_inj {n p : Nat} (hn : 8 ≤ n) (hp1 : 2 ^ (n - 1) ≤ p) (hp : p < 2 ^ n) : ∀ (xs : List UInt8) (s t : Nat), s < 2 ^ n → t < 2 ^ n → thr p s xs = thr p t xs → s = t
  | [], _, _, _, _, h => h
  | x :: xs, s, t, hs, ht, h => con_inj hn hp1 hp hs ht x.toNat_lt (thr_inj hn hp1 hp xs _ _ (con_lt hn hp hs x.toNat_lt) (con_lt hn hp ht x.toNat_lt) h)
/-- Bytes in which one byte alone is another have another sum. -/
theorem crcGo_turned {n p : Nat} (hn : 8 ≤ n) (hp1 : 2 ^ (n - 1) ≤ p) (hp : p < 2 ^ n) (s : Nat) (hs : s < 2 ^ n) (xs : List UInt8) (i : Nat) (hi : i < xs.length) (c : UInt8) (hc : c ≠ xs.getD i 0) :
    crcGo (2 ^ n - 1) p s (xs.set i c) ≠ crcGo (2 ^ n - 1) p s xs := by
  have hm : 2 ^ n - 1 < 2 ^ n := by have := Nat.two_pow_pos n; omega
  have hx : xs = xs.take i ++ xs.getD i 0 :: xs.drop (i + 1) := by
    rw [List.getD_eq_getElem?_getD, List.getElem?_eq_getElem hi]
    simp
  have hy : xs.set i c = xs.take i ++ c :: xs.drop (i + 1) := List.set_eq_take_append_cons_drop .. |>.trans (if_pos hi)
  intro h
  unfold crcGo at h
  rw [Nat.xor_comm, Nat.xor_comm (2 ^ n - 1) (thr p _ xs)] at h
  have h := xor_right_inj _ _ _ h
  rw [hy] at h
  conv at h => rhs; rw [hx]
  generalize hs0 : thr p ((2 ^ n - 1) ^^^ s) (xs.take i) = s0 at *
  rw [thr_append, thr_append, hs0] at h
  have hs0' : s0 < 2 ^ n := by rw [← hs0]; exact thr_lt hn hp _ _ (xor_lt hm hs)
  have h2 := thr_inj hn hp1 hp _ _ _ (con_lt hn hp hs0' c.toNat_lt) (con_lt hn hp hs0' (xs.getD i 0).toNat_lt) h
  have h3 := con_inj_right hn hp1 hp hs0' c.toNat_lt (xs.getD i 0).toNat_lt h2
  exact hc (UInt8.toNat_inj.1 h3)
end Go.Proofs.Ytefipigdkdopcaa
