/- Contracts of the reference's Size. No condition but the length's bound. -/
import Derived.Test.YtefipigdkdopcaaDoorSplit
namespace Go.Proofs.YtefipigdkdopcaaDoor
open Go.RowKit

/-- Does a text begin with no rune? -/
abbrev brk (xs : List UInt8) : Prop := decL xs = (65533, 1)
/-- How many bytes the rune has that a text begins with; 0: none. -/
def sizeR (xs : List UInt8) : Nat := if brk xs then 0 else (decL xs).2
/-- The number of a rune's first bytes. -/
def vN (v0 : Nat) (xs : List UInt8) : Nat → Nat
  | 0 => v0
  | k + 1 => 64 * vN v0 xs k + (at8 xs (k + 1) - 128)
theorem vN_zero (v0 : Nat) (xs : List UInt8) : vN v0 xs 0 = v0 := rfl
theorem vN_succ (v0 : Nat) (xs : List UInt8) (k : Nat) : vN v0 xs (k + 1) = 64 * vN v0 xs k + (at8 xs (k + 1) - 128) := rfl
theorem vN_lt (v0 : Nat) (xs : List UInt8) (k : Nat) : (∀ j, 1 ≤ j → j ≤ k → at8 xs j < 192) → vN v0 xs k < (v0 + 1) * 64 ^ k := by
  induction k with
  | zero => intro _; rw [vN_zero, Nat.pow_zero]; omega
  | succ k ih =>
    intro h
    have := ih (fun j h1 h2 => h j h1 (by omega))
    have hk := h (k + 1) (by omega) (by omega)
    rw [vN_succ, Nat.pow_succ]
    have e : (v0 + 1) * (64 ^ k * 64) = 64 * ((v0 + 1) * 64 ^ k) := by rw [← Nat.mul_assoc, Nat.mul_comm]
    rw [e]
    omega
def badV (least v : Nat) : Bool := decide (v < least ∨ 1114111 < v ∨ (55296 ≤ v ∧ v < 57344))
theorem badV_iff (least v : Nat) : badV least v = true ↔ (v < least ∨ 1114111 < v ∨ (55296 ≤ v ∧ v < 57344)) := by unfold badV; rw [decide_eq_true_iff]
/-- A rune of n bytes. -/
structure LeadOf (b0 n least base : Nat) : Prop where
  h : (192 ≤ b0 ∧ b0 < 224 ∧ n = 2 ∧ least = 128 ∧ base = 192) ∨ (224 ≤ b0 ∧ b0 < 240 ∧ n = 3 ∧ least = 2048 ∧ base = 224) ∨ (240 ≤ b0 ∧ b0 < 248 ∧ n = 4 ∧ least = 65536 ∧ base = 240)
theorem size_cont {xs : List UInt8} {n least base : Nat} (h : LeadOf (at8 xs 0) n least base) (hc : ∃ k, 1 ≤ k ∧ k < n ∧ ¬ (128 ≤ at8 xs k ∧ at8 xs k < 192)) : sizeR xs = 0 := by
  have : brk xs := by
    unfold brk
    rw [decL_eq]
    obtain ⟨k, k1, k2, k3⟩ := hc
    rcases h.h with ⟨a, b, rfl, _⟩ | ⟨a, b, rfl, _⟩ | ⟨a, b, rfl, _⟩
    · obtain rfl : k = 1 := by omega
      rw [if_neg (by omega), if_neg (by omega), if_neg (by omega), if_neg (by omega)]
    · rcases (by omega : k = 1 ∨ k = 2) with rfl | rfl <;> rw [if_neg (by omega), if_neg (by omega), if_neg (by omega), if_neg (by omega)]
    · rcases (by omega : k = 1 ∨ k = 2 ∨ k = 3) with rfl | rfl | rfl <;> rw [if_neg (by omega), if_neg (by omega), if_neg (by omega), if_neg (by omega)]
  unfold sizeR
  rw [if_pos this]
theorem size_full {xs : List UInt8} {n least base : Nat} (h : LeadOf (at8 xs 0) n least base) (hc : ∀ k, 1 ≤ k → k < n → 128 ≤ at8 xs k ∧ at8 xs k < 192) : sizeR xs = (if badV least (vN (at8 xs 0 - base) xs (n - 1)) = true then 0 else n) ∧ (¬ badV least (vN (at8 xs 0 - base) xs (n - 1)) = true → decL xs = (vN (at8 xs 0 - base) xs (n - 1), n)) := by
  have key : decL xs = if badV least (vN (at8 xs 0 - base) xs (n - 1)) = true then (65533, 1) else (vN (at8 xs 0 - base) xs (n - 1), n) := by
    rw [decL_eq]
    rcases h.h with ⟨a, b, rfl, rfl, rfl⟩ | ⟨a, b, rfl, rfl, rfl⟩ | ⟨a, b, rfl, rfl, rfl⟩
    · have c1 := hc 1 (by omega) (by omega)
      rw [if_neg (by omega), if_pos (by omega)]
      have e : vN (at8 xs 0 - 192) xs (2 - 1) = (at8 xs 0 - 192) * 64 + (at8 xs 1 - 128) := by simp only [Nat.reduceSub, vN_succ, vN_zero, Nat.reduceAdd, Nat.zero_add]; omega
      rw [e]
      simp only [badV_iff]
      by_cases g : 128 ≤ (at8 xs 0 - 192) * 64 + (at8 xs 1 - 128)
      · rw [if_pos g, if_neg (by omega)]
      · rw [if_neg g, if_pos (by omega)]
    · have c1 := hc 1 (by omega) (by omega)
      have c2 := hc 2 (by omega) (by omega)
      rw [if_neg (by omega), if_neg (by omega), if_pos (by omega)]
      have e : vN (at8 xs 0 - 224) xs (3 - 1) = (at8 xs 0 - 224) * 4096 + (at8 xs 1 - 128) * 64 + (at8 xs 2 - 128) := by simp only [Nat.reduceSub, vN_succ, vN_zero, Nat.reduceAdd, Nat.zero_add]; omega
      rw [e]
      generalize hv : (at8 xs 0 - 224) * 4096 + (at8 xs 1 - 128) * 64 + (at8 xs 2 - 128) = v
      simp only [badV_iff]
      by_cases g : 2048 ≤ v ∧ ¬ (55296 ≤ v ∧ v < 57344)
      · rw [if_pos g, if_neg (by omega)]
      · rw [if_neg g, if_pos (by omega)]
    · have c1 := hc 1 (by omega) (by omega)
      have c2 := hc 2 (by omega) (by omega)
      have c3 := hc 3 (by omega) (by omega)
      rw [if_neg (by omega), if_neg (by omega), if_neg (by omega), if_pos (by omega)]
      have e : vN (at8 xs 0 - 240) xs (4 - 1) = (at8 xs 0 - 240) * 262144 + (at8 xs 1 - 128) * 4096 + (at8 xs 2 - 128) * 64 + (at8 xs 3 - 128) := by simp only [Nat.reduceSub, vN_succ, vN_zero, Nat.reduceAdd, Nat.zero_add]; omega
      rw [e]
      generalize hv : (at8 xs 0 - 240) * 262144 + (at8 xs 1 - 128) * 4096 + (at8 xs 2 - 128) * 64 + (at8 xs 3 - 128) = v
      simp only [badV_iff]
      by_cases g : 65536 ≤ v ∧ v ≤ 1114111
      · rw [if_pos g, if_neg (by omega)]
      · rw [if_neg g, if_pos (by omega)]
  have hn : 2 ≤ n := by rcases h.h with ⟨_, _, rfl, _⟩ | ⟨_, _, rfl, _⟩ | ⟨_, _, rfl, _⟩ <;> omega
  constructor
  · unfold sizeR brk
    rw [key]
    by_cases g : badV least (vN (at8 xs 0 - base) xs (n - 1)) = true
    · rw [if_pos g, if_pos rfl, if_pos g]
    · rw [if_neg g, if_neg g, if_neg (by simp only [Prod.mk.injEq]; omega)]
  · intro g
    rw [key, if_neg g]
theorem size_low {xs : List UInt8} (h : at8 xs 0 < 128) : sizeR xs = 1 ∧ ¬ brk xs := by
  have e := decL_low h
  have hb : ¬ brk xs := by unfold brk; rw [e]; simp only [Prod.mk.injEq]; omega
  unfold sizeR
  rw [if_neg hb, e]
  exact ⟨rfl, hb⟩
theorem size_other {xs : List UInt8} (h : (128 ≤ at8 xs 0 ∧ at8 xs 0 < 192) ∨ 248 ≤ at8 xs 0) : sizeR xs = 0 := by
  have : brk xs := by
    unfold brk
    rw [decL_eq, if_neg (by omega), if_neg (by omega), if_neg (by omega), if_neg (by omega)]
  unfold sizeR
  rw [if_pos this]

set_option maxRecDepth 100000 in
set_option maxHeartbeats 2000000 in
theorem size4_any (xs : List UInt8) (w : World) (h0 : 0 < xs.length) (hN : xs.length ≤ 100000) : Calls Tryd.prog 31 #[.string ⟨xs.toArray⟩] w fun e w' => e = .returned (.int .i64 (sizeR xs : Nat)) ∧ w = w' := by
  have hidx : ∀ k, (∀ h : k < (⟨xs.toArray⟩ : ByteArray).size, ((⟨xs.toArray⟩ : ByteArray)[k]'h) = xs.getD k 0) ∧ (∀ h : k < xs.length, xs[k]'h = xs.getD k 0) := fun k => ⟨fun h => index_list xs k h, fun h => by rw [List.getD_eq_getElem?_getD, List.getElem?_eq_getElem h]; rfl⟩
  obtain ⟨i0, i00⟩ := hidx 0
  have HIDX := Lib.hid hidx
  clear hidx
  have hb := at8_lt xs 0
  have hl0 : (0 : Int) < (xs.length : Int) := by omega
  by_cases hlow : at8 xs 0 < 128
  · have HR := Lib.hid (size_low hlow).1
    unfold at8 at hlow hb
    generalize xs.getD 0 0 = c0 at *
    generalize hcz : c0.toNat = z0 at *
    have hz' : (z0 : Int) < 128 := by omega
    go_enter Tryd.func31, Tryd.ntmps31
    go_wp2_with fail
    go_ret
    exact ⟨by rw [HR.out]; rfl, rfl⟩
  by_cases hoth : at8 xs 0 < 192 ∨ 248 ≤ at8 xs 0
  · have HR := Lib.hid (size_other (xs := xs) (by omega))
    unfold at8 at hlow hb hoth
    generalize xs.getD 0 0 = c0 at *
    generalize hcz : c0.toNat = z0 at *
    rcases hoth with h1 | h1
    all_goals
      have h1' : (z0 : Int) < 192 ∨ (248 : Int) ≤ (z0 : Int) := by omega
      have h2' : ¬ (z0 : Int) < 128 := by omega
      go_enter Tryd.func31, Tryd.ntmps31
      go_wp2_with fail
      go_ret
      exact ⟨by rw [HR.out]; rfl, rfl⟩
  · obtain ⟨n, least, base, hlead⟩ : ∃ n least base, LeadOf (at8 xs 0) n least base := by
      by_cases a : at8 xs 0 < 224
      · exact ⟨2, 128, 192, ⟨.inl ⟨by omega, by omega, rfl, rfl, rfl⟩⟩⟩
      · by_cases b : at8 xs 0 < 240
        · exact ⟨3, 2048, 224, ⟨.inr (.inl ⟨by omega, by omega, rfl, rfl, rfl⟩)⟩⟩
        · exact ⟨4, 65536, 240, ⟨.inr (.inr ⟨by omega, by omega, rfl, rfl, rfl⟩)⟩⟩
    have HS0 := Lib.hid (size_cont hlead)
    have HS1 := Lib.hid (fun hc => (size_full hlead hc).1)
    have HV := Lib.hid (vN_lt (at8 xs 0 - base) xs)
    have HV2 : Hid (∀ k, k ≤ 3 → (∀ j, 1 ≤ j → j ≤ k → at8 xs j < 192) → vN (at8 xs 0 - base) xs k < 16777216) := fun k hk h => by
      have h1 := vN_lt (at8 xs 0 - base) xs k h
      have h2 : 64 ^ k ≤ 262144 := Nat.le_trans (Nat.pow_le_pow_right (by omega) hk) (by decide)
      have h3 : at8 xs 0 - base + 1 ≤ 64 := by rcases hlead.h with ⟨a, b, rfl, rfl, rfl⟩ | ⟨a, b, rfl, rfl, rfl⟩ | ⟨a, b, rfl, rfl, rfl⟩ <;> omega
      have := Nat.mul_le_mul h3 h2
      omega
    clear HV
    have hl0n : ∀ k, xs.length ≤ k → at8 xs k = 0 := fun k hk => at8_out hk
    have HLN := Lib.hid hl0n
    clear hl0n hlow hoth
    obtain ⟨v0, hv0⟩ : ∃ v0 : Nat, Hid (at8 xs 0 - base = v0) := ⟨_, rfl⟩
    rw [hv0.out] at HS1 HV2
    have hb0 : at8 xs 0 = base + v0 := by have := hv0.out; rcases hlead.h with ⟨a, b, rfl, rfl, rfl⟩ | ⟨a, b, rfl, rfl, rfl⟩ | ⟨a, b, rfl, rfl, rfl⟩ <;> omega
    have hrange := hlead.h
    have HZ := Lib.hid hb0
    clear hb hb0 hlead hv0
    unfold at8 at hrange HZ
    generalize hcc : xs.getD 0 0 = c0 at i0 i00 hrange HZ
    clear hcc
    generalize hcz : c0.toNat = z0 at *
    rcases hrange with ⟨a, b, rfl, rfl, rfl⟩ | ⟨a, b, rfl, rfl, rfl⟩ | ⟨a, b, rfl, rfl, rfl⟩
    · have hv0b : (z0 : Int) < 224 := by omega
      have hv0z : (192 : Int) ≤ (z0 : Int) := by omega
      by_cases hlen : xs.length < 2
      · have HR := Lib.hid (HS0.out ⟨xs.length, by omega, by omega, fun h => by rw [HLN.out _ (Nat.le_refl _)] at h; omega⟩)
        have hlen' : (xs.length : Int) < 2 := by omega
        clear HS0 HS1 HV2 HLN
        go_enter Tryd.func31, Tryd.ntmps31
        go_wp2_with fail
        go_ret
        exact ⟨by rw [HR.out]; rfl, rfl⟩
      · have hlen' : ¬ (xs.length : Int) < 2 := by omega
        clear HLN
        go_enter Tryd.func31, Tryd.ntmps31
        go_wp2_with fail
        go_loop [6, 7] (fun v i => ∃ k : Nat, i = .int .i64 (k + 1 : Nat) ∧ k + 1 ≤ 2 ∧ v = .int .i64 (vN v0 xs k : Nat) ∧ Hid (∀ j, 1 ≤ j → j ≤ k → 128 ≤ at8 xs j ∧ at8 xs j < 192)) (fun _ i => 2 - (intOf i).toNat)
        case atStart => exact ⟨0, rfl, by omega, by rw [vN_zero, show (v0 : Int) = (z0 : Int) - 192 by have := HZ.out; omega], fun j h1 h2 => by omega⟩
        case round =>
          obtain ⟨k, rfl, hk, rfl, HC⟩ := hrel
          have hvb := HV2.out k (by omega) (fun j h1 h2 => (HC.out j h1 h2).2)
          have HS := Lib.hid (vN_succ v0 xs k)
          by_cases hlt : k + 1 < 2
          · have hi := HIDX.out (k + 1)
            have hd := at8_lt xs (k + 1)
            have hkl : ((k + 1 : Nat) : Int) < (xs.length : Int) := by omega
            have hki : ((k + 1 : Nat) : Int) < 2 := by omega
            by_cases hcont : 128 ≤ at8 xs (k + 1) ∧ at8 xs (k + 1) < 192
            · have HC2 : Hid (∀ j, 1 ≤ j → j ≤ k + 1 → 128 ≤ at8 xs j ∧ at8 xs j < 192) := fun j h1 h2 => by
                by_cases e : j = k + 1
                · rw [e]; exact hcont
                · exact HC.out j h1 (by omega)
              obtain ⟨q1, q2⟩ := hcont
              clear HS0 HS1 HV2 HC
              unfold at8 at q1 q2 hd HS
              generalize xs.getD (k + 1) 0 = c1 at *
              generalize vN v0 xs k = v at *
              generalize hz : c1.toNat = z at *
              have q1' : ¬ (z : Int) < 128 := by omega
              have q2' : ¬ (192 : Int) ≤ (z : Int) := by omega
              go_wp2_with fail
              go_round
              case rel => exact ⟨k + 1, by go_num, by omega, by rw [HS.out]; go_num, HC2⟩
              case measure => simp [intOf]; omega
            · have HR := Lib.hid (HS0.out ⟨k + 1, by omega, hlt, hcont⟩)
              clear HS0 HS1 HV2 HC HS
              unfold at8 at hcont hd
              generalize xs.getD (k + 1) 0 = c1 at *
              generalize vN v0 xs k = v at *
              generalize hz : c1.toNat = z at *
              by_cases q1 : z < 128
              · have q1' : (z : Int) < 128 := by omega
                go_wp2_with fail
                go_ret
                exact ⟨by rw [HR.out]; rfl, rfl⟩
              · have q1' : ¬ (z : Int) < 128 := by omega
                have q2' : (192 : Int) ≤ (z : Int) := by omega
                go_wp2_with fail
                go_ret
                exact ⟨by rw [HR.out]; rfl, rfl⟩
          · obtain rfl : k = 1 := by omega
            have HR := Lib.hid (HS1.out (fun j h1 h2 => HC.out j h1 (by omega)))
            clear HS0 HS1 HV2 HC HS
            rw [show 2 - 1 = 1 from rfl] at HR
            generalize vN v0 xs 1 = v at *
            by_cases hbad : badV 128 v = true
            · rw [if_pos hbad] at HR
              rw [badV_iff] at hbad
              rcases hbad with g | g | ⟨g, g2⟩
              · have g' : (v : Int) < 128 := by omega
                go_wp2_with fail
                go_ret
                exact ⟨by rw [HR.out]; rfl, rfl⟩
              · have g' : (1114111 : Int) < (v : Int) := by omega
                have g2' : ¬ (v : Int) < 128 := by omega
                go_wp2_with fail
                go_ret
                exact ⟨by rw [HR.out]; rfl, rfl⟩
              · by_cases g3 : v < 128
                · have g' : (v : Int) < 128 := by omega
                  go_wp2_with fail
                  go_ret
                  exact ⟨by rw [HR.out]; rfl, rfl⟩
                · have g' : ¬ (v : Int) < 128 := by omega
                  have g1' : ¬ (1114111 : Int) < (v : Int) := by omega
                  have g2' : (55296 : Int) ≤ (v : Int) := by omega
                  have g4' : (v : Int) < 57344 := by omega
                  go_wp2_with fail
                  go_ret
                  exact ⟨by rw [HR.out]; rfl, rfl⟩
            · rw [if_neg hbad] at HR
              rw [badV_iff] at hbad
              have g' : ¬ (v : Int) < 128 := by omega
              have g1' : ¬ (1114111 : Int) < (v : Int) := by omega
              by_cases g2 : 55296 ≤ v
              · have g2' : (55296 : Int) ≤ (v : Int) := by omega
                have g4' : ¬ (v : Int) < 57344 := by omega
                go_wp2_with fail
                go_ret
                exact ⟨by rw [HR.out]; rfl, rfl⟩
              · have g2' : ¬ (55296 : Int) ≤ (v : Int) := by omega
                go_wp2_with fail
                go_ret
                exact ⟨by rw [HR.out]; rfl, rfl⟩
    · have hv0b : (z0 : Int) < 240 := by omega
      have hv0z : (224 : Int) ≤ (z0 : Int) := by omega
      by_cases hlen : xs.length < 3
      · have HR := Lib.hid (HS0.out ⟨xs.length, by omega, by omega, fun h => by rw [HLN.out _ (Nat.le_refl _)] at h; omega⟩)
        have hlen' : (xs.length : Int) < 3 := by omega
        clear HS0 HS1 HV2 HLN
        go_enter Tryd.func31, Tryd.ntmps31
        go_wp2_with fail
        go_ret
        exact ⟨by rw [HR.out]; rfl, rfl⟩
      · have hlen' : ¬ (xs.length : Int) < 3 := by omega
        clear HLN
        go_enter Tryd.func31, Tryd.ntmps31
        go_wp2_with fail
        go_loop [6, 7] (fun v i => ∃ k : Nat, i = .int .i64 (k + 1 : Nat) ∧ k + 1 ≤ 3 ∧ v = .int .i64 (vN v0 xs k : Nat) ∧ Hid (∀ j, 1 ≤ j → j ≤ k → 128 ≤ at8 xs j ∧ at8 xs j < 192)) (fun _ i => 3 - (intOf i).toNat)
        case atStart => exact ⟨0, rfl, by omega, by rw [vN_zero, show (v0 : Int) = (z0 : Int) - 224 by have := HZ.out; omega], fun j h1 h2 => by omega⟩
        case round =>
          obtain ⟨k, rfl, hk, rfl, HC⟩ := hrel
          have hvb := HV2.out k (by omega) (fun j h1 h2 => (HC.out j h1 h2).2)
          have HS := Lib.hid (vN_succ v0 xs k)
          by_cases hlt : k + 1 < 3
          · have hi := HIDX.out (k + 1)
            have hd := at8_lt xs (k + 1)
            have hkl : ((k + 1 : Nat) : Int) < (xs.length : Int) := by omega
            have hki : ((k + 1 : Nat) : Int) < 3 := by omega
            by_cases hcont : 128 ≤ at8 xs (k + 1) ∧ at8 xs (k + 1) < 192
            · have HC2 : Hid (∀ j, 1 ≤ j → j ≤ k + 1 → 128 ≤ at8 xs j ∧ at8 xs j < 192) := fun j h1 h2 => by
                by_cases e : j = k + 1
                · rw [e]; exact hcont
                · exact HC.out j h1 (by omega)
              obtain ⟨q1, q2⟩ := hcont
              clear HS0 HS1 HV2 HC
              unfold at8 at q1 q2 hd HS
              generalize xs.getD (k + 1) 0 = c1 at *
              generalize vN v0 xs k = v at *
              generalize hz : c1.toNat = z at *
              have q1' : ¬ (z : Int) < 128 := by omega
              have q2' : ¬ (192 : Int) ≤ (z : Int) := by omega
              go_wp2_with fail
              go_round
              case rel => exact ⟨k + 1, by go_num, by omega, by rw [HS.out]; go_num, HC2⟩
              case measure => simp [intOf]; omega
            · have HR := Lib.hid (HS0.out ⟨k + 1, by omega, hlt, hcont⟩)
              clear HS0 HS1 HV2 HC HS
              unfold at8 at hcont hd
              generalize xs.getD (k + 1) 0 = c1 at *
              generalize vN v0 xs k = v at *
              generalize hz : c1.toNat = z at *
              by_cases q1 : z < 128
              · have q1' : (z : Int) < 128 := by omega
                go_wp2_with fail
                go_ret
                exact ⟨by rw [HR.out]; rfl, rfl⟩
              · have q1' : ¬ (z : Int) < 128 := by omega
                have q2' : (192 : Int) ≤ (z : Int) := by omega
                go_wp2_with fail
                go_ret
                exact ⟨by rw [HR.out]; rfl, rfl⟩
          · obtain rfl : k = 2 := by omega
            have HR := Lib.hid (HS1.out (fun j h1 h2 => HC.out j h1 (by omega)))
            clear HS0 HS1 HV2 HC HS
            rw [show 3 - 1 = 2 from rfl] at HR
            generalize vN v0 xs 2 = v at *
            by_cases hbad : badV 2048 v = true
            · rw [if_pos hbad] at HR
              rw [badV_iff] at hbad
              rcases hbad with g | g | ⟨g, g2⟩
              · have g' : (v : Int) < 2048 := by omega
                go_wp2_with fail
                go_ret
                exact ⟨by rw [HR.out]; rfl, rfl⟩
              · have g' : (1114111 : Int) < (v : Int) := by omega
                have g2' : ¬ (v : Int) < 2048 := by omega
                go_wp2_with fail
                go_ret
                exact ⟨by rw [HR.out]; rfl, rfl⟩
              · by_cases g3 : v < 2048
                · have g' : (v : Int) < 2048 := by omega
                  go_wp2_with fail
                  go_ret
                  exact ⟨by rw [HR.out]; rfl, rfl⟩
                · have g' : ¬ (v : Int) < 2048 := by omega
                  have g1' : ¬ (1114111 : Int) < (v : Int) := by omega
                  have g2' : (55296 : Int) ≤ (v : Int) := by omega
                  have g4' : (v : Int) < 57344 := by omega
                  go_wp2_with fail
                  go_ret
                  exact ⟨by rw [HR.out]; rfl, rfl⟩
            · rw [if_neg hbad] at HR
              rw [badV_iff] at hbad
              have g' : ¬ (v : Int) < 2048 := by omega
              have g1' : ¬ (1114111 : Int) < (v : Int) := by omega
              by_cases g2 : 55296 ≤ v
              · have g2' : (55296 : Int) ≤ (v : Int) := by omega
                have g4' : ¬ (v : Int) < 57344 := by omega
                go_wp2_with fail
                go_ret
                exact ⟨by rw [HR.out]; rfl, rfl⟩
              · have g2' : ¬ (55296 : Int) ≤ (v : Int) := by omega
                go_wp2_with fail
                go_ret
                exact ⟨by rw [HR.out]; rfl, rfl⟩
    · have hv0b : (z0 : Int) < 248 := by omega
      have hv0z : (240 : Int) ≤ (z0 : Int) := by omega
      by_cases hlen : xs.length < 4
      · have HR := Lib.hid (HS0.out ⟨xs.length, by omega, by omega, fun h => by rw [HLN.out _ (Nat.le_refl _)] at h; omega⟩)
        have hlen' : (xs.length : Int) < 4 := by omega
        clear HS0 HS1 HV2 HLN
        go_enter Tryd.func31, Tryd.ntmps31
        go_wp2_with fail
        go_ret
        exact ⟨by rw [HR.out]; rfl, rfl⟩
      · have hlen' : ¬ (xs.length : Int) < 4 := by omega
        clear HLN
        go_enter Tryd.func31, Tryd.ntmps31
        go_wp2_with fail
        go_loop [6, 7] (fun v i => ∃ k : Nat, i = .int .i64 (k + 1 : Nat) ∧ k + 1 ≤ 4 ∧ v = .int .i64 (vN v0 xs k : Nat) ∧ Hid (∀ j, 1 ≤ j → j ≤ k → 128 ≤ at8 xs j ∧ at8 xs j < 192)) (fun _ i => 4 - (intOf i).toNat)
        case atStart => exact ⟨0, rfl, by omega, by rw [vN_zero, show (v0 : Int) = (z0 : Int) - 240 by have := HZ.out; omega], fun j h1 h2 => by omega⟩
        case round =>
          obtain ⟨k, rfl, hk, rfl, HC⟩ := hrel
          have hvb := HV2.out k (by omega) (fun j h1 h2 => (HC.out j h1 h2).2)
          have HS := Lib.hid (vN_succ v0 xs k)
          by_cases hlt : k + 1 < 4
          · have hi := HIDX.out (k + 1)
            have hd := at8_lt xs (k + 1)
            have hkl : ((k + 1 : Nat) : Int) < (xs.length : Int) := by omega
            have hki : ((k + 1 : Nat) : Int) < 4 := by omega
            by_cases hcont : 128 ≤ at8 xs (k + 1) ∧ at8 xs (k + 1) < 192
            · have HC2 : Hid (∀ j, 1 ≤ j → j ≤ k + 1 → 128 ≤ at8 xs j ∧ at8 xs j < 192) := fun j h1 h2 => by
                by_cases e : j = k + 1
                · rw [e]; exact hcont
                · exact HC.out j h1 (by omega)
              obtain ⟨q1, q2⟩ := hcont
              clear HS0 HS1 HV2 HC
              unfold at8 at q1 q2 hd HS
              generalize xs.getD (k + 1) 0 = c1 at *
              generalize vN v0 xs k = v at *
              generalize hz : c1.toNat = z at *
              have q1' : ¬ (z : Int) < 128 := by omega
              have q2' : ¬ (192 : Int) ≤ (z : Int) := by omega
              go_wp2_with fail
              go_round
              case rel => exact ⟨k + 1, by go_num, by omega, by rw [HS.out]; go_num, HC2⟩
              case measure => simp [intOf]; omega
            · have HR := Lib.hid (HS0.out ⟨k + 1, by omega, hlt, hcont⟩)
              clear HS0 HS1 HV2 HC HS
              unfold at8 at hcont hd
              generalize xs.getD (k + 1) 0 = c1 at *
              generalize vN v0 xs k = v at *
              generalize hz : c1.toNat = z at *
              by_cases q1 : z < 128
              · have q1' : (z : Int) < 128 := by omega
                go_wp2_with fail
                go_ret
                exact ⟨by rw [HR.out]; rfl, rfl⟩
              · have q1' : ¬ (z : Int) < 128 := by omega
                have q2' : (192 : Int) ≤ (z : Int) := by omega
                go_wp2_with fail
                go_ret
                exact ⟨by rw [HR.out]; rfl, rfl⟩
          · obtain rfl : k = 3 := by omega
            have HR := Lib.hid (HS1.out (fun j h1 h2 => HC.out j h1 (by omega)))
            clear HS0 HS1 HV2 HC HS
            rw [show 4 - 1 = 3 from rfl] at HR
            generalize vN v0 xs 3 = v at *
            by_cases hbad : badV 65536 v = true
            · rw [if_pos hbad] at HR
              rw [badV_iff] at hbad
              rcases hbad with g | g | ⟨g, g2⟩
              · have g' : (v : Int) < 65536 := by omega
                go_wp2_with fail
                go_ret
                exact ⟨by rw [HR.out]; rfl, rfl⟩
              · have g' : (1114111 : Int) < (v : Int) := by omega
                have g2' : ¬ (v : Int) < 65536 := by omega
                go_wp2_with fail
                go_ret
                exact ⟨by rw [HR.out]; rfl, rfl⟩
              · by_cases g3 : v < 65536
                · have g' : (v : Int) < 65536 := by omega
                  go_wp2_with fail
                  go_ret
                  exact ⟨by rw [HR.out]; rfl, rfl⟩
                · have g' : ¬ (v : Int) < 65536 := by omega
                  have g1' : ¬ (1114111 : Int) < (v : Int) := by omega
                  have g2' : (55296 : Int) ≤ (v : Int) := by omega
                  have g4' : (v : Int) < 57344 := by omega
                  go_wp2_with fail
                  go_ret
                  exact ⟨by rw [HR.out]; rfl, rfl⟩
            · rw [if_neg hbad] at HR
              rw [badV_iff] at hbad
              have g' : ¬ (v : Int) < 65536 := by omega
              have g1' : ¬ (1114111 : Int) < (v : Int) := by omega
              by_cases g2 : 55296 ≤ v
              · have g2' : (55296 : Int) ≤ (v : Int) := by omega
                have g4' : ¬ (v : Int) < 57344 := by omega
                go_wp2_with fail
                go_ret
                exact ⟨by rw [HR.out]; rfl, rfl⟩
              · have g2' : ¬ (55296 : Int) ≤ (v : Int) := by omega
                go_wp2_with fail
                go_ret
                exact ⟨by rw [HR.out]; rfl, rfl⟩
end Go.Proofs.YtefipigdkdopcaaDoor
