/- Plain facts: bytes as digits, and back. No condition. -/
import Derived.Test.YtefipigdkdopcaaRep3
namespace Go.Proofs.Ytefipigdkdopcaa
open Go.RowKit

theorem hexI_hx : ∀ d : Nat, d < 16 → hexI (hx16 d) = d := by decide +kernel
theorem hx_hexI_nat : ∀ n : Nat, n < 256 → 0 ≤ hexI (UInt8.ofNat n) → hx16 (hexI (UInt8.ofNat n)).toNat = UInt8.ofNat n := by decide +kernel
theorem hx_hexI (a : UInt8) (h : 0 ≤ hexI a) : hx16 (hexI a).toNat = a := by
  have e : UInt8.ofNat a.toNat = a := by simp
  have := hx_hexI_nat a.toNat a.toNat_lt (by rw [e]; exact h)
  rwa [e] at this
theorem unhex_hex : ∀ xs : List UInt8, unhexF (hexS xs) = some xs
  | [] => rfl
  | c :: r => by
    have hc := c.toNat_lt
    have h1 := hexI_hx (c.toNat / 16) (by omega)
    have h2 := hexI_hx (c.toNat % 16) (by omega)
    rw [hexS_cons, unhexF, h1, h2, if_neg (by omega), unhex_hex r]
    have e : (16 * ((c.toNat / 16 : Nat) : Int) + ((c.toNat % 16 : Nat) : Int)).toNat = c.toNat := by omega
    rw [e]
    simp
theorem hex_unhex : ∀ (s l : List UInt8), unhexF s = some l → hexS l = s
  | [], l, h => by
    unfold unhexF at h
    cases h
    rfl
  | [_], l, h => by
    unfold unhexF at h
    cases h
  | a :: b :: r, l, h => by
    unfold unhexF at h
    by_cases hb : hexI a < 0 ∨ hexI b < 0
    · rw [if_pos hb] at h; cases h
    · rw [if_neg hb] at h
      cases hr : unhexF r with
      | none => rw [hr] at h; cases h
      | some m =>
        rw [hr] at h
        simp only [Option.map_some, Option.some.injEq] at h
        subst h
        have ih := hex_unhex r m hr
        have ha1 := hexI_le a
        have hb1 := hexI_le b
        have hy : (UInt8.ofNat (16 * hexI a + hexI b).toNat).toNat = (16 * hexI a + hexI b).toNat := by
          rw [UInt8.toNat_ofNat']
          exact Nat.mod_eq_of_lt (by omega)
        rw [hexS_cons, hy, ih, show (16 * hexI a + hexI b).toNat / 16 = (hexI a).toNat by omega, show (16 * hexI a + hexI b).toNat % 16 = (hexI b).toNat by omega, hx_hexI a (by omega), hx_hexI b (by omega)]
end Go.Proofs.Ytefipigdkdopcaa
