/- The three laws of layer 3, walked: each returns true and writes nothing that was there. No condition. -/
import Derived.Test.YthkabhejfkekjaaCrcRef
namespace Go.Proofs.Ythkabhejfkekjaa
open Go.RowKit

set_option maxHeartbeats 1000000 in
theorem crcsums_law (kind : Int) (xs : List UInt8) (A : Option Addr) (n c : Nat) (w : World) (hx : RdB w A n c xs) :
    Calls Try.prog 3 #[.slice A n c, .int .i64 kind] w fun e w' => e = .returned (.bool true) ∧ Below w.heap.size w w' := by
  have hm := hx.cm
  have hnc := hx.nc
  unfold maxLen at hm
  have hB := Below.refl w.heap.size w
  by_cases hlen : 2000 < n
  · go_enter Try.func3, Try.ntmps3
    go_wp2_with (go_at_call 19; refine (awake03_any _).mono ?_; rintro e w2 ⟨rfl, hb⟩; replace hB := below_trans hB hb; clear hb)
    go_ret
    exact ⟨rfl, hB⟩
  · have K1 := fun W h => Lib.hid (short_any xs A n c W h)
    have K2 := fun W h => Lib.hid (long_any xs A n c W h)
    have K3 := fun k W h => Lib.hid (crcof_any k xs A n c W h)
    have K4 := fun k W h => Lib.hid (refof_any k xs A n c W h)
    have s1 := crcS_lt xs
    have s2 := crcL_lt xs
    have o1 := K4 1
    have o2 := K4 2
    rw [show crcOf 1 xs = crcS xs from rfl] at o1
    rw [show crcOf 2 xs = crcL xs from rfl] at o2
    have k3 := K3 kind
    have k4 := K4 kind
    clear K3 K4
    have hk : (kind = 1 ∧ (kind == 1) = true ∧ True ∧ crcOf kind xs = crcS xs ∧ crcW kind = 2) ∨ (kind = 2 ∧ (kind == 1) = false ∧ (kind == 2) = true ∧ crcOf kind xs = crcL xs ∧ crcW kind = 4) ∨ (kind = kind ∧ (kind == 1) = false ∧ (kind == 2) = false ∧ crcOf kind xs = 0 ∧ crcW kind = 0) := by
      by_cases h1 : kind = 1
      · subst h1; exact .inl ⟨rfl, rfl, trivial, rfl, rfl⟩
      · by_cases h2 : kind = 2
        · subst h2; exact .inr (.inl ⟨rfl, rfl, rfl, rfl, rfl⟩)
        · exact .inr (.inr ⟨rfl, by simp [h1], by simp [h2], by rw [crcOf, if_neg h1, if_neg h2], by rw [crcW, if_neg h1, if_neg h2]⟩)
    rcases hk with ⟨rfl, hk, hk2, e3, e4⟩ | ⟨rfl, hk, hk2, e3, e4⟩ | ⟨-, hk, hk2, e3, e4⟩
    all_goals
      rw [e3] at k3 k4
      clear e3
      generalize crcS xs = r1 at *
      generalize crcL xs = r2 at *
      go_enter Try.func3, Try.ntmps3
      go_wp2_with (first
        | (go_at_call 19; refine (awake03_any _).mono ?_; rintro e w2 ⟨rfl, hb⟩; replace hB := below_trans hB hb; replace hx := hx.below hb; clear hb)
        | (go_at_call 20; refine (K1 _ hx).out.mono ?_; rintro e w2 ⟨rfl, hb⟩; replace hx := hx.below hb; replace hB := below_trans hB hb; clear hb)
        | (go_at_call 22; refine (K2 _ hx).out.mono ?_; rintro e w2 ⟨rfl, hb⟩; replace hx := hx.below hb; replace hB := below_trans hB hb; clear hb)
        | (go_at_call 23; refine (k3 _ hx).out.mono ?_; rintro e w2 ⟨rfl, hb⟩; replace hx := hx.below hb; replace hB := below_trans hB hb; clear hb)
        | (go_at_call 21; (first | (with_reducible refine (o1 _ hx).out.mono ?_) | (with_reducible refine (o2 _ hx).out.mono ?_) | refine (k4 _ hx).out.mono ?_); rintro e w2 ⟨rfl, rfl⟩)
        | (go_at_call 24; refine (width3_any _ _).mono ?_; rintro e w2 ⟨rfl, rfl⟩))
      go_ret
      exact ⟨rfl, hB⟩
end Go.Proofs.Ythkabhejfkekjaa
