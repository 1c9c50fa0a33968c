/- Contract of frame.All: the frames of any bytes. No condition but the length's bound. -/
import Derived.Test.YthkabhejfkekjaaFrame7
import Derived.Test.YthkabhejfkekjaaFrameSame
import Derived.Deep.DeepCutAuto
namespace Go.Proofs.Ythkabhejfkekjaa
open Go.RowKit

/-- From place q on the bytes bear the frames of a row, one behind the other, up to place p. -/
def PathF (xs : List UInt8) : Nat → List Fr → Nat → Prop
  | q, [], p => q = p
  | q, f :: l, p => (∃ o t : Nat, f.2.2.1 = o ∧ f.2.2.2.1 = t ∧ fgetF (xs.drop q) = (f.1, f.2.1, o, t, f.2.2.2.2, 0)) ∧ PathF xs (q + (15 + f.2.2.2.2.length)) l p
theorem PathF.snoc {xs : List UInt8} : ∀ {q : Nat} {l : List Fr} {p : Nat} {nu id o t : Nat} {d : List UInt8}, PathF xs q l p → fgetF (xs.drop p) = (nu, id, o, t, d, 0) → PathF xs q (l ++ [(nu, id, (o : Int), (t : Int), d)]) (p + (15 + d.length))
  | q, [], p, nu, id, o, t, d, h, hg => by
    obtain rfl : q = p := h
    exact ⟨⟨o, t, rfl, rfl, hg⟩, rfl⟩
  | q, f :: l, p, nu, id, o, t, d, h, hg => ⟨h.1, PathF.snoc h.2 hg⟩
theorem PathF.le {xs : List UInt8} : ∀ {q : Nat} {l : List Fr} {p : Nat}, PathF xs q l p → q + 15 * l.length ≤ p
  | q, [], p, h => by obtain rfl : q = p := h; simp
  | q, f :: l, p, h => by
    have := PathF.le h.2
    rw [List.length_cons]; omega

theorem info_frame : (Try.prog.info? 66).map (fun i => (i.zero, i.size, i.bytes)) = some (some (.agg #[.int .u64 0, .int .u64 0, .int .i64 0, .int .i64 0, .string ⟨#[]⟩]), 5, 48) := by kernel_rfl
theorem five_one {a b : Int} {k l m n : IntKind} {c d : Int} {s : ByteArray} : ∀ u ∈ (#[.int k a, .int l b, .int m c, .int n d, .string s] : Array Value), u.oneCell' = true := by
  intro u hu
  simp only [List.mem_toArray, List.mem_cons, List.not_mem_nil, or_false] at hu
  rcases hu with rfl | rfl | rfl | rfl | rfl <;> rfl

set_option maxRecDepth 100000 in
set_option maxHeartbeats 4000000 in
theorem fall_any (xs : List UInt8) (A : Option Addr) (n c : Nat) (w : World) (hx : RdB w A n c xs) (hN : n ≤ 2000) :
    Calls Try.prog 58 #[.slice A n c] w fun e w' => ∃ (L : List Fr) (p : Nat) (v : Value), e = .returned (.tuple #[v, .int .i64 p]) ∧ w'.ownsRow w.heap.size 66 5 v L.length (frCs L) ∧ PathF xs 0 L p ∧ p ≤ n ∧ (fgetF (xs.drop p)).2.2.2.2.2 ≠ 0 ∧ Below w.heap.size w w' := by
  have hxl := hx.blen
  have hcm := hx.cm
  have hnc := hx.nc
  unfold maxLen at hcm
  have hB := Below.refl w.heap.size w
  go_enter Try.func58, Try.ntmps58
  go_wp2_with fail
  go_loopw [4, 5] (fun v i wr => ∃ (L : List Fr) (p : Nat), i = .int .i64 p ∧ wr.ownsRow w.heap.size 66 5 v L.length (frCs L) ∧ PathF xs 0 L p ∧ p ≤ n ∧ Below w.heap.size w wr) (fun _ i _ => n - (intOf i).toNat)
  case atStart => exact ⟨[], 0, rfl, World.ownsRow_nil _ _ _ _, rfl, by omega, hB⟩
  case round =>
    obtain ⟨L, p, rfl, ho, hp, hpn, hBr⟩ := hrel
    have hxr := hx.below hBr
    have hd := hxr.bdrop p hpn
    obtain ⟨nu, id, o, t, d, er, hg⟩ : ∃ nu id o t d er, fgetF (xs.drop p) = (nu, id, o, t, d, er) := ⟨_, _, _, _, _, _, rfl⟩
    have hpl := hp.le
    have KG := fun A' c' W hh => Lib.hid (fget32_any nu id o t d er (xs.drop p) A' (n - p) c' W hh (by omega) hg)
    have hfin : er ≠ 0 → Hid ((fgetF (xs.drop p)).2.2.2.2.2 ≠ 0) := fun h => by show _; rw [hg]; exact h
    have hpi : (p : Int) ≤ n := by omega
    by_cases hcp : c = p
    · have hnp : n - p = 0 := by omega
      have hde : xs.drop p = [] := List.drop_eq_nil_of_le (by omega)
      have hge : fgetF [] = (0, 0, 0, 0, [], 5) := rfl
      rw [hde, hge] at hg
      simp only [Prod.mk.injEq] at hg
      obtain ⟨rfl, rfl, rfl, rfl, rfl, rfl⟩ := hg
      have HF := hfin (by decide)
      rw [if_neg (by decide)] at KG
      rw [if_pos hcp, hnp, show c - p = 0 by omega] at hd
      rw [hnp] at KG
      clear hfin hde hge hnp
      cases A with
      | none =>
        obtain ⟨rfl, rfl⟩ := hx.nil rfl
        obtain rfl : p = 0 := hcp.symm
        go_wp2_with fail
        refine (KG _ _ _ hd).out.mono ?_
        rintro e w1 ⟨rfl, hb⟩
        have ho2 := own_below (own_below ho hb) (one_cells w1 #[.int .u64 0, .int .u64 0, .int .i64 0, .int .i64 0, .string ⟨#[]⟩] 66).1
        have hB2 := below_trans (below_trans hBr hb) (one_cells w1 #[.int .u64 0, .int .u64 0, .int .i64 0, .int .i64 0, .string ⟨#[]⟩] 66).1
        go_wp2_with fail
        go_ret2
        exact ⟨L, 0, _, rfl, ho2, hp, hpn, HF.out, hB2⟩
      | some ad =>
        have hnp : n = p := by omega
        subst hcp
        subst hnp
        go_wp2_with fail
        refine (KG _ _ _ hd).out.mono ?_
        rintro e w1 ⟨rfl, hb⟩
        have ho2 := own_below (own_below ho hb) (one_cells w1 #[.int .u64 0, .int .u64 0, .int .i64 0, .int .i64 0, .string ⟨#[]⟩] 66).1
        have hB2 := below_trans (below_trans hBr hb) (one_cells w1 #[.int .u64 0, .int .u64 0, .int .i64 0, .int .i64 0, .string ⟨#[]⟩] 66).1
        go_wp2_with fail
        go_ret2
        exact ⟨L, _, _, rfl, ho2, hp, hpn, HF.out, hB2⟩
    · obtain ⟨ad, rfl⟩ : ∃ ad, A = some ad := by
        cases A with
        | none => exact absurd (hx.nil rfl).2 (by omega)
        | some ad => exact ⟨ad, rfl⟩
      rw [if_neg hcp, Option.map_some] at hd
      obtain ⟨hb1, hca⟩ : (∀ W : World, Below W.heap.size W (W.alloc (.cells (frmCs nu id (o : Int) (t : Int) d) 66))) ∧ (∀ W : World, ∀ o' v', (frmCs nu id (o : Int) (t : Int) d)[o']? = some v' → (W.alloc (.cells (frmCs nu id (o : Int) (t : Int) d) 66)).cell? ⟨W.heap.size, o', none⟩ = some v') := ⟨fun W => (one_cells W _ _).1, fun W => (one_cells W _ _).2⟩
      by_cases her : er = 0
      · obtain rfl := her
        obtain ⟨may, hle⟩ := fget_may (xs.drop p) nu id o t d hg
        rw [List.length_drop, hxl] at hle
        rw [if_pos rfl] at KG
        have hsn := hp.snoc hg
        clear hfin hg may
        obtain ⟨z, hz⟩ : ∃ z, z = 15 + d.length := ⟨_, rfl⟩
        rw [show 15 + (d.length : Int) = (z : Int) by omega] at KG
        rw [← hz] at hle hsn
        have hz1 : 0 < z := by omega
        clear hz
        go_wp2_with fail
        refine (KG _ _ _ hd).out.mono ?_
        rintro e w1 ⟨rfl, hb⟩
        have b0 := hca w1 0 (.int .u64 (nu : Int)) rfl
        have b1 := hca w1 1 (.int .u64 (id : Int)) rfl
        have b2 := hca w1 2 (.int .i64 (o : Int)) rfl
        have b3 := hca w1 3 (.int .i64 (t : Int)) rfl
        have b4 := hca w1 4 (.string ⟨d.toArray⟩) rfl
        have ho2 := own_below (own_below ho hb) (hb1 w1)
        have hB2 := below_trans (below_trans hBr hb) (hb1 w1)
        clear KG hd hb ho hca
        go_upto_region 6 with fail
        generalize w1.alloc (.cells (frmCs nu id (o : Int) (t : Int) d) 66) = w2 at *
        go_wp2_with (first
          | (at_builtin; refine wpl_append1 rfl (.tmp 21) (.tmp 23) 82 rfl w.heap.size 66 _ 5 48 Try.underlying82 info_frame rfl (by decide) _ L.length _ rfl ho2 (frmCs nu id (o : Int) (t : Int) d) (0, 0) 1 rfl rfl five_one (by unfold maxLen; omega) (by omega) hB2.size ?_; intro v3 w3 ho3 hg3; have hB3 := below_own hB2 ho2 hg3; clear hg3))
        go_roundw
        case rel =>
          refine ⟨L ++ [(nu, id, (o : Int), (t : Int), d)], p + z, by go_num, ?_, hsn, by omega, hB3⟩
          rw [List.length_append, frCs_append]
          exact ho3
        case measure => simp [intOf]; omega
      · have HF := hfin her
        rw [if_neg her] at KG
        have he1 : ((er : Int) != 0) = true := by rw [bne_iff_ne]; omega
        clear hfin hg hca
        go_wp2_with fail
        refine (KG _ _ _ hd).out.mono ?_
        rintro e w1 ⟨rfl, hb⟩
        have ho2 := own_below (own_below ho hb) (hb1 w1)
        have hB2 := below_trans (below_trans hBr hb) (hb1 w1)
        clear KG hd hb ho
        go_wp2_with fail
        go_ret2
        exact ⟨L, p, _, rfl, ho2, hp, hpn, HF.out, hB2⟩
end Go.Proofs.Ythkabhejfkekjaa
