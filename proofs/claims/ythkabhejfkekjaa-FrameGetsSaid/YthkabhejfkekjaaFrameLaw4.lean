/- The law FrameGets of layer 32 (frame), walked. -/
import Derived.Test.YthkabhejfkekjaaFrame9
import Derived.Test.YthkabhejfkekjaaFrame6
import Derived.Test.YthkabhejfkekjaaFrame8
import Derived.Test.YthkabhejfkekjaaFrameAll
import Derived.Deep.QuietTactic
import Derived.BigQuiet
import Derived.Deep.DeepCutAuto
namespace Go.Proofs.Ythkabhejfkekjaa
open Go.RowKit

/-- What a slice's tail reads as, whatever it is. -/
theorem Rd.tail {w : World} {A : Option Addr} {n c : Nat} {xs : List UInt8} (h : RdB w A n c xs) (q : Nat) (hq : q ≤ n) :
    (c = q ∧ n = q ∧ xs.drop q = [] ∧ RdB w A 0 0 []) ∨ (c ≠ q ∧ ∃ ad, A = some ad ∧ RdB w (some (ad.add q)) (n - q) (c - q) (xs.drop q)) := by
  have hnc := h.nc
  have hl := h.blen
  by_cases hc : c = q
  · left
    have hn : n = q := by omega
    refine ⟨hc, hn, List.drop_eq_nil_of_le (by omega), ?_⟩
    refine ⟨rfl, Nat.le_refl _, by decide, fun _ => ⟨rfl, rfl⟩, fun ad e j u hu => ?_⟩
    simp [bs] at hu
  · right
    refine ⟨hc, ?_⟩
    have := h.bdrop q hq
    cases A with
    | none => exact absurd (h.nil rfl).2 (by omega)
    | some ad =>
      rw [if_neg hc, Option.map_some] at this
      exact ⟨ad, rfl, this⟩

set_option maxRecDepth 100000 in
set_option maxHeartbeats 4000000 in
theorem framegets_law (xs : List UInt8) (A : Option Addr) (n c : Nat) (w : World) (hx : RdB w A n c xs) :
    Calls Try.prog 14 #[.slice A n c] w fun e w' => e = .returned (.bool true) ∧ Below w.heap.size w w' := by
  have hB := Below.refl w.heap.size w
  have hxl := hx.blen
  have hcm := hx.cm
  have hnc := hx.nc
  unfold maxLen at hcm
  by_cases hlen : 2000 < n
  · go_enter Try.func14, Try.ntmps14
    go_wp2_with (first
      | (go_at_call 48; refine (awake32_any _).mono ?_; rintro e w1 ⟨rfl, hb⟩))
    go_ret
    exact ⟨rfl, hb⟩
  have hn2 : n ≤ 2000 := by omega
  clear hlen
  obtain ⟨nu, id, o, t, d, er, hg⟩ : ∃ nu id o t d er, fgetF xs = (nu, id, o, t, d, er) := ⟨_, _, _, _, _, _, rfl⟩
  have KG := Lib.hid (fget32_any nu id o t d er xs A n c w hx (by omega) hg)
  obtain ⟨sz, hsz⟩ : ∃ sz : Int, sz = if er = 0 then 15 + (d.length : Int) else 0 := ⟨_, rfl⟩
  rw [← hsz] at KG
  have HZ := Lib.hid hsz
  clear hsz
  have KR := fun W => Lib.hid (refget32_any nu id o t d er xs W (by omega) hg)
  have HP : Hid (er = 0 → ∀ W, Calls Try.prog 54 #[frm nu id o t d] W fun e w' => e = .returned (.string ⟨(frmP nu id o t d).toArray⟩) ∧ Below W.heap.size W w') := by
    intro h W
    subst h
    exact refput32_any nu id o t d W (fget_may xs nu id o t d hg).1
  have hfl := frmP_length nu id o t d
  clear hg
  go_enter Try.func14, Try.ntmps14
  go_wp2_with fail
  refine KG.out.mono ?_
  rintro e w1 ⟨rfl, hb⟩
  replace hB := below_trans hB hb
  replace hx := hx.below hb
  clear hb KG
  obtain ⟨hb1, hca⟩ := one_cells w1 (frmCs nu id (o : Int) (t : Int) d) 66
  have a0 := hca 0 (.int .u64 (nu : Int)) rfl
  have a1 := hca 1 (.int .u64 (id : Int)) rfl
  have a2 := hca 2 (.int .i64 (o : Int)) rfl
  have a3 := hca 3 (.int .i64 (t : Int)) rfl
  have a4 := hca 4 (.string ⟨d.toArray⟩) rfl
  replace hB := below_trans hB hb1
  replace hx := hx.below hb1
  clear hb1 hca
  go_upto_region 4 with fail
  generalize w1.alloc (.cells (frmCs nu id (o : Int) (t : Int) d) 66) = w2 at *
  have hk := run_string_of (P := Try.prog) 22 9 5 Try.underlying22 Try.underlying5 Try.underlying9 hx
  go_wp2_with fail
  refine (KR _).out.mono ?_
  rintro e w3 ⟨rfl, hb⟩
  replace hB := below_trans hB hb
  replace hx := hx.below hb
  replace a0 := cell_below hb a0
  replace a1 := cell_below hb a1
  replace a2 := cell_below hb a2
  replace a3 := cell_below hb a3
  replace a4 := cell_below hb a4
  clear hb KR hk
  obtain ⟨hb1, hca⟩ := one_cells w3 (frmCs nu id (o : Int) (t : Int) d) 66
  have b0 := hca 0 (.int .u64 (nu : Int)) rfl
  have b1 := hca 1 (.int .u64 (id : Int)) rfl
  have b2 := hca 2 (.int .i64 (o : Int)) rfl
  have b3 := hca 3 (.int .i64 (t : Int)) rfl
  have b4 := hca 4 (.string ⟨d.toArray⟩) rfl
  replace hB := below_trans hB hb1
  replace hx := hx.below hb1
  replace a0 := cell_below hb1 a0
  replace a1 := cell_below hb1 a1
  replace a2 := cell_below hb1 a2
  replace a3 := cell_below hb1 a3
  replace a4 := cell_below hb1 a4
  clear hb1 hca
  go_upto_region 5 with fail
  generalize w3.alloc (.cells (frmCs nu id (o : Int) (t : Int) d) 66) = w4 at *
  go_cut [58] (fun s58 wx => s58 = .bool false ∧ Below w4.heap.size w4 wx)
  case first =>
    by_cases her : er = 0
    · have KP := fun W => Lib.hid (HP.out her W)
      have e1 : sz = ((frmP nu id o t d).length : Int) := by rw [HZ.out, if_pos her]; omega
      subst her
      subst e1
      generalize frmP nu id o t d = fp at *
      clear HP hfl HZ
      go_wp2_with (first
        | (go_at_call 54; refine (KP _).out.mono ?_; rintro e w5 ⟨rfl, hb⟩))
      go_meet
      exact ⟨by simp, hb⟩
    · obtain rfl : sz = 0 := by rw [HZ.out, if_neg her]
      have he1 : ((er : Int) == 0) = false := by rw [beq_eq_false_iff_ne]; omega
      have he2 : ((er : Int) != 0) = true := by rw [bne_iff_ne]; omega
      clear HP hfl HZ
      go_wp2_with fail
      go_meet
      exact ⟨by simp, Below.refl _ _⟩
  obtain ⟨rfl, hS⟩ := hcut
  replace hB := hB.trans (below_of hS hB.size)
  replace hx := hx.below hS
  clear hS a0 a1 a2 a3 a4 b0 b1 b2 b3 b4 HP hfl HZ
  generalize wc = w5 at *
  go_wp2_with fail
  refine (fall_any xs A n c w5 hx hn2).mono ?_
  rintro e w6 ⟨L, p, v, rfl, how, hp, hpn, hfin, hb⟩
  obtain ⟨A6, c6, rfl, hrl, -⟩ := Rd.of_own how
  replace hB := below_trans hB hb
  replace hx := hx.below hb
  have hLp := hp.le
  have Hfin := Lib.hid hfin
  have hcm6 := hrl.cm
  have hnc6 := hrl.nc
  unfold maxLen at hcm6
  clear hb how hfin
  go_wp2_with fail
  go_loopw [10, 11] (fun q i wr => ∃ (j r : Nat), i = .int .i64 j ∧ q = .int .i64 r ∧ j ≤ L.length ∧ PathF xs r (L.drop j) p ∧ Below w6.heap.size w6 wr) (fun _ i _ => L.length - (intOf i).toNat)
  case atStart => exact ⟨0, 0, rfl, rfl, by omega, by simpa using hp, Below.refl _ _⟩
  case round =>
    obtain ⟨j, r, rfl, rfl, hj, hpr, hBr⟩ := hrel
    have hxr := hx.below hBr
    have hBw := hB.trans (below_of hBr hB.size)
    by_cases hlt : j < L.length
    · rw [List.drop_eq_getElem_cons hlt] at hpr
      obtain ⟨⟨o', t', e1, e2, hgr⟩, hrest⟩ := hpr
      obtain ⟨may, hle⟩ := fget_may _ _ _ _ _ _ hgr
      rw [List.length_drop, hxl] at hle
      obtain ⟨ad6, rfl⟩ := hrl.some_of_pos (by omega)
      obtain ⟨g0, g1, g2, g3, g4⟩ := (hrl.below hBr).frame j hlt
      obtain ⟨hcr, ad, rfl, hdr⟩ := (hxr.tail r (by omega)).resolve_left (fun h => by omega)
      generalize L[j] = f at *
      obtain ⟨f0, f1, f2, f3, f4⟩ := f
      dsimp only at e1 e2 hgr may hle g0 g1 g2 g3 g4 hrest
      subst e1 e2
      have KR := fun W => Lib.hid (refget32_any f0 f1 o' t' f4 0 (xs.drop r) W (by rw [List.length_drop]; omega) hgr)
      have KP := fun W => Lib.hid (refput32_any f0 f1 o' t' f4 W may)
      have hfl2 := frmP_length f0 f1 o' t' f4
      generalize frmP f0 f1 o' t' f4 = fp2 at *
      have hk := run_string_of (P := Try.prog) 22 9 5 Try.underlying22 Try.underlying5 Try.underlying9 hdr
      have hrn : (r : Int) ≤ n := by omega
      have hjl : (j : Int) < L.length := by omega
      clear hgr may hdr
      go_wp2_with fail
      refine (KR _).out.mono ?_
      rintro e w7 ⟨rfl, hb⟩
      replace g0 := cell_below hb g0
      replace g1 := cell_below hb g1
      replace g2 := cell_below hb g2
      replace g3 := cell_below hb g3
      replace g4 := cell_below hb g4
      replace hBr := below_trans hBr hb
      clear hb KR hk
      obtain ⟨hb1, hca⟩ := one_cells w7 (frmCs f0 f1 (o' : Int) (t' : Int) f4) 66
      have b0 := hca 0 (.int .u64 (f0 : Int)) rfl
      have b1 := hca 1 (.int .u64 (f1 : Int)) rfl
      have b2 := hca 2 (.int .i64 (o' : Int)) rfl
      have b3 := hca 3 (.int .i64 (t' : Int)) rfl
      have b4 := hca 4 (.string ⟨f4.toArray⟩) rfl
      replace hBr := below_trans hBr hb1
      replace g0 := cell_below hb1 g0
      replace g1 := cell_below hb1 g1
      replace g2 := cell_below hb1 g2
      replace g3 := cell_below hb1 g3
      replace g4 := cell_below hb1 g4
      clear hb1 hca
      go_upto_region 13 with fail
      generalize w7.alloc (.cells (frmCs f0 f1 (o' : Int) (t' : Int) f4) 66) = w8 at *
      go_quiet (fail)
      go_wp2_with fail
      refine (KP _).out.mono ?_
      rintro e w9 ⟨rfl, hb⟩
      replace hBr := below_trans (below_drewN hBr _) hb
      clear hb KP
      obtain ⟨z, hz⟩ : ∃ z, z = 15 + f4.length := ⟨_, rfl⟩
      rw [← hz] at hfl2 hle hrest
      clear hz
      have f1 : r + z ≤ 2000 := by omega
      go_wp2_with fail
      go_roundw
      case rel => exact ⟨j + 1, r + z, by go_num, by go_num, by omega, hrest, hBr⟩
      case measure => simp [intOf]; omega
    · obtain rfl : j = L.length := by omega
      rw [List.drop_length] at hpr
      obtain rfl : r = p := hpr
      have hd0 : ¬ ((L.length : Int) < L.length) := by omega
      obtain ⟨nu2, id2, o2, t2, d2, er2, hg2⟩ : ∃ nu id o t d er, fgetF (xs.drop r) = (nu, id, o, t, d, er) := ⟨_, _, _, _, _, _, rfl⟩
      have her2 : er2 ≠ 0 := by have := Hfin.out; rw [hg2] at this; exact this
      have KR := fun W => Lib.hid (refget32_any nu2 id2 o2 t2 d2 er2 (xs.drop r) W (by rw [List.length_drop]; omega) hg2)
      have he1 : ((er2 : Int) != 0) = true := by rw [bne_iff_ne]; omega
      have hrn : (r : Int) ≤ n := by omega
      clear Hfin hg2 hp hLp
      rcases hxr.tail r hpn with ⟨h1, h2, h3, h4⟩ | ⟨hcr, ad, rfl, hdr⟩
      · rw [h3] at KR
        have hk := run_string_of (P := Try.prog) 22 9 5 Try.underlying22 Try.underlying5 Try.underlying9 h4
        subst h1
        subst h2
        cases A with
        | none =>
          obtain ⟨h5, -⟩ := hx.nil rfl
          subst h5
          go_wp2_with fail
          refine (KR _).out.mono ?_
          rintro e w7 ⟨rfl, hb⟩
          have hBx := below_trans (below_trans hBw hb) (one_cells w7 (frmCs nu2 id2 (o2 : Int) (t2 : Int) d2) 66).1
          go_wp2_with fail
          refine (awake32_any _).mono ?_
          rintro e w8 ⟨rfl, hb2⟩
          go_wp2_with fail
          go_ret
          exact ⟨ret_bool (by simp), below_trans hBx hb2⟩
        | some ad =>
          go_wp2_with fail
          refine (KR _).out.mono ?_
          rintro e w7 ⟨rfl, hb⟩
          have hBx := below_trans (below_trans hBw hb) (one_cells w7 (frmCs nu2 id2 (o2 : Int) (t2 : Int) d2) 66).1
          go_wp2_with fail
          refine (awake32_any _).mono ?_
          rintro e w8 ⟨rfl, hb2⟩
          go_wp2_with fail
          go_ret
          exact ⟨ret_bool (by simp), below_trans hBx hb2⟩
      · have hk := run_string_of (P := Try.prog) 22 9 5 Try.underlying22 Try.underlying5 Try.underlying9 hdr
        go_wp2_with fail
        refine (KR _).out.mono ?_
        rintro e w7 ⟨rfl, hb⟩
        have hBx := below_trans (below_trans hBw hb) (one_cells w7 (frmCs nu2 id2 (o2 : Int) (t2 : Int) d2) 66).1
        clear hk hdr hb
        go_wp2_with fail
        refine (awake32_any _).mono ?_
        rintro e w8 ⟨rfl, hb2⟩
        go_wp2_with fail
        go_ret
        exact ⟨ret_bool (by simp), below_trans hBx hb2⟩
end Go.Proofs.Ythkabhejfkekjaa
