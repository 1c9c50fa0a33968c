/- The reply of any text, or that it is none: the statement answers true. No condition. -/
import Derived.Test.YtefipigdkdopcaaRep13
import Derived.Test.YtefipigdkdopcaaRep14
import Derived.Test.YtefipigdkdopcaaRep15
import Derived.Test.YtefipigdkdopcaaRep17
namespace Go.Proofs.Ytefipigdkdopcaa
open Go.RowKit

set_option maxRecDepth 100000 in
set_option maxHeartbeats 4000000 in
theorem replyparses_law (s : List UInt8) (w : World) : Calls Try.prog 6 #[.string ⟨s.toArray⟩] w fun e w' => e = .returned (.bool true) ∧ Below w.heap.size w w' := by
  have KA := fun W => Lib.hid (awake36_any W)
  by_cases h1 : 3000 < s.length
  · have h1' : (3000 : Int) < s.length := by omega
    go_enter Try.func6, Try.ntmps6
    go_wp2_with fail
    refine (KA _).out.mono ?_
    rintro e w' ⟨rfl, hb⟩
    go_wp2_with fail
    go_ret
    exact ⟨rfl, hb⟩
  have h1' : ¬ (3000 : Int) < s.length := by omega
  have KP := Lib.hid (rparse_any s w (by omega))
  by_cases hok : prsOk s
  · have hg := chk_good.1 hok.1
    have HT := hok.2
    have HC := hok.1
    have KP2 : Hid (Calls Try.prog 25 #[.string ⟨s.toArray⟩] w fun x w' => ∃ A a B b C c, x = .returned (.tuple #[rpl (prs s).e (prs s).n A (prs s).fs.length a B (prs s).ls.length b C (prs s).cs.length c, .int .i64 0]) ∧ Rd w' A (prs s).fs.length a 5 (frCs (prs s).fs) ∧ Rd w' B (prs s).ls.length b 2 (prCs (prs s).ls) ∧ Rd w' C (prs s).cs.length c 1 (inCs (prs s).cs) ∧ Below w.heap.size w w') := Lib.hid (KP.out.mono (fun x w' ⟨h1, h2, _⟩ => by
      obtain ⟨A, a, B, b, C, c, h3, h4, h5, h6⟩ := h2 hok
      exact ⟨A, a, B, b, C, c, h3, h4, h5, h6, h1⟩))
    generalize (prs s).e = e at *
    generalize (prs s).n = n at *
    generalize (prs s).fs = fs at *
    generalize (prs s).ls = ls at *
    generalize (prs s).cs = cs at *
    have hn1 := hg.nf
    have hn2 := hg.nl
    have hn3 := hg.nc
    have KC := fun A a B b C c W h1 h2 h3 => Lib.hid (refchk_any e n fs ls cs A fs.length a B ls.length b C cs.length c W h1 h2 h3 ⟨by omega, by omega, by omega⟩ (fun f h => by have := may1_len (hg.hf f h); omega))
    rw [HC] at KC
    have KT := fun A a B b C c W h1 h2 h3 => Lib.hid (reftext36_any e n fs ls cs A fs.length a B ls.length b C cs.length c W h1 h2 h3 hg)
    rw [HT] at KT
    clear KP hok hg HT HC
    go_enter Try.func6, Try.ntmps6
    go_wp2_with fail
    refine KP2.out.mono ?_
    rintro x w2 ⟨A, a, B, b, C, c, rfl, hf, hl, hc, hB⟩
    clear KP2
    obtain ⟨hb, hca⟩ := one_cells w2 (rplCs e n A fs.length a B ls.length b C cs.length c) 47
    have p0 := hca 0 (.int .i64 e) rfl
    have p1 := hca 1 (.int .u64 (n : Int)) rfl
    have p2 := hca 2 (.slice A fs.length a) rfl
    have p3 := hca 3 (.slice B ls.length b) rfl
    have p4 := hca 4 (.slice C cs.length c) rfl
    replace hf := hf.below hb
    replace hl := hl.below hb
    replace hc := hc.below hb
    replace hB := below_trans hB hb
    clear hca hb
    go_upto_region 4 with fail
    generalize w2.alloc (.cells (rplCs e n A fs.length a B ls.length b C cs.length c) 47) = w3 at *
    go_wp2_with fail
    refine (KA _).out.mono ?_
    rintro x w4 ⟨rfl, hb⟩
    replace p0 := cell_below hb p0
    replace p1 := cell_below hb p1
    replace p2 := cell_below hb p2
    replace p3 := cell_below hb p3
    replace p4 := cell_below hb p4
    replace hf := hf.below hb
    replace hl := hl.below hb
    replace hc := hc.below hb
    replace hB := below_trans hB hb
    clear hb
    go_wp2_with fail
    refine (KC _ _ _ _ _ _ _ hf hl hc).out.mono ?_
    rintro x w5 ⟨rfl, hb⟩
    replace p0 := cell_below hb p0
    replace p1 := cell_below hb p1
    replace p2 := cell_below hb p2
    replace p3 := cell_below hb p3
    replace p4 := cell_below hb p4
    replace hf := hf.below hb
    replace hl := hl.below hb
    replace hc := hc.below hb
    replace hB := below_trans hB hb
    clear hb KC
    go_wp2_with fail
    refine (KT _ _ _ _ _ _ _ hf hl hc).out.mono ?_
    rintro x w6 ⟨rfl, hb⟩
    clear KT
    go_wp2_with fail
    go_ret
    exact ⟨rfl, below_trans hB hb⟩
  · have KP2 : Hid (Calls Try.prog 25 #[.string ⟨s.toArray⟩] w fun x w' => x = .returned (.tuple #[rpl 0 0 none 0 0 none 0 0 none 0 0, .int .i64 6]) ∧ Below w.heap.size w w') := Lib.hid (KP.out.mono (fun x w' ⟨h1, _, h3⟩ => ⟨h3 hok, h1⟩))
    have KS := fun W => Lib.hid (refsame36_any 0 0 [] [] [] none 0 0 none 0 0 none 0 0 0 0 [] [] [] none 0 0 none 0 0 none 0 0 W (Rd.empty _ _) (Rd.empty _ _) (Rd.empty _ _) (by omega) (Rd.empty _ _) (Rd.empty _ _) (Rd.empty _ _) (by omega))
    rw [show sameR 0 0 [] [] [] 0 0 [] [] [] = true from rfl] at KS
    clear KP hok
    go_enter Try.func6, Try.ntmps6
    go_wp2_with fail
    refine KP2.out.mono ?_
    rintro x w2 ⟨rfl, hB⟩
    clear KP2
    obtain ⟨hb, hca⟩ := one_cells w2 (rplCs 0 0 none 0 0 none 0 0 none 0 0) 47
    have p0 := hca 0 (.int .i64 0) rfl
    have p1 := hca 1 (.int .u64 0) rfl
    have p2 := hca 2 (.slice none 0 0) rfl
    have p3 := hca 3 (.slice none 0 0) rfl
    have p4 := hca 4 (.slice none 0 0) rfl
    replace hB := below_trans hB hb
    clear hca hb
    go_upto_region 4 with fail
    generalize w2.alloc (.cells (rplCs 0 0 none 0 0 none 0 0 none 0 0) 47) = w3 at *
    go_wp2_with fail
    refine (KA _).out.mono ?_
    rintro x w4 ⟨rfl, hb⟩
    replace p0 := cell_below hb p0
    replace p1 := cell_below hb p1
    replace p2 := cell_below hb p2
    replace p3 := cell_below hb p3
    replace p4 := cell_below hb p4
    replace hB := below_trans hB hb
    clear hb
    go_wp2_with fail
    refine (KS _).out.mono ?_
    rintro x w5 ⟨rfl, hb⟩
    go_wp2_with fail
    go_ret
    exact ⟨rfl, below_trans hB hb⟩
end Go.Proofs.Ytefipigdkdopcaa
