/- Contract of meta.Put of a record that may be, and of one that may not. No condition but that. -/
import Derived.Test.YthkabhejfkekjaaMeta2
import Derived.Test.YthkabhejfkekjaaBe2
import Derived.Test.YthkabhejfkekjaaHeld
namespace Go.Proofs.Ythkabhejfkekjaa
open Go.RowKit

/-- The pages' bytes, the first j of them; a record's bytes. -/
def pgB (ps : List Nat) : Nat → List UInt8
  | 0 => []
  | j + 1 => pgB ps j ++ putB 2 (ps.getD j 0)
theorem pgB_length (ps : List Nat) : ∀ j, (pgB ps j).length = 2 * j
  | 0 => rfl
  | j + 1 => by rw [pgB, List.length_append, pgB_length ps j, putB_length]; omega
def recH (id fi pr le en pl n : Nat) : List UInt8 := putB 4 id ++ putB 4 fi ++ putB 1 pr ++ putB 2 le ++ putB 8 en ++ putB 1 pl ++ putB 1 n
theorem recH_length (id fi pr le en pl n : Nat) : (recH id fi pr le en pl n).length = 21 := by simp [recH, putB_length]
def recB (id fi pr le en pl : Nat) (ps : List Nat) : List UInt8 := recH id fi pr le en pl ps.length ++ pgB ps ps.length
theorem recB_length (id fi pr le en pl : Nat) (ps : List Nat) : (recB id fi pr le en pl ps).length = 21 + 2 * ps.length := by
  unfold recB; rw [List.length_append, recH_length, pgB_length]
theorem rowN_rec (id fi pr le en pl n : Nat) : rowN [4, id, 4, fi, 1, pr, 2, le, 8, en, 1, pl, 1, n] 7 = recH id fi pr le en pl n := by
  simp [rowN, recH]
structure MayM (id fi pr le en lp : Nat) (ps : List Nat) : Prop where
  hid : id < 2147483648
  hfi : fi < 2147483648
  hpr : pr ≤ 2
  hle1 : 1 ≤ le
  hle : le ≤ 3192
  hen : en < 18446744073709551616
  hlp1 : 1 ≤ lp
  hlp : lp ≤ 65535
  hn1 : 1 ≤ ps.length
  hn : ps.length ≤ 14
  hps : ∀ p ∈ ps, 1 ≤ p ∧ p ≤ 65535
def ints (ps : List Nat) : List Int := ps.map fun (p : Nat) => (p : Int)
theorem ints_length (ps : List Nat) : (ints ps).length = ps.length := by simp [ints]
theorem allP_ints (ps : List Nat) (h : ∀ p ∈ ps, 1 ≤ p ∧ p ≤ 65535) : ∀ j, j ≤ ps.length → allP (ints ps) j = true
  | 0, _ => rfl
  | j + 1, hj => by
    have hg : (ints ps).getD j 0 = ((ps[j]'(by omega) : Nat) : Int) := by
      rw [List.getD_eq_getElem?_getD, List.getElem?_eq_getElem (by rw [ints_length]; omega)]; simp [ints]
    have hp := h _ (List.getElem_mem (show j < ps.length by omega))
    rw [allP, allP_ints ps h j (by omega), hg, Bool.true_and]
    unfold pageOk; rw [decide_eq_true_iff]; omega
theorem mayM_of {id fi pr le en lp : Nat} {ps : List Nat} (h : MayM id fi pr le en lp ps) : mayM id fi pr le lp (ints ps) = true := by
  unfold mayM
  rw [ints_length, allP_ints ps h.hps _ (Nat.le_refl _), Bool.and_true]
  unfold headM
  rw [decide_eq_true_iff]
  have := h.hid; have := h.hfi; have := h.hpr; have := h.hle1; have := h.hle; have := h.hlp1; have := h.hlp; have := h.hn1; have := h.hn
  omega
def plN (pl : Bool) : Nat := if pl then 1 else 0

set_option maxRecDepth 100000 in
set_option maxHeartbeats 4000000 in
theorem mput_no (id fi : Nat) (pr le : Int) (en : Nat) (pl : Bool) (lp : Int) (ps : List Int) (A : Option Addr) (n c : Nat) (w : World) (hx : RdI w A n c ps) (hn : n ≤ 1000000) (h : mayM id fi pr le lp ps = false) :
    Calls Try.prog 62 #[recV id fi pr le en pl lp A n c] w fun e w' => e = .returned (.tuple #[.string ⟨#[]⟩, .int .i64 3]) ∧ Below w.heap.size w w' := by
  obtain ⟨hB, c0, c1, c2, c3, c4, c5, c6, c7⟩ := rec_cells w id fi pr le en pl lp A n c 91
  have K := Lib.hid (mcheck_any id fi pr le en pl lp ps A n c _ (hx.below hB) hn)
  rw [h, if_neg (by decide)] at K
  clear h
  go_enter Try.func62, Try.ntmps62
  go_wp2_with (go_at_call 64; refine K.out.mono ?_; rintro e w' ⟨rfl, hb⟩)
  go_ret2
  exact ⟨rfl, below_trans hB hb⟩

set_option maxRecDepth 100000 in
set_option maxHeartbeats 4000000 in
theorem mput_any (id fi pr le en : Nat) (pl : Bool) (lp : Nat) (ps : List Nat) (A : Option Addr) (n c : Nat) (w : World) (hx : RdI w A n c (ints ps)) (hm : MayM id fi pr le en lp ps) :
    Calls Try.prog 62 #[recV id fi pr le en pl lp A n c] w fun e w' => e = .returned (.tuple #[.string ⟨(recB id fi pr le en (plN pl) ps).toArray⟩, .int .i64 0]) ∧ Below w.heap.size w w' := by
  obtain ⟨hB, c0, c1, c2, c3, c4, c5, c6, c7⟩ := rec_cells w id fi pr le en pl lp A n c 91
  have hxl := hx.ilen
  rw [ints_length] at hxl
  have hn14 := hm.hn
  have hn1 := hm.hn1
  have K := Lib.hid (mcheck_any id fi pr le en pl lp (ints ps) A n c _ (hx.below hB) (by omega))
  rw [mayM_of hm, if_pos rfl] at K
  have HR : Hid (recB id fi pr le en (plN pl) ps = recH id fi pr le en (plN pl) n ++ pgB ps n) := by show _ = _; unfold recB; rw [hxl]
  have hpl : plN pl ≤ 1 := by cases pl <;> simp [plN]
  have h1 := hm.hid
  have h2 := hm.hfi
  have h3 := hm.hpr
  have h4 := hm.hle
  have h5 := hm.hen
  have KR := fun A' W hh => Lib.hid (row_any [4, id, 4, fi, 1, pr, 2, le, 8, en, 1, plN pl, 1, n] A' 14 14 W hh (by omega) (by
    intro i
    rcases Nat.lt_or_ge i 14 with hi | hi
    · rcases (by omega : i = 0 ∨ i = 1 ∨ i = 2 ∨ i = 3 ∨ i = 4 ∨ i = 5 ∨ i = 6 ∨ i = 7 ∨ i = 8 ∨ i = 9 ∨ i = 10 ∨ i = 11 ∨ i = 12 ∨ i = 13) with rfl | rfl | rfl | rfl | rfl | rfl | rfl | rfl | rfl | rfl | rfl | rfl | rfl | rfl <;> simp <;> omega
    · rw [List.getD_eq_getElem?_getD, List.getElem?_eq_none (by simpa using hi)]; decide))
  rw [show 14 / 2 = 7 from rfl, rowN_rec] at KR
  have hhl := recH_length id fi pr le en (plN pl) n
  have e1 : IntKind.u64.wrap (pr : Int) = pr := by rw [wrap_u64]; omega
  have e2 : IntKind.u64.wrap (le : Int) = le := by rw [wrap_u64]; omega
  have e3 : IntKind.u64.wrap (n : Int) = n := by rw [wrap_u64]; omega
  have hpg : ∀ i, i < n → ps.getD i 0 ≤ 65535 := fun i hi => by
    rw [List.getD_eq_getElem?_getD, List.getElem?_eq_getElem (by omega)]
    exact (hm.hps _ (List.getElem_mem (by omega))).2
  clear hm h1 h2 h3 h4 h5
  generalize recH id fi pr le en (plN pl) n = rh at *
  obtain ⟨pn, hpn⟩ : ∃ pn : Nat, pn = plN pl := ⟨_, rfl⟩
  have hpc : (pl = true ∧ pn = 1) ∨ (pl = false ∧ pn = 0) := by cases pl <;> simp [plN] at hpn <;> simp [hpn]
  rw [← hpn] at KR
  rw [← hpn]
  rw [← hpn] at HR
  clear hpl hpn
  rcases hpc with ⟨rfl, rfl⟩ | ⟨rfl, rfl⟩
  · go_enter Try.func62, Try.ntmps62
    go_wp2_with fail
    refine K.out.mono ?_
    rintro e w1 ⟨rfl, hb⟩
    replace hx := hx.below (below_trans hB hb)
    replace hB := below_trans hB hb
    replace c0 := cell_below hb c0
    replace c1 := cell_below hb c1
    replace c2 := cell_below hb c2
    replace c3 := cell_below hb c3
    replace c4 := cell_below hb c4
    replace c5 := cell_below hb c5
    replace c7 := cell_below hb c7
    clear hb K c6
    have hu : RdU (w1.alloc (.cells #[.int .u64 4, .int .u64 (id : Int), .int .u64 4, .int .u64 (fi : Int), .int .u64 1, .int .u64 (pr : Int), .int .u64 2, .int .u64 (le : Int), .int .u64 8, .int .u64 (en : Int), .int .u64 1, .int .u64 1, .int .u64 1, .int .u64 (n : Int)] 24)) (some ⟨w1.heap.size, 0, none⟩) 14 14 [4, id, 4, fi, 1, pr, 2, le, 8, en, 1, 1, 1, n] := cells_rd' rfl (by decide)
    have hb1 := (one_cells w1 #[.int .u64 4, .int .u64 (id : Int), .int .u64 4, .int .u64 (fi : Int), .int .u64 1, .int .u64 (pr : Int), .int .u64 2, .int .u64 (le : Int), .int .u64 8, .int .u64 (en : Int), .int .u64 1, .int .u64 1, .int .u64 1, .int .u64 (n : Int)] 24).1
    go_wp2_with fail
    refine (KR _ _ hu).out.mono ?_
    rintro e w2 ⟨A2, n2, k2, rfl, hr, hb⟩
    have hn2 : n2 = 21 := by have := hr.blen; omega
    subst hn2
    replace c7 := cell_below hb (cell_below hb1 c7)
    replace hx := (hx.below hb1).below hb
    replace hB := below_trans (below_trans hB hb1) hb
    clear hb hb1 KR hu c0 c1 c2 c3 c4 c5
    have hcm := hx.cm
    unfold maxLen at hcm
    go_wp2_with fail
    go_loopw [6, 38] (fun v i wr => ∃ (j : Nat) (A' : Option Addr) (k' : Nat), j ≤ n ∧ i = .int .i64 j ∧ v = .slice A' (21 + 2 * j) k' ∧ RdB wr A' (21 + 2 * j) k' (rh ++ pgB ps j) ∧ Below w2.heap.size w2 wr) (fun _ i _ => n - (intOf i).toNat)
    case atStart => exact ⟨0, A2, k2, by omega, rfl, rfl, by simpa [pgB] using hr, Below.refl _ _⟩
    case round =>
      obtain ⟨j, A', k', hj, rfl, rfl, hrj, hBr⟩ := hrel
      by_cases hlt : j < n
      · obtain ⟨ad, rfl⟩ := hx.some_of_pos (by omega)
        have hpj := hpg j hlt
        have e0 := (hx.below hBr).icell j (by rw [ints_length]; omega)
        have hgi : (ints ps)[j]'(by rw [ints_length]; omega) = ((ps.getD j 0 : Nat) : Int) := by
          rw [List.getD_eq_getElem?_getD, List.getElem?_eq_getElem (by omega)]; simp [ints]
        rw [hgi] at e0
        have hst : Hid (pgB ps (j + 1) = pgB ps j ++ putB 2 (ps.getD j 0)) := rfl
        clear hgi hpg hx
        generalize ps.getD j 0 = pg at *
        have ew : IntKind.u64.wrap (pg : Int) = pg := by rw [wrap_u64]; omega
        have hjl : (j : Int) < n := by omega
        go_wp2_with fail
        refine (put_any 2 pg _ _ _ _ _ (by omega) hrj (by omega)).mono ?_
        rintro e w4 ⟨v, rfl, how, hb⟩
        obtain ⟨A4, k4, rfl, hr4, -⟩ := Rd.of_own how
        replace hBr := below_trans hBr hb
        rw [show wid 2 = 2 from rfl, List.append_assoc, ← hst.out] at hr4
        rw [show wid 2 = 2 from rfl]
        clear hb how hst
        go_wp2_with fail
        go_roundw
        case rel => exact ⟨j + 1, A4, k4, by omega, by go_num, by congr 1, hr4, hBr⟩
        case measure => simp [intOf]; omega
      · obtain rfl : j = n := by omega
        rw [← HR.out] at hrj
        have hks := run_string_of (P := Try.prog) 22 9 5 Try.underlying22 Try.underlying5 Try.underlying9 hrj
        clear hrj HR hx hpg
        go_wp2_with fail
        go_ret2
        exact ⟨rfl, hB.trans (below_of hBr hB.size)⟩
  · go_enter Try.func62, Try.ntmps62
    go_wp2_with fail
    refine K.out.mono ?_
    rintro e w1 ⟨rfl, hb⟩
    replace hx := hx.below (below_trans hB hb)
    replace hB := below_trans hB hb
    replace c0 := cell_below hb c0
    replace c1 := cell_below hb c1
    replace c2 := cell_below hb c2
    replace c3 := cell_below hb c3
    replace c4 := cell_below hb c4
    replace c5 := cell_below hb c5
    replace c7 := cell_below hb c7
    clear hb K c6
    have hu : RdU (w1.alloc (.cells #[.int .u64 4, .int .u64 (id : Int), .int .u64 4, .int .u64 (fi : Int), .int .u64 1, .int .u64 (pr : Int), .int .u64 2, .int .u64 (le : Int), .int .u64 8, .int .u64 (en : Int), .int .u64 1, .int .u64 0, .int .u64 1, .int .u64 (n : Int)] 24)) (some ⟨w1.heap.size, 0, none⟩) 14 14 [4, id, 4, fi, 1, pr, 2, le, 8, en, 1, 0, 1, n] := cells_rd' rfl (by decide)
    have hb1 := (one_cells w1 #[.int .u64 4, .int .u64 (id : Int), .int .u64 4, .int .u64 (fi : Int), .int .u64 1, .int .u64 (pr : Int), .int .u64 2, .int .u64 (le : Int), .int .u64 8, .int .u64 (en : Int), .int .u64 1, .int .u64 0, .int .u64 1, .int .u64 (n : Int)] 24).1
    go_wp2_with fail
    refine (KR _ _ hu).out.mono ?_
    rintro e w2 ⟨A2, n2, k2, rfl, hr, hb⟩
    have hn2 : n2 = 21 := by have := hr.blen; omega
    subst hn2
    replace c7 := cell_below hb (cell_below hb1 c7)
    replace hx := (hx.below hb1).below hb
    replace hB := below_trans (below_trans hB hb1) hb
    clear hb hb1 KR hu c0 c1 c2 c3 c4 c5
    have hcm := hx.cm
    unfold maxLen at hcm
    go_wp2_with fail
    go_loopw [6, 38] (fun v i wr => ∃ (j : Nat) (A' : Option Addr) (k' : Nat), j ≤ n ∧ i = .int .i64 j ∧ v = .slice A' (21 + 2 * j) k' ∧ RdB wr A' (21 + 2 * j) k' (rh ++ pgB ps j) ∧ Below w2.heap.size w2 wr) (fun _ i _ => n - (intOf i).toNat)
    case atStart => exact ⟨0, A2, k2, by omega, rfl, rfl, by simpa [pgB] using hr, Below.refl _ _⟩
    case round =>
      obtain ⟨j, A', k', hj, rfl, rfl, hrj, hBr⟩ := hrel
      by_cases hlt : j < n
      · obtain ⟨ad, rfl⟩ := hx.some_of_pos (by omega)
        have hpj := hpg j hlt
        have e0 := (hx.below hBr).icell j (by rw [ints_length]; omega)
        have hgi : (ints ps)[j]'(by rw [ints_length]; omega) = ((ps.getD j 0 : Nat) : Int) := by
          rw [List.getD_eq_getElem?_getD, List.getElem?_eq_getElem (by omega)]; simp [ints]
        rw [hgi] at e0
        have hst : Hid (pgB ps (j + 1) = pgB ps j ++ putB 2 (ps.getD j 0)) := rfl
        clear hgi hpg hx
        generalize ps.getD j 0 = pg at *
        have ew : IntKind.u64.wrap (pg : Int) = pg := by rw [wrap_u64]; omega
        have hjl : (j : Int) < n := by omega
        go_wp2_with fail
        refine (put_any 2 pg _ _ _ _ _ (by omega) hrj (by omega)).mono ?_
        rintro e w4 ⟨v, rfl, how, hb⟩
        obtain ⟨A4, k4, rfl, hr4, -⟩ := Rd.of_own how
        replace hBr := below_trans hBr hb
        rw [show wid 2 = 2 from rfl, List.append_assoc, ← hst.out] at hr4
        rw [show wid 2 = 2 from rfl]
        clear hb how hst
        go_wp2_with fail
        go_roundw
        case rel => exact ⟨j + 1, A4, k4, by omega, by go_num, by congr 1, hr4, hBr⟩
        case measure => simp [intOf]; omega
      · obtain rfl : j = n := by omega
        rw [← HR.out] at hrj
        have hks := run_string_of (P := Try.prog) 22 9 5 Try.underlying22 Try.underlying5 Try.underlying9 hrj
        clear hrj HR hx hpg
        go_wp2_with fail
        go_ret2
        exact ⟨rfl, hB.trans (below_of hBr hB.size)⟩
end Go.Proofs.Ythkabhejfkekjaa
