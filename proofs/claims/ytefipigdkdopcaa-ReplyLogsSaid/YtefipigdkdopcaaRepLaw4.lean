/- All texts of any replies, or the first error: the statement answers true. No condition. -/
import Derived.Test.YtefipigdkdopcaaRep13
import Derived.Test.YtefipigdkdopcaaRep14
import Derived.Test.YtefipigdkdopcaaRep15
import Derived.Test.YtefipigdkdopcaaRep18
namespace Go.Proofs.Ytefipigdkdopcaa
open Go.RowKit

theorem lays_write : Go.Proofs.Lays.n166 Try.prog Try.lays156_ren := { mixed := Try.lays156.mixed, f166 := Try.lays156.f166, f240 := Try.lays156.f240, f276 := Try.lays156.f276, t0 := Try.lays156.t0, a0 := Try.lays156.a0, z0 := Try.lays156.z0, v0 := Try.lays156.v0, t3 := Try.lays156.t3, a3 := Try.lays156.a3, z3 := Try.lays156.z3, v3 := Try.lays156.v3, t4 := Try.lays156.t4, a4 := Try.lays156.a4, z4 := Try.lays156.z4, v4 := Try.lays156.v4, t9 := Try.lays156.t9, a9 := Try.lays156.a9, z9 := Try.lays156.z9, v9 := Try.lays156.v9, t20 := Try.lays156.t20, a20 := Try.lays156.a20, z20 := Try.lays156.z20, v20 := Try.lays156.v20, t37 := Try.lays156.t37, a37 := Try.lays156.a37, z37 := Try.lays156.z37, v37 := Try.lays156.v37, t70 := Try.lays156.t70, a70 := Try.lays156.a70, z70 := Try.lays156.z70, v70 := Try.lays156.v70, t72 := Try.lays156.t72, a72 := Try.lays156.a72, z72 := Try.lays156.z72, v72 := Try.lays156.v72, t75 := Try.lays156.t75, a75 := Try.lays156.a75, z75 := Try.lays156.z75, v75 := Try.lays156.v75, t164 := Try.lays156.t164, a164 := Try.lays156.a164, z164 := Try.lays156.z164, v164 := Try.lays156.v164 }
theorem bwrite_any (B b : Nat) (l s : List UInt8) (w : World) (h : Lib.IsBuilder 118 5 B b (Lib.byteCells l) w) (hlen : l.length + s.length ≤ 140737488355328) (hBw : B ≤ w.heap.size) :
    Calls Try.prog 73 #[.pointer (some ⟨b, 0, none⟩), .string ⟨s.toArray⟩] w fun e w' => (∃ v, e = .returned v) ∧ Lib.IsBuilder 118 5 B b (Lib.byteCells (l ++ s)) w' ∧ Below B w w' := by
  refine (Go.Proofs.Any.Builder_WriteString lays_write Try.Builder_Extra_156 B b (Lib.byteCells l) ⟨s.toArray⟩ w h (by rw [show (⟨s.toArray⟩ : ByteArray).size = s.length from rfl]; simpa [Lib.byteCells] using hlen) hBw).mono (fun e w' ⟨h1, h2, h3⟩ => ⟨⟨_, h1⟩, .inr ?_, h3⟩)
  have : Lib.byteCells (l ++ s) = Lib.byteCells l ++ Lib.strCells ⟨s.toArray⟩ := by simp [Lib.byteCells, Lib.strCells]
  rw [this]
  exact h2
theorem isb_below {B b : Nat} {bs : List Value} {w w' : World} (h : Lib.IsBuilder 118 5 B b bs w) (hb : Below w.heap.size w w') : Lib.IsBuilder 118 5 B b bs w' := by
  rcases h with ⟨h1, v, h2, h3, h4⟩ | ⟨h1, v, h2, h3, h4⟩
  · exact .inl ⟨h1, v, heap_below hb h2, own_below h3 hb, h4⟩
  · exact .inr ⟨h1, v, heap_below hb h2, own_below h3 hb, h4⟩

/-- A reply in memory. -/
structure RpV where
  e : Int
  n : Nat
  fs : List Fr
  ls : List (Nat × Nat)
  cs : List Int
  A : Option Addr
  a1 : Nat
  a2 : Nat
  B : Option Addr
  b1 : Nat
  b2 : Nat
  C : Option Addr
  c1 : Nat
  c2 : Nat
def rpCs : List RpV → List Value
  | [] => []
  | v :: l => .int .i64 v.e :: .int .u64 (v.n : Int) :: .slice v.A v.a1 v.a2 :: .slice v.B v.b1 v.b2 :: .slice v.C v.c1 v.c2 :: rpCs l
theorem rpCs_length (l : List RpV) : (rpCs l).length = l.length * 5 := by
  induction l with
  | nil => rfl
  | cons f l ih => simp [rpCs, ih]; omega
theorem rpCs_get (l : List RpV) : ∀ i (h : i < l.length), (rpCs l)[i * 5]? = some (.int .i64 l[i].e) ∧ (rpCs l)[i * 5 + 1]? = some (.int .u64 (l[i].n : Int)) ∧ (rpCs l)[i * 5 + 2]? = some (.slice l[i].A l[i].a1 l[i].a2) ∧ (rpCs l)[i * 5 + 3]? = some (.slice l[i].B l[i].b1 l[i].b2) ∧ (rpCs l)[i * 5 + 4]? = some (.slice l[i].C l[i].c1 l[i].c2) := by
  induction l with
  | nil => intro i h; exact absurd h (by simp)
  | cons f l ih =>
    intro i h
    cases i with
    | zero => exact ⟨rfl, rfl, rfl, rfl, rfl⟩
    | succ i =>
      have := ih i (by simpa using h)
      rw [show (i + 1) * 5 = i * 5 + 5 by omega]
      exact this
theorem Rd.reply {w : World} {ad : Addr} {n c : Nat} {l : List RpV} (h : Rd w (some ad) n c 5 (rpCs l)) (i : Nat) (hi : i < l.length) :
    w.cell? (ad.add (i * 5)) = some (.int .i64 l[i].e) ∧ w.cell? ⟨(ad.add (i * 5)).block, (ad.add (i * 5)).off + 1, none⟩ = some (.int .u64 (l[i].n : Int)) ∧ w.cell? ⟨(ad.add (i * 5)).block, (ad.add (i * 5)).off + 2, none⟩ = some (.slice l[i].A l[i].a1 l[i].a2) ∧ w.cell? ⟨(ad.add (i * 5)).block, (ad.add (i * 5)).off + 3, none⟩ = some (.slice l[i].B l[i].b1 l[i].b2) ∧ w.cell? ⟨(ad.add (i * 5)).block, (ad.add (i * 5)).off + 4, none⟩ = some (.slice l[i].C l[i].c1 l[i].c2) := by
  obtain ⟨h0, h1, h2, h3, h4⟩ := rpCs_get l i hi
  exact ⟨h.cell ad rfl _ _ h0, at_plusk (by omega) (h.cell ad rfl _ _ h1), at_plusk (by omega) (h.cell ad rfl _ _ h2), at_plusk (by omega) (h.cell ad rfl _ _ h3), at_plusk (by omega) (h.cell ad rfl _ _ h4)⟩
theorem Rd.rlen {w : World} {A : Option Addr} {n c : Nat} {l : List RpV} (h : Rd w A n c 5 (rpCs l)) : l.length = n := by
  have := h.len
  rw [rpCs_length] at this; omega
/-- The rows of each. -/
def AllR3 (w : World) (l : List RpV) : Prop := ∀ v ∈ l, R3 w v.fs v.ls v.cs v.A v.a1 v.a2 v.B v.b1 v.b2 v.C v.c1 v.c2
theorem AllR3.below {w w' : World} {l : List RpV} (h : AllR3 w l) (hb : Below w.heap.size w w') : AllR3 w' l := fun v hv => (h v hv).below hb
abbrev chkV (v : RpV) : Nat := chkR v.e v.n v.fs v.ls v.cs
abbrev textV (v : RpV) : List UInt8 := textR v.e v.n v.fs v.ls v.cs
/-- The first error; the texts up to it. -/
def logE : List RpV → Nat
  | [] => 0
  | v :: l => if chkV v = 0 then logE l else chkV v
def logT (l : List RpV) : List UInt8 := l.flatMap textV
def logS (l : List RpV) : List UInt8 := if logE l = 0 then logT l else []
theorem logE_snoc (l : List RpV) (v : RpV) : logE (l ++ [v]) = if logE l = 0 then chkV v else logE l := by
  induction l with
  | nil => simp only [List.nil_append, logE]; split <;> simp_all
  | cons a l ih =>
    rw [List.cons_append, logE, logE, ih]
    by_cases h : chkV a = 0
    · rw [if_pos h, if_pos h]
    · rw [if_neg h, if_neg h, if_neg h]
theorem logE_take (l : List RpV) (j : Nat) (h : j < l.length) : logE (l.take (j + 1)) = if logE (l.take j) = 0 then chkV l[j] else logE (l.take j) := by
  rw [List.take_succ_eq_append_getElem h, logE_snoc]
theorem logT_take (l : List RpV) (j : Nat) (h : j < l.length) : logT (l.take (j + 1)) = logT (l.take j) ++ textV l[j] := by
  rw [List.take_succ_eq_append_getElem h, logT, List.flatMap_append]; simp [logT]
theorem logE_bad (l : List RpV) (j : Nat) (h : j < l.length) (h0 : logE (l.take j) = 0) (hc : chkV l[j] ≠ 0) : logE l = chkV l[j] := by
  have h1 := logE_take l j h
  rw [if_pos h0] at h1
  have key : ∀ (m k : List RpV), logE m ≠ 0 → logE (m ++ k) = logE m := by
    intro m k
    induction m with
    | nil => intro h; exact absurd rfl h
    | cons a m ih =>
      intro h
      rw [List.cons_append, logE, logE]
      rw [logE] at h
      by_cases hh : chkV a = 0
      · rw [if_pos hh] at h ⊢; rw [if_pos hh]; exact ih h
      · rw [if_neg hh, if_neg hh]
  have := key (l.take (j + 1)) (l.drop (j + 1)) (by rw [h1]; exact hc)
  rw [List.take_append_drop] at this
  rw [this, h1]

set_option maxRecDepth 100000 in
set_option maxHeartbeats 8000000 in
theorem rlog_any (l : List RpV) (A : Option Addr) (n c : Nat) (w : World) (hx : Rd w A n c 5 (rpCs l)) (hr : AllR3 w l) (hL : ∀ v ∈ l, LightR v.fs v.ls v.cs) (hN : n ≤ 8) :
    Calls Try.prog 33 #[.slice A n c] w fun x w' => x = .returned (.tuple #[.string ⟨(logS l).toArray⟩, .int .i64 (logE l : Nat)]) ∧ Below w.heap.size w w' := by
  have hxl := hx.rlen
  have hcm := hx.cm
  unfold maxLen at hcm
  have HL := Lib.hid hL
  have HR := Lib.hid hr
  clear hL hr
  have hib := Lib.fresh_isBuilder 118 5 w
  have hB := (one_cells w #[.pointer none, .slice none 0 0] 118).1
  go_enter Try.func33, Try.ntmps33
  go_wp2_with fail
  generalize w.alloc (.cells #[.pointer none, .slice none 0 0] 118) = w1 at *
  go_loopw [6, 7, 8, 11] (fun _ _ _ i wr => ∃ (j : Nat), i = .int .i64 j ∧ j ≤ n ∧ Hid (logE (l.take j) = 0) ∧ Hid ((logT (l.take j)).length ≤ 90001 * j) ∧ Lib.IsBuilder 118 5 w.heap.size w.heap.size (Lib.byteCells (logT (l.take j))) wr ∧ Below w.heap.size w wr) (fun _ _ _ i _ => n - (intOf i).toNat)
  case atStart => exact ⟨0, rfl, by omega, Lib.hid rfl, Lib.hid (by simp [logT]), hib, hB⟩
  case round =>
    obtain ⟨j, rfl, hj, HE, HLn, hib, hBr⟩ := hrel
    by_cases hlt : j < n
    · obtain ⟨ad, rfl⟩ := hx.some_of_pos (by omega)
      obtain ⟨e0, e1, e2, e3, e4⟩ := (hx.below hBr).reply j (by omega)
      have hr3 := (HR.out l[j] (List.getElem_mem _)).below hBr
      have hll := HL.out l[j] (List.getElem_mem _)
      have HT := Lib.hid (logT_take l j (by omega))
      have HE2 := Lib.hid (logE_take l j (by omega))
      have HBad := Lib.hid (fun (hc : chkV l[j] ≠ 0) => logE_bad l j (by omega) HE.out hc)
      have hq1 : (j : Int) < n := by omega
      have hli := HLn.out
      clear hx HR HL HLn
      generalize l[j] = v at *
      obtain ⟨e, m, fs, ls, cs, X, x1, x2, Y, y1, y2, Z, z1, z2⟩ := v
      dsimp only at e0 e1 e2 e3 e4 hr3 hll
      obtain ⟨hN1, hD1⟩ := hr3.chk hll
      obtain ⟨hb1, hca⟩ := one_cells wr (rplCs e m X x1 x2 Y y1 y2 Z z1 z2) 47
      have p0 := hca 0 (.int .i64 e) rfl
      have p1 := hca 1 (.int .u64 (m : Int)) rfl
      have p2 := hca 2 (.slice X x1 x2) rfl
      have p3 := hca 3 (.slice Y y1 y2) rfl
      have p4 := hca 4 (.slice Z z1 z2) rfl
      replace hr3 := hr3.below hb1
      replace hib := isb_below hib hb1
      replace hBr := below_trans hBr hb1
      by_cases hc : chkR e m fs ls cs = 0
      · have hg := chk_good.1 hc
        have htb := textR_bound hg
        have KT := Lib.hid (rtext36_yes e m fs ls cs X x1 x2 Y y1 y2 Z z1 z2 _ hr3.f hr3.l hr3.c hg)
        have HE3 : Hid (logE (l.take (j + 1)) = 0) := by show _ = _; rw [HE2.out, if_pos HE.out]; exact hc
        have HT2 : Hid (logT (l.take (j + 1)) = logT (l.take j) ++ textR e m fs ls cs) := HT.out
        have HLn2 : Hid ((logT (l.take (j + 1))).length ≤ 90001 * (j + 1)) := by show _ ≤ _; rw [HT2.out, List.length_append]; omega
        clear HE2 HBad HT hc hg hca hb1 hll hr3 HE
        generalize textR e m fs ls cs = tx at *
        generalize logT (l.take j) = acc at *
        go_upto_region 5 with fail
        clear e0 e1 e2 e3 e4
        generalize wr.alloc (.cells (rplCs e m X x1 x2 Y y1 y2 Z z1 z2) 47) = w2 at *
        go_wp2_with fail
        refine KT.out.mono ?_
        rintro x w3 ⟨rfl, hb⟩
        replace hib := isb_below hib hb
        replace hBr := below_trans hBr hb
        clear hb KT p0 p1 p2 p3 p4
        have hsz := hBr.size
        have KW := Lib.hid (bwrite_any w.heap.size w.heap.size acc tx w3 hib (by omega) hsz)
        go_wp2_with fail
        refine KW.out.mono ?_
        rintro x w4 ⟨⟨v, rfl⟩, hib2, hb⟩
        clear KW hib
        go_wp2_with fail
        go_roundw
        case rel => exact ⟨j + 1, by go_num, by omega, HE3, HLn2, by rw [HT2.out]; exact hib2, hBr.trans hb⟩
        case measure => simp [intOf]; omega
      · have KT := Lib.hid (rtext36_no e m fs ls cs X x1 x2 Y y1 y2 Z z1 z2 _ hr3.f hr3.l hr3.c hN1 hD1 hc)
        have HF : Hid (logE l = chkR e m fs ls cs) := HBad.out hc
        have hce : ((chkR e m fs ls cs : Int) != 0) = true := by rw [bne_iff_ne]; omega
        have HF0 : Hid (logE l ≠ 0) := by show _ ≠ _; rw [HF.out]; exact hc
        clear HE2 HBad HT hc hca hb1 hll hr3 HE hib hN1 hD1
        generalize chkR e m fs ls cs = ch at *
        go_upto_region 5 with fail
        clear e0 e1 e2 e3 e4
        generalize wr.alloc (.cells (rplCs e m X x1 x2 Y y1 y2 Z z1 z2) 47) = w2 at *
        go_wp2_with fail
        refine KT.out.mono ?_
        rintro x w3 ⟨rfl, hb⟩
        clear KT
        go_wp2_with fail
        go_ret2
        have hs : logS l = [] := by unfold logS; rw [if_neg HF0.out]
        exact ⟨by rw [hs, HF.out]; rfl, below_trans hBr hb⟩
    · obtain rfl : j = n := by omega
      have hE := HE.out
      have hLn := HLn.out
      rw [List.take_of_length_le (by omega)] at hib hE hLn
      have HE2 := Lib.hid hE
      have hsz := hBr.size
      have KS := Lib.hid (Try.Builder_String_any w.heap.size w.heap.size (logT l) wr hib hsz)
      clear hib hE hLn HE HLn hx HR HL
      go_wp2_with fail
      refine KS.out.mono ?_
      rintro x w3 ⟨rfl, hb⟩
      go_wp2_with fail
      go_ret2
      have hs : logS l = logT l := by unfold logS; rw [if_pos HE2.out]
      exact ⟨by rw [hs, HE2.out]; rfl, hBr.trans hb⟩

set_option maxRecDepth 100000 in
set_option maxHeartbeats 8000000 in
theorem replylogs_law (l : List RpV) (A : Option Addr) (n c : Nat) (w : World) (hx : Rd w A n c 5 (rpCs l)) (hr : AllR3 w l) :
    Calls Try.prog 8 #[.slice A n c] w fun x w' => x = .returned (.bool true) ∧ Below w.heap.size w w' := by
  have KA := fun W => Lib.hid (awake36_any W)
  have hxl := hx.rlen
  have hcm := hx.cm
  have hnc := hx.nc
  unfold maxLen at hcm
  by_cases h8 : 8 < n
  · have h8' : (8 : Int) < n := by omega
    clear hx hr
    go_enter Try.func8, Try.ntmps8
    go_wp2_with fail
    refine (KA _).out.mono ?_
    rintro e w' ⟨rfl, hb⟩
    go_wp2_with fail
    go_ret
    exact ⟨rfl, hb⟩
  have h8' : ¬ (8 : Int) < n := by omega
  have HR := Lib.hid hr
  clear hr
  go_enter Try.func8, Try.ntmps8
  go_wp2_with fail
  go_loopw [3, 4, 5] (fun sv ev i wr => ∃ (j : Nat) (acc : List UInt8), sv = .string ⟨acc.toArray⟩ ∧ ev = .int .i64 (logE (l.take j) : Nat) ∧ i = .int .i64 j ∧ j ≤ n ∧ Hid (logE (l.take j) = 0 → acc = logT (l.take j)) ∧ acc.length ≤ 90001 * j ∧ Hid (∀ v ∈ l.take j, LightR v.fs v.ls v.cs) ∧ Below w.heap.size w wr) (fun _ _ i _ => n - (intOf i).toNat)
  case atStart => exact ⟨0, [], rfl, rfl, rfl, by omega, Lib.hid (fun _ => rfl), by simp, Lib.hid (by simp), Below.refl _ _⟩
  case round =>
    obtain ⟨j, acc, rfl, rfl, rfl, hj, HA, hal, HL, hBr⟩ := hrel
    by_cases hlt : j < n
    · obtain ⟨ad, rfl⟩ := hx.some_of_pos (by omega)
      obtain ⟨e0, e1, e2, e3, e4⟩ := (hx.below hBr).reply j (by omega)
      have hr3 := (HR.out l[j] (List.getElem_mem _)).below hBr
      have HT := Lib.hid (logT_take l j (by omega))
      have HE2 := Lib.hid (logE_take l j (by omega))
      have HLt : Hid (l.take (j + 1) = l.take j ++ [l[j]]) := List.take_succ_eq_append_getElem (by omega)
      have hq1 : (j : Int) < n := by omega
      clear hx HR
      generalize l[j] = v at *
      obtain ⟨e, m, fs, ls, cs, X, x1, x2, Y, y1, y2, Z, z1, z2⟩ := v
      dsimp only at e0 e1 e2 e3 e4 hr3
      have KL := Lib.hid (light_any e m fs ls cs X x1 x2 Y y1 y2 Z z1 z2 wr hr3.f hr3.l hr3.c)
      go_wp2_with fail
      refine KL.out.mono ?_
      rintro x w2 ⟨b, rfl, hL, hb⟩
      clear KL
      cases b with
      | false =>
        clear hL HT HE2 HLt HA HL hr3
        go_wp2_with fail
        refine (KA _).out.mono ?_
        rintro x w3 ⟨rfl, hb2⟩
        go_wp2_with fail
        go_ret
        exact ⟨rfl, below_trans (below_trans hBr hb) hb2⟩
      | true =>
      have hl := hL rfl
      replace hr3 := hr3.below hb
      replace e0 := cell_below hb e0
      replace e1 := cell_below hb e1
      replace e2 := cell_below hb e2
      replace e3 := cell_below hb e3
      replace e4 := cell_below hb e4
      replace hBr := below_trans hBr hb
      obtain ⟨hN1, hD1⟩ := hr3.chk hl
      have HL2 : Hid (∀ v ∈ l.take (j + 1), LightR v.fs v.ls v.cs) := by
        intro v hv
        rw [HLt.out] at hv
        rcases List.mem_append.1 hv with hv | hv
        · exact HL.out v hv
        · rw [List.mem_singleton] at hv; subst hv; exact hl
      clear hL hl hb HL HLt
      by_cases hE : logE (l.take j) = 0
      · have KC := Lib.hid (refchk_any e m fs ls cs X x1 x2 Y y1 y2 Z z1 z2 w2 hr3.f hr3.l hr3.c hN1 hD1)
        have HE3 : Hid (logE (l.take (j + 1)) = chkR e m fs ls cs) := by show _ = _; rw [HE2.out, if_pos hE]
        have hacc := HA.out hE
        rw [hE]
        clear HE2 HA
        by_cases hc : chkR e m fs ls cs = 0
        · have hg := chk_good.1 hc
          have htb := textR_bound hg
          rw [hc] at KC HE3
          have KT := fun W (h : R3 W fs ls cs X x1 x2 Y y1 y2 Z z1 z2) => Lib.hid (reftext36_any e m fs ls cs X x1 x2 Y y1 y2 Z z1 z2 W h.f h.l h.c hg)
          have HA2 : Hid (logE (l.take (j + 1)) = 0 → acc ++ textR e m fs ls cs = logT (l.take (j + 1))) := fun _ => by rw [HT.out, ← hacc]
          clear hc hg hacc HT hE
          generalize textR e m fs ls cs = tx at *
          go_wp2_with fail
          refine KC.out.mono ?_
          rintro x w3 ⟨rfl, hb⟩
          replace hr3 := hr3.below hb
          replace e0 := cell_below hb e0
          replace e1 := cell_below hb e1
          replace e2 := cell_below hb e2
          replace e3 := cell_below hb e3
          replace e4 := cell_below hb e4
          replace hBr := below_trans hBr hb
          clear hb KC
          go_wp2_with fail
          refine (KT _ hr3).out.mono ?_
          rintro x w4 ⟨rfl, hb⟩
          clear KT e0 e1 e2 e3 e4 hr3
          go_wp2_with fail
          go_roundw
          case rel => exact ⟨j + 1, acc ++ tx, by rw [← cat_bytes], by rw [HE3.out]; rfl, by go_num, by omega, HA2, by rw [List.length_append]; omega, HL2, below_trans hBr hb⟩
          case measure => simp [intOf]; omega
        · have hce : ((chkR e m fs ls cs : Int) == 0) = false := by rw [beq_eq_false_iff_ne]; omega
          have HA2 : Hid (logE (l.take (j + 1)) = 0 → acc = logT (l.take (j + 1))) := fun h => absurd (HE3.out.symm.trans h) hc
          clear hc hacc HT hE
          generalize chkR e m fs ls cs = ch at *
          go_wp2_with fail
          refine KC.out.mono ?_
          rintro x w3 ⟨rfl, hb⟩
          clear KC e0 e1 e2 e3 e4 hr3
          go_wp2_with fail
          go_roundw
          case rel => exact ⟨j + 1, acc, rfl, by rw [HE3.out], by go_num, by omega, HA2, by omega, HL2, below_trans hBr hb⟩
          case measure => simp [intOf]; omega
      · have HE3 : Hid (logE (l.take (j + 1)) = logE (l.take j)) := by show _ = _; rw [HE2.out, if_neg hE]
        have hce : ((logE (l.take j) : Int) == 0) = false := by rw [beq_eq_false_iff_ne]; omega
        have HA2 : Hid (logE (l.take (j + 1)) = 0 → acc = logT (l.take (j + 1))) := fun h => absurd (HE3.out.symm.trans h) hE
        clear HE2 HA HT hE e0 e1 e2 e3 e4 hr3
        generalize logE (l.take j) = er at *
        go_wp2_with fail
        go_roundw
        case rel => exact ⟨j + 1, acc, rfl, by rw [HE3.out], by go_num, by omega, HA2, by omega, HL2, hBr⟩
        case measure => simp [intOf]; omega
    · obtain rfl : j = n := by omega
      have hjn : ¬ (j : Int) < (j : Int) := by omega
      have hA := HA.out
      have hLL := HL.out
      rw [List.take_of_length_le (by omega)] at hA hLL ⊢
      have KL := fun W h1 h2 => Lib.hid (rlog_any l A j c W h1 h2 hLL (by omega))
      have hr2 : AllR3 wr l := AllR3.below HR.out hBr
      have hx2 := hx.below hBr
      have HS : Hid (logE l = 0 → logS l = acc) := fun h => by unfold logS; rw [if_pos h, hA h]
      have HS2 : Hid (logE l ≠ 0 → logS l = []) := fun h => by unfold logS; rw [if_neg h]
      have KL2 := Lib.hid (KL wr hx2 hr2).out
      clear hA hLL HA HL KL hr2 hx2 hx HR
      by_cases hE : logE l = 0
      · have hs := HS.out hE
        rw [hE] at KL2 ⊢
        rw [hs] at KL2
        clear HS HS2 hs hE
        go_wp2_with fail
        refine KL2.out.mono ?_
        rintro x w3 ⟨rfl, hb⟩
        clear KL2
        go_wp2_with fail
        refine (KA _).out.mono ?_
        rintro x w4 ⟨rfl, hb2⟩
        go_wp2_with fail
        go_ret
        exact ⟨rfl, below_trans (below_trans hBr hb) hb2⟩
      · have hs := HS2.out hE
        rw [hs] at KL2
        have hce : ((logE l : Int) == 0) = false := by rw [beq_eq_false_iff_ne]; omega
        have hce2 : ((logE l : Int) != 0) = true := by rw [bne_iff_ne]; omega
        clear HS HS2 hs hE
        generalize logE l = er at *
        go_wp2_with fail
        refine KL2.out.mono ?_
        rintro x w3 ⟨rfl, hb⟩
        clear KL2
        go_wp2_with fail
        refine (KA _).out.mono ?_
        rintro x w4 ⟨rfl, hb2⟩
        go_wp2_with fail
        go_ret
        exact ⟨rfl, below_trans (below_trans hBr hb) hb2⟩

/-- A row of replies that came in. -/
theorem rps_opened {w : World} {A : Option Addr} {c : Nat} {all : List Value} {x : List RpTy.El} (h : Rd w A x.length c RpTy.size all) (hx : ∀ i (h : i < x.length), RpTy.Reads w ((all.drop (i * RpTy.size)).take RpTy.size) x[i]) :
    ∃ l : List RpV, Rd w A x.length c 5 (rpCs l) ∧ AllR3 w l := by
  have key : ∀ i, i < x.length → ∃ v : RpV, (all.drop (i * 5)).take 5 = rpCs [v] ∧ R3 w v.fs v.ls v.cs v.A v.a1 v.a2 v.B v.b1 v.b2 v.C v.c1 v.c2 := by
    intro i hi
    have h := hx i hi
    generalize x[i] = y at h
    obtain ⟨e, n, fs, ls, ks, A, a1, a2, B, b1, b2, C, c1, c2, h1, h2⟩ := rp_opened (x := y) h
    exact ⟨⟨e, n, fs, ls, ks, A, a1, a2, B, b1, b2, C, c1, c2⟩, congrArg Array.toList h1, h2⟩
  obtain ⟨l, hl, hr⟩ := list_of x.length (fun i v => (all.drop (i * 5)).take 5 = rpCs [v] ∧ R3 w v.fs v.ls v.cs v.A v.a1 v.a2 v.B v.b1 v.b2 v.C v.c1 v.c2) key
  have hlen : all.length = x.length * 5 := h.len
  have := flat_opened 5 (fun v => rpCs [v]) l all (by omega) (fun i hi => (hr i hi).1)
  rw [show l.flatMap (fun v => rpCs [v]) = rpCs l from by
    clear this hr hl
    induction l with
    | nil => rfl
    | cons v l ih => rw [List.flatMap_cons, ih]; rfl] at this
  refine ⟨l, by rw [← this]; exact h, fun v hv => ?_⟩
  obtain ⟨i, hi, rfl⟩ := List.mem_iff_getElem.1 hv
  exact (hr i hi).2
end Go.Proofs.Ytefipigdkdopcaa
