/- Layer 41 (tape): contract of Text. No condition but lengths' bounds. -/
import Derived.Test.YtefipigdkdopcaaTap5
import Derived.Test.YtefipigdkdopcaaShelf
import Derived.Lib.Join
import Derived.Deep.DeepCutAuto
namespace Go.Proofs.Ytefipigdkdopcaa
open Go.RowKit

def sumW (ws : List (List UInt8)) : Nat := (ws.map (fun p => p.length + 1)).sum
theorem sumW_append (a b : List (List UInt8)) : sumW (a ++ b) = sumW a + sumW b := by simp [sumW]
theorem sumW_map {α : Type} (g : α → List UInt8) (k : Nat) : ∀ l : List α, (∀ x ∈ l, (g x).length + 1 ≤ k) → sumW (l.map g) ≤ l.length * k
  | [], _ => by simp [sumW]
  | x :: l, h => by
    rw [List.map_cons, List.length_cons, Nat.succ_mul]
    have h1 := h x (by simp)
    have h2 := sumW_map g k l (fun y hy => h y (by simp [hy]))
    unfold sumW at h2 ⊢
    rw [List.map_cons, List.sum_cons]
    omega
theorem joinTail_len10 (ws : List (List UInt8)) : (Lib.joinTail [10] ws).length = sumW ws := by
  unfold Lib.joinTail sumW
  induction ws with
  | nil => rfl
  | cons x l ih =>
    rw [List.map_cons, List.flatten_cons, List.length_append, ih]
    simp
theorem join_len10 (ws : List (List UInt8)) : (Lib.join ws [10]).length ≤ sumW ws := by
  cases ws with
  | nil => simp [Lib.join_nil]
  | cons x l =>
    rw [Lib.join_cons, List.length_append, joinTail_len10]
    unfold sumW
    rw [List.map_cons, List.sum_cons]; omega
theorem sumW_len (ws : List (List UInt8)) : ws.length ≤ sumW ws := by
  unfold sumW
  induction ws with
  | nil => simp
  | cons x l ih => rw [List.map_cons, List.sum_cons, List.length_cons]; omega
theorem strs_list (l : List (List UInt8)) : strs l = (l.map fun s => (⟨s.toArray⟩ : ByteArray)).map Value.string := by simp [strs]
theorem join10_any (ws : List (List UInt8)) (v : Value) (base : Nat) (w : World) (ho : w.ownsRow base 9 1 v ws.length (strs ws)) (hpos : 0 < ws.length) (hN : sumW ws ≤ 100000000) :
    Calls Try.prog 77 #[v, .string ⟨#[10]⟩] w fun e w' => e = .returned (.string ⟨(Lib.join ws [10]).toArray⟩) ∧ Below w.heap.size w w' := by
  have hlen := sumW_len ws
  obtain ⟨A, c, rfl, hr, -⟩ := Rd.of_own ho
  rcases ho.2 with ⟨h1, h2⟩ | ⟨g, cap, cur, h1, hb, hg, hnc, hcm, hcs, htake⟩
  · omega
  cases h1
  have hx : (ws.map fun s => (⟨s.toArray⟩ : ByteArray)).map (·.data.toList) = ws := by simp [Function.comp_def]
  have hj := join_len10 ws
  have K := Try.strings_Join g 0 c (ws.map fun s => (⟨s.toArray⟩ : ByteArray)) ⟨#[10]⟩ w (fun j x hx => by
    have := hr.cell ⟨g, 0, none⟩ rfl j (.string x) (by rw [strs_list, List.getElem?_map, hx]; rfl)
    rw [add_plain0] at this
    rw [Nat.zero_add]
    exact this) (heap_lt hg) (by rw [List.length_map]; omega) (by rw [List.length_map]; exact hnc) (by rw [hx]; show (Lib.join ws [10]).length ≤ _; omega)
  rw [hx, List.length_map] at K
  exact K

def badS (b : Int) : List UInt8 := [98, 97, 100, 32] ++ digI b
def ftS (f : FtV) : List UInt8 := harmS f.at_ f.k f.x
def linesT (x y z : Int) (bs : List Int) (fs : List FtV) (ss : List StV) : List (List UInt8) := [firstS x y z] ++ bs.map badS ++ fs.map ftS ++ ss.map lineS
/-- The text of a script. -/
def textT (x y z : Int) (bs : List Int) (fs : List FtV) (ss : List StV) : List UInt8 := Lib.join (linesT x y z bs fs ss) [10] ++ [10]
/-- The masks of faults in memory. -/
def AllFt (w : World) (fs : List FtV) : Prop := ∀ f ∈ fs, RdB w f.A f.m f.c f.x
theorem AllFt.below {w w' : World} {fs : List FtV} (h : AllFt w fs) (hb : Below w.heap.size w w') : AllFt w' fs := fun f hf => (h f hf).below hb
theorem geom_i64 {x y z : Int} (h : geomOk x y z = true) : i64 x ∧ i64 y ∧ i64 z := by
  unfold geomOk at h; rw [decide_eq_true_iff] at h; unfold i64; omega
theorem bad_i64 {b : Int} (h : badOk b = true) : i64 b := by
  unfold badOk at h; rw [decide_eq_true_iff] at h; unfold i64; omega
theorem fault_i64 {f : FtV} (h : faultOk f = true) : i64 f.at_ ∧ f.m ≤ 256 := by
  unfold faultOk at h; rw [decide_eq_true_iff] at h; unfold i64; omega
theorem step_i64 {s : StV} (h : stepOk s = true) : i64 s.p ∧ s.d.length ≤ 4000 ∧ s.a < 18446744073709551616 ∧ s.b < 18446744073709551616 := by
  unfold stepOk at h
  unfold i64
  split at h
  · rw [decide_eq_true_iff] at h; omega
  · split at h
    · rw [decide_eq_true_iff] at h
      obtain ⟨h1, h2, h3, h4⟩ := h
      rw [h1]; simp only [List.length_nil]; omega
    · rw [decide_eq_true_iff] at h
      obtain ⟨h1, h2, h3⟩ := h
      have : s.a ≤ 1099511627776 ∧ s.b ≤ 1099511627776 := by
        unfold cmdCheck at h3
        split at h3
        · cases h3
        · split at h3
          · cases h3
          · omega
      rw [h1]; simp only [List.length_nil]; omega
theorem line_len {s : StV} (h : stepOk s = true) : (lineS s).length ≤ 8100 := by
  obtain ⟨h1, h2, h3, h4⟩ := step_i64 h
  have l1 := digI_len h1.1 h1.2
  have l2 := hexW_length s.d
  have l3 := textK_length s.k s.a s.b h3 h4
  unfold lineS wPow
  split
  · simp only [List.length_append, List.length_cons, List.length_nil]; omega
  · split
    · simp
    · split
      · omega
      · simp
theorem lines_bound {x y z : Int} {bs : List Int} {fs : List FtV} {ss : List StV} (h : ScOk x y z bs fs ss) (hf : ∀ f ∈ fs, f.x.length = f.m) : sumW (linesT x y z bs fs ss) ≤ 100 + 34 * 100 + 64 * 1000 + ss.length * 8101 := by
  obtain ⟨g1, g2, g3⟩ := geom_i64 h.g
  have l1 := digI_len g1.1 g1.2
  have l2 := digI_len g2.1 g2.2
  have l3 := digI_len g3.1 g3.2
  have s1 := sumW_map badS 100 bs (fun b hb => by
    have hi := bad_i64 (List.all_eq_true.1 h.b b hb)
    have := digI_len hi.1 hi.2
    unfold badS
    simp only [List.length_append, List.length_cons, List.length_nil]; omega)
  have s2 := sumW_map ftS 1000 fs (fun f hf' => by
    obtain ⟨hi, hm⟩ := fault_i64 (List.all_eq_true.1 h.f f hf')
    have l4 := digI_len hi.1 hi.2
    have l5 := hexW_length f.x
    have l6 := hf f hf'
    have l7 : (harmW f.k).length ≤ 5 := by unfold harmW; split <;> simp
    unfold ftS harmS
    simp only [List.length_append, List.length_cons, List.length_nil]; omega)
  have s3 := sumW_map lineS 8101 ss (fun s hs => by
    have := line_len (List.all_eq_true.1 h.s s hs)
    omega)
  have := h.b1
  have := h.f1
  unfold linesT
  rw [sumW_append, sumW_append, sumW_append]
  have s0 : sumW [firstS x y z] ≤ 100 := by
    unfold sumW firstS
    simp only [List.map_cons, List.map_nil, List.sum_cons, List.sum_nil, List.length_append, List.length_cons, List.length_nil]
    omega
  omega

set_option maxRecDepth 100000 in
set_option maxHeartbeats 2000000 in
theorem ttext_no (x y z : Int) (bs : List Int) (fs : List FtV) (ss : List StV) (B : Option Addr) (b1 b2 : Nat) (F : Option Addr) (f1 f2 : Nat) (S : Option Addr) (s1 s2 : Nat) (w : World)
    (h : Sc3 w bs fs ss B b1 b2 F f1 f2 S s1 s2) (hN : b1 ≤ 1000000 ∧ f1 ≤ 1000000 ∧ s1 ≤ 1000000) (hd : ∀ s ∈ ss, s.d.length ≤ 9223372036854775807) (hbad : ¬ ScOk x y z bs fs ss) :
    Calls Try.prog 48 #[.agg (scA x y z B b1 b2 F f1 f2 S s1 s2)] w fun e w' => e = .returned (.tuple #[.string ⟨([] : List UInt8).toArray⟩, .int .i64 3]) ∧ Below w.heap.size w w' := by
  obtain ⟨hB, hca⟩ := one_cells w (scA x y z B b1 b2 F f1 f2 S s1 s2) 69
  have p0 := hca 0 (.int .i64 x) rfl
  have p1 := hca 1 (.int .i64 y) rfl
  have p2 := hca 2 (.int .i64 z) rfl
  have p3 := hca 3 (.slice B b1 b2) rfl
  have p4 := hca 4 (.slice F f1 f2) rfl
  have p5 := hca 5 (.slice S s1 s2) rfl
  have KC := Lib.hid (tcheck_any x y z bs fs ss B b1 b2 F f1 f2 S s1 s2 _ (h.below hB) hN hd)
  rw [scE_three hbad] at KC
  clear hca h hN hd hbad
  go_enter Try.func48, Try.ntmps48
  go_wp2_with fail
  refine KC.out.mono ?_
  rintro e w2 ⟨rfl, hb⟩
  go_wp2_with fail
  go_ret2
  exact ⟨rfl, below_trans hB hb⟩

set_option maxRecDepth 100000 in
set_option maxHeartbeats 8000000 in
theorem ttext_yes (x y z : Int) (bs : List Int) (fs : List FtV) (ss : List StV) (B : Option Addr) (b1 b2 : Nat) (F : Option Addr) (f1 f2 : Nat) (S : Option Addr) (s1 s2 : Nat) (w : World)
    (h : Sc3 w bs fs ss B b1 b2 F f1 f2 S s1 s2) (hm : AllFt w fs) (hok : ScOk x y z bs fs ss) :
    Calls Try.prog 48 #[.agg (scA x y z B b1 b2 F f1 f2 S s1 s2)] w fun e w' => e = .returned (.tuple #[.string ⟨(textT x y z bs fs ss).toArray⟩, .int .i64 0]) ∧ Below w.heap.size w w' := by
  obtain ⟨hB, hca⟩ := one_cells w (scA x y z B b1 b2 F f1 f2 S s1 s2) 69
  have p0 := hca 0 (.int .i64 x) rfl
  have p1 := hca 1 (.int .i64 y) rfl
  have p2 := hca 2 (.int .i64 z) rfl
  have p3 := hca 3 (.slice B b1 b2) rfl
  have p4 := hca 4 (.slice F f1 f2) rfl
  have p5 := hca 5 (.slice S s1 s2) rfl
  have hbl := h.b.ilen
  have hfl := h.f.ftlen
  have hsl := h.s.stlen
  have hb34 := hok.b1
  have hf64 := hok.f1
  have hs4k := hok.s1
  have hLB := Lib.hid (lines_bound hok (fun f hf => (hm f hf).blen))
  replace h := h.below hB
  replace hm := hm.below hB
  have KC := Lib.hid (tcheck_any x y z bs fs ss B b1 b2 F f1 f2 S s1 s2 _ h (by omega) (fun s hs => by have := step_i64 (List.all_eq_true.1 hok.s s hs); omega))
  rw [scE_zero.2 hok] at KC
  obtain ⟨g1, g2, g3⟩ := geom_i64 hok.g
  have KF := fun W => Lib.hid (first_any x y z W g1 g2 g3)
  have HOK := Lib.hid hok
  have HT : Hid (textT x y z bs fs ss = Lib.join ([firstS x y z] ++ bs.map badS ++ fs.map ftS ++ ss.map lineS) [10] ++ [10]) := rfl
  have HLB : Hid (sumW ([firstS x y z] ++ bs.map badS ++ fs.map ftS ++ ss.map lineS) ≤ 100000000) := by
    have := hLB.out
    unfold linesT at this
    show _ ≤ _
    omega
  clear hca hok g1 g2 g3 hLB
  generalize textT x y z bs fs ss = tx at *
  generalize firstS x y z = fx at *
  go_enter Try.func48, Try.ntmps48
  go_wp2_with fail
  generalize w.alloc (.cells (scA x y z B b1 b2 F f1 f2 S s1 s2) 69) = w1 at *
  refine KC.out.mono ?_
  rintro e w2 ⟨rfl, hb⟩
  replace p0 := cell_below hb p0
  replace p1 := cell_below hb p1
  replace p2 := cell_below hb p2
  replace p3 := cell_below hb p3
  replace p4 := cell_below hb p4
  replace p5 := cell_below hb p5
  replace h := h.below hb
  replace hm := hm.below hb
  replace hB := below_trans hB hb
  clear hb KC
  go_wp2_with fail
  refine (KF _).out.mono ?_
  rintro e w3 ⟨rfl, hb⟩
  replace p3 := cell_below hb p3
  replace p4 := cell_below hb p4
  replace p5 := cell_below hb p5
  replace h := h.below hb
  replace hm := hm.below hb
  replace hB := below_trans hB hb
  clear hb KF p0 p1 p2
  obtain ⟨hb1, -⟩ := one_cells w3 #[.string ⟨fx.toArray⟩] 9
  have ho := World.ownsRow_lit (e := 9) (size := 1) w3 #[.string ⟨fx.toArray⟩] 1 (Nat.le_refl w3.heap.size) (by decide) rfl
  have r3 := cell_below hb1 p3
  go_upto_region 5 with fail
  generalize w3.alloc (.cells #[.string ⟨fx.toArray⟩] 9) = w4 at *
  go_wp2_with fail
  clear r3
  go_loopw [5, 7, 24] (fun v _ i wr => ∃ j : Nat, i = .int .i64 j ∧ j ≤ b1 ∧ wr.ownsRow w3.heap.size 9 1 v (1 + j) (strs ([fx] ++ (bs.take j).map badS)) ∧ Below w3.heap.size w3 wr) (fun _ _ i _ => b1 - (intOf i).toNat)
  case atStart => exact ⟨0, rfl, by omega, ho, hb1⟩
  case round =>
    clear ho hb1
    obtain ⟨j, rfl, hj, hown, hBr⟩ := hrel
    by_cases hlt : j < b1
    · obtain ⟨ad, rfl⟩ := h.b.some_of_pos (by omega)
      have e0 := (h.b.below hBr).icell j (by omega)
      have hi := bad_i64 (List.all_eq_true.1 HOK.out.b bs[j] (List.getElem_mem _))
      have hq1 : (j : Int) < b1 := by omega
      have HW : Hid (strs ([fx] ++ (bs.take (j + 1)).map badS) = strs ([fx] ++ (bs.take j).map badS) ++ [.string ⟨(badS bs[j]).toArray⟩]) := by
        show _ = _
        rw [List.take_succ_eq_append_getElem (by omega), List.map_append, ← List.append_assoc, strs_append]; rfl
      clear h hm
      generalize bs[j] = b at *
      have KD := fun W => Lib.hid (digits_below b W hi)
      have hl1 := digI_len hi.1 hi.2
      have HBs : Hid ((⟨(badS b).toArray⟩ : ByteArray) = ⟨#[98, 97, 100, 32]⟩ ++ ⟨(digI b).toArray⟩) := by show _ = _; unfold badS; rw [← cat_bytes]
      generalize strs ([fx] ++ (bs.take j).map badS) = ws at *
      generalize digI b = db at *
      rw [HBs.out] at HW
      clear hi
      go_wp2_with fail
      refine (KD _).out.mono ?_
      rintro e w6 ⟨rfl, hb6⟩
      replace hown := own_below hown hb6
      replace hBr := below_trans hBr hb6
      clear hb6 KD e0
      go_wp2_with (first
        | (at_builtin; refine wpl_append1 rfl (.tmp 28) (.tmp 32) 91 rfl w3.heap.size 9 (.string ⟨#[]⟩) 1 16 Try.underlying91 info_str rfl (by decide) _ (1 + j) _ rfl hown #[.string ((⟨#[98, 97, 100, 32]⟩ : ByteArray) ++ (⟨db.toArray⟩ : ByteArray))] (0, 0) 1 rfl rfl (by simp [Value.oneCell']) (by unfold maxLen; omega) (by omega) hBr.size ?_; intro v7 w7 ho7 hg7; have hB7 := below_own hBr hown hg7; clear hg7))
      go_roundw
      case rel => exact ⟨j + 1, by go_num, by omega, by rw [HW.out]; exact ho7, hB7⟩
      case measure => simp [intOf]; omega
    · obtain rfl : j = b1 := by omega
      have hjn : ¬ (j : Int) < (j : Int) := by omega
      rw [List.take_of_length_le (by omega)] at hown
      have r4 := cell_below hBr p4
      generalize hWB : bs.map badS = bw at *
      have hbw : bw.length = j := by rw [← hWB, List.length_map]; omega
      clear hWB
      go_wp2_with fail
      clear r4
      go_loopw [5, 9, 38] (fun v _ i wr => ∃ k : Nat, i = .int .i64 k ∧ k ≤ f1 ∧ wr.ownsRow w3.heap.size 9 1 v (1 + j + k) (strs ([fx] ++ bw ++ (fs.take k).map ftS)) ∧ Below w3.heap.size w3 wr) (fun _ _ i _ => f1 - (intOf i).toNat)
      case atStart => exact ⟨0, rfl, by omega, by simpa using hown, hBr⟩
      case round =>
        clear hown hBr
        obtain ⟨k, rfl, hk, hown, hBr⟩ := hrel
        by_cases hlt : k < f1
        · obtain ⟨ad, rfl⟩ := h.f.some_of_pos (by omega)
          obtain ⟨e0, e1, e2⟩ := (h.f.below hBr).fault k (by omega)
          obtain ⟨hi, hi2⟩ := fault_i64 (List.all_eq_true.1 HOK.out.f fs[k] (List.getElem_mem _))
          have hmk := (hm fs[k] (List.getElem_mem _)).below hBr
          have hq1 : (k : Int) < f1 := by omega
          have HW : Hid (strs ([fx] ++ bw ++ (fs.take (k + 1)).map ftS) = strs ([fx] ++ bw ++ (fs.take k).map ftS) ++ [.string ⟨(ftS fs[k]).toArray⟩]) := by
            show _ = _
            rw [List.take_succ_eq_append_getElem (by omega), List.map_append, ← List.append_assoc, strs_append]; rfl
          clear h hm
          generalize fs[k] = f at *
          obtain ⟨hb1, hca⟩ := one_cells wr (ftA f) 130
          have q0 := hca 0 (.int .i64 f.at_) rfl
          have q1 := hca 1 (.int .i64 f.k) rfl
          have q2 := hca 2 (.slice f.A f.m f.c) rfl
          have KD := Lib.hid (harm_any f _ hi (hmk.below hb1) (by omega))
          replace hown := own_below hown hb1
          replace hBr := below_trans hBr hb1
          have HFs : Hid (harmS f.at_ f.k f.x = ftS f) := rfl
          rw [HFs.out] at KD
          generalize ftS f = fl at *
          generalize strs ([fx] ++ bw ++ (fs.take k).map ftS) = ws at *
          clear hmk hb1 hca hi hi2
          obtain ⟨ft, fk, fA, fm, fc, fxs⟩ := f
          dsimp only at e0 e1 e2 q0 q1 q2 KD
          go_upto_region 13 with fail
          generalize wr.alloc (.cells #[.int .i64 ft, .int .i64 fk, .slice fA fm fc] 130) = w5 at *
          go_wp2_with fail
          refine KD.out.mono ?_
          rintro e w6 ⟨rfl, hb6⟩
          replace hown := own_below hown hb6
          replace hBr := below_trans hBr hb6
          clear hb6 KD e0 e1 e2 q0 q1 q2
          go_wp2_with (first
            | (at_builtin; refine wpl_append1 rfl (.tmp 42) (.tmp 45) 91 rfl w3.heap.size 9 (.string ⟨#[]⟩) 1 16 Try.underlying91 info_str rfl (by decide) _ (1 + j + k) _ rfl hown #[.string ⟨fl.toArray⟩] (0, 0) 1 rfl rfl (by simp [Value.oneCell']) (by unfold maxLen; omega) (by omega) hBr.size ?_; intro v7 w7 ho7 hg7; have hB7 := below_own hBr hown hg7; clear hg7))
          go_roundw
          case rel => exact ⟨k + 1, by go_num, by omega, by rw [HW.out]; exact ho7, hB7⟩
          case measure => simp [intOf]; omega
        · obtain rfl : k = f1 := by omega
          have hkn : ¬ (k : Int) < (k : Int) := by omega
          rw [List.take_of_length_le (by omega)] at hown
          have r5 := cell_below hBr p5
          generalize hWF : fs.map ftS = fw at *
          have hfw : fw.length = k := by rw [← hWF, List.length_map]; omega
          clear hWF
          go_wp2_with fail
          clear r5
          go_loopw [5, 11, 51] (fun v _ i wr => ∃ l : Nat, i = .int .i64 l ∧ l ≤ s1 ∧ wr.ownsRow w3.heap.size 9 1 v (1 + j + k + l) (strs ([fx] ++ bw ++ fw ++ (ss.take l).map lineS)) ∧ Below w3.heap.size w3 wr) (fun _ _ i _ => s1 - (intOf i).toNat)
          case atStart => exact ⟨0, rfl, by omega, by simpa using hown, hBr⟩
          case round =>
            clear hown hBr
            obtain ⟨l, rfl, hl, hown, hBr⟩ := hrel
            by_cases hlt : l < s1
            · obtain ⟨ad, rfl⟩ := h.s.some_of_pos (by omega)
              obtain ⟨e0, e1, e2, e3, e4⟩ := (h.s.below hBr).step l (by omega)
              obtain ⟨hi, hi2, -, -⟩ := step_i64 (List.all_eq_true.1 HOK.out.s ss[l] (List.getElem_mem _))
              have hq1 : (l : Int) < s1 := by omega
              have HW : Hid (strs ([fx] ++ bw ++ fw ++ (ss.take (l + 1)).map lineS) = strs ([fx] ++ bw ++ fw ++ (ss.take l).map lineS) ++ [.string ⟨(lineS ss[l]).toArray⟩]) := by
                show _ = _
                rw [List.take_succ_eq_append_getElem (by omega), List.map_append, ← List.append_assoc, strs_append]; rfl
              clear h hm
              generalize ss[l] = s at *
              obtain ⟨hb1, hca⟩ := one_cells wr (stA s) 78
              have q0 := hca 0 (.int .i64 s.k) rfl
              have q1 := hca 1 (.string ⟨s.d.toArray⟩) rfl
              have q2 := hca 2 (.int .i64 s.p) rfl
              have q3 := hca 3 (.int .u64 (s.a : Int)) rfl
              have q4 := hca 4 (.int .u64 (s.b : Int)) rfl
              have KD := fun W => Lib.hid (line_any s W hi (by omega))
              replace hown := own_below hown hb1
              replace hBr := below_trans hBr hb1
              generalize lineS s = sl at *
              generalize strs ([fx] ++ bw ++ fw ++ (ss.take l).map lineS) = ws at *
              clear hb1 hca hi hi2
              obtain ⟨sk, sd, sp, sa, sb⟩ := s
              dsimp only at e0 e1 e2 e3 e4 q0 q1 q2 q3 q4 KD
              go_upto_region 18 with fail
              generalize wr.alloc (.cells #[.int .i64 sk, .string ⟨sd.toArray⟩, .int .i64 sp, .int .u64 (sa : Int), .int .u64 (sb : Int)] 78) = w5 at *
              go_wp2_with fail
              refine (KD _).out.mono ?_
              rintro e w6 ⟨rfl, hb6⟩
              replace hown := own_below hown hb6
              replace hBr := below_trans hBr hb6
              clear hb6 KD e0 e1 e2 e3 e4 q0 q1 q2 q3 q4
              go_wp2_with (first
                | (at_builtin; refine wpl_append1 rfl (.tmp 55) (.tmp 58) 91 rfl w3.heap.size 9 (.string ⟨#[]⟩) 1 16 Try.underlying91 info_str rfl (by decide) _ (1 + j + k + l) _ rfl hown #[.string ⟨sl.toArray⟩] (0, 0) 1 rfl rfl (by simp [Value.oneCell']) (by unfold maxLen; omega) (by omega) hBr.size ?_; intro v7 w7 ho7 hg7; have hB7 := below_own hBr hown hg7; clear hg7))
              go_roundw
              case rel => exact ⟨l + 1, by go_num, by omega, by rw [HW.out]; exact ho7, hB7⟩
              case measure => simp [intOf]; omega
            · obtain rfl : l = s1 := by omega
              have hln : ¬ (l : Int) < (l : Int) := by omega
              rw [List.take_of_length_le (by omega)] at hown
              generalize hWS : ss.map lineS = sw at *
              have hsw : sw.length = l := by rw [← hWS, List.length_map]; omega
              clear hWS
              have hcnt : ([fx] ++ bw ++ fw ++ sw).length = 1 + j + k + l := by
                simp only [List.length_append, List.length_cons, List.length_nil]; omega
              have KJ := fun W hh => Lib.hid (join10_any ([fx] ++ bw ++ fw ++ sw) u5 w3.heap.size W hh (by omega) HLB.out)
              have hjl := Nat.le_trans (join_len10 _) HLB.out
              rw [← hcnt] at hown
              generalize [fx] ++ bw ++ fw ++ sw = wl at *
              clear hcnt HLB
              go_wp2_with fail
              refine (KJ _ hown).out.mono ?_
              rintro e w6 ⟨rfl, hb6⟩
              clear KJ
              go_wp2_with fail
              go_ret2
              have HT2 : (⟨tx.toArray⟩ : ByteArray) = ⟨(Lib.join wl [10]).toArray⟩ ++ ⟨#[10]⟩ := by rw [HT.out, ← cat_bytes]
              exact ⟨by rw [HT2]; rfl, below_trans hB (below_trans hBr hb6)⟩
end Go.Proofs.Ytefipigdkdopcaa
