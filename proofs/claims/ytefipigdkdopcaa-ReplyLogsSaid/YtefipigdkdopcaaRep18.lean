/- Contract of the law's light; a reply that came in, as cells. No condition but lengths' bounds. -/
import Derived.Test.YtefipigdkdopcaaRep6
import Derived.Test.YtefipigdkdopcaaOpen
namespace Go.Proofs.Ytefipigdkdopcaa
open Go.RowKit

/-- A reply that is not far too great. -/
def LightR (fs : List Fr) (ls : List (Nat × Nat)) (cs : List Int) : Prop := fs.length ≤ 30 ∧ (∀ f ∈ fs, f.2.2.2.2.length ≤ 300) ∧ ls.length ≤ 300 ∧ cs.length ≤ 300

def lightPost (w : World) (fs : List Fr) (ls : List (Nat × Nat)) (cs : List Int) (x : Ending) (w' : World) : Prop := ∃ b : Bool, x = .returned (.bool b) ∧ (b = true → LightR fs ls cs) ∧ Below w.heap.size w w'

set_option maxRecDepth 100000 in
set_option maxHeartbeats 4000000 in
theorem light_any (e : Int) (n : Nat) (fs : List Fr) (ls : List (Nat × Nat)) (cs : List Int) (A : Option Addr) (a1 a2 : Nat) (B : Option Addr) (b1 b2 : Nat) (C : Option Addr) (c1 c2 : Nat) (w : World)
    (hf : Rd w A a1 a2 5 (frCs fs)) (hl : Rd w B b1 b2 2 (prCs ls)) (hc : Rd w C c1 c2 1 (inCs cs)) :
    Calls Try.prog 32 #[rpl e n A a1 a2 B b1 b2 C c1 c2] w fun x w' => lightPost w fs ls cs x w' := by
  obtain ⟨hB, hca⟩ := one_cells w (rplCs e n A a1 a2 B b1 b2 C c1 c2) 47
  have p2 := hca 2 (.slice A a1 a2) rfl
  have p3 := hca 3 (.slice B b1 b2) rfl
  have p4 := hca 4 (.slice C c1 c2) rfl
  have hfl := hf.flen
  have hll := hl.plen
  have hcl := hc.ilen
  replace hf := hf.below hB
  have hcm := hf.cm
  have hnc := hf.nc
  have hcm2 := hl.cm
  have hnc2 := hl.nc
  have hcm3 := hc.cm
  have hnc3 := hc.nc
  unfold maxLen at hcm hcm2 hcm3
  clear hca hl hc
  go_enter Try.func32, Try.ntmps32
  go_wp2_with fail
  generalize w.alloc (.cells (rplCs e n A a1 a2 B b1 b2 C c1 c2) 47) = w1 at *
  go_loopw [3, 4] (fun v i wr => ∃ j : Nat, v = .int .i64 j ∧ i = .int .i64 j ∧ j ≤ a1 ∧ j ≤ 300 ∧ Hid (∀ f ∈ fs.take j, f.2.2.2.2.length ≤ 300) ∧ wr = w1) (fun _ i _ => a1 - (intOf i).toNat)
  case atStart => exact ⟨0, rfl, rfl, by omega, by omega, Lib.hid (by simp), rfl⟩
  case round =>
    obtain ⟨j, rfl, rfl, hj, hj3, HF, rfl⟩ := hrel
    by_cases hlt : j < a1
    · by_cases h3 : j < 300
      · obtain ⟨ad, rfl⟩ := hf.some_of_pos (by omega)
        obtain ⟨e0, e1, e2, e3, e4⟩ := hf.frame j (by omega)
        have hq1 : (j : Int) < a1 := by omega
        have hq2 : (j : Int) < 300 := by omega
        have HT : Hid (fs.take (j + 1) = fs.take j ++ [fs[j]]) := List.take_succ_eq_append_getElem (by omega)
        clear hf e0 e1 e2 e3
        generalize fs[j] = f at *
        obtain ⟨f0, f1, f2, f3, f4⟩ := f
        dsimp only at e4
        by_cases hd : 300 < f4.length
        · have hd' : (300 : Int) < f4.length := by omega
          clear HF HT
          go_wp2_with fail
          go_ret
          exact ⟨false, rfl, fun h => by (cases h), hB⟩
        · have hd' : ¬ (300 : Int) < f4.length := by omega
          have HF2 : Hid (∀ f ∈ fs.take (j + 1), f.2.2.2.2.length ≤ 300) := by
            intro f hfm
            rw [HT.out] at hfm
            rcases List.mem_append.1 hfm with h | h
            · exact HF.out f h
            · rw [List.mem_singleton] at h; subst h; dsimp only; omega
          clear HF HT
          go_wp2_with fail
          go_roundw
          case rel => exact ⟨j + 1, by go_num, by go_num, by omega, by omega, HF2, trivial⟩
          case measure => simp [intOf]; omega
      · obtain rfl : j = 300 := by omega
        have hq1 : (300 : Int) < a1 := by omega
        have hq3 : decide ((300 : Int) < a1) = true := by rw [decide_eq_true_iff]; omega
        clear hf HF
        go_wp2_with fail
        go_ret
        exact ⟨false, rfl, fun h => by (cases h), hB⟩
    · obtain rfl : j = a1 := by omega
      have hjn : ¬ (j : Int) < (j : Int) := by omega
      have hall := HF.out
      rw [List.take_of_length_le (by omega)] at hall
      have HALL := Lib.hid hall
      clear hall HF hf
      rcases (by omega : 30 < j ∨ (j ≤ 30 ∧ 300 < b1) ∨ (j ≤ 30 ∧ b1 ≤ 300 ∧ 300 < c1) ∨ (j ≤ 30 ∧ b1 ≤ 300 ∧ c1 ≤ 300)) with h1 | ⟨h1, h2⟩ | ⟨h1, h2, h3⟩ | ⟨h1, h2, h3⟩
      · have d1 : decide ((j : Int) ≤ 30) = false := by rw [decide_eq_false_iff_not]; omega
        have d2 : decide (j ≤ 30) = false := by rw [decide_eq_false_iff_not]; omega
        go_wp2_with fail
        go_ret
        exact ⟨false, rfl, fun h => by (cases h), hB⟩
      · have d1 : decide ((j : Int) ≤ 30) = true := by rw [decide_eq_true_iff]; omega
        have d2 : decide (j ≤ 30) = true := by rw [decide_eq_true_iff]; omega
        have d3 : decide ((b1 : Int) ≤ 300) = false := by rw [decide_eq_false_iff_not]; omega
        have d4 : decide (b1 ≤ 300) = false := by rw [decide_eq_false_iff_not]; omega
        go_wp2_with fail
        go_ret
        exact ⟨false, rfl, fun h => by (cases h), hB⟩
      · have d1 : decide ((j : Int) ≤ 30) = true := by rw [decide_eq_true_iff]; omega
        have d2 : decide (j ≤ 30) = true := by rw [decide_eq_true_iff]; omega
        have d3 : decide ((b1 : Int) ≤ 300) = true := by rw [decide_eq_true_iff]; omega
        have d4 : decide (b1 ≤ 300) = true := by rw [decide_eq_true_iff]; omega
        have d5 : decide ((c1 : Int) ≤ 300) = false := by rw [decide_eq_false_iff_not]; omega
        have d6 : decide (c1 ≤ 300) = false := by rw [decide_eq_false_iff_not]; omega
        go_wp2_with fail
        go_ret
        exact ⟨false, rfl, fun h => by (cases h), hB⟩
      · have d1 : decide ((j : Int) ≤ 30) = true := by rw [decide_eq_true_iff]; omega
        have d2 : decide (j ≤ 30) = true := by rw [decide_eq_true_iff]; omega
        have d3 : decide ((b1 : Int) ≤ 300) = true := by rw [decide_eq_true_iff]; omega
        have d4 : decide (b1 ≤ 300) = true := by rw [decide_eq_true_iff]; omega
        have d5 : decide ((c1 : Int) ≤ 300) = true := by rw [decide_eq_true_iff]; omega
        have d6 : decide (c1 ≤ 300) = true := by rw [decide_eq_true_iff]; omega
        go_wp2_with fail
        go_ret
        exact ⟨true, rfl, fun _ => ⟨by omega, HALL.out, by omega, by omega⟩, hB⟩
/-- The rows of a reply. -/
structure R3 (w : World) (fs : List Fr) (ls : List (Nat × Nat)) (cs : List Int) (A : Option Addr) (a1 a2 : Nat) (B : Option Addr) (b1 b2 : Nat) (C : Option Addr) (c1 c2 : Nat) : Prop where
  f : Rd w A a1 a2 5 (frCs fs)
  l : Rd w B b1 b2 2 (prCs ls)
  c : Rd w C c1 c2 1 (inCs cs)
theorem R3.below {w w' : World} {fs : List Fr} {ls : List (Nat × Nat)} {cs : List Int} {A B C : Option Addr} {a1 a2 b1 b2 c1 c2 : Nat} (h : R3 w fs ls cs A a1 a2 B b1 b2 C c1 c2) (hb : Below w.heap.size w w') : R3 w' fs ls cs A a1 a2 B b1 b2 C c1 c2 :=
  ⟨h.f.below hb, h.l.below hb, h.c.below hb⟩
theorem R3.chk {w : World} {fs : List Fr} {ls : List (Nat × Nat)} {cs : List Int} {A B C : Option Addr} {a1 a2 b1 b2 c1 c2 : Nat} (h : R3 w fs ls cs A a1 a2 B b1 b2 C c1 c2) (hL : LightR fs ls cs) : (a1 ≤ 1000000 ∧ b1 ≤ 1000000 ∧ c1 ≤ 1000000) ∧ ∀ f ∈ fs, f.2.2.2.2.length ≤ 1000000000 := by
  obtain ⟨h1, h2, h3, h4⟩ := hL
  have := h.f.flen
  have := h.l.plen
  have := h.c.ilen
  exact ⟨by omega, fun f hf => by have := h2 f hf; omega⟩

abbrev FrTy : Ty := .st (.cons (.int .u64) (.cons (.int .u64) (.cons (.int .i64) (.cons (.int .i64) (.cons .str .nil)))))
theorem frCs_flat (l : List Fr) : l.flatMap (fun f => frCs [f]) = frCs l := by
  induction l with
  | nil => rfl
  | cons f l ih => rw [List.flatMap_cons, ih]; rfl
theorem fr_opened {w : World} {A : Option Addr} {c : Nat} {all : List Value} {x : List FrTy.El} (h : Rd w A x.length c FrTy.size all) (hx : ∀ i (h : i < x.length), FrTy.Reads w ((all.drop (i * FrTy.size)).take FrTy.size) x[i]) :
    ∃ fs : List Fr, Rd w A x.length c 5 (frCs fs) := by
  have key : ∀ i, i < x.length → ∃ f : Fr, (all.drop (i * 5)).take 5 = frCs [f] := by
    intro i hi
    have h := hx i hi
    generalize x[i] = y at h
    obtain ⟨a, b, o, t, d, u⟩ := y
    obtain ⟨_, _, e, ⟨rfl, w1⟩, _, _, rfl, ⟨rfl, w2⟩, _, _, rfl, ⟨rfl, w3⟩, _, _, rfl, ⟨rfl, w4⟩, _, _, rfl, ⟨rfl, w5⟩, rfl⟩ := h
    dsimp only at w1 w2 w3 w4 w5 e
    obtain ⟨a, rfl, _⟩ := u64_opened w1
    obtain ⟨b, rfl, _⟩ := u64_opened w2
    obtain ⟨⟨l⟩⟩ := d
    exact ⟨(a, b, o, t, l), e⟩
  obtain ⟨fs, hl, hr⟩ := list_of x.length (fun i f => (all.drop (i * 5)).take 5 = frCs [f]) key
  have hlen : all.length = x.length * 5 := h.len
  have := flat_opened 5 (fun f => frCs [f]) fs all (by omega) (fun i hi => hr i hi)
  rw [frCs_flat] at this
  exact ⟨fs, by rw [← this]; exact h⟩
abbrev PrTy : Ty := .arr 2 22 (.int .u64)
theorem prCs_flat (l : List (Nat × Nat)) : l.flatMap (fun f => prCs [f]) = prCs l := by
  induction l with
  | nil => rfl
  | cons f l ih => rw [List.flatMap_cons, ih]; rfl
theorem pr_opened {w : World} {A : Option Addr} {c : Nat} {all : List Value} {x : List PrTy.El} (h : Rd w A x.length c PrTy.size all) (hx : ∀ i (h : i < x.length), PrTy.Reads w ((all.drop (i * PrTy.size)).take PrTy.size) x[i]) :
    ∃ ls : List (Nat × Nat), Rd w A x.length c 2 (prCs ls) := by
  have key : ∀ i, i < x.length → ∃ f : Nat × Nat, (all.drop (i * 2)).take 2 = prCs [f] := by
    intro i hi
    have h := hx i hi
    generalize x[i] = y at h
    obtain ⟨h1, h2, h3⟩ := h
    have h2' : ((all.drop (i * 2)).take 2).length = 2 := h2
    change ∀ j (hj : j < y.length), (Ty.int .u64).Reads w ((((all.drop (i * 2)).take 2).drop (j * 1)).take 1) y[j] at h3
    generalize (all.drop (i * 2)).take 2 = cs at *
    match y, h1, cs, h2' with
    | [a, b], _, [u, v], _ =>
      obtain ⟨e0, w0⟩ := h3 0 (by simp)
      obtain ⟨e1, w1⟩ := h3 1 (by simp)
      simp at e0 e1 w0 w1
      obtain ⟨a, rfl, _⟩ := u64_opened w0
      obtain ⟨b, rfl, _⟩ := u64_opened w1
      exact ⟨(a, b), by rw [e0, e1]; rfl⟩
  obtain ⟨fs, hl, hr⟩ := list_of x.length (fun i f => (all.drop (i * 2)).take 2 = prCs [f]) key
  have hlen : all.length = x.length * 2 := h.len
  have := flat_opened 2 (fun f => prCs [f]) fs all (by omega) (fun i hi => hr i hi)
  rw [prCs_flat] at this
  exact ⟨fs, by rw [← this]; exact h⟩
theorem in_opened {w : World} {A : Option Addr} {c : Nat} {all : List Value} {x : List Int} (h : Rd w A x.length c 1 all) (hx : ∀ i (h : i < x.length), (Ty.int .i64).Reads w ((all.drop (i * 1)).take 1) x[i]) :
    Rd w A x.length c 1 (inCs x) := by
  obtain ⟨rfl, -⟩ := rd_ints h hx
  exact h
abbrev RpTy : Ty := .st (.cons (.int .i64) (.cons (.int .u64) (.cons (.sl 100 FrTy) (.cons (.sl 109 PrTy) (.cons (.sl 3 (.int .i64)) .nil)))))
theorem rp_opened {w : World} {cs : List Value} {x : RpTy.El} (h : RpTy.Reads w cs x) :
    ∃ (e : Int) (n : Nat) (fs : List Fr) (ls : List (Nat × Nat)) (ks : List Int) (A : Option Addr) (a1 a2 : Nat) (B : Option Addr) (b1 b2 : Nat) (C : Option Addr) (c1 c2 : Nat),
      cs.toArray = rplCs e n A a1 a2 B b1 b2 C c1 c2 ∧ R3 w fs ls ks A a1 a2 B b1 b2 C c1 c2 := by
  obtain ⟨e, n, x1, x2, x3, u⟩ := x
  obtain ⟨_, _, rfl, ⟨rfl, w1⟩, _, _, rfl, ⟨rfl, w2⟩, _, _, rfl, ⟨A, a, all1, rfl, r1, e1⟩, _, _, rfl, ⟨B, b, all2, rfl, r2, e2⟩, _, _, rfl, ⟨C, c, all3, rfl, r3, e3⟩, rfl⟩ := h
  dsimp only at w1 w2 r1 e1 r2 e2 r3 e3
  obtain ⟨n, rfl, _⟩ := u64_opened w2
  obtain ⟨fs, hf⟩ := fr_opened r1 e1
  obtain ⟨ls, hl⟩ := pr_opened r2 e2
  exact ⟨e, n, fs, ls, x3, A, x1.length, a, B, x2.length, b, C, x3.length, c, rfl, hf, hl, in_opened r3 e3⟩
end Go.Proofs.Ytefipigdkdopcaa
