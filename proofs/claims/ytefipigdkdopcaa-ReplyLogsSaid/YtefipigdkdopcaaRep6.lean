/- Rows of replies: plain facts; contract of slices.ContainsFunc at the closure of reply.Check. No condition but lengths' bounds. -/
import Derived.Test.YtefipigdkdopcaaFrameSameP
import Derived.Test.YtefipigdkdopcaaFrame5P
import Derived.Test.YtefipigdkdopcaaStrs
namespace Go.Proofs.Ytefipigdkdopcaa
open Go.RowKit

/-- The cells of a reply. -/
abbrev rplCs (e : Int) (n : Nat) (A : Option Addr) (a1 a2 : Nat) (B : Option Addr) (b1 b2 : Nat) (C : Option Addr) (c1 c2 : Nat) : Array Value := #[.int .i64 e, .int .u64 (n : Int), .slice A a1 a2, .slice B b1 b2, .slice C c1 c2]
abbrev rpl (e : Int) (n : Nat) (A : Option Addr) (a1 a2 : Nat) (B : Option Addr) (b1 b2 : Nat) (C : Option Addr) (c1 c2 : Nat) : Value := .agg (rplCs e n A a1 a2 B b1 b2 C c1 c2)

/-- A row of pairs as cells. -/
def prCs : List (Nat × Nat) → List Value
  | [] => []
  | x :: l => .int .u64 (x.1 : Int) :: .int .u64 (x.2 : Int) :: prCs l
theorem prCs_length (l : List (Nat × Nat)) : (prCs l).length = l.length * 2 := by
  induction l with
  | nil => rfl
  | cons f l ih => simp [prCs, ih]; omega
theorem prCs_append (l m : List (Nat × Nat)) : prCs (l ++ m) = prCs l ++ prCs m := by
  induction l with
  | nil => rfl
  | cons f l ih => simp [prCs, ih]
theorem prCs_get (l : List (Nat × Nat)) : ∀ i (h : i < l.length), (prCs l)[i * 2]? = some (.int .u64 (l[i].1 : Int)) ∧ (prCs l)[i * 2 + 1]? = some (.int .u64 (l[i].2 : Int)) := by
  induction l with
  | nil => intro i h; exact absurd h (by simp)
  | cons f l ih =>
    intro i h
    cases i with
    | zero => exact ⟨rfl, rfl⟩
    | succ i =>
      have := ih i (by simpa using h)
      rw [show (i + 1) * 2 = i * 2 + 2 by omega]
      exact this
theorem Rd.pair {w : World} {ad : Addr} {n c : Nat} {l : List (Nat × Nat)} (h : Rd w (some ad) n c 2 (prCs l)) (i : Nat) (hi : i < l.length) :
    w.cell? (ad.add (i * 2)) = some (.int .u64 (l[i].1 : Int)) ∧ w.cell? ⟨(ad.add (i * 2)).block, (ad.add (i * 2)).off + 1, none⟩ = some (.int .u64 (l[i].2 : Int)) := by
  obtain ⟨h0, h1⟩ := prCs_get l i hi
  exact ⟨h.cell ad rfl _ _ h0, at_plusk (by omega) (h.cell ad rfl _ _ h1)⟩
theorem Rd.plen {w : World} {A : Option Addr} {n c : Nat} {l : List (Nat × Nat)} (h : Rd w A n c 2 (prCs l)) : l.length = n := by
  have := h.len
  rw [prCs_length] at this; omega
/-- Numbers as cells. -/
def inCs (l : List Int) : List Value := l.map (Value.int .i64)
theorem inCs_length (l : List Int) : (inCs l).length = l.length := by simp [inCs]
theorem inCs_append (l m : List Int) : inCs (l ++ m) = inCs l ++ inCs m := by simp [inCs]
theorem Rd.ilen {w : World} {A : Option Addr} {n c : Nat} {l : List Int} (h : Rd w A n c 1 (inCs l)) : l.length = n := by
  have := h.len
  rw [inCs_length] at this; omega
theorem Rd.icell {w : World} {ad : Addr} {n c : Nat} {l : List Int} (h : Rd w (some ad) n c 1 (inCs l)) (i : Nat) (hi : i < l.length) : w.cell? (ad.add i) = some (.int .i64 l[i]) :=
  h.cell ad rfl i _ (by simp [inCs, hi])

def far36 (x : Nat × Nat) : Bool := decide (max x.1 x.2 ≤ 1099511627776)
def cnt36 (v : Int) : Bool := decide (0 ≤ v ∧ v ≤ 1099511627776)
def num36 (e : Int) (n : Nat) : Bool := decide (0 ≤ e ∧ e ≤ 18 ∧ n ≤ 1099511627776)
def may1 (f : Fr) : Bool := mayF f.1 f.2.1 f.2.2.1 f.2.2.2.1 f.2.2.2.2.length
/-- What is wrong with a reply. -/
def chkR (e : Int) (n : Nat) (fs : List Fr) (ls : List (Nat × Nat)) (cs : List Int) : Nat :=
  if (num36 e n && ls.all far36 && cs.all cnt36) = false then 3
  else if 256 < fs.length ∨ 256 < ls.length ∨ 256 < cs.length then 4
  else if fs.all may1 then 0 else 6
theorem all_take_succ {α : Type} (p : α → Bool) (l : List α) (j : Nat) (h : j < l.length) : (l.take (j + 1)).all p = ((l.take j).all p && p l[j]) := by
  rw [List.take_succ_eq_append_getElem h, List.all_append]; simp
theorem all_false_of {α : Type} (p : α → Bool) (l : List α) (j : Nat) (h : j < l.length) (hp : p l[j] = false) : l.all p = false := by
  rw [List.all_eq_false]
  exact ⟨l[j], List.getElem_mem h, by simp [hp]⟩

set_option maxRecDepth 100000 in
theorem chk1_any (f : Fr) (w : World) (hd : f.2.2.2.2.length ≤ 1000000000) :
    Calls Try.prog 78 #[frm f.1 f.2.1 f.2.2.1 f.2.2.2.1 f.2.2.2.2] w fun e w' => e = .returned (.bool (!may1 f)) ∧ Below w.heap.size w w' := by
  obtain ⟨nu, id, o, t, d⟩ := f
  have KC := fun W => Lib.hid (fcheck_any nu id o t d W hd)
  unfold may1
  dsimp only
  obtain ⟨hB, hca⟩ := one_cells w (frmCs nu id o t d) 100
  have c0 := hca 0 (.int .u64 (nu : Int)) rfl
  have c1 := hca 1 (.int .u64 (id : Int)) rfl
  have c2 := hca 2 (.int .i64 o) rfl
  have c3 := hca 3 (.int .i64 t) rfl
  have c4 := hca 4 (.string ⟨d.toArray⟩) rfl
  clear hca
  cases hm : mayF nu id o t d.length with
  | true =>
    rw [hm, if_pos rfl] at KC
    go_enter Try.func78, Try.ntmps78
    go_wp2_with fail
    refine (KC _).out.mono ?_
    rintro e w2 ⟨rfl, hb⟩
    go_wp2_with fail
    go_ret
    exact ⟨rfl, below_trans hB hb⟩
  | false =>
    rw [hm, if_neg (by simp)] at KC
    go_enter Try.func78, Try.ntmps78
    go_wp2_with fail
    refine (KC _).out.mono ?_
    rintro e w2 ⟨rfl, hb⟩
    go_wp2_with fail
    go_ret
    exact ⟨rfl, below_trans hB hb⟩

set_option maxRecDepth 100000 in
set_option maxHeartbeats 2000000 in
theorem findex_any (fs : List Fr) (A : Option Addr) (n c : Nat) (w : World) (hx : Rd w A n c 5 (frCs fs)) (hN : n ≤ 1000000) (hd : ∀ f ∈ fs, f.2.2.2.2.length ≤ 1000000000) :
    Calls Try.prog 122 #[.slice A n c, .func (.func 78) #[] #[]] w fun e w' => (∃ v : Int, e = .returned (.int .i64 v) ∧ (fs.all may1 = true → v = -1) ∧ (fs.all may1 = false → 0 ≤ v)) ∧ Below w.heap.size w w' := by
  have hxl := hx.flen
  have hcm := hx.cm
  have HD := Lib.hid hd
  unfold maxLen at hcm
  clear hd
  go_enter Try.func122, Try.ntmps122
  go_wp2_with fail
  go_loopw [5, 8] (fun _ i wr => ∃ j : Nat, j ≤ n ∧ i = .int .i64 j ∧ Hid ((fs.take j).all may1 = true) ∧ Below w.heap.size w wr) (fun _ i _ => n - (intOf i).toNat)
  case atStart => exact ⟨0, by omega, rfl, Lib.hid (by simp), Below.refl _ _⟩
  case round =>
    obtain ⟨j, hj, rfl, HA, hBr⟩ := hrel
    by_cases hlt : j < n
    · obtain ⟨ad, rfl⟩ := hx.some_of_pos (by omega)
      obtain ⟨e0, e1, e2, e3, e4⟩ := (hx.below hBr).frame j (by omega)
      have HS := Lib.hid (all_take_succ may1 fs j (by omega))
      have HF := Lib.hid (all_false_of may1 fs j (by omega))
      have KC := fun W => Lib.hid (chk1_any fs[j] W (HD.out _ (List.getElem_mem _)))
      have hq1 : (j : Int) < n := by omega
      clear hx HD
      generalize fs[j] = f at *
      obtain ⟨f0, f1, f2, f3, f4⟩ := f
      dsimp only at e0 e1 e2 e3 e4 KC
      cases hm : may1 (f0, f1, f2, f3, f4) with
      | true =>
        rw [hm] at KC
        have HS2 : Hid ((fs.take (j + 1)).all may1 = true) := by show _ = _; rw [HS.out, HA.out, hm]; rfl
        clear HS HF HA hm
        go_wp2_with fail
        refine (KC _).out.mono ?_
        rintro e w2 ⟨rfl, hb⟩
        go_wp2_with fail
        go_roundw
        case rel => exact ⟨j + 1, by omega, by go_num, HS2, below_trans hBr hb⟩
        case measure => simp [intOf]; omega
      | false =>
        rw [hm] at KC
        have HF2 := Lib.hid (HF.out hm)
        clear HS HF HA hm
        go_wp2_with fail
        refine (KC _).out.mono ?_
        rintro e w2 ⟨rfl, hb⟩
        go_wp2_with fail
        go_ret
        exact ⟨⟨(j : Int), rfl, (fun h => by rw [HF2.out] at h; cases h), (fun _ => by omega)⟩, below_trans hBr hb⟩
    · obtain rfl : j = n := by omega
      have HA2 := HA.out
      rw [List.take_of_length_le (by omega)] at HA2
      replace HA2 := Lib.hid HA2
      clear HA hx HD
      go_wp2_with fail
      go_ret
      exact ⟨⟨-1, rfl, fun _ => rfl, fun h => by rw [HA2.out] at h; cases h⟩, hBr⟩

set_option maxRecDepth 100000 in
theorem fcontains_any (fs : List Fr) (A : Option Addr) (n c : Nat) (w : World) (hx : Rd w A n c 5 (frCs fs)) (hN : n ≤ 1000000) (hd : ∀ f ∈ fs, f.2.2.2.2.length ≤ 1000000000) :
    Calls Try.prog 80 #[.slice A n c, .func (.func 78) #[] #[]] w fun e w' => e = .returned (.bool (!fs.all may1)) ∧ Below w.heap.size w w' := by
  have KI := Lib.hid (findex_any fs A n c w hx hN hd)
  clear hx hd
  go_enter Try.func80, Try.ntmps80
  go_wp2_with fail
  refine KI.out.mono ?_
  rintro e w2 ⟨⟨v, rfl, h1, h2⟩, hb⟩
  clear KI
  cases ha : fs.all may1 with
  | true =>
    obtain rfl := h1 ha
    have HA := Lib.hid ha
    clear h1 h2 ha
    go_wp2_with fail
    go_ret
    exact ⟨ret_bool (by rw [HA.out]; rfl), hb⟩
  | false =>
    have hv := h2 ha
    have hv2 : decide (0 ≤ v) = true := by simpa using hv
    have HA := Lib.hid ha
    clear h1 h2 ha
    go_wp2_with fail
    go_ret
    exact ⟨ret_bool (by rw [HA.out]; rfl), hb⟩
end Go.Proofs.Ytefipigdkdopcaa
