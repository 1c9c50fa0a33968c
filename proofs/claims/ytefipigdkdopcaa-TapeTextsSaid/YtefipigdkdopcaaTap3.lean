/- Layer 41 (tape): rows of numbers, faults, steps; contracts of slices.ContainsFunc at Check's closures. No condition but lengths' bounds. -/
import Derived.Test.YtefipigdkdopcaaTap2
import Derived.Test.YtefipigdkdopcaaStrs
namespace Go.Proofs.Ytefipigdkdopcaa
open Go.RowKit

theorem at_plusk {w : World} {ad : Addr} {m k : Nat} {v : Value} (hk : 0 < k) (h : w.cell? (ad.add (m + k)) = some v) : w.cell? ⟨(ad.add m).block, (ad.add m).off + k, none⟩ = some v := by
  have e : (⟨(ad.add m).block, (ad.add m).off + k, none⟩ : Addr) = ad.add (m + k) := by
    unfold Addr.add
    have : ¬ (m + k = 0) := by omega
    by_cases hm : m = 0 <;> simp [hm, Nat.add_assoc, show ¬ (k = 0) by omega]
  rw [e]; exact h
def idxPost (b : Bool) (x : Ending) : Prop := ∃ v : Int, x = .returned (.int .i64 v) ∧ (b = true → v = -1) ∧ (b = false → 0 ≤ v)
def inCs (l : List Int) : List Value := l.map (Value.int .i64)
theorem inCs_length (l : List Int) : (inCs l).length = l.length := by simp [inCs]
theorem inCs_append (l m : List Int) : inCs (l ++ m) = inCs l ++ inCs m := by simp [inCs]
theorem Rd.ilen {w : World} {A : Option Addr} {n c : Nat} {l : List Int} (h : Rd w A n c 1 (inCs l)) : l.length = n := by
  have := h.len
  rw [inCs_length] at this; omega
theorem Rd.icell {w : World} {ad : Addr} {n c : Nat} {l : List Int} (h : Rd w (some ad) n c 1 (inCs l)) (i : Nat) (hi : i < l.length) : w.cell? (ad.add i) = some (.int .i64 l[i]) :=
  h.cell ad rfl i _ (by simp [inCs, hi])
theorem all_take_succ {α : Type} (p : α → Bool) (l : List α) (j : Nat) (h : j < l.length) : (l.take (j + 1)).all p = ((l.take j).all p && p l[j]) := by
  rw [List.take_succ_eq_append_getElem h, List.all_append]; simp
theorem all_false_of {α : Type} (p : α → Bool) (l : List α) (j : Nat) (h : j < l.length) (hp : p l[j] = false) : l.all p = false := by
  rw [List.all_eq_false]
  exact ⟨l[j], List.getElem_mem h, by simp [hp]⟩
def ftCs : List FtV → List Value
  | [] => []
  | f :: l => .int .i64 f.at_ :: .int .i64 f.k :: .slice f.A f.m f.c :: ftCs l
theorem ftCs_length (l : List FtV) : (ftCs l).length = l.length * 3 := by
  induction l with
  | nil => rfl
  | cons f l ih => simp [ftCs, ih]; omega
theorem ftCs_append (l m : List FtV) : ftCs (l ++ m) = ftCs l ++ ftCs m := by
  induction l with
  | nil => rfl
  | cons f l ih => simp [ftCs, ih]
theorem ftCs_get (l : List FtV) : ∀ i (h : i < l.length), (ftCs l)[i * 3]? = some (.int .i64 l[i].at_) ∧ (ftCs l)[i * 3 + 1]? = some (.int .i64 l[i].k) ∧ (ftCs l)[i * 3 + 2]? = some (.slice l[i].A l[i].m l[i].c) := by
  induction l with
  | nil => intro i h; exact absurd h (by simp)
  | cons f l ih =>
    intro i h
    cases i with
    | zero => exact ⟨rfl, rfl, rfl⟩
    | succ i =>
      have := ih i (by simpa using h)
      rw [show (i + 1) * 3 = i * 3 + 3 by omega]
      exact this
theorem Rd.fault {w : World} {ad : Addr} {n c : Nat} {l : List FtV} (h : Rd w (some ad) n c 3 (ftCs l)) (i : Nat) (hi : i < l.length) :
    w.cell? (ad.add (i * 3)) = some (.int .i64 l[i].at_) ∧ w.cell? ⟨(ad.add (i * 3)).block, (ad.add (i * 3)).off + 1, none⟩ = some (.int .i64 l[i].k) ∧ w.cell? ⟨(ad.add (i * 3)).block, (ad.add (i * 3)).off + 2, none⟩ = some (.slice l[i].A l[i].m l[i].c) := by
  obtain ⟨h0, h1, h2⟩ := ftCs_get l i hi
  exact ⟨h.cell ad rfl _ _ h0, at_plusk (by omega) (h.cell ad rfl _ _ h1), at_plusk (by omega) (h.cell ad rfl _ _ h2)⟩
theorem Rd.ftlen {w : World} {A : Option Addr} {n c : Nat} {l : List FtV} (h : Rd w A n c 3 (ftCs l)) : l.length = n := by
  have := h.len
  rw [ftCs_length] at this; omega
def stCs : List StV → List Value
  | [] => []
  | s :: l => .int .i64 s.k :: .string ⟨s.d.toArray⟩ :: .int .i64 s.p :: .int .u64 (s.a : Int) :: .int .u64 (s.b : Int) :: stCs l
theorem stCs_length (l : List StV) : (stCs l).length = l.length * 5 := by
  induction l with
  | nil => rfl
  | cons f l ih => simp [stCs, ih]; omega
theorem stCs_append (l m : List StV) : stCs (l ++ m) = stCs l ++ stCs m := by
  induction l with
  | nil => rfl
  | cons f l ih => simp [stCs, ih]
theorem stCs_get (l : List StV) : ∀ i (h : i < l.length), (stCs l)[i * 5]? = some (.int .i64 l[i].k) ∧ (stCs l)[i * 5 + 1]? = some (.string ⟨l[i].d.toArray⟩) ∧ (stCs l)[i * 5 + 2]? = some (.int .i64 l[i].p) ∧ (stCs l)[i * 5 + 3]? = some (.int .u64 (l[i].a : Int)) ∧ (stCs l)[i * 5 + 4]? = some (.int .u64 (l[i].b : Int)) := by
  induction l with
  | nil => intro i h; exact absurd h (by simp)
  | cons f l ih =>
    intro i h
    cases i with
    | zero => exact ⟨rfl, rfl, rfl, rfl, rfl⟩
    | succ i =>
      have := ih i (by simpa using h)
      rw [show (i + 1) * 5 = i * 5 + 5 by omega]
      exact this
theorem Rd.step {w : World} {ad : Addr} {n c : Nat} {l : List StV} (h : Rd w (some ad) n c 5 (stCs l)) (i : Nat) (hi : i < l.length) :
    w.cell? (ad.add (i * 5)) = some (.int .i64 l[i].k) ∧ w.cell? ⟨(ad.add (i * 5)).block, (ad.add (i * 5)).off + 1, none⟩ = some (.string ⟨l[i].d.toArray⟩) ∧ w.cell? ⟨(ad.add (i * 5)).block, (ad.add (i * 5)).off + 2, none⟩ = some (.int .i64 l[i].p) ∧ w.cell? ⟨(ad.add (i * 5)).block, (ad.add (i * 5)).off + 3, none⟩ = some (.int .u64 (l[i].a : Int)) ∧ w.cell? ⟨(ad.add (i * 5)).block, (ad.add (i * 5)).off + 4, none⟩ = some (.int .u64 (l[i].b : Int)) := by
  obtain ⟨h0, h1, h2, h3, h4⟩ := stCs_get l i hi
  exact ⟨h.cell ad rfl _ _ h0, at_plusk (by omega) (h.cell ad rfl _ _ h1), at_plusk (by omega) (h.cell ad rfl _ _ h2), at_plusk (by omega) (h.cell ad rfl _ _ h3), at_plusk (by omega) (h.cell ad rfl _ _ h4)⟩
theorem Rd.stlen {w : World} {A : Option Addr} {n c : Nat} {l : List StV} (h : Rd w A n c 5 (stCs l)) : l.length = n := by
  have := h.len
  rw [stCs_length] at this; omega

set_option maxRecDepth 100000 in
set_option maxHeartbeats 2000000 in
theorem bindex_any (fs : List Int) (A : Option Addr) (n c : Nat) (w : World) (hx : Rd w A n c 1 (inCs fs)) (hN : n ≤ 1000000) :
    Calls Try.prog 127 #[.slice A n c, .func (.func 94) #[] #[]] w fun e w' => idxPost (fs.all badOk) e ∧ Below w.heap.size w w' := by
  have hxl := hx.ilen
  have hcm := hx.cm
  skip
  unfold maxLen at hcm
  go_enter Try.func127, Try.ntmps127
  go_wp2_with fail
  go_loopw [5, 8] (fun _ i wr => ∃ j : Nat, j ≤ n ∧ i = .int .i64 j ∧ Hid ((fs.take j).all badOk = true) ∧ Below w.heap.size w wr) (fun _ i _ => n - (intOf i).toNat)
  case atStart => exact ⟨0, by omega, rfl, Lib.hid (by simp), Below.refl _ _⟩
  case round =>
    obtain ⟨j, hj, rfl, HA, hBr⟩ := hrel
    by_cases hlt : j < n
    · obtain ⟨ad, rfl⟩ := hx.some_of_pos (by omega)
      have e0 := (hx.below hBr).icell j (by omega)
      have HS := Lib.hid (all_take_succ badOk fs j (by omega))
      have HF := Lib.hid (all_false_of badOk fs j (by omega))
      have KC := fun W => Lib.hid (tchk1_any fs[j] W)
      have hq1 : (j : Int) < n := by omega
      clear hx
      generalize fs[j] = f at *
      cases hm : badOk f with
      | true =>
        rw [hm] at KC
        have HS2 : Hid ((fs.take (j + 1)).all badOk = true) := by show _ = _; rw [HS.out, HA.out, hm]; rfl
        clear HS HF HA hm
        skip
        go_wp2_with fail
        refine (KC _).out.mono ?_
        rintro e w2 ⟨rfl, hb⟩
        go_wp2_with fail
        go_roundw
        case rel => exact ⟨j + 1, by omega, by go_num, HS2, below_trans hBr hb⟩
        case measure => simp [intOf]; omega
      | false =>
        rw [hm] at KC
        have HF2 := Lib.hid (HF.out hm)
        clear HS HF HA hm
        skip
        go_wp2_with fail
        refine (KC _).out.mono ?_
        rintro e w2 ⟨rfl, hb⟩
        go_wp2_with fail
        go_ret
        exact ⟨⟨(j : Int), rfl, (fun h => by rw [HF2.out] at h; cases h), (fun _ => by omega)⟩, below_trans hBr hb⟩
    · obtain rfl : j = n := by omega
      have HA2 := HA.out
      rw [List.take_of_length_le (by omega)] at HA2
      replace HA2 := Lib.hid HA2
      have hjn : ¬ (j : Int) < (j : Int) := by omega
      clear HA hx
      go_wp2_with fail
      go_ret
      exact ⟨⟨-1, rfl, fun _ => rfl, fun h => by rw [HA2.out] at h; cases h⟩, hBr⟩

set_option maxRecDepth 100000 in
theorem bcontains_any (fs : List Int) (A : Option Addr) (n c : Nat) (w : World) (hx : Rd w A n c 1 (inCs fs)) (hN : n ≤ 1000000) :
    Calls Try.prog 100 #[.slice A n c, .func (.func 94) #[] #[]] w fun e w' => e = .returned (.bool (!fs.all badOk)) ∧ Below w.heap.size w w' := by
  have KI := Lib.hid (bindex_any fs A n c w hx hN)
  clear hx
  go_enter Try.func100, Try.ntmps100
  go_wp2_with fail
  refine KI.out.mono ?_
  rintro e w2 ⟨⟨v, rfl, h1, h2⟩, hb⟩
  clear KI
  cases ha : fs.all badOk with
  | true =>
    obtain rfl := h1 ha
    have HA := Lib.hid ha
    clear h1 h2 ha
    go_wp2_with fail
    go_ret
    exact ⟨ret_bool (by rw [HA.out]; rfl), hb⟩
  | false =>
    have hv := h2 ha
    have hv2 : decide (0 ≤ v) = true := by simpa using hv
    have HA := Lib.hid ha
    clear h1 h2 ha
    go_wp2_with fail
    go_ret
    exact ⟨ret_bool (by rw [HA.out]; rfl), hb⟩

set_option maxRecDepth 100000 in
set_option maxHeartbeats 2000000 in
theorem tindex_any (fs : List FtV) (A : Option Addr) (n c : Nat) (w : World) (hx : Rd w A n c 3 (ftCs fs)) (hN : n ≤ 1000000) :
    Calls Try.prog 128 #[.slice A n c, .func (.func 96) #[] #[]] w fun e w' => idxPost (fs.all faultOk) e ∧ Below w.heap.size w w' := by
  have hxl := hx.ftlen
  have hcm := hx.cm
  skip
  unfold maxLen at hcm
  go_enter Try.func128, Try.ntmps128
  go_wp2_with fail
  go_loopw [5, 8] (fun _ i wr => ∃ j : Nat, j ≤ n ∧ i = .int .i64 j ∧ Hid ((fs.take j).all faultOk = true) ∧ Below w.heap.size w wr) (fun _ i _ => n - (intOf i).toNat)
  case atStart => exact ⟨0, by omega, rfl, Lib.hid (by simp), Below.refl _ _⟩
  case round =>
    obtain ⟨j, hj, rfl, HA, hBr⟩ := hrel
    by_cases hlt : j < n
    · obtain ⟨ad, rfl⟩ := hx.some_of_pos (by omega)
      obtain ⟨e0, e1, e2⟩ := (hx.below hBr).fault j (by omega)
      have HS := Lib.hid (all_take_succ faultOk fs j (by omega))
      have HF := Lib.hid (all_false_of faultOk fs j (by omega))
      have KC := fun W => Lib.hid (tchk2_any fs[j] W)
      have hq1 : (j : Int) < n := by omega
      clear hx
      generalize fs[j] = f at *
      cases hm : faultOk f with
      | true =>
        rw [hm] at KC
        have HS2 : Hid ((fs.take (j + 1)).all faultOk = true) := by show _ = _; rw [HS.out, HA.out, hm]; rfl
        clear HS HF HA hm
        obtain ⟨f0, f1, f2, f3, f4, f5⟩ := f
        dsimp only at e0 e1 e2
        go_wp2_with fail
        refine (KC _).out.mono ?_
        rintro e w2 ⟨rfl, hb⟩
        go_wp2_with fail
        go_roundw
        case rel => exact ⟨j + 1, by omega, by go_num, HS2, below_trans hBr hb⟩
        case measure => simp [intOf]; omega
      | false =>
        rw [hm] at KC
        have HF2 := Lib.hid (HF.out hm)
        clear HS HF HA hm
        obtain ⟨f0, f1, f2, f3, f4, f5⟩ := f
        dsimp only at e0 e1 e2
        go_wp2_with fail
        refine (KC _).out.mono ?_
        rintro e w2 ⟨rfl, hb⟩
        go_wp2_with fail
        go_ret
        exact ⟨⟨(j : Int), rfl, (fun h => by rw [HF2.out] at h; cases h), (fun _ => by omega)⟩, below_trans hBr hb⟩
    · obtain rfl : j = n := by omega
      have HA2 := HA.out
      rw [List.take_of_length_le (by omega)] at HA2
      replace HA2 := Lib.hid HA2
      have hjn : ¬ (j : Int) < (j : Int) := by omega
      clear HA hx
      go_wp2_with fail
      go_ret
      exact ⟨⟨-1, rfl, fun _ => rfl, fun h => by rw [HA2.out] at h; cases h⟩, hBr⟩

set_option maxRecDepth 100000 in
theorem tcontains_any (fs : List FtV) (A : Option Addr) (n c : Nat) (w : World) (hx : Rd w A n c 3 (ftCs fs)) (hN : n ≤ 1000000) :
    Calls Try.prog 101 #[.slice A n c, .func (.func 96) #[] #[]] w fun e w' => e = .returned (.bool (!fs.all faultOk)) ∧ Below w.heap.size w w' := by
  have KI := Lib.hid (tindex_any fs A n c w hx hN)
  clear hx
  go_enter Try.func101, Try.ntmps101
  go_wp2_with fail
  refine KI.out.mono ?_
  rintro e w2 ⟨⟨v, rfl, h1, h2⟩, hb⟩
  clear KI
  cases ha : fs.all faultOk with
  | true =>
    obtain rfl := h1 ha
    have HA := Lib.hid ha
    clear h1 h2 ha
    go_wp2_with fail
    go_ret
    exact ⟨ret_bool (by rw [HA.out]; rfl), hb⟩
  | false =>
    have hv := h2 ha
    have hv2 : decide (0 ≤ v) = true := by simpa using hv
    have HA := Lib.hid ha
    clear h1 h2 ha
    go_wp2_with fail
    go_ret
    exact ⟨ret_bool (by rw [HA.out]; rfl), hb⟩

set_option maxRecDepth 100000 in
set_option maxHeartbeats 2000000 in
theorem sindex_any (fs : List StV) (A : Option Addr) (n c : Nat) (w : World) (hx : Rd w A n c 5 (stCs fs)) (hN : n ≤ 1000000) (hd : ∀ s ∈ fs, s.d.length ≤ 9223372036854775807) :
    Calls Try.prog 129 #[.slice A n c, .func (.func 98) #[] #[]] w fun e w' => idxPost (fs.all stepOk) e ∧ Below w.heap.size w w' := by
  have hxl := hx.stlen
  have hcm := hx.cm
  have HD := Lib.hid hd
  clear hd
  unfold maxLen at hcm
  go_enter Try.func129, Try.ntmps129
  go_wp2_with fail
  go_loopw [5, 8] (fun _ i wr => ∃ j : Nat, j ≤ n ∧ i = .int .i64 j ∧ Hid ((fs.take j).all stepOk = true) ∧ Below w.heap.size w wr) (fun _ i _ => n - (intOf i).toNat)
  case atStart => exact ⟨0, by omega, rfl, Lib.hid (by simp), Below.refl _ _⟩
  case round =>
    obtain ⟨j, hj, rfl, HA, hBr⟩ := hrel
    by_cases hlt : j < n
    · obtain ⟨ad, rfl⟩ := hx.some_of_pos (by omega)
      obtain ⟨e0, e1, e2, e3, e4⟩ := (hx.below hBr).step j (by omega)
      have HS := Lib.hid (all_take_succ stepOk fs j (by omega))
      have HF := Lib.hid (all_false_of stepOk fs j (by omega))
      have KC := fun W => Lib.hid (tchk3_any fs[j] W (HD.out _ (List.getElem_mem _)))
      have hq1 : (j : Int) < n := by omega
      clear hx HD
      generalize fs[j] = f at *
      cases hm : stepOk f with
      | true =>
        rw [hm] at KC
        have HS2 : Hid ((fs.take (j + 1)).all stepOk = true) := by show _ = _; rw [HS.out, HA.out, hm]; rfl
        clear HS HF HA hm
        obtain ⟨f0, f1, f2, f3, f4⟩ := f
        dsimp only at e0 e1 e2 e3 e4
        go_wp2_with fail
        refine (KC _).out.mono ?_
        rintro e w2 ⟨rfl, hb⟩
        go_wp2_with fail
        go_roundw
        case rel => exact ⟨j + 1, by omega, by go_num, HS2, below_trans hBr hb⟩
        case measure => simp [intOf]; omega
      | false =>
        rw [hm] at KC
        have HF2 := Lib.hid (HF.out hm)
        clear HS HF HA hm
        obtain ⟨f0, f1, f2, f3, f4⟩ := f
        dsimp only at e0 e1 e2 e3 e4
        go_wp2_with fail
        refine (KC _).out.mono ?_
        rintro e w2 ⟨rfl, hb⟩
        go_wp2_with fail
        go_ret
        exact ⟨⟨(j : Int), rfl, (fun h => by rw [HF2.out] at h; cases h), (fun _ => by omega)⟩, below_trans hBr hb⟩
    · obtain rfl : j = n := by omega
      have HA2 := HA.out
      rw [List.take_of_length_le (by omega)] at HA2
      replace HA2 := Lib.hid HA2
      have hjn : ¬ (j : Int) < (j : Int) := by omega
      clear HA hx
      go_wp2_with fail
      go_ret
      exact ⟨⟨-1, rfl, fun _ => rfl, fun h => by rw [HA2.out] at h; cases h⟩, hBr⟩

set_option maxRecDepth 100000 in
theorem scontains_any (fs : List StV) (A : Option Addr) (n c : Nat) (w : World) (hx : Rd w A n c 5 (stCs fs)) (hN : n ≤ 1000000) (hd : ∀ s ∈ fs, s.d.length ≤ 9223372036854775807) :
    Calls Try.prog 102 #[.slice A n c, .func (.func 98) #[] #[]] w fun e w' => e = .returned (.bool (!fs.all stepOk)) ∧ Below w.heap.size w w' := by
  have KI := Lib.hid (sindex_any fs A n c w hx hN hd)
  clear hx
  go_enter Try.func102, Try.ntmps102
  go_wp2_with fail
  refine KI.out.mono ?_
  rintro e w2 ⟨⟨v, rfl, h1, h2⟩, hb⟩
  clear KI
  cases ha : fs.all stepOk with
  | true =>
    obtain rfl := h1 ha
    have HA := Lib.hid ha
    clear h1 h2 ha
    go_wp2_with fail
    go_ret
    exact ⟨ret_bool (by rw [HA.out]; rfl), hb⟩
  | false =>
    have hv := h2 ha
    have hv2 : decide (0 ≤ v) = true := by simpa using hv
    have HA := Lib.hid ha
    clear h1 h2 ha
    go_wp2_with fail
    go_ret
    exact ⟨ret_bool (by rw [HA.out]; rfl), hb⟩
end Go.Proofs.Ytefipigdkdopcaa
