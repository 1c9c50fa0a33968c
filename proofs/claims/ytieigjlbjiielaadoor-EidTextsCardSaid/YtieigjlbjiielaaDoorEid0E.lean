/- Contracts that the names' layer asks of runes, of the reference's Digits and of values. No condition but the kinds' bounds. -/
import Derived.Test.YtieigjlbjiielaaDoorRunePlain
import Derived.Test.YtieigjlbjiielaaDoorHeld
import Derived.Deep.RegionHeld
namespace Go.Proofs.YtieigjlbjiielaaDoor
open Go.RowKit

theorem gb_iterAt (w : World) (k : Nat) (s : ByteArray) (p : Nat) : w.grownBy (w.iterAt k s p) (some k) :=
  ⟨rfl, rfl, rfl, by rw [Lib.iterAt_size]; exact Nat.le_refl _, fun j _ hj => Lib.iterAt_other w k j s p (fun e => hj (by rw [e]))⟩
theorem index_list (xs : List UInt8) (k : Nat) (h : k < (⟨xs.toArray⟩ : ByteArray).size) : ((⟨xs.toArray⟩ : ByteArray)[k]'h) = xs.getD k 0 := by
  have h' : k < xs.length := by rwa [size_list] at h
  rw [List.getD_eq_getElem?_getD, List.getElem?_eq_getElem h']
  rfl
theorem take_one (xs : List UInt8) (k : Nat) (h : k < xs.length) : (xs.drop k).take 1 = [xs.getD k 0] := by
  rw [List.getD_eq_getElem?_getD, List.getElem?_eq_getElem h, Option.getD_some, List.drop_eq_getElem_cons h]
  rfl
/-- Where a range over a text stands; 'B': the iterator's block. -/
structure ItSt (B : Nat) (xs : List UInt8) (pos : Nat) (wr : World) : Prop where
  it : wr.heap[B]? = some (.stringIter ⟨xs.toArray⟩ pos)
  sz : B + 1 ≤ wr.heap.size
theorem ItSt.start (w : World) (xs : List UInt8) : ItSt w.heap.size xs 0 (w.iter ⟨xs.toArray⟩ 0) ∧ Below w.heap.size w (w.iter ⟨xs.toArray⟩ 0) :=
  ⟨⟨World.iter_heap w _ 0, by unfold World.iter; rw [alloc_size]; omega⟩, (Below.refl _ _).alloc (Nat.le_refl _) _⟩
theorem ItSt.pos {B : Nat} {xs : List UInt8} {pos : Nat} {wr : World} (h : ItSt B xs pos wr) : wr.iterPos B = pos := by
  simp only [World.iterPos, h.it]
theorem ItSt.next {B : Nat} {xs : List UInt8} {pos : Nat} {wr : World} (h : ItSt B xs pos wr) (pos' : Nat) : ItSt B xs pos' (wr.iterAt B ⟨xs.toArray⟩ pos') :=
  ⟨Lib.iterAt_heap wr B _ pos pos' h.it, by rw [Lib.iterAt_size]; exact h.sz⟩
theorem below_iter {A B : Nat} {w wr : World} (h : Below A w wr) (hB : A ≤ B) (xs : List UInt8) (pos : Nat) : Below A w (wr.iterAt B ⟨xs.toArray⟩ pos) := Lib.below_iterAt h hB _ _
theorem ItSt.below {B : Nat} {xs : List UInt8} {pos : Nat} {wr w2 : World} (h : ItSt B xs pos wr) (hb : Below wr.heap.size wr w2) : ItSt B xs pos w2 :=
  ⟨heap_below hb h.it, Nat.le_trans h.sz hb.size⟩
theorem ItSt.grown {B : Nat} {xs : List UInt8} {pos : Nat} {wr w2 : World} (h : ItSt B xs pos wr) {base e size n : Nat} {v : Value} {cs : List Value} (hown : wr.ownsRow base e size v n cs) (hb : B < base) (hg : wr.grownBy w2 v.ownBlock) : ItSt B xs pos w2 :=
  ⟨gb_heap hg h.it (fun e => by have := (hown.lt _ e.symm).1; omega), Nat.le_trans h.sz (World.grownBy.size hg)⟩
theorem ItSt.own {B : Nat} {xs : List UInt8} {wr : World} {base e size n : Nat} {v : Value} {cs : List Value} (hown : wr.ownsRow base e size v n cs) (hb : B < base) (pos' : Nat) : (wr.iterAt B ⟨xs.toArray⟩ pos').ownsRow base e size v n cs :=
  hown.kept (gb_iterAt wr B ⟨xs.toArray⟩ pos') (.inr (fun e => by have := (hown.lt _ e).1; omega))
theorem ItSt.run {B : Nat} {xs : List UInt8} {pos : Nat} {wr : World} (h : ItSt B xs pos wr) (hp : pos < xs.length) (ty : TypeId) :
    (Instr.next (.pointer (some ⟨B, 0, none⟩)) true ty).run Tryd.prog wr = .ok (.tuple #[.bool true, .int .i64 pos, .int .i32 (runeAt xs pos : Nat)]) (wr.iterAt B ⟨xs.toArray⟩ (pos + widAt xs pos)) := by
  have := Lib.run_next_any_at (P := Tryd.prog) wr B ⟨xs.toArray⟩ pos ty h.it (by rw [size_list]; exact hp)
  rw [show Utf8.decode ⟨xs.toArray⟩ pos = (runeAt xs pos, widAt xs pos) from decode_drop xs pos (by omega)] at this
  exact this
theorem ItSt.stop {B : Nat} {xs : List UInt8} {pos : Nat} {wr : World} (h : ItSt B xs pos wr) (hp : ¬ pos < xs.length) (ty : TypeId) :
    (Instr.next (.pointer (some ⟨B, 0, none⟩)) true ty).run Tryd.prog wr = .ok (.tuple #[.bool false]) wr :=
  Lib.run_next_end_at (P := Tryd.prog) wr B ⟨xs.toArray⟩ pos ty h.it (by rw [size_list]; exact hp)
def plainB (r : Nat) : Bool := decide (32 < r ∧ r < 127)
def plainF (xs : List UInt8) (i : Nat) : Bool :=
  if h : i < xs.length then plainB (runeAt xs i) && plainF xs (i + widAt xs i) else true
termination_by xs.length - i
decreasing_by have := (wid_pos xs i h).1; omega
set_option maxRecDepth 100000 in
theorem rplain_any (r : Nat) (w : World) (hr : r ≤ 1114111) : Calls Tryd.prog 55 #[.int .i32 r] w fun e w' => e = .returned (.bool (plainB r)) ∧ w = w' := by
  by_cases h1 : 32 < r
  · have h1' : (32 : Int) < (r : Int) := by omega
    by_cases h2 : r ≤ 126
    · have h2' : (r : Int) ≤ 126 := by omega
      have HP : Hid (plainB r = true) := by show _ = _; unfold plainB; rw [decide_eq_true_iff]; omega
      go_enter Tryd.func55, Tryd.ntmps55
      go_wp2_with fail
      go_ret
      exact ⟨by rw [HP.out]; rfl, rfl⟩
    · have h2' : ¬ (r : Int) ≤ 126 := by omega
      have HP : Hid (plainB r = false) := by show _ = _; unfold plainB; rw [decide_eq_false_iff_not]; omega
      go_enter Tryd.func55, Tryd.ntmps55
      go_wp2_with fail
      go_ret
      exact ⟨by rw [HP.out]; rfl, rfl⟩
  · have h1' : ¬ (32 : Int) < (r : Int) := by omega
    have HP : Hid (plainB r = false) := by show _ = _; unfold plainB; rw [decide_eq_false_iff_not]; omega
    go_enter Tryd.func55, Tryd.ntmps55
    go_wp2_with fail
    go_ret
    exact ⟨by rw [HP.out]; rfl, rfl⟩

theorem rune_le (xs : List UInt8) (i : Nat) (h : i < xs.length) : runeAt xs i ≤ 1114111 := by
  have := at8_lt xs i
  rcases rune_at xs i h with h | h <;> omega

set_option maxRecDepth 100000 in
set_option maxHeartbeats 1000000 in
theorem rPlain_any (xs : List UInt8) (w : World) (hN : xs.length ≤ 100000) : Calls Tryd.prog 44 #[.string ⟨xs.toArray⟩] w fun e w' => e = .returned (.bool (plainF xs 0 && !xs.isEmpty)) ∧ Below w.heap.size w w' := by
  obtain ⟨hI0, hB0⟩ := ItSt.start w xs
  go_enter Tryd.func44, Tryd.ntmps44
  go_wp2_with fail
  generalize w.iter ⟨xs.toArray⟩ 0 = w0 at *
  go_loopw [4] (fun _ wr => ∃ pos : Nat, pos ≤ xs.length ∧ Hid (plainF xs 0 = plainF xs pos) ∧ ItSt w.heap.size xs pos wr ∧ Below w.heap.size w wr) (fun _ wr => xs.length - wr.iterPos w.heap.size)
  case atStart => exact ⟨0, by omega, rfl, hI0, hB0⟩
  case round =>
    obtain ⟨pos, hpl, HG, hI, hB⟩ := hrel
    clear hI0 hB0
    by_cases hp : pos < xs.length
    · have hnx := hI.run hp
      have HM := Lib.hid hI.pos
      have hI2 := hI.next (pos + widAt xs pos)
      have hB2 := below_iter hB (Nat.le_refl _) xs (pos + widAt xs pos)
      obtain ⟨hw1, hw2⟩ := wid_pos xs pos hp
      have hr := rune_le xs pos hp
      have HP : Hid (plainF xs 0 = (plainB (runeAt xs pos) && plainF xs (pos + widAt xs pos))) := by
        show _ = _
        rw [HG.out]
        conv => lhs; rw [plainF]
        rw [dif_pos hp]
      have KP := fun W => Lib.hid (rplain_any (runeAt xs pos) W hr)
      clear HG hI hB
      generalize wr.iterAt w.heap.size ⟨xs.toArray⟩ (pos + widAt xs pos) = wi at *
      cases hb : plainB (runeAt xs pos) with
      | true =>
        rw [hb] at HP KP
        clear hb
        generalize runeAt xs pos = r at *
        go_wp2_with (refine (KP _).out.mono ?_; rintro e w' ⟨rfl, rfl⟩)
        go_roundw
        case rel => exact ⟨_, hw2, by rw [HP.out, Bool.true_and]; exact rfl, hI2, hB2⟩
        case measure => rw [hI2.pos, HM.out]; omega
      | false =>
        rw [hb] at HP KP
        clear hb
        generalize runeAt xs pos = r at *
        go_wp2_with (refine (KP _).out.mono ?_; rintro e w' ⟨rfl, rfl⟩)
        go_ret
        exact ⟨by rw [HP.out]; rfl, hB2⟩
    · have hnx := hI.stop hp
      have HP : Hid (plainF xs 0 = true) := by
        show _ = _
        rw [HG.out]
        rw [plainF, dif_neg hp]
      clear HG
      cases xs with
      | nil =>
        go_wp2_with fail
        go_ret
        exact ⟨by rw [HP.out]; rfl, hB⟩
      | cons x r =>
        go_wp2_with fail
        go_ret
        exact ⟨by rw [HP.out]; rfl, hB⟩

theorem dec_extract (d : Nat) (h : d < 10) : (⟨#[48, 49, 50, 51, 52, 53, 54, 55, 56, 57]⟩ : ByteArray).extract d (d + 1) = ⟨([UInt8.ofNat (48 + d)] : List UInt8).toArray⟩ := by
  rcases (by omega : d = 0 ∨ d = 1 ∨ d = 2 ∨ d = 3 ∨ d = 4 ∨ d = 5 ∨ d = 6 ∨ d = 7 ∨ d = 8 ∨ d = 9) with rfl | rfl | rfl | rfl | rfl | rfl | rfl | rfl | rfl | rfl <;> rfl

set_option maxRecDepth 100000 in
theorem digits7_step (m : Nat) : ∀ (n : Nat) (w : World), n < 10 ^ (m + 1) → n < 18446744073709551616 →
    Calls Tryd.prog 39 #[.int .u64 n] w fun e w' => e = .returned (.string ⟨(digs n).toArray⟩) ∧ w = w' := by
  induction m with
  | zero =>
    intro n w h1 h2
    have h : n < 10 := by simpa using h1
    have hx := dec_extract n h
    have HR : Hid (digs n = [UInt8.ofNat (48 + n)]) := by show _ = _; rw [digs, if_pos h]
    clear h1
    generalize UInt8.ofNat (48 + n) = b at *
    go_enter Tryd.func39, Tryd.ntmps39
    go_wp2_with fail
    go_ret
    exact ⟨by rw [HR.out]; rfl, rfl⟩
  | succ m ih =>
    intro n w h1 h2
    by_cases h : n < 10
    · have hx := dec_extract n h
      have HR : Hid (digs n = [UInt8.ofNat (48 + n)]) := by show _ = _; rw [digs, if_pos h]
      clear h1 ih
      generalize UInt8.ofNat (48 + n) = b at *
      go_enter Tryd.func39, Tryd.ntmps39
      go_wp2_with fail
      go_ret
      exact ⟨by rw [HR.out]; rfl, rfl⟩
    · have K1 := fun W => Lib.hid (ih (n / 10) W (by rw [Nat.pow_succ] at h1; omega) (by omega))
      have K2 := fun W => Lib.hid (ih (n % 10) W (by
        have : (10 : Nat) ≤ 10 ^ (m + 1) := by rw [Nat.pow_succ]; have := Nat.pow_le_pow_right (n := 10) (by omega) (Nat.zero_le m); rw [Nat.pow_zero] at this; omega
        omega) (by omega))
      have HR : Hid (digs n = digs (n / 10) ++ digs (n % 10)) := by
        show _ = _
        rw [digs.eq_def n, if_neg h, digs.eq_def (n % 10), if_pos (by omega)]
      have l1 := digs_len (n := n / 10) (by omega)
      have l2 := digs_len (n := n % 10) (by omega)
      clear ih h1
      generalize digs (n / 10) = p at *
      generalize digs (n % 10) = q at *
      have hl : ¬ (9223372036854775807 < p.length + q.length) := by omega
      go_enter Tryd.func39, Tryd.ntmps39
      go_wp2_with fail
      refine (K1 _).out.mono ?_
      rintro e w' ⟨rfl, rfl⟩
      go_wp2_with fail
      refine (K2 _).out.mono ?_
      rintro e w' ⟨rfl, rfl⟩
      go_wp2_with fail
      rw [cat_bytes]
      go_ret
      exact ⟨by rw [HR.out]; rfl, rfl⟩
theorem digits7_any (n : Nat) (w : World) (h : n < 18446744073709551616) :
    Calls Tryd.prog 39 #[.int .u64 n] w fun e w' => e = .returned (.string ⟨(digs n).toArray⟩) ∧ w = w' := digits7_step 19 n w (by omega) h

theorem run_ta {P : Program} {t : TypeId} {d : TypeDesc} (hu : P.underlying t = some d) (hd : (match d with | .interface _ => true | _ => false) = false) (v : Value) (xT : TypeId) (w : World) :
    (Instr.typeAssert (.iface t v) xT t true).run P w = .ok (.tuple #[v, .bool true]) w := by
  cases d <;> simp_all [Instr.typeAssert, run_underlying hu]

theorem uint_any (n : Nat) (w : World) : Calls Tryd.prog 28 #[.iface 22 (.int .u64 n)] w fun e w' => e = .returned (.tuple #[.int .u64 n, .bool true]) ∧ w = w' := by
  have kt := fun x w => run_ta (P := Tryd.prog) Tryd.underlying22 rfl (.int .u64 n) x w
  go_enter Tryd.func28, Tryd.ntmps28
  go_wp2
  go_ret2
  exact ⟨rfl, rfl⟩

theorem info_any : (Tryd.prog.info? 20).map (fun i => (i.zero, i.size, i.bytes)) = some (some .nilIface, 1, 16) := by kernel_rfl

set_option maxRecDepth 100000 in
theorem list_any2 (A : Option Addr) (c : Nat) (x y : Value) (w : World) (hx : Rd w A 2 c 1 [x, y]) (h1 : ∀ u ∈ [x, y], u.oneCell' = true) :
    Calls Tryd.prog 26 #[.iface 36 (.slice A 2 c)] w fun e w' => ∃ v, e = .returned (.tuple #[v, .bool true]) ∧ w'.ownsRow w.heap.size 20 1 v 2 [x, y] ∧ Below w.heap.size w w' := by
  have hB := Below.refl w.heap.size w
  have own0 := World.ownsRow_nil w w.heap.size 20 1
  have kt := fun x w => run_ta (P := Tryd.prog) Tryd.underlying36 rfl (.slice A 2 c) x w
  go_enter Tryd.func26, Tryd.ntmps26
  go_wp2_with (first
    | (at_builtin; refine wpl_append rfl (.const (.slice none 0 0)) (.tmp 11) 36 rfl w.heap.size 20 _ 1 16 Tryd.underlying36 info_any rfl (by decide) _ 0 [] rfl own0 A 2 c _ rfl hx h1 (by unfold maxLen; omega) (by omega) (Nat.le_refl _) ?_; intro v1 w1 ho1 hg1; have hB1 := below_own hB own0 hg1; clear hg1))
  go_ret2
  exact ⟨_, rfl, ho1, hB1⟩

end Go.Proofs.YtieigjlbjiielaaDoor
