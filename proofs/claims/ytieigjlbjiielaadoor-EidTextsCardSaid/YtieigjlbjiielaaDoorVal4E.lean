/- A value as the document's types: contract of the reference's Any. No condition. -/
import Derived.Test.YtieigjlbjiielaaDoorVal3E
import Derived.Maps.AppendAt
namespace Go.Proofs.YtieigjlbjiielaaDoor
open Go.RowKit

/-- A value of interface type that stands for a value; S: where its rows lie. -/
inductive AR (w : World) (S : Nat → Prop) : VT → Value → Prop
  | num (n : Nat) (s : List UInt8) (l : List VT) (hn : n < 18446744073709551616) : AR w S (.mk 0 n s l) (.iface 22 (.int .u64 (n : Int)))
  | text (n : Nat) (s : List UInt8) (l : List VT) : AR w S (.mk 3 n s l) (.iface 9 (.string ⟨s.toArray⟩))
  | list (n : Nat) (s : List UInt8) (l : List VT) (A : Option Addr) (c : Nat) (xs : List Value) (hx : Rd w A l.length c 1 xs) (hb : l.length * 56 ≤ 140737488351232)
      (hS : ∀ ad, A = some ad → S ad.block) (hl : ∀ i (h : i < l.length) u, xs[i]? = some u → AR w S l[i] u) : AR w S (.mk 4 n s l) (.iface 36 (.slice A l.length c))
  | other (k : Int) (n : Nat) (s : List UInt8) (l : List VT) (u : Value) (h0 : k ≠ 0) (h3 : k ≠ 3) (h4 : k ≠ 4) (a : NoT u 22) (b : NoT u 9) (c : NoT u 36) : AR w S (.mk k n s l) u
theorem AR.isI {w : World} {S : Nat → Prop} {v : VT} {u : Value} (h : AR w S v u) : IsI u := by
  cases h with
  | num n s l hn => exact .inr ⟨_, _, rfl⟩
  | text n s l => exact .inr ⟨_, _, rfl⟩
  | list n s l A c xs hx hb hS hl => exact .inr ⟨_, _, rfl⟩
  | other k n s l _ h0 h3 h4 a b c => exact a.isI
theorem AR.grown {w w' : World} {S T : Nat → Prop} {row : Option Nat} (hg : w.grownBy w' row) (hS : ∀ b, S b → some b ≠ row) (hT : ∀ b, S b → T b) {v : VT} {u : Value} (h : AR w S v u) : AR w' T v u := by
  induction h with
  | num n s l hn => exact .num n s l hn
  | text n s l => exact .text n s l
  | list n s l A c xs hx hb hs hl ih => exact .list n s l A c xs (hx.kept hg (fun ad e => hS _ (hs ad e))) hb (fun ad e => hT _ (hs ad e)) ih
  | other k n s l u h0 h3 h4 a b c => exact .other k n s l u h0 h3 h4 a b c
theorem AR.keep {w w' : World} {S T : Nat → Prop} (hb : Below w.heap.size w w') (hT : ∀ b, S b → T b) {v : VT} {u : Value} (h : AR w S v u) : AR w' T v u :=
  h.grown (gb_below hb none) (fun _ _ => by simp) hT

theorem below_bytes {B : Nat} (w : World) (xs : List UInt8) (h : B ≤ w.heap.size) : Below B w (Lib.bytesWorld w 5 ⟨xs.toArray⟩) :=
  (bytesWorld_below w 5 ⟨xs.toArray⟩).mono h
theorem ownBlock_some (ad : Addr) (n c : Nat) : (Value.slice (some ad) n c).ownBlock = some ad.block := rfl
theorem any_step {B j : Nat} {l : List VT} {xs : List Value} {wr w2 w3 : World} {v v3 u : Value} {t : TypeId} (hxl : xs.length = j)
    (hel : ∀ q (h : q < l.length) u, xs[q]? = some u → AR wr (fun b => B ≤ b ∧ b < wr.heap.size ∧ some b ≠ v.ownBlock) l[q] u) {hj : j < l.length}
    (hu : AR w2 (fun b => wr.heap.size ≤ b ∧ b < w2.heap.size) l[j] u) (hbb : Below wr.heap.size wr w2) (hB : B ≤ wr.heap.size) (hw3 : v3.ownBlock = v.ownBlock ∨ v3.ownBlock = some (w2.alloc (.cells #[u] t)).heap.size)
    (hg3 : (w2.alloc (.cells #[u] t)).grownBy w3 v.ownBlock) (hlow : ∀ b, v.ownBlock = some b → b < wr.heap.size) :
    ∀ q (h : q < l.length) y, (xs ++ [u])[q]? = some y → AR w3 (fun b => B ≤ b ∧ b < w3.heap.size ∧ some b ≠ v3.ownBlock) l[q] y := by
  have hsz : (w2.alloc (.cells #[u] t)).heap.size = w2.heap.size + 1 := alloc_size _ _
  have hs3 := World.grownBy.size hg3
  have hg : w2.grownBy w3 v.ownBlock := (World.grownBy_alloc w2 _ _).trans hg3
  have hsb := hbb.size
  intro q hq y hy
  by_cases hqj : q < j
  · rw [List.getElem?_append_left (by omega)] at hy
    have h1 := (hel q hq y hy).keep hbb (T := fun b => B ≤ b ∧ b < wr.heap.size ∧ some b ≠ v.ownBlock) (fun _ h => h)
    refine h1.grown hg (fun b hb => hb.2.2) (fun b hb => ⟨hb.1, by omega, fun e => ?_⟩)
    rcases hw3 with h | h
    · exact hb.2.2 (e.trans h)
    · rw [h, Option.some.injEq, hsz] at e; omega
  · have hqe : q = j := by
      have := (List.getElem?_eq_some_iff.1 hy).1
      rw [List.length_append] at this
      simp at this; omega
    subst hqe
    rw [List.getElem?_append_right (by omega), hxl, Nat.sub_self] at hy
    obtain rfl : u = y := by simpa using hy
    refine hu.grown hg (fun b hb e => ?_) (fun b hb => ⟨by omega, by omega, fun e => ?_⟩)
    · have := hlow b e.symm
      omega
    · rcases hw3 with h | h
      · have := hlow b (h.symm.trans e.symm); omega
      · rw [h, Option.some.injEq, hsz] at e; omega
theorem any_gb {B : Nat} {w2 w3 : World} {v u : Value} {t : TypeId} (hg3 : (w2.alloc (.cells #[u] t)).grownBy w3 v.ownBlock) (hlow : ∀ b, v.ownBlock = some b → B ≤ b) (hB : B ≤ w2.heap.size) : Below B w2 w3 := by
  have hg : w2.grownBy w3 v.ownBlock := (World.grownBy_alloc w2 _ _).trans hg3
  refine (Below.refl B w2).grown hg hB hlow

set_option maxRecDepth 100000 in
set_option maxHeartbeats 2000000 in
theorem any_any {w : World} {v : VT} {cs : List Value} (h : VR w v cs) : ∀ W, Below w.heap.size w W → Calls Tryd.prog 10 #[.agg cs.toArray] W fun e w' => ∃ u, e = .returned u ∧ AR w' (fun b => W.heap.size ≤ b ∧ b < w'.heap.size) v u ∧ Below W.heap.size W w' := by
  induction h with
  | mk k n s l A c all hn hs hr hl ih =>
    intro W hb
    obtain ⟨hB, hc⟩ := one_cells W #[.int .i64 k, .int .u64 n, .string ⟨s.toArray⟩, .slice A l.length c] 27
    have c0 := hc 0 _ rfl
    have c1 := hc 1 _ rfl
    have c2 := hc 2 _ rfl
    have c3 := hc 3 _ rfl
    have hB0 := below_then hb hB hb.size
    have HSZ : Hid ((W.alloc (.cells #[.int .i64 k, .int .u64 n, .string ⟨s.toArray⟩, .slice A l.length c] 27)).heap.size = W.heap.size + 1) := alloc_size _ _
    clear hc
    by_cases hk0 : k = 0
    · subst hk0
      clear ih hl hr
      go_enter Tryd.func10, Tryd.ntmps10
      go_upto_region 1 with fail
      generalize W.alloc (.cells #[.int .i64 0, .int .u64 n, .string ⟨s.toArray⟩, .slice A l.length c] 27) = w0 at *
      go_wp2_with fail
      go_ret
      exact ⟨_, rfl, .num n s l hn, hB⟩
    have g0 : (k == 0) = false := by rw [beq_eq_false_iff_ne]; exact hk0
    by_cases hk1 : k = 1
    · subst hk1
      clear ih hl hr
      go_enter Tryd.func10, Tryd.ntmps10
      go_upto_region 1 with fail
      generalize W.alloc (.cells #[.int .i64 1, .int .u64 n, .string ⟨s.toArray⟩, .slice A l.length c] 27) = w0 at *
      go_wp2_with fail
      go_ret
      exact ⟨_, rfl, .other 1 n s l _ (by decide) (by decide) (by decide) (.inr ⟨_, _, rfl, by decide⟩) (.inr ⟨_, _, rfl, by decide⟩) (.inr ⟨_, _, rfl, by decide⟩), hB⟩
    have g1 : (k == 1) = false := by rw [beq_eq_false_iff_ne]; exact hk1
    by_cases hk2 : k = 2
    · subst hk2
      clear ih hl hr
      have KB := fun W => run_bytes_of s W
      go_enter Tryd.func10, Tryd.ntmps10
      go_upto_region 1 with fail
      generalize W.alloc (.cells #[.int .i64 2, .int .u64 n, .string ⟨s.toArray⟩, .slice A l.length c] 27) = w0 at *
      go_wp2_with fail
      go_ret
      exact ⟨_, rfl, .other 2 n s l _ (by decide) (by decide) (by decide) (.inr ⟨_, _, rfl, by decide⟩) (.inr ⟨_, _, rfl, by decide⟩) (.inr ⟨_, _, rfl, by decide⟩), hB.trans (below_bytes w0 s hB.size)⟩
    have g2 : (k == 2) = false := by rw [beq_eq_false_iff_ne]; exact hk2
    by_cases hk3 : k = 3
    · subst hk3
      clear ih hl hr
      go_enter Tryd.func10, Tryd.ntmps10
      go_upto_region 1 with fail
      generalize W.alloc (.cells #[.int .i64 3, .int .u64 n, .string ⟨s.toArray⟩, .slice A l.length c] 27) = w0 at *
      go_wp2_with fail
      go_ret
      exact ⟨_, rfl, .text n s l, hB⟩
    have g3 : (k == 3) = false := by rw [beq_eq_false_iff_ne]; exact hk3
    by_cases hk4 : k = 4
    · subst hk4
      clear g0 g1 g2 g3
      go_enter Tryd.func10, Tryd.ntmps10
      go_upto_region 1 with fail
      generalize W.alloc (.cells #[.int .i64 4, .int .u64 n, .string ⟨s.toArray⟩, .slice A l.length c] 27) = w0 at *
      have hm := hr.cm
      have hnc := hr.nc
      unfold maxLen at hm
      go_upto_region 12 with fail
      have own0 : (w0.alloc (.cells #[] 20)).ownsRow w0.heap.size 20 1 (.slice (some ⟨w0.heap.size, 0, none⟩) 0 0) 0 [] := own_empty w0 20 1
      have hB1 := (one_cells w0 #[] 20).1
      generalize w0.alloc (.cells #[] 20) = w1 at *
      go_wp2_with fail
      go_loopw [3, 4] (fun v i wr => ∃ (j : Nat) (xs : List Value), i = .int .i64 j ∧ j ≤ l.length ∧ xs.length = j ∧ wr.ownsRow w0.heap.size 20 1 v j xs ∧
        (∀ q (h : q < l.length) u, xs[q]? = some u → AR wr (fun b => W.heap.size ≤ b ∧ b < wr.heap.size ∧ some b ≠ v.ownBlock) l[q] u) ∧ Below w0.heap.size w0 wr) (fun _ i _ => l.length - (intOf i).toNat)
      case atStart => exact ⟨0, [], rfl, by omega, rfl, own0, fun q hq u hu => by simp at hu, hB1⟩
      case round =>
        obtain ⟨j, xs, rfl, hj, hxl, ho, hel, hBr⟩ := hrel
        have k3 := cell_below hBr c3
        have hBw := below_then hB0 hBr hB0.size
        have hsr := hBr.size
        by_cases hlt : j < l.length
        · obtain ⟨k', n', s', A', m', c', he⟩ := (hl j hlt).form
          obtain ⟨ad, rfl, e0, e1, e2, e3⟩ := rows4 hr j hlt he
          have KI := fun W h => Lib.hid (ih j hlt W h)
          rw [he] at KI
          replace e0 := cell_belowB hBw (cell_lt e0) e0
          replace e1 := cell_belowB hBw (cell_lt e1) e1
          replace e2 := cell_belowB hBw (cell_lt e2) e2
          replace e3 := cell_belowB hBw (cell_lt e3) e3
          have hjn : (j : Int) < (l.length : Int) := by omega
          have HS := Lib.hid hs
          have HEL := Lib.hid hel
          clear he ih hl hr hel hs
          go_wp2_with fail
          refine (KI _ hBw).out.mono ?_
          rintro e w2 ⟨u, rfl, hu, hb1⟩
          have ho1 := own_below ho hb1
          have hBr2 := hBr.trans (hb1.mono hBr.size)
          have hI := hu.isI
          have h2 := HS.out
          have hlow := ho.lt
          have hWw := hB.size
          obtain ⟨i0, hi, hz0, hz1, hz2⟩ := info_parts info_any
          have HU := Lib.hid hu
          have hs2 := hb1.size
          clear hu KI e0 e1 e2 e3 k3
          rcases hI with rfl | ⟨t, y, rfl⟩
          · go_wp2_with (first
              | (at_builtin; (refine wpList_append_own_at _ rfl (.tmp 38) (.tmp 45) 36 rfl w0.heap.size 20 i0 .nilIface 1 16 Tryd.underlying36 hi hz0 hz1 hz2 rfl (by decide) _ j xs rfl (ho1.alloc _) ⟨w2.heap.size, 0, none⟩ 1 1 [.nilIface] rfl rfl (cell_one_new _ _ _) (by simp [Value.oneCell']) (by unfold maxLen; omega) (by omega) (by rw [alloc_size]; omega) ?_); intro v3 w3 ho3 hg3 _ hw3))
            go_roundw
            case rel =>
              refine ⟨j + 1, xs ++ [.nilIface], by go_num, by omega, by simp [hxl], ho3, ?_, ?_⟩
              · exact any_step hxl HEL.out (hj := hlt) HU.out hb1 (by omega) hw3 hg3 (fun b h => (hlow b h).2)
              · exact hBr2.trans (any_gb hg3 (fun b h => (hlow b h).1) (by omega))
            case measure => simp [intOf]; omega
          · go_wp2_with (first
              | (at_builtin; (refine wpList_append_own_at _ rfl (.tmp 38) (.tmp 45) 36 rfl w0.heap.size 20 i0 .nilIface 1 16 Tryd.underlying36 hi hz0 hz1 hz2 rfl (by decide) _ j xs rfl (ho1.alloc _) ⟨w2.heap.size, 0, none⟩ 1 1 [(.iface t y)] rfl rfl (cell_one_new _ _ _) (by simp [Value.oneCell']) (by unfold maxLen; omega) (by omega) (by rw [alloc_size]; omega) ?_); intro v3 w3 ho3 hg3 _ hw3))
            go_roundw
            case rel =>
              refine ⟨j + 1, xs ++ [(.iface t y)], by go_num, by omega, by simp [hxl], ho3, ?_, ?_⟩
              · exact any_step hxl HEL.out (hj := hlt) HU.out hb1 (by omega) hw3 hg3 (fun b h => (hlow b h).2)
              · exact hBr2.trans (any_gb hg3 (fun b h => (hlow b h).1) (by omega))
            case measure => simp [intOf]; omega
        · obtain rfl : j = l.length := by omega
          obtain ⟨A2, c2', rfl, hrd, hbl⟩ := Rd.of_own ho
          have hlt2 := ho.lt
          go_wp2_with fail
          go_ret
          refine ⟨_, rfl, .list n s l A2 c2' xs hrd hs (fun ad e => ?_) (fun q hq u hu => (hel q hq u hu).grown (World.grownBy.refl _ _ : wr.grownBy wr none) (fun _ _ => by simp) (fun b hb => ⟨hb.1, hb.2.1⟩)), hB.trans (hBr.mono hB.size)⟩
          have h9 := hbl ad e
          have hWw := hB.size
          refine ⟨by omega, ?_⟩
          subst e
          exact (hlt2 ad.block (ownBlock_some ad _ _)).2
    have g4 : (k == 4) = false := by rw [beq_eq_false_iff_ne]; exact hk4
    clear ih hl hr
    have ho : ∀ u, NoT u 22 → NoT u 9 → NoT u 36 → ∀ w S, AR w S (.mk k n s l) u := fun u a b c w S => .other k n s l u hk0 hk3 hk4 a b c
    by_cases hk5 : k = 5
    · subst hk5
      go_enter Tryd.func10, Tryd.ntmps10
      go_upto_region 1 with fail
      generalize W.alloc (.cells #[.int .i64 5, .int .u64 n, .string ⟨s.toArray⟩, .slice A l.length c] 27) = w0 at *
      go_wp2_with fail
      go_ret
      exact ⟨_, rfl, ho _ (.inr ⟨_, _, rfl, by decide⟩) (.inr ⟨_, _, rfl, by decide⟩) (.inr ⟨_, _, rfl, by decide⟩) _ _, hB⟩
    have g5 : (k == 5) = false := by rw [beq_eq_false_iff_ne]; exact hk5
    by_cases hk6 : k = 6
    · subst hk6
      go_enter Tryd.func10, Tryd.ntmps10
      go_upto_region 1 with fail
      generalize W.alloc (.cells #[.int .i64 6, .int .u64 n, .string ⟨s.toArray⟩, .slice A l.length c] 27) = w0 at *
      go_wp2_with fail
      go_ret
      exact ⟨_, rfl, ho _ (.inr ⟨_, _, rfl, by decide⟩) (.inr ⟨_, _, rfl, by decide⟩) (.inr ⟨_, _, rfl, by decide⟩) _ _, hB⟩
    have g6 : (k == 6) = false := by rw [beq_eq_false_iff_ne]; exact hk6
    go_enter Tryd.func10, Tryd.ntmps10
    go_upto_region 1 with fail
    generalize W.alloc (.cells #[.int .i64 k, .int .u64 n, .string ⟨s.toArray⟩, .slice A l.length c] 27) = w0 at *
    go_wp2_with fail
    go_ret
    exact ⟨_, rfl, ho _ (nil_noT _) (nil_noT _) (nil_noT _) _ _, hB⟩
end Go.Proofs.YtieigjlbjiielaaDoor
