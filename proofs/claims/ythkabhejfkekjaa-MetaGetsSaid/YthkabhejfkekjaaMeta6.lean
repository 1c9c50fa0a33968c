/- Contract of meta.Get of a record's own data. No condition but that the record may be. -/
import Derived.Test.YthkabhejfkekjaaMeta4
import Derived.Test.YthkabhejfkekjaaMetaRd
import Derived.Deep.DeepCutAuto
namespace Go.Proofs.Ythkabhejfkekjaa
open Go.RowKit

theorem gb_new {w w1 w2 : World} {g gA : Nat} (h : w.grownBy w1 (some g)) (h2 : w1.grownBy w2 (some gA)) (hB : w.heap.size ≤ gA) : w.grownBy w2 (some g) :=
  ⟨h2.os.trans h.os, h2.tape.trans h.tape, h2.output.trans h.output, Nat.le_trans h.size h2.size, fun k hk hne => by
    rw [h2.block k (by have := h.size; omega) (by simp; omega)]; exact h.block k hk hne⟩
/-- A struct of eight cells laid into a block, cell by cell. -/
abbrev eight (w : World) (g : Nat) (a b c d e f h i : Value) : World := (((((((w.setCell ⟨g, 0, none⟩ a).setCell ⟨g, 1, none⟩ b).setCell ⟨g, 2, none⟩ c).setCell ⟨g, 3, none⟩ d).setCell ⟨g, 4, none⟩ e).setCell ⟨g, 5, none⟩ f).setCell ⟨g, 6, none⟩ h).setCell ⟨g, 7, none⟩ i
theorem eight_heap {w : World} {g : Nat} {a0 b0 c0 d0 e0 f0 h0 i0 : Value} {t : TypeId} (hh : w.heap[g]? = some (.cells #[a0, b0, c0, d0, e0, f0, h0, i0] t (0, 0))) (a b c d e f h i : Value) : (eight w g a b c d e f h i).heap[g]? = some (.cells #[a, b, c, d, e, f, h, i] t (0, 0)) := by
  have k0 : (w.setCell ⟨g, 0, none⟩ a).heap[g]? = some (.cells #[a, b0, c0, d0, e0, f0, h0, i0] t (0, 0)) := set_heap (o := 0) hh a
  have k1 : ((w.setCell ⟨g, 0, none⟩ a).setCell ⟨g, 1, none⟩ b).heap[g]? = some (.cells #[a, b, c0, d0, e0, f0, h0, i0] t (0, 0)) := set_heap (o := 1) k0 b
  have k2 : (((w.setCell ⟨g, 0, none⟩ a).setCell ⟨g, 1, none⟩ b).setCell ⟨g, 2, none⟩ c).heap[g]? = some (.cells #[a, b, c, d0, e0, f0, h0, i0] t (0, 0)) := set_heap (o := 2) k1 c
  have k3 : ((((w.setCell ⟨g, 0, none⟩ a).setCell ⟨g, 1, none⟩ b).setCell ⟨g, 2, none⟩ c).setCell ⟨g, 3, none⟩ d).heap[g]? = some (.cells #[a, b, c, d, e0, f0, h0, i0] t (0, 0)) := set_heap (o := 3) k2 d
  have k4 : (((((w.setCell ⟨g, 0, none⟩ a).setCell ⟨g, 1, none⟩ b).setCell ⟨g, 2, none⟩ c).setCell ⟨g, 3, none⟩ d).setCell ⟨g, 4, none⟩ e).heap[g]? = some (.cells #[a, b, c, d, e, f0, h0, i0] t (0, 0)) := set_heap (o := 4) k3 e
  have k5 : ((((((w.setCell ⟨g, 0, none⟩ a).setCell ⟨g, 1, none⟩ b).setCell ⟨g, 2, none⟩ c).setCell ⟨g, 3, none⟩ d).setCell ⟨g, 4, none⟩ e).setCell ⟨g, 5, none⟩ f).heap[g]? = some (.cells #[a, b, c, d, e, f, h0, i0] t (0, 0)) := set_heap (o := 5) k4 f
  have k6 : (((((((w.setCell ⟨g, 0, none⟩ a).setCell ⟨g, 1, none⟩ b).setCell ⟨g, 2, none⟩ c).setCell ⟨g, 3, none⟩ d).setCell ⟨g, 4, none⟩ e).setCell ⟨g, 5, none⟩ f).setCell ⟨g, 6, none⟩ h).heap[g]? = some (.cells #[a, b, c, d, e, f, h, i0] t (0, 0)) := set_heap (o := 6) k5 h
  have k7 : ((((((((w.setCell ⟨g, 0, none⟩ a).setCell ⟨g, 1, none⟩ b).setCell ⟨g, 2, none⟩ c).setCell ⟨g, 3, none⟩ d).setCell ⟨g, 4, none⟩ e).setCell ⟨g, 5, none⟩ f).setCell ⟨g, 6, none⟩ h).setCell ⟨g, 7, none⟩ i).heap[g]? = some (.cells #[a, b, c, d, e, f, h, i] t (0, 0)) := set_heap (o := 7) k6 i
  exact k7
theorem eight_gb (w : World) (g : Nat) (a b c d e f h i : Value) : w.grownBy (eight w g a b c d e f h i) (some g) :=
  (((((((gb_set _ _ _ _).trans (gb_set _ _ _ _)).trans (gb_set _ _ _ _)).trans (gb_set _ _ _ _)).trans (gb_set _ _ _ _)).trans (gb_set _ _ _ _)).trans (gb_set _ _ _ _)).trans (gb_set _ _ _ _)
theorem eight_cells {w : World} {g : Nat} {a b c d e f h i : Value} {t : TypeId} (hh : w.heap[g]? = some (.cells #[a, b, c, d, e, f, h, i] t (0, 0))) :
    (w.cell? ⟨g, 0, none⟩ = some a ∧ w.cell? ⟨g, 1, none⟩ = some b ∧ w.cell? ⟨g, 2, none⟩ = some c ∧ w.cell? ⟨g, 3, none⟩ = some d ∧ w.cell? ⟨g, 4, none⟩ = some e ∧ w.cell? ⟨g, 5, none⟩ = some f ∧ w.cell? ⟨g, 6, none⟩ = some h ∧ w.cell? ⟨g, 7, none⟩ = some i) ∧
    (w.frozen? ⟨g, 0, none⟩ = false ∧ w.frozen? ⟨g, 1, none⟩ = false ∧ w.frozen? ⟨g, 2, none⟩ = false ∧ w.frozen? ⟨g, 3, none⟩ = false ∧ w.frozen? ⟨g, 4, none⟩ = false ∧ w.frozen? ⟨g, 5, none⟩ = false ∧ w.frozen? ⟨g, 6, none⟩ = false ∧ w.frozen? ⟨g, 7, none⟩ = false) :=
  ⟨⟨cell_heap hh, cell_heap hh, cell_heap hh, cell_heap hh, cell_heap hh, cell_heap hh, cell_heap hh, cell_heap hh⟩, frozen_heap hh, frozen_heap hh, frozen_heap hh, frozen_heap hh, frozen_heap hh, frozen_heap hh, frozen_heap hh, frozen_heap hh⟩
theorem is_take (ps : List Nat) (j : Nat) (hj : j < ps.length) : is_ (ints (ps.take (j + 1))) = is_ (ints (ps.take j)) ++ [.int .i64 ((ps.getD j 0 : Nat) : Int)] := by
  rw [List.take_succ_eq_append_getElem hj, List.getD_eq_getElem?_getD, List.getElem?_eq_getElem hj]
  simp only [is_, ints, List.map_append, List.map_cons, List.map_nil, Option.getD_some]
theorem info_int : (Try.prog.info? 3).map (fun i => (i.zero, i.size, i.bytes)) = some (some (.int .i64 0), 1, 8) := by kernel_rfl
theorem info_ints : ∃ i, Try.prog.info? 3 = some i ∧ i.zero = some (.int .i64 0) ∧ i.size = 1 ∧ i.bytes = 8 := by
  have h := info_int
  cases hi : Try.prog.info? 3 with
  | none => rw [hi] at h; cases h
  | some i =>
    rw [hi] at h
    simp only [Option.map_some, Option.some.injEq, Prod.mk.injEq] at h
    exact ⟨i, rfl, h.1, h.2.1, h.2.2⟩
theorem rd_step (xs : List UInt8) (off k : Nat) (h1 : 1 ≤ k) (h8 : k ≤ 8) (h : off + k ≤ xs.length) : rdNum (xs.drop off) false k = getN xs off k ∧ rdLeft (xs.drop off) false (nw k) = xs.drop (off + k) ∧ rdShort (xs.drop off) false (nw k) = false := by
  obtain ⟨a, b, c⟩ := rd_ok (xs.drop off) k h1 h8 (by rw [List.length_drop]; omega)
  rw [getN_drop xs off k h8 h] at a
  rw [List.drop_drop] at b
  exact ⟨a, b, c⟩

theorem mgetn_any (Q0 : Nat → Prop) (k : Nat) (l : List UInt8) (s : Bool) (g g6 : Nat) (w : World) (hk : k = 1 ∨ k = 2) (hc : w.cell? ⟨g6, 0, none⟩ = some (.pointer (some ⟨g, 0, none⟩))) (hr : RdrQ Q0 w g l s) :
    Calls Try.prog 86 #[.int .i64 k, .pointer (some ⟨g6, 0, none⟩)] w fun e w' => e = .returned (.int .i64 (rdNum l s k : Nat)) ∧ RdrQ Q0 w' g (rdLeft l s (nw k)) (rdShort l s (nw k)) ∧ w.grownBy w' (some g) := by
  have K := Lib.hid (rdNq_any Q0 l s k g w hr)
  have hb : rdNum l s k < 65536 := by
    unfold rdNum
    have e : nw (k : Int) = k := by unfold nw; rw [if_neg (by omega)]
    rw [e]
    rcases hk with rfl | rfl
    · have : getN (rdOut l s ((1 : Nat) : Int)) 0 ((1 : Nat) : Int) < 256 := numN_lt (fun i => byteAt_lt _ _) 1
      omega
    · exact numN_lt (fun i => byteAt_lt _ _) 2
  have hw : IntKind.i64.wrap ((rdNum l s k : Nat) : Int) = (rdNum l s k : Nat) := by rw [IntKind.wrap_i64]; omega
  generalize rdNum l s k = v at *
  generalize rdLeft l s (nw k) = l' at *
  generalize rdShort l s (nw k) = s' at *
  clear hk
  go_enter Try.func86, Try.ntmps86
  go_wp2_with (go_at_call 37; refine K.out.mono ?_; rintro e w' ⟨rfl, hr', hg⟩)
  go_ret
  exact ⟨rfl, hr', hg⟩

/-- What a record's data read as. -/
theorem rec_fields (id fi pr le en pl : Nat) (ps : List Nat) (h1 : id < 4294967296) (h2 : fi < 4294967296) (h3 : pr < 256) (h4 : le < 65536) (h5 : en < 18446744073709551616) (h6 : pl < 256) (h7 : ps.length < 256) :
    getN (recB id fi pr le en pl ps) 0 4 = id ∧ getN (recB id fi pr le en pl ps) 4 4 = fi ∧ getN (recB id fi pr le en pl ps) 8 1 = pr ∧ getN (recB id fi pr le en pl ps) 9 2 = le ∧ getN (recB id fi pr le en pl ps) 11 8 = en ∧ getN (recB id fi pr le en pl ps) 19 1 = pl ∧ getN (recB id fi pr le en pl ps) 20 1 = ps.length := by
  have key : ∀ (pre post : List UInt8) (k m off : Nat), k ≤ 8 → m < 256 ^ k → pre.length = off → recB id fi pr le en pl ps = pre ++ putB k m ++ post → getN (recB id fi pr le en pl ps) off k = m := by
    intro pre post k m off hk hm ho he
    have := getN_mid pre post k m hk hm
    rw [he, ← ho]; exact this
  refine ⟨?_, ?_, ?_, ?_, ?_, ?_, ?_⟩
  · exact key [] (putB 4 fi ++ putB 1 pr ++ putB 2 le ++ putB 8 en ++ putB 1 pl ++ putB 1 ps.length ++ pgB ps ps.length) 4 id 0 (by omega) (by omega) rfl (by simp [recB, recH])
  · exact key (putB 4 id) (putB 1 pr ++ putB 2 le ++ putB 8 en ++ putB 1 pl ++ putB 1 ps.length ++ pgB ps ps.length) 4 fi 4 (by omega) (by omega) (by simp [putB_length]) (by simp [recB, recH])
  · exact key (putB 4 id ++ putB 4 fi) (putB 2 le ++ putB 8 en ++ putB 1 pl ++ putB 1 ps.length ++ pgB ps ps.length) 1 pr 8 (by omega) (by omega) (by simp [putB_length]) (by simp [recB, recH])
  · exact key (putB 4 id ++ putB 4 fi ++ putB 1 pr) (putB 8 en ++ putB 1 pl ++ putB 1 ps.length ++ pgB ps ps.length) 2 le 9 (by omega) (by omega) (by simp [putB_length]) (by simp [recB, recH])
  · exact key (putB 4 id ++ putB 4 fi ++ putB 1 pr ++ putB 2 le) (putB 1 pl ++ putB 1 ps.length ++ pgB ps ps.length) 8 en 11 (by omega) (by omega) (by simp [putB_length]) (by simp [recB, recH])
  · exact key (putB 4 id ++ putB 4 fi ++ putB 1 pr ++ putB 2 le ++ putB 8 en) (putB 1 ps.length ++ pgB ps ps.length) 1 pl 19 (by omega) (by omega) (by simp [putB_length]) (by simp [recB, recH])
  · exact key (putB 4 id ++ putB 4 fi ++ putB 1 pr ++ putB 2 le ++ putB 8 en ++ putB 1 pl) (pgB ps ps.length) 1 ps.length 20 (by omega) (by omega) (by simp [putB_length]) (by simp [recB, recH])
theorem pgB_split (ps : List Nat) (i : Nat) : ∀ j, i < j → ∃ post, pgB ps j = pgB ps i ++ putB 2 (ps.getD i 0) ++ post
  | 0, h => by omega
  | j + 1, h => by
    by_cases hij : i = j
    · subst hij; exact ⟨[], by rw [pgB, List.append_nil]⟩
    · obtain ⟨post, e⟩ := pgB_split ps i j (by omega)
      exact ⟨post ++ putB 2 (ps.getD j 0), by rw [pgB, e]; simp⟩
theorem rec_page (id fi pr le en pl : Nat) (ps : List Nat) (i : Nat) (hi : i < ps.length) (hp : ps.getD i 0 < 65536) : getN (recB id fi pr le en pl ps) ((21 + 2 * i : Nat) : Int) 2 = ps.getD i 0 := by
  obtain ⟨post, e⟩ := pgB_split ps i ps.length hi
  have h : recB id fi pr le en pl ps = (recH id fi pr le en pl ps.length ++ pgB ps i) ++ putB 2 (ps.getD i 0) ++ post := by unfold recB; rw [e]; simp
  have hl : (recH id fi pr le en pl ps.length ++ pgB ps i).length = 21 + 2 * i := by rw [List.length_append, recH_length, pgB_length]
  have := getN_mid (recH id fi pr le en pl ps.length ++ pgB ps i) post 2 (ps.getD i 0) (by omega) (by omega)
  rw [← h, hl] at this
  exact this
end Go.Proofs.Ythkabhejfkekjaa
