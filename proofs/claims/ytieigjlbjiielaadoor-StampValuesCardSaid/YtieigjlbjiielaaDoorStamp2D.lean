/- Contracts of layer 8 (stamp): texts. -/
import Derived.Test.YtieigjlbjiielaaDoorStampD
import Derived.Deep.RegionHeld3
import Derived.Deep.QuietTactic
import Derived.BigQuiet
import Derived.Deep.RegionWith
namespace Go.Proofs.YtieigjlbjiielaaDoor
open Go.RowKit

set_option maxRecDepth 100000 in
theorem skey1_any (n g : Nat) (q : List UInt8) (w : World) (hn : n < 18446744073709551616) (hq : q.length ≤ 1000) (hh : w.heap[g]? = some (.cells #[.string ⟨q.toArray⟩] 9 (0, 0))) :
    Calls Tryd.prog 40 #[.int .u64 n, .pointer (some ⟨g, 0, none⟩)] w fun e w' => e = .returned (.tuple #[]) ∧ w'.heap[g]? = some (.cells #[.string ⟨(q ++ (digs n ++ [32])).toArray⟩] 9 (0, 0)) ∧ w.grownBy w' (some g) := by
  have K := fun w => Lib.hid (sdigits_any n w hn)
  have hl := digs_len hn
  have Hn := Lib.hid hn
  clear hn
  generalize digs n = s at *
  have hc : w.cell? ⟨g, 0, none⟩ = some (.string ⟨q.toArray⟩) := cell_heap hh
  have l1 : ¬ (9223372036854775807 < s.length + [(32 : UInt8)].length) := by simp; omega
  have l2 : ¬ (9223372036854775807 < q.length + (s ++ [(32 : UInt8)]).length) := by simp; omega
  go_enter Tryd.func40, Tryd.ntmps40
  go_wp2_with fail
  have hd : w.drew.heap[g]? = some (.cells #[.string ⟨q.toArray⟩] 9 (0, 0)) := hh
  have hcd : w.drew.cell? ⟨g, 0, none⟩ = some (.string ⟨q.toArray⟩) := cell_heap hd
  have hgd := gb_drew w (some g)
  clear hc hh
  go_region_with (first
    | (go_at_call 41; refine (K _).out.mono ?_; rintro e w2 ⟨rfl, hb⟩; have hc2 := cell_below hb hcd; have hh2 := heap_below hb hd; have hf2 := frozen_heap (o := 0) hh2; have hg2 := hgd.trans (gb_below hb (some g)); clear hb))
  all_goals (try go_wp2_with fail)
  all_goals (
    go_end0
    rw [show (⟨s.toArray⟩ : ByteArray) ++ ⟨#[32]⟩ = ⟨(s ++ [32]).toArray⟩ from cat_bytes s [32], cat_bytes]
    refine ⟨rfl, ?_, hg2.trans (gb_set _ _ _ _)⟩
    exact set_heap hh2 _)

/-- The text for a stamp of someone. -/
def keyB (sc nd sv t q : Nat) (nm : List UInt8) : List UInt8 := [] ++ (digs sc ++ [32]) ++ (digs nd ++ [32]) ++ (digs sv ++ [32]) ++ (digs t ++ [32]) ++ (digs q ++ [32]) ++ nm

set_option maxRecDepth 100000 in
set_option maxHeartbeats 1000000 in
theorem skey_any (sc nd sv t q : Nat) (nm : List UInt8) (w : World) (h1 : sc < 9223372036854775808) (h2 : nd < 18446744073709551616) (h3 : sv < 18446744073709551616) (h4 : t < 18446744073709551616) (h5 : q < 18446744073709551616) (hn : nm.length ≤ 1000) :
    Calls Tryd.prog 25 #[.agg #[.int .i64 sc, .string ⟨nm.toArray⟩, .int .u64 nd, .int .u64 sv], stp t q] w fun e w' => e = .returned (.string ⟨(keyB sc nd sv t q nm).toArray⟩) ∧ Below w.heap.size w w' := by
  obtain ⟨hB, hca, hcb, hh⟩ := three_cells w #[.int .i64 (sc : Int), .string ⟨nm.toArray⟩, .int .u64 (nd : Int), .int .u64 (sv : Int)] #[.int .u64 (t : Int), .int .u64 (q : Int)] #[.string ⟨([] : List UInt8).toArray⟩] 40 24 9
  have c0 := hca 0 (.int .i64 (sc : Int)) rfl
  have c1 := hca 1 (.string ⟨nm.toArray⟩) rfl
  have c2 := hca 2 (.int .u64 (nd : Int)) rfl
  have c3 := hca 3 (.int .u64 (sv : Int)) rfl
  have d0 := hcb 0 (.int .u64 (t : Int)) rfl
  have d1 := hcb 1 (.int .u64 (q : Int)) rfl
  have e0 : _ = some (Value.string ⟨([] : List UInt8).toArray⟩) := cell_heap (o := 0) hh
  clear hca hcb
  have HK : Hid (keyB sc nd sv t q nm = [] ++ (digs sc ++ [32]) ++ (digs nd ++ [32]) ++ (digs sv ++ [32]) ++ (digs t ++ [32]) ++ (digs q ++ [32]) ++ nm) := rfl
  have K1 := fun g p w => Lib.hid (skey1_any sc g p w (by omega))
  have K2 := fun g p w => Lib.hid (skey1_any nd g p w h2)
  have K3 := fun g p w => Lib.hid (skey1_any sv g p w h3)
  have K4 := fun g p w => Lib.hid (skey1_any t g p w h4)
  have K5 := fun g p w => Lib.hid (skey1_any q g p w h5)
  have l1 := digs_len (n := sc) (by omega)
  have l2 := digs_len h2
  have l3 := digs_len h3
  have l4 := digs_len h4
  have l5 := digs_len h5
  generalize keyB sc nd sv t q nm = r at *
  generalize digs sc = s1 at *
  generalize digs nd = s2 at *
  generalize digs sv = s3 at *
  generalize digs t = s4 at *
  generalize digs q = s5 at *
  have H2 := Lib.hid h2
  have H3 := Lib.hid h3
  have H4 := Lib.hid h4
  have H5 := Lib.hid h5
  clear h2 h3 h4 h5
  have hlim : ¬ (9223372036854775807 < ([] ++ (s1 ++ [32]) ++ (s2 ++ [32]) ++ (s3 ++ [32]) ++ (s4 ++ [32]) ++ (s5 ++ [(32 : UInt8)])).length + nm.length) := by simp; omega
  go_enter Tryd.func25, Tryd.ntmps25
  go_wp2_with (first
    | (go_at_call_of 40 (Value.int IntKind.u64 (sc : Int)); refine ((K1 _ _ _).out ?_ hh).mono ?_; (simp; try omega); rintro e w2 ⟨rfl, hh, hg⟩; replace hB := hB.trans (below_gb hg hB.size (by omega)); replace c0 := hg.cell c0 (by simp; try omega); replace c1 := hg.cell c1 (by simp; try omega); replace c2 := hg.cell c2 (by simp; try omega); replace c3 := hg.cell c3 (by simp; try omega); replace d0 := hg.cell d0 (by simp; try omega); replace d1 := hg.cell d1 (by simp; try omega); have e0 : _ = some (Value.string ⟨_⟩) := cell_heap (o := 0) hh; clear hg)
    | (go_at_call_of 40 (Value.int IntKind.u64 (nd : Int)); refine ((K2 _ _ _).out ?_ hh).mono ?_; (simp; try omega); rintro e w2 ⟨rfl, hh, hg⟩; replace hB := hB.trans (below_gb hg hB.size (by omega)); replace c0 := hg.cell c0 (by simp; try omega); replace c1 := hg.cell c1 (by simp; try omega); replace c2 := hg.cell c2 (by simp; try omega); replace c3 := hg.cell c3 (by simp; try omega); replace d0 := hg.cell d0 (by simp; try omega); replace d1 := hg.cell d1 (by simp; try omega); have e0 : _ = some (Value.string ⟨_⟩) := cell_heap (o := 0) hh; clear hg)
    | (go_at_call_of 40 (Value.int IntKind.u64 (sv : Int)); refine ((K3 _ _ _).out ?_ hh).mono ?_; (simp; try omega); rintro e w2 ⟨rfl, hh, hg⟩; replace hB := hB.trans (below_gb hg hB.size (by omega)); replace c0 := hg.cell c0 (by simp; try omega); replace c1 := hg.cell c1 (by simp; try omega); replace c2 := hg.cell c2 (by simp; try omega); replace c3 := hg.cell c3 (by simp; try omega); replace d0 := hg.cell d0 (by simp; try omega); replace d1 := hg.cell d1 (by simp; try omega); have e0 : _ = some (Value.string ⟨_⟩) := cell_heap (o := 0) hh; clear hg)
    | (go_at_call_of 40 (Value.int IntKind.u64 (t : Int)); refine ((K4 _ _ _).out ?_ hh).mono ?_; (simp; try omega); rintro e w2 ⟨rfl, hh, hg⟩; replace hB := hB.trans (below_gb hg hB.size (by omega)); replace c0 := hg.cell c0 (by simp; try omega); replace c1 := hg.cell c1 (by simp; try omega); replace c2 := hg.cell c2 (by simp; try omega); replace c3 := hg.cell c3 (by simp; try omega); replace d0 := hg.cell d0 (by simp; try omega); replace d1 := hg.cell d1 (by simp; try omega); have e0 : _ = some (Value.string ⟨_⟩) := cell_heap (o := 0) hh; clear hg)
    | (go_at_call_of 40 (Value.int IntKind.u64 (q : Int)); refine ((K5 _ _ _).out ?_ hh).mono ?_; (simp; try omega); rintro e w2 ⟨rfl, hh, hg⟩; replace hB := hB.trans (below_gb hg hB.size (by omega)); replace c0 := hg.cell c0 (by simp; try omega); replace c1 := hg.cell c1 (by simp; try omega); replace c2 := hg.cell c2 (by simp; try omega); replace c3 := hg.cell c3 (by simp; try omega); replace d0 := hg.cell d0 (by simp; try omega); replace d1 := hg.cell d1 (by simp; try omega); have e0 : _ = some (Value.string ⟨_⟩) := cell_heap (o := 0) hh; clear hg)
    | fail)
  rw [cat_bytes]
  go_ret
  exact ⟨by rw [HK.out]; try simp, hB⟩
end Go.Proofs.YtieigjlbjiielaaDoor
