/- The reference's Of answers as the plain cases say. No condition. -/
import Derived.Test.YtieigjlbjiielaaVal8
namespace Go.Proofs.Ytieigjlbjiielaa
open Go.RowKit

theorem vr_cells {w : World} {v : VT} {cs : List Value} (h : VR w v cs) : ∃ (A : Option Addr) (c : Nat) (all : List Value), cs = [.int .i64 v.kind, .int .u64 (v.num : Int), .string ⟨v.str.toArray⟩, .slice A v.lst.length c] ∧ Rd w A v.lst.length c 4 all ∧
    ∀ i (h : i < v.lst.length), VR w v.lst[i] ((all.drop (i * 4)).take 4) := by
  cases h with
  | mk k n s l A c all hn hs hr hl => exact ⟨A, c, all, rfl, hr, hl⟩
/-- The cells of a list of two. -/
theorem vr_two {w : World} {A : Option Addr} {c : Nat} {all : List Value} {l : List VT} {a b : VT} (hl : l = [a, b]) (hr : Rd w A l.length c 4 all) (hv : ∀ i (h : i < l.length), VR w l[i] ((all.drop (i * 4)).take 4)) :
    ∃ ad c1 c2 A1 A2 all1 all2, A = some ad ∧ (Rd w A1 a.lst.length c1 4 all1 ∧ ∀ i (h : i < a.lst.length), VR w a.lst[i] ((all1.drop (i * 4)).take 4)) ∧ (Rd w A2 b.lst.length c2 4 all2 ∧ ∀ i (h : i < b.lst.length), VR w b.lst[i] ((all2.drop (i * 4)).take 4)) ∧
      (w.cell? ad = some (.int .i64 a.kind) ∧ w.cell? ⟨ad.block, ad.off + 1, none⟩ = some (.int .u64 (a.num : Int))) ∧
      (w.cell? ⟨ad.block, ad.off + 4, none⟩ = some (.int .i64 b.kind) ∧ w.cell? ⟨ad.block, ad.off + 4 + 1, none⟩ = some (.int .u64 (b.num : Int)) ∧ w.cell? ⟨ad.block, ad.off + 4 + 2, none⟩ = some (.string ⟨b.str.toArray⟩) ∧ w.cell? ⟨ad.block, ad.off + 4 + 3, none⟩ = some (.slice A2 b.lst.length c2)) := by
  subst hl
  obtain ⟨A1, c1, all1, e1, hr1, hv1⟩ := vr_cells (hv 0 (by simp))
  obtain ⟨A2, c2, all2, e2, hr2, hv2⟩ := vr_cells (hv 1 (by simp))
  obtain ⟨ad, rfl, x0, x1, x2, x3⟩ := rows4 hr 0 (by simp) e1
  obtain ⟨ad', hd, y0, y1, y2, y3⟩ := rows4 hr 1 (by simp) e2
  cases hd
  have q0 : (ad.add (0 * 4)) = ad := rfl
  have q1 : (ad.add (1 * 4)) = ⟨ad.block, ad.off + 4, none⟩ := rfl
  rw [q0] at x0 x1
  rw [q1] at y0 y1 y2 y3
  exact ⟨ad, c1, c2, A1, A2, all1, all2, rfl, ⟨hr1, hv1⟩, ⟨hr2, hv2⟩, ⟨x0, x1⟩, ⟨y0, y1, y2, y3⟩⟩

/-- The reference's Right of a name alone. -/
theorem rright_long (nm : List UInt8) (w : World) (h : 64 < nm.length) : Calls Try.prog 20 #[eidV 1 nm 0 0] w fun e w' => e = .returned (.bool (rightE 1 nm 0 0)) ∧ Below w.heap.size w w' := by
  obtain ⟨hB, c0, c1, c2, c3⟩ := eid_cells w 1 nm 0 0
  have HR : Hid (rightE 1 nm 0 0 = false) := by
    show _ = _
    unfold rightE
    rw [if_pos rfl, namedF_few nm (.inr h)]
    cases nm with
    | nil => simp at h
    | cons a r => rfl
  have hne : (nm == []) = false := by
    cases nm with
    | nil => simp at h
    | cons a r => rfl
  have h' : (64 : Int) < (nm.length : Int) := by omega
  have h3 : ¬ ((nm.length : Int) < 3) := by omega
  go_enter Try.func20, Try.ntmps20
  go_wp2_with fail
  go_ret
  exact ⟨by rw [HR.out] <;> rfl, hB⟩
theorem rright1_any (nm : List UInt8) (w : World) : Calls Try.prog 20 #[eidV 1 nm 0 0] w fun e w' => e = .returned (.bool (rightE 1 nm 0 0)) ∧ Below w.heap.size w w' := by
  by_cases h : 64 < nm.length
  · exact rright_long nm w h
  · exact rright_any 1 nm 0 0 w (by omega)
-- CASES
set_option maxRecDepth 100000 in
set_option maxHeartbeats 2000000 in
theorem rof_kind {k : Int} {n : Nat} {s : List UInt8} {A : Option Addr} {m c : Nat} (w : World) (h : k ≠ 4) : Calls Try.prog 25 #[.agg #[.int .i64 k, .int .u64 (n : Int), .string ⟨s.toArray⟩, .slice A m c]] w (ofRes w 0 [] 0 0 18) := by
  have a_k4 : (k == 4) = false := by rw [beq_eq_false_iff_ne]; omega
  have b_k4 : (k != 4) = true := by rw [bne_iff_ne]; omega
  obtain ⟨hB, hc, -⟩ := two_cells w #[.int .i64 k, .int .u64 (n : Int), .string ⟨s.toArray⟩, .slice A m c] #[.int .i64 0, .string ⟨#[]⟩, .int .u64 0, .int .u64 0] 45 29
  have k0 := hc 0 _ rfl
  have k3 := hc 3 _ rfl
  have hR := alloc_new (w.alloc (.cells #[.int .i64 k, .int .u64 (n : Int), .string ⟨s.toArray⟩, .slice A m c] 45)) (.cells #[.int .i64 0, .string ⟨#[]⟩, .int .u64 0, .int .u64 0] 29 (0, 0))
  rw [alloc_size] at hR
  clear hc
  go_enter Try.func25, Try.ntmps25
  go_upto_region 1 with fail
  generalize (w.alloc (.cells #[.int .i64 k, .int .u64 (n : Int), .string ⟨s.toArray⟩, .slice A m c] 45)).alloc (.cells #[.int .i64 0, .string ⟨#[]⟩, .int .u64 0, .int .u64 0] 29) = w1 at *
  obtain ⟨⟨z0, z1, z2, z3⟩, f0, f1, f2, f3⟩ := four_cells hR
  go_wp2_with fail
  have hh9 := four_heap hR (.int .i64 0) (.string ⟨#[]⟩) (.int .u64 0) (.int .u64 0)
  have hB9 := below_gbw (four_gb w1 (w.heap.size + 1) (.int .i64 0) (.string ⟨#[]⟩) (.int .u64 0) (.int .u64 0)) hB (by omega)
  obtain ⟨⟨r0, r1, r2, r3⟩, -⟩ := four_cells hh9
  refine bodyPost_ret (v := .tuple #[eidV 0 [] 0 0, .int .i64 18]) ?_ rfl ⟨rfl, hB9⟩
  simp [results, Try.results25, go_sem, r0, r1, r2, r3]
set_option maxRecDepth 100000 in
set_option maxHeartbeats 2000000 in
theorem rof_len {n : Nat} {s : List UInt8} {A : Option Addr} {m c : Nat} (w : World) (h : m ≠ 2) : Calls Try.prog 25 #[.agg #[.int .i64 4, .int .u64 (n : Int), .string ⟨s.toArray⟩, .slice A m c]] w (ofRes w 0 [] 0 0 18) := by
  have a_m2 : ((m : Int) == 2) = false := by rw [beq_eq_false_iff_ne]; omega
  have b_m2 : ((m : Int) != 2) = true := by rw [bne_iff_ne]; omega
  obtain ⟨hB, hc, -⟩ := two_cells w #[.int .i64 4, .int .u64 (n : Int), .string ⟨s.toArray⟩, .slice A m c] #[.int .i64 0, .string ⟨#[]⟩, .int .u64 0, .int .u64 0] 45 29
  have k0 := hc 0 _ rfl
  have k3 := hc 3 _ rfl
  have hR := alloc_new (w.alloc (.cells #[.int .i64 4, .int .u64 (n : Int), .string ⟨s.toArray⟩, .slice A m c] 45)) (.cells #[.int .i64 0, .string ⟨#[]⟩, .int .u64 0, .int .u64 0] 29 (0, 0))
  rw [alloc_size] at hR
  clear hc
  go_enter Try.func25, Try.ntmps25
  go_upto_region 1 with fail
  generalize (w.alloc (.cells #[.int .i64 4, .int .u64 (n : Int), .string ⟨s.toArray⟩, .slice A m c] 45)).alloc (.cells #[.int .i64 0, .string ⟨#[]⟩, .int .u64 0, .int .u64 0] 29) = w1 at *
  obtain ⟨⟨z0, z1, z2, z3⟩, f0, f1, f2, f3⟩ := four_cells hR
  go_wp2_with fail
  have hh9 := four_heap hR (.int .i64 0) (.string ⟨#[]⟩) (.int .u64 0) (.int .u64 0)
  have hB9 := below_gbw (four_gb w1 (w.heap.size + 1) (.int .i64 0) (.string ⟨#[]⟩) (.int .u64 0) (.int .u64 0)) hB (by omega)
  obtain ⟨⟨r0, r1, r2, r3⟩, -⟩ := four_cells hh9
  refine bodyPost_ret (v := .tuple #[eidV 0 [] 0 0, .int .i64 18]) ?_ rfl ⟨rfl, hB9⟩
  simp [results, Try.results25, go_sem, r0, r1, r2, r3]
set_option maxRecDepth 100000 in
set_option maxHeartbeats 2000000 in
theorem rof_first {n : Nat} {s : List UInt8} {ad : Addr} {c : Nat} {k1 : Int} {n1 : Nat} {k2 : Int} {n2 : Nat} {s2 : List UInt8} {A2 : Option Addr} {m2 c2 : Nat} (w : World) (x0 : w.cell? ad = some (.int .i64 k1)) (x1 : w.cell? ⟨ad.block, ad.off + 1, none⟩ = some (.int .u64 (n1 : Int))) (y0 : w.cell? ⟨ad.block, ad.off + 4, none⟩ = some (.int .i64 k2)) (y1 : w.cell? ⟨ad.block, ad.off + 4 + 1, none⟩ = some (.int .u64 (n2 : Int))) (y2 : w.cell? ⟨ad.block, ad.off + 4 + 2, none⟩ = some (.string ⟨s2.toArray⟩)) (y3 : w.cell? ⟨ad.block, ad.off + 4 + 3, none⟩ = some (.slice A2 m2 c2)) (h : k1 ≠ 0) : Calls Try.prog 25 #[.agg #[.int .i64 4, .int .u64 (n : Int), .string ⟨s.toArray⟩, .slice (some ad) 2 c]] w (ofRes w 0 [] 0 0 18) := by
  have a_k10 : (k1 == 0) = false := by rw [beq_eq_false_iff_ne]; omega
  have b_k10 : (k1 != 0) = true := by rw [bne_iff_ne]; omega
  obtain ⟨hB, hc, -⟩ := two_cells w #[.int .i64 4, .int .u64 (n : Int), .string ⟨s.toArray⟩, .slice (some ad) 2 c] #[.int .i64 0, .string ⟨#[]⟩, .int .u64 0, .int .u64 0] 45 29
  have k0 := hc 0 _ rfl
  have k3 := hc 3 _ rfl
  have hR := alloc_new (w.alloc (.cells #[.int .i64 4, .int .u64 (n : Int), .string ⟨s.toArray⟩, .slice (some ad) 2 c] 45)) (.cells #[.int .i64 0, .string ⟨#[]⟩, .int .u64 0, .int .u64 0] 29 (0, 0))
  rw [alloc_size] at hR
  replace x0 := cell_below hB x0
  replace x1 := cell_below hB x1
  replace y0 := cell_below hB y0
  replace y1 := cell_below hB y1
  replace y2 := cell_below hB y2
  replace y3 := cell_below hB y3
  clear hc
  go_enter Try.func25, Try.ntmps25
  go_upto_region 1 with fail
  generalize (w.alloc (.cells #[.int .i64 4, .int .u64 (n : Int), .string ⟨s.toArray⟩, .slice (some ad) 2 c] 45)).alloc (.cells #[.int .i64 0, .string ⟨#[]⟩, .int .u64 0, .int .u64 0] 29) = w1 at *
  obtain ⟨⟨z0, z1, z2, z3⟩, f0, f1, f2, f3⟩ := four_cells hR
  go_wp2_with fail
  have hh9 := four_heap hR (.int .i64 0) (.string ⟨#[]⟩) (.int .u64 0) (.int .u64 0)
  have hB9 := below_gbw (four_gb w1 (w.heap.size + 1) (.int .i64 0) (.string ⟨#[]⟩) (.int .u64 0) (.int .u64 0)) hB (by omega)
  obtain ⟨⟨r0, r1, r2, r3⟩, -⟩ := four_cells hh9
  refine bodyPost_ret (v := .tuple #[eidV 0 [] 0 0, .int .i64 18]) ?_ rfl ⟨rfl, hB9⟩
  simp [results, Try.results25, go_sem, r0, r1, r2, r3]
set_option maxRecDepth 100000 in
set_option maxHeartbeats 2000000 in
theorem rof_none {n : Nat} {s : List UInt8} {ad : Addr} {c : Nat}    {n2 : Nat} {s2 : List UInt8} {A2 : Option Addr} {m2 c2 : Nat} (w : World) (x0 : w.cell? ad = some (.int .i64 0)) (x1 : w.cell? ⟨ad.block, ad.off + 1, none⟩ = some (.int .u64 1)) (y0 : w.cell? ⟨ad.block, ad.off + 4, none⟩ = some (.int .i64 0)) (y1 : w.cell? ⟨ad.block, ad.off + 4 + 1, none⟩ = some (.int .u64 (n2 : Int))) (y2 : w.cell? ⟨ad.block, ad.off + 4 + 2, none⟩ = some (.string ⟨s2.toArray⟩)) (y3 : w.cell? ⟨ad.block, ad.off + 4 + 3, none⟩ = some (.slice A2 m2 c2)) (h : n2 ≠ 0) : Calls Try.prog 25 #[.agg #[.int .i64 4, .int .u64 (n : Int), .string ⟨s.toArray⟩, .slice (some ad) 2 c]] w (ofRes w 0 [] 0 0 6) := by
  have a_n20 : ((n2 : Int) == 0) = false := by rw [beq_eq_false_iff_ne]; omega
  have b_n20 : ((n2 : Int) != 0) = true := by rw [bne_iff_ne]; omega
  obtain ⟨hB, hc, -⟩ := two_cells w #[.int .i64 4, .int .u64 (n : Int), .string ⟨s.toArray⟩, .slice (some ad) 2 c] #[.int .i64 0, .string ⟨#[]⟩, .int .u64 0, .int .u64 0] 45 29
  have k0 := hc 0 _ rfl
  have k3 := hc 3 _ rfl
  have hR := alloc_new (w.alloc (.cells #[.int .i64 4, .int .u64 (n : Int), .string ⟨s.toArray⟩, .slice (some ad) 2 c] 45)) (.cells #[.int .i64 0, .string ⟨#[]⟩, .int .u64 0, .int .u64 0] 29 (0, 0))
  rw [alloc_size] at hR
  replace x0 := cell_below hB x0
  replace x1 := cell_below hB x1
  replace y0 := cell_below hB y0
  replace y1 := cell_below hB y1
  replace y2 := cell_below hB y2
  replace y3 := cell_below hB y3
  clear hc
  go_enter Try.func25, Try.ntmps25
  go_upto_region 1 with fail
  generalize (w.alloc (.cells #[.int .i64 4, .int .u64 (n : Int), .string ⟨s.toArray⟩, .slice (some ad) 2 c] 45)).alloc (.cells #[.int .i64 0, .string ⟨#[]⟩, .int .u64 0, .int .u64 0] 29) = w1 at *
  go_upto_region 5 with fail
  obtain ⟨hb, hcb⟩ := one_cells w1 #[.int .i64 0, .int .u64 (n2 : Int), .string ⟨s2.toArray⟩, .slice A2 m2 c2] 45
  have b0 := hcb 0 _ rfl
  have b1 := hcb 1 _ rfl
  have b2 := hcb 2 _ rfl
  have b3 := hcb 3 _ rfl
  replace hR := heap_below hb hR
  replace hB := below_trans hB hb
  clear hcb hb x0 x1 y0 y1 y2 y3 k0 k3
  generalize w1.alloc (.cells #[.int .i64 0, .int .u64 (n2 : Int), .string ⟨s2.toArray⟩, .slice A2 m2 c2] 45) = w2 at *
  obtain ⟨⟨z0, z1, z2, z3⟩, f0, f1, f2, f3⟩ := four_cells hR
  go_wp2_with fail
  have hh9 := four_heap hR (.int .i64 0) (.string ⟨#[]⟩) (.int .u64 0) (.int .u64 0)
  have hB9 := below_gbw (four_gb w2 (w.heap.size + 1) (.int .i64 0) (.string ⟨#[]⟩) (.int .u64 0) (.int .u64 0)) hB (by omega)
  obtain ⟨⟨r0, r1, r2, r3⟩, -⟩ := four_cells hh9
  refine bodyPost_ret (v := .tuple #[eidV 0 [] 0 0, .int .i64 6]) ?_ rfl ⟨rfl, hB9⟩
  simp [results, Try.results25, go_sem, r0, r1, r2, r3]
set_option maxRecDepth 100000 in
set_option maxHeartbeats 2000000 in
theorem rof_nobody {n : Nat} {s : List UInt8} {ad : Addr} {c : Nat}     {s2 : List UInt8} {A2 : Option Addr} {m2 c2 : Nat} (w : World) (x0 : w.cell? ad = some (.int .i64 0)) (x1 : w.cell? ⟨ad.block, ad.off + 1, none⟩ = some (.int .u64 1)) (y0 : w.cell? ⟨ad.block, ad.off + 4, none⟩ = some (.int .i64 0)) (y1 : w.cell? ⟨ad.block, ad.off + 4 + 1, none⟩ = some (.int .u64 0)) (y2 : w.cell? ⟨ad.block, ad.off + 4 + 2, none⟩ = some (.string ⟨s2.toArray⟩)) (y3 : w.cell? ⟨ad.block, ad.off + 4 + 3, none⟩ = some (.slice A2 m2 c2))  : Calls Try.prog 25 #[.agg #[.int .i64 4, .int .u64 (n : Int), .string ⟨s.toArray⟩, .slice (some ad) 2 c]] w (ofRes w 1 [] 0 0 0) := by
  obtain ⟨hB, hc, -⟩ := two_cells w #[.int .i64 4, .int .u64 (n : Int), .string ⟨s.toArray⟩, .slice (some ad) 2 c] #[.int .i64 0, .string ⟨#[]⟩, .int .u64 0, .int .u64 0] 45 29
  have k0 := hc 0 _ rfl
  have k3 := hc 3 _ rfl
  have hR := alloc_new (w.alloc (.cells #[.int .i64 4, .int .u64 (n : Int), .string ⟨s.toArray⟩, .slice (some ad) 2 c] 45)) (.cells #[.int .i64 0, .string ⟨#[]⟩, .int .u64 0, .int .u64 0] 29 (0, 0))
  rw [alloc_size] at hR
  replace x0 := cell_below hB x0
  replace x1 := cell_below hB x1
  replace y0 := cell_below hB y0
  replace y1 := cell_below hB y1
  replace y2 := cell_below hB y2
  replace y3 := cell_below hB y3
  clear hc
  go_enter Try.func25, Try.ntmps25
  go_upto_region 1 with fail
  generalize (w.alloc (.cells #[.int .i64 4, .int .u64 (n : Int), .string ⟨s.toArray⟩, .slice (some ad) 2 c] 45)).alloc (.cells #[.int .i64 0, .string ⟨#[]⟩, .int .u64 0, .int .u64 0] 29) = w1 at *
  go_upto_region 5 with fail
  obtain ⟨hb, hcb⟩ := one_cells w1 #[.int .i64 0, .int .u64 0, .string ⟨s2.toArray⟩, .slice A2 m2 c2] 45
  have b0 := hcb 0 _ rfl
  have b1 := hcb 1 _ rfl
  have b2 := hcb 2 _ rfl
  have b3 := hcb 3 _ rfl
  replace hR := heap_below hb hR
  replace hB := below_trans hB hb
  clear hcb hb x0 x1 y0 y1 y2 y3 k0 k3
  generalize w1.alloc (.cells #[.int .i64 0, .int .u64 0, .string ⟨s2.toArray⟩, .slice A2 m2 c2] 45) = w2 at *
  obtain ⟨⟨z0, z1, z2, z3⟩, f0, f1, f2, f3⟩ := four_cells hR
  go_wp2_with fail
  have hh9 := four_heap hR (.int .i64 1) (.string ⟨#[]⟩) (.int .u64 0) (.int .u64 0)
  have hB9 := below_gbw (four_gb w2 (w.heap.size + 1) (.int .i64 1) (.string ⟨#[]⟩) (.int .u64 0) (.int .u64 0)) hB (by omega)
  obtain ⟨⟨r0, r1, r2, r3⟩, -⟩ := four_cells hh9
  refine bodyPost_ret (v := .tuple #[eidV 1 [] 0 0, .int .i64 0]) ?_ rfl ⟨rfl, hB9⟩
  simp [results, Try.results25, go_sem, r0, r1, r2, r3]
set_option maxRecDepth 100000 in
set_option maxHeartbeats 2000000 in
theorem rof_empty {n : Nat} {s : List UInt8} {ad : Addr} {c : Nat}    {n2 : Nat}  {A2 : Option Addr} {m2 c2 : Nat} (w : World) (x0 : w.cell? ad = some (.int .i64 0)) (x1 : w.cell? ⟨ad.block, ad.off + 1, none⟩ = some (.int .u64 1)) (y0 : w.cell? ⟨ad.block, ad.off + 4, none⟩ = some (.int .i64 3)) (y1 : w.cell? ⟨ad.block, ad.off + 4 + 1, none⟩ = some (.int .u64 (n2 : Int))) (y2 : w.cell? ⟨ad.block, ad.off + 4 + 2, none⟩ = some (.string ⟨([] : List UInt8).toArray⟩)) (y3 : w.cell? ⟨ad.block, ad.off + 4 + 3, none⟩ = some (.slice A2 m2 c2))  : Calls Try.prog 25 #[.agg #[.int .i64 4, .int .u64 (n : Int), .string ⟨s.toArray⟩, .slice (some ad) 2 c]] w (ofRes w 0 [] 0 0 6) := by
  obtain ⟨hB, hc, -⟩ := two_cells w #[.int .i64 4, .int .u64 (n : Int), .string ⟨s.toArray⟩, .slice (some ad) 2 c] #[.int .i64 0, .string ⟨#[]⟩, .int .u64 0, .int .u64 0] 45 29
  have k0 := hc 0 _ rfl
  have k3 := hc 3 _ rfl
  have hR := alloc_new (w.alloc (.cells #[.int .i64 4, .int .u64 (n : Int), .string ⟨s.toArray⟩, .slice (some ad) 2 c] 45)) (.cells #[.int .i64 0, .string ⟨#[]⟩, .int .u64 0, .int .u64 0] 29 (0, 0))
  rw [alloc_size] at hR
  replace x0 := cell_below hB x0
  replace x1 := cell_below hB x1
  replace y0 := cell_below hB y0
  replace y1 := cell_below hB y1
  replace y2 := cell_below hB y2
  replace y3 := cell_below hB y3
  clear hc
  go_enter Try.func25, Try.ntmps25
  go_upto_region 1 with fail
  generalize (w.alloc (.cells #[.int .i64 4, .int .u64 (n : Int), .string ⟨s.toArray⟩, .slice (some ad) 2 c] 45)).alloc (.cells #[.int .i64 0, .string ⟨#[]⟩, .int .u64 0, .int .u64 0] 29) = w1 at *
  go_upto_region 5 with fail
  obtain ⟨hb, hcb⟩ := one_cells w1 #[.int .i64 3, .int .u64 (n2 : Int), .string ⟨([] : List UInt8).toArray⟩, .slice A2 m2 c2] 45
  have b0 := hcb 0 _ rfl
  have b1 := hcb 1 _ rfl
  have b2 := hcb 2 _ rfl
  have b3 := hcb 3 _ rfl
  replace hR := heap_below hb hR
  replace hB := below_trans hB hb
  clear hcb hb x0 x1 y0 y1 y2 y3 k0 k3
  generalize w1.alloc (.cells #[.int .i64 3, .int .u64 (n2 : Int), .string ⟨([] : List UInt8).toArray⟩, .slice A2 m2 c2] 45) = w2 at *
  go_upto_region 11 with fail
  obtain ⟨hb, e0, e1, e2, e3⟩ := eid_cells w2 1 ([] : List UInt8) 0 0
  replace b0 := cell_below hb b0
  replace b1 := cell_below hb b1
  replace b2 := cell_below hb b2
  replace b3 := cell_below hb b3
  replace hR := heap_below hb hR
  replace hB := below_trans hB hb
  clear hb
  generalize w2.alloc (.cells #[.int .i64 1, .string ⟨([] : List UInt8).toArray⟩, .int .u64 0, .int .u64 0] 29) = w3 at *
  obtain ⟨⟨z0, z1, z2, z3⟩, f0, f1, f2, f3⟩ := four_cells hR
  go_wp2_with fail
  have hh9 := four_heap hR (.int .i64 0) (.string ⟨#[]⟩) (.int .u64 0) (.int .u64 0)
  have hB9 := below_gbw (four_gb w3 (w.heap.size + 1) (.int .i64 0) (.string ⟨#[]⟩) (.int .u64 0) (.int .u64 0)) hB (by omega)
  obtain ⟨⟨r0, r1, r2, r3⟩, -⟩ := four_cells hh9
  refine bodyPost_ret (v := .tuple #[eidV 0 [] 0 0, .int .i64 6]) ?_ rfl ⟨rfl, hB9⟩
  simp [results, Try.results25, go_sem, r0, r1, r2, r3]
set_option maxRecDepth 100000 in
set_option maxHeartbeats 2000000 in
theorem rof_bad {n : Nat} {s : List UInt8} {ad : Addr} {c : Nat}    {n2 : Nat} {s2 : List UInt8} {A2 : Option Addr} {m2 c2 : Nat} (w : World) (x0 : w.cell? ad = some (.int .i64 0)) (x1 : w.cell? ⟨ad.block, ad.off + 1, none⟩ = some (.int .u64 1)) (y0 : w.cell? ⟨ad.block, ad.off + 4, none⟩ = some (.int .i64 3)) (y1 : w.cell? ⟨ad.block, ad.off + 4 + 1, none⟩ = some (.int .u64 (n2 : Int))) (y2 : w.cell? ⟨ad.block, ad.off + 4 + 2, none⟩ = some (.string ⟨s2.toArray⟩)) (y3 : w.cell? ⟨ad.block, ad.off + 4 + 3, none⟩ = some (.slice A2 m2 c2)) (h : s2 ≠ []) (hr : rightE 1 s2 0 0 = false) : Calls Try.prog 25 #[.agg #[.int .i64 4, .int .u64 (n : Int), .string ⟨s.toArray⟩, .slice (some ad) 2 c]] w (ofRes w 0 [] 0 0 6) := by
  have hne : (s2 == []) = false := by simpa using h
  have KR : ∀ W, Hid (Calls Try.prog 20 #[eidV 1 s2 0 0] W fun e w' => e = .returned (.bool false) ∧ Below W.heap.size W w') := fun W => Lib.hid (by
    have := rright1_any s2 W
    rw [hr] at this
    exact this)
  clear h hr
  obtain ⟨hB, hc, -⟩ := two_cells w #[.int .i64 4, .int .u64 (n : Int), .string ⟨s.toArray⟩, .slice (some ad) 2 c] #[.int .i64 0, .string ⟨#[]⟩, .int .u64 0, .int .u64 0] 45 29
  have k0 := hc 0 _ rfl
  have k3 := hc 3 _ rfl
  have hR := alloc_new (w.alloc (.cells #[.int .i64 4, .int .u64 (n : Int), .string ⟨s.toArray⟩, .slice (some ad) 2 c] 45)) (.cells #[.int .i64 0, .string ⟨#[]⟩, .int .u64 0, .int .u64 0] 29 (0, 0))
  rw [alloc_size] at hR
  replace x0 := cell_below hB x0
  replace x1 := cell_below hB x1
  replace y0 := cell_below hB y0
  replace y1 := cell_below hB y1
  replace y2 := cell_below hB y2
  replace y3 := cell_below hB y3
  clear hc
  go_enter Try.func25, Try.ntmps25
  go_upto_region 1 with fail
  generalize (w.alloc (.cells #[.int .i64 4, .int .u64 (n : Int), .string ⟨s.toArray⟩, .slice (some ad) 2 c] 45)).alloc (.cells #[.int .i64 0, .string ⟨#[]⟩, .int .u64 0, .int .u64 0] 29) = w1 at *
  go_upto_region 5 with fail
  obtain ⟨hb, hcb⟩ := one_cells w1 #[.int .i64 3, .int .u64 (n2 : Int), .string ⟨s2.toArray⟩, .slice A2 m2 c2] 45
  have b0 := hcb 0 _ rfl
  have b1 := hcb 1 _ rfl
  have b2 := hcb 2 _ rfl
  have b3 := hcb 3 _ rfl
  replace hR := heap_below hb hR
  replace hB := below_trans hB hb
  clear hcb hb x0 x1 y0 y1 y2 y3 k0 k3
  generalize w1.alloc (.cells #[.int .i64 3, .int .u64 (n2 : Int), .string ⟨s2.toArray⟩, .slice A2 m2 c2] 45) = w2 at *
  go_upto_region 11 with fail
  obtain ⟨hb, e0, e1, e2, e3⟩ := eid_cells w2 1 s2 0 0
  replace b0 := cell_below hb b0
  replace b1 := cell_below hb b1
  replace b2 := cell_below hb b2
  replace b3 := cell_below hb b3
  replace hR := heap_below hb hR
  replace hB := below_trans hB hb
  clear hb
  generalize w2.alloc (.cells #[.int .i64 1, .string ⟨s2.toArray⟩, .int .u64 0, .int .u64 0] 29) = w3 at *
  go_wp2_with fail
  refine (KR _).out.mono ?_
  rintro e w4 ⟨rfl, hb⟩
  replace e0 := cell_below hb e0
  replace e1 := cell_below hb e1
  replace e2 := cell_below hb e2
  replace e3 := cell_below hb e3
  replace hR := heap_below hb hR
  replace hB := below_trans hB hb
  clear hb b0 b1 b2 b3
  obtain ⟨⟨z0, z1, z2, z3⟩, f0, f1, f2, f3⟩ := four_cells hR
  go_wp2_with fail
  have hh9 := four_heap hR (.int .i64 0) (.string ⟨#[]⟩) (.int .u64 0) (.int .u64 0)
  have hB9 := below_gbw (four_gb w4 (w.heap.size + 1) (.int .i64 0) (.string ⟨#[]⟩) (.int .u64 0) (.int .u64 0)) hB (by omega)
  obtain ⟨⟨r0, r1, r2, r3⟩, -⟩ := four_cells hh9
  refine bodyPost_ret (v := .tuple #[eidV 0 [] 0 0, .int .i64 6]) ?_ rfl ⟨rfl, hB9⟩
  simp [results, Try.results25, go_sem, r0, r1, r2, r3]
set_option maxRecDepth 100000 in
set_option maxHeartbeats 2000000 in
theorem rof_name {n : Nat} {s : List UInt8} {ad : Addr} {c : Nat}    {n2 : Nat} {s2 : List UInt8} {A2 : Option Addr} {m2 c2 : Nat} (w : World) (x0 : w.cell? ad = some (.int .i64 0)) (x1 : w.cell? ⟨ad.block, ad.off + 1, none⟩ = some (.int .u64 1)) (y0 : w.cell? ⟨ad.block, ad.off + 4, none⟩ = some (.int .i64 3)) (y1 : w.cell? ⟨ad.block, ad.off + 4 + 1, none⟩ = some (.int .u64 (n2 : Int))) (y2 : w.cell? ⟨ad.block, ad.off + 4 + 2, none⟩ = some (.string ⟨s2.toArray⟩)) (y3 : w.cell? ⟨ad.block, ad.off + 4 + 3, none⟩ = some (.slice A2 m2 c2)) (h : s2 ≠ []) (hr : rightE 1 s2 0 0 = true) : Calls Try.prog 25 #[.agg #[.int .i64 4, .int .u64 (n : Int), .string ⟨s.toArray⟩, .slice (some ad) 2 c]] w (ofRes w 1 s2 0 0 0) := by
  have hne : (s2 == []) = false := by simpa using h
  have KR : ∀ W, Hid (Calls Try.prog 20 #[eidV 1 s2 0 0] W fun e w' => e = .returned (.bool true) ∧ Below W.heap.size W w') := fun W => Lib.hid (by
    have := rright1_any s2 W
    rw [hr] at this
    exact this)
  clear h hr
  obtain ⟨hB, hc, -⟩ := two_cells w #[.int .i64 4, .int .u64 (n : Int), .string ⟨s.toArray⟩, .slice (some ad) 2 c] #[.int .i64 0, .string ⟨#[]⟩, .int .u64 0, .int .u64 0] 45 29
  have k0 := hc 0 _ rfl
  have k3 := hc 3 _ rfl
  have hR := alloc_new (w.alloc (.cells #[.int .i64 4, .int .u64 (n : Int), .string ⟨s.toArray⟩, .slice (some ad) 2 c] 45)) (.cells #[.int .i64 0, .string ⟨#[]⟩, .int .u64 0, .int .u64 0] 29 (0, 0))
  rw [alloc_size] at hR
  replace x0 := cell_below hB x0
  replace x1 := cell_below hB x1
  replace y0 := cell_below hB y0
  replace y1 := cell_below hB y1
  replace y2 := cell_below hB y2
  replace y3 := cell_below hB y3
  clear hc
  go_enter Try.func25, Try.ntmps25
  go_upto_region 1 with fail
  generalize (w.alloc (.cells #[.int .i64 4, .int .u64 (n : Int), .string ⟨s.toArray⟩, .slice (some ad) 2 c] 45)).alloc (.cells #[.int .i64 0, .string ⟨#[]⟩, .int .u64 0, .int .u64 0] 29) = w1 at *
  go_upto_region 5 with fail
  obtain ⟨hb, hcb⟩ := one_cells w1 #[.int .i64 3, .int .u64 (n2 : Int), .string ⟨s2.toArray⟩, .slice A2 m2 c2] 45
  have b0 := hcb 0 _ rfl
  have b1 := hcb 1 _ rfl
  have b2 := hcb 2 _ rfl
  have b3 := hcb 3 _ rfl
  replace hR := heap_below hb hR
  replace hB := below_trans hB hb
  clear hcb hb x0 x1 y0 y1 y2 y3 k0 k3
  generalize w1.alloc (.cells #[.int .i64 3, .int .u64 (n2 : Int), .string ⟨s2.toArray⟩, .slice A2 m2 c2] 45) = w2 at *
  go_upto_region 11 with fail
  obtain ⟨hb, e0, e1, e2, e3⟩ := eid_cells w2 1 s2 0 0
  replace b0 := cell_below hb b0
  replace b1 := cell_below hb b1
  replace b2 := cell_below hb b2
  replace b3 := cell_below hb b3
  replace hR := heap_below hb hR
  replace hB := below_trans hB hb
  clear hb
  generalize w2.alloc (.cells #[.int .i64 1, .string ⟨s2.toArray⟩, .int .u64 0, .int .u64 0] 29) = w3 at *
  go_wp2_with fail
  refine (KR _).out.mono ?_
  rintro e w4 ⟨rfl, hb⟩
  replace e0 := cell_below hb e0
  replace e1 := cell_below hb e1
  replace e2 := cell_below hb e2
  replace e3 := cell_below hb e3
  replace hR := heap_below hb hR
  replace hB := below_trans hB hb
  clear hb b0 b1 b2 b3
  obtain ⟨⟨z0, z1, z2, z3⟩, f0, f1, f2, f3⟩ := four_cells hR
  go_wp2_with fail
  have hh9 := four_heap hR (.int .i64 1) (.string ⟨s2.toArray⟩) (.int .u64 0) (.int .u64 0)
  have hB9 := below_gbw (four_gb w4 (w.heap.size + 1) (.int .i64 1) (.string ⟨s2.toArray⟩) (.int .u64 0) (.int .u64 0)) hB (by omega)
  obtain ⟨⟨r0, r1, r2, r3⟩, -⟩ := four_cells hh9
  refine bodyPost_ret (v := .tuple #[eidV 1 s2 0 0, .int .i64 0]) ?_ rfl ⟨rfl, hB9⟩
  simp [results, Try.results25, go_sem, r0, r1, r2, r3]
set_option maxRecDepth 100000 in
set_option maxHeartbeats 2000000 in
theorem rof_rest1 {n : Nat} {s : List UInt8} {ad : Addr} {c : Nat}   {k2 : Int} {n2 : Nat} {s2 : List UInt8} {A2 : Option Addr} {m2 c2 : Nat} (w : World) (x0 : w.cell? ad = some (.int .i64 0)) (x1 : w.cell? ⟨ad.block, ad.off + 1, none⟩ = some (.int .u64 1)) (y0 : w.cell? ⟨ad.block, ad.off + 4, none⟩ = some (.int .i64 k2)) (y1 : w.cell? ⟨ad.block, ad.off + 4 + 1, none⟩ = some (.int .u64 (n2 : Int))) (y2 : w.cell? ⟨ad.block, ad.off + 4 + 2, none⟩ = some (.string ⟨s2.toArray⟩)) (y3 : w.cell? ⟨ad.block, ad.off + 4 + 3, none⟩ = some (.slice A2 m2 c2)) (h : k2 ≠ 0) (h3 : k2 ≠ 3) : Calls Try.prog 25 #[.agg #[.int .i64 4, .int .u64 (n : Int), .string ⟨s.toArray⟩, .slice (some ad) 2 c]] w (ofRes w 0 [] 0 0 18) := by
  have a_k20 : (k2 == 0) = false := by rw [beq_eq_false_iff_ne]; omega
  have b_k20 : (k2 != 0) = true := by rw [bne_iff_ne]; omega
  have a_k23 : (k2 == 3) = false := by rw [beq_eq_false_iff_ne]; omega
  have b_k23 : (k2 != 3) = true := by rw [bne_iff_ne]; omega
  obtain ⟨hB, hc, -⟩ := two_cells w #[.int .i64 4, .int .u64 (n : Int), .string ⟨s.toArray⟩, .slice (some ad) 2 c] #[.int .i64 0, .string ⟨#[]⟩, .int .u64 0, .int .u64 0] 45 29
  have k0 := hc 0 _ rfl
  have k3 := hc 3 _ rfl
  have hR := alloc_new (w.alloc (.cells #[.int .i64 4, .int .u64 (n : Int), .string ⟨s.toArray⟩, .slice (some ad) 2 c] 45)) (.cells #[.int .i64 0, .string ⟨#[]⟩, .int .u64 0, .int .u64 0] 29 (0, 0))
  rw [alloc_size] at hR
  replace x0 := cell_below hB x0
  replace x1 := cell_below hB x1
  replace y0 := cell_below hB y0
  replace y1 := cell_below hB y1
  replace y2 := cell_below hB y2
  replace y3 := cell_below hB y3
  clear hc
  go_enter Try.func25, Try.ntmps25
  go_upto_region 1 with fail
  generalize (w.alloc (.cells #[.int .i64 4, .int .u64 (n : Int), .string ⟨s.toArray⟩, .slice (some ad) 2 c] 45)).alloc (.cells #[.int .i64 0, .string ⟨#[]⟩, .int .u64 0, .int .u64 0] 29) = w1 at *
  go_upto_region 5 with fail
  obtain ⟨hb, hcb⟩ := one_cells w1 #[.int .i64 k2, .int .u64 (n2 : Int), .string ⟨s2.toArray⟩, .slice A2 m2 c2] 45
  have b0 := hcb 0 _ rfl
  have b1 := hcb 1 _ rfl
  have b2 := hcb 2 _ rfl
  have b3 := hcb 3 _ rfl
  replace hR := heap_below hb hR
  replace hB := below_trans hB hb
  clear hcb hb x0 x1 y0 y1 y2 y3 k0 k3
  generalize w1.alloc (.cells #[.int .i64 k2, .int .u64 (n2 : Int), .string ⟨s2.toArray⟩, .slice A2 m2 c2] 45) = w2 at *
  obtain ⟨⟨z0, z1, z2, z3⟩, f0, f1, f2, f3⟩ := four_cells hR
  go_wp2_with fail
  have hh9 := four_heap hR (.int .i64 0) (.string ⟨#[]⟩) (.int .u64 0) (.int .u64 0)
  have hB9 := below_gbw (four_gb w2 (w.heap.size + 1) (.int .i64 0) (.string ⟨#[]⟩) (.int .u64 0) (.int .u64 0)) hB (by omega)
  obtain ⟨⟨r0, r1, r2, r3⟩, -⟩ := four_cells hh9
  refine bodyPost_ret (v := .tuple #[eidV 0 [] 0 0, .int .i64 18]) ?_ rfl ⟨rfl, hB9⟩
  simp [results, Try.results25, go_sem, r0, r1, r2, r3]
set_option maxRecDepth 100000 in
set_option maxHeartbeats 2000000 in
theorem rof_rest2 {n : Nat} {s : List UInt8} {ad : Addr} {c : Nat}  {n1 : Nat} {k2 : Int} {n2 : Nat} {s2 : List UInt8} {A2 : Option Addr} {m2 c2 : Nat} (w : World) (x0 : w.cell? ad = some (.int .i64 0)) (x1 : w.cell? ⟨ad.block, ad.off + 1, none⟩ = some (.int .u64 (n1 : Int))) (y0 : w.cell? ⟨ad.block, ad.off + 4, none⟩ = some (.int .i64 k2)) (y1 : w.cell? ⟨ad.block, ad.off + 4 + 1, none⟩ = some (.int .u64 (n2 : Int))) (y2 : w.cell? ⟨ad.block, ad.off + 4 + 2, none⟩ = some (.string ⟨s2.toArray⟩)) (y3 : w.cell? ⟨ad.block, ad.off + 4 + 3, none⟩ = some (.slice A2 m2 c2)) (h : n1 ≠ 1) (h3 : n1 ≠ 2) : Calls Try.prog 25 #[.agg #[.int .i64 4, .int .u64 (n : Int), .string ⟨s.toArray⟩, .slice (some ad) 2 c]] w (ofRes w 0 [] 0 0 18) := by
  have a_n11 : ((n1 : Int) == 1) = false := by rw [beq_eq_false_iff_ne]; omega
  have b_n11 : ((n1 : Int) != 1) = true := by rw [bne_iff_ne]; omega
  have a_n12 : ((n1 : Int) == 2) = false := by rw [beq_eq_false_iff_ne]; omega
  have b_n12 : ((n1 : Int) != 2) = true := by rw [bne_iff_ne]; omega
  obtain ⟨hB, hc, -⟩ := two_cells w #[.int .i64 4, .int .u64 (n : Int), .string ⟨s.toArray⟩, .slice (some ad) 2 c] #[.int .i64 0, .string ⟨#[]⟩, .int .u64 0, .int .u64 0] 45 29
  have k0 := hc 0 _ rfl
  have k3 := hc 3 _ rfl
  have hR := alloc_new (w.alloc (.cells #[.int .i64 4, .int .u64 (n : Int), .string ⟨s.toArray⟩, .slice (some ad) 2 c] 45)) (.cells #[.int .i64 0, .string ⟨#[]⟩, .int .u64 0, .int .u64 0] 29 (0, 0))
  rw [alloc_size] at hR
  replace x0 := cell_below hB x0
  replace x1 := cell_below hB x1
  replace y0 := cell_below hB y0
  replace y1 := cell_below hB y1
  replace y2 := cell_below hB y2
  replace y3 := cell_below hB y3
  clear hc
  go_enter Try.func25, Try.ntmps25
  go_upto_region 1 with fail
  generalize (w.alloc (.cells #[.int .i64 4, .int .u64 (n : Int), .string ⟨s.toArray⟩, .slice (some ad) 2 c] 45)).alloc (.cells #[.int .i64 0, .string ⟨#[]⟩, .int .u64 0, .int .u64 0] 29) = w1 at *
  go_upto_region 5 with fail
  obtain ⟨hb, hcb⟩ := one_cells w1 #[.int .i64 k2, .int .u64 (n2 : Int), .string ⟨s2.toArray⟩, .slice A2 m2 c2] 45
  have b0 := hcb 0 _ rfl
  have b1 := hcb 1 _ rfl
  have b2 := hcb 2 _ rfl
  have b3 := hcb 3 _ rfl
  replace hR := heap_below hb hR
  replace hB := below_trans hB hb
  clear hcb hb x0 x1 y0 y1 y2 y3 k0 k3
  generalize w1.alloc (.cells #[.int .i64 k2, .int .u64 (n2 : Int), .string ⟨s2.toArray⟩, .slice A2 m2 c2] 45) = w2 at *
  obtain ⟨⟨z0, z1, z2, z3⟩, f0, f1, f2, f3⟩ := four_cells hR
  go_wp2_with fail
  have hh9 := four_heap hR (.int .i64 0) (.string ⟨#[]⟩) (.int .u64 0) (.int .u64 0)
  have hB9 := below_gbw (four_gb w2 (w.heap.size + 1) (.int .i64 0) (.string ⟨#[]⟩) (.int .u64 0) (.int .u64 0)) hB (by omega)
  obtain ⟨⟨r0, r1, r2, r3⟩, -⟩ := four_cells hh9
  refine bodyPost_ret (v := .tuple #[eidV 0 [] 0 0, .int .i64 18]) ?_ rfl ⟨rfl, hB9⟩
  simp [results, Try.results25, go_sem, r0, r1, r2, r3]
set_option maxRecDepth 100000 in
set_option maxHeartbeats 2000000 in
theorem rof_rest3 {n : Nat} {s : List UInt8} {ad : Addr} {c : Nat}   {k2 : Int} {n2 : Nat} {s2 : List UInt8} {A2 : Option Addr} {m2 c2 : Nat} (w : World) (x0 : w.cell? ad = some (.int .i64 0)) (x1 : w.cell? ⟨ad.block, ad.off + 1, none⟩ = some (.int .u64 2)) (y0 : w.cell? ⟨ad.block, ad.off + 4, none⟩ = some (.int .i64 k2)) (y1 : w.cell? ⟨ad.block, ad.off + 4 + 1, none⟩ = some (.int .u64 (n2 : Int))) (y2 : w.cell? ⟨ad.block, ad.off + 4 + 2, none⟩ = some (.string ⟨s2.toArray⟩)) (y3 : w.cell? ⟨ad.block, ad.off + 4 + 3, none⟩ = some (.slice A2 m2 c2)) (h : k2 ≠ 4) : Calls Try.prog 25 #[.agg #[.int .i64 4, .int .u64 (n : Int), .string ⟨s.toArray⟩, .slice (some ad) 2 c]] w (ofRes w 0 [] 0 0 18) := by
  have a_k24 : (k2 == 4) = false := by rw [beq_eq_false_iff_ne]; omega
  have b_k24 : (k2 != 4) = true := by rw [bne_iff_ne]; omega
  obtain ⟨hB, hc, -⟩ := two_cells w #[.int .i64 4, .int .u64 (n : Int), .string ⟨s.toArray⟩, .slice (some ad) 2 c] #[.int .i64 0, .string ⟨#[]⟩, .int .u64 0, .int .u64 0] 45 29
  have k0 := hc 0 _ rfl
  have k3 := hc 3 _ rfl
  have hR := alloc_new (w.alloc (.cells #[.int .i64 4, .int .u64 (n : Int), .string ⟨s.toArray⟩, .slice (some ad) 2 c] 45)) (.cells #[.int .i64 0, .string ⟨#[]⟩, .int .u64 0, .int .u64 0] 29 (0, 0))
  rw [alloc_size] at hR
  replace x0 := cell_below hB x0
  replace x1 := cell_below hB x1
  replace y0 := cell_below hB y0
  replace y1 := cell_below hB y1
  replace y2 := cell_below hB y2
  replace y3 := cell_below hB y3
  clear hc
  go_enter Try.func25, Try.ntmps25
  go_upto_region 1 with fail
  generalize (w.alloc (.cells #[.int .i64 4, .int .u64 (n : Int), .string ⟨s.toArray⟩, .slice (some ad) 2 c] 45)).alloc (.cells #[.int .i64 0, .string ⟨#[]⟩, .int .u64 0, .int .u64 0] 29) = w1 at *
  go_upto_region 5 with fail
  obtain ⟨hb, hcb⟩ := one_cells w1 #[.int .i64 k2, .int .u64 (n2 : Int), .string ⟨s2.toArray⟩, .slice A2 m2 c2] 45
  have b0 := hcb 0 _ rfl
  have b1 := hcb 1 _ rfl
  have b2 := hcb 2 _ rfl
  have b3 := hcb 3 _ rfl
  replace hR := heap_below hb hR
  replace hB := below_trans hB hb
  clear hcb hb x0 x1 y0 y1 y2 y3 k0 k3
  generalize w1.alloc (.cells #[.int .i64 k2, .int .u64 (n2 : Int), .string ⟨s2.toArray⟩, .slice A2 m2 c2] 45) = w2 at *
  obtain ⟨⟨z0, z1, z2, z3⟩, f0, f1, f2, f3⟩ := four_cells hR
  go_wp2_with fail
  have hh9 := four_heap hR (.int .i64 0) (.string ⟨#[]⟩) (.int .u64 0) (.int .u64 0)
  have hB9 := below_gbw (four_gb w2 (w.heap.size + 1) (.int .i64 0) (.string ⟨#[]⟩) (.int .u64 0) (.int .u64 0)) hB (by omega)
  obtain ⟨⟨r0, r1, r2, r3⟩, -⟩ := four_cells hh9
  refine bodyPost_ret (v := .tuple #[eidV 0 [] 0 0, .int .i64 18]) ?_ rfl ⟨rfl, hB9⟩
  simp [results, Try.results25, go_sem, r0, r1, r2, r3]
set_option maxRecDepth 100000 in
set_option maxHeartbeats 2000000 in
theorem rof_rest4 {n : Nat} {s : List UInt8} {ad : Addr} {c : Nat}    {n2 : Nat} {s2 : List UInt8} {A2 : Option Addr} {m2 c2 : Nat} (w : World) (x0 : w.cell? ad = some (.int .i64 0)) (x1 : w.cell? ⟨ad.block, ad.off + 1, none⟩ = some (.int .u64 2)) (y0 : w.cell? ⟨ad.block, ad.off + 4, none⟩ = some (.int .i64 4)) (y1 : w.cell? ⟨ad.block, ad.off + 4 + 1, none⟩ = some (.int .u64 (n2 : Int))) (y2 : w.cell? ⟨ad.block, ad.off + 4 + 2, none⟩ = some (.string ⟨s2.toArray⟩)) (y3 : w.cell? ⟨ad.block, ad.off + 4 + 3, none⟩ = some (.slice A2 m2 c2)) (h : m2 ≠ 2) : Calls Try.prog 25 #[.agg #[.int .i64 4, .int .u64 (n : Int), .string ⟨s.toArray⟩, .slice (some ad) 2 c]] w (ofRes w 0 [] 0 0 18) := by
  have a_m22 : ((m2 : Int) == 2) = false := by rw [beq_eq_false_iff_ne]; omega
  have b_m22 : ((m2 : Int) != 2) = true := by rw [bne_iff_ne]; omega
  obtain ⟨hB, hc, -⟩ := two_cells w #[.int .i64 4, .int .u64 (n : Int), .string ⟨s.toArray⟩, .slice (some ad) 2 c] #[.int .i64 0, .string ⟨#[]⟩, .int .u64 0, .int .u64 0] 45 29
  have k0 := hc 0 _ rfl
  have k3 := hc 3 _ rfl
  have hR := alloc_new (w.alloc (.cells #[.int .i64 4, .int .u64 (n : Int), .string ⟨s.toArray⟩, .slice (some ad) 2 c] 45)) (.cells #[.int .i64 0, .string ⟨#[]⟩, .int .u64 0, .int .u64 0] 29 (0, 0))
  rw [alloc_size] at hR
  replace x0 := cell_below hB x0
  replace x1 := cell_below hB x1
  replace y0 := cell_below hB y0
  replace y1 := cell_below hB y1
  replace y2 := cell_below hB y2
  replace y3 := cell_below hB y3
  clear hc
  go_enter Try.func25, Try.ntmps25
  go_upto_region 1 with fail
  generalize (w.alloc (.cells #[.int .i64 4, .int .u64 (n : Int), .string ⟨s.toArray⟩, .slice (some ad) 2 c] 45)).alloc (.cells #[.int .i64 0, .string ⟨#[]⟩, .int .u64 0, .int .u64 0] 29) = w1 at *
  go_upto_region 5 with fail
  obtain ⟨hb, hcb⟩ := one_cells w1 #[.int .i64 4, .int .u64 (n2 : Int), .string ⟨s2.toArray⟩, .slice A2 m2 c2] 45
  have b0 := hcb 0 _ rfl
  have b1 := hcb 1 _ rfl
  have b2 := hcb 2 _ rfl
  have b3 := hcb 3 _ rfl
  replace hR := heap_below hb hR
  replace hB := below_trans hB hb
  clear hcb hb x0 x1 y0 y1 y2 y3 k0 k3
  generalize w1.alloc (.cells #[.int .i64 4, .int .u64 (n2 : Int), .string ⟨s2.toArray⟩, .slice A2 m2 c2] 45) = w2 at *
  obtain ⟨⟨z0, z1, z2, z3⟩, f0, f1, f2, f3⟩ := four_cells hR
  go_wp2_with fail
  have hh9 := four_heap hR (.int .i64 0) (.string ⟨#[]⟩) (.int .u64 0) (.int .u64 0)
  have hB9 := below_gbw (four_gb w2 (w.heap.size + 1) (.int .i64 0) (.string ⟨#[]⟩) (.int .u64 0) (.int .u64 0)) hB (by omega)
  obtain ⟨⟨r0, r1, r2, r3⟩, -⟩ := four_cells hh9
  refine bodyPost_ret (v := .tuple #[eidV 0 [] 0 0, .int .i64 18]) ?_ rfl ⟨rfl, hB9⟩
  simp [results, Try.results25, go_sem, r0, r1, r2, r3]
set_option maxRecDepth 100000 in
set_option maxHeartbeats 2000000 in
theorem rof_rest5 {n : Nat} {s : List UInt8} {ad : Addr} {c : Nat}    {n2 : Nat} {s2 : List UInt8}  {c2 : Nat} (w : World) {a2 : Addr} {kx ky : Int} {px py : Nat} (x0 : w.cell? ad = some (.int .i64 0)) (x1 : w.cell? ⟨ad.block, ad.off + 1, none⟩ = some (.int .u64 2)) (y0 : w.cell? ⟨ad.block, ad.off + 4, none⟩ = some (.int .i64 4)) (y1 : w.cell? ⟨ad.block, ad.off + 4 + 1, none⟩ = some (.int .u64 (n2 : Int))) (y2 : w.cell? ⟨ad.block, ad.off + 4 + 2, none⟩ = some (.string ⟨s2.toArray⟩)) (y3 : w.cell? ⟨ad.block, ad.off + 4 + 3, none⟩ = some (.slice (some a2) 2 c2)) (p0 : w.cell? a2 = some (.int .i64 kx)) (p1 : w.cell? ⟨a2.block, a2.off + 1, none⟩ = some (.int .u64 (px : Int))) (q0 : w.cell? ⟨a2.block, a2.off + 4, none⟩ = some (.int .i64 ky)) (q1 : w.cell? ⟨a2.block, a2.off + 4 + 1, none⟩ = some (.int .u64 (py : Int))) (h : kx ≠ 0) : Calls Try.prog 25 #[.agg #[.int .i64 4, .int .u64 (n : Int), .string ⟨s.toArray⟩, .slice (some ad) 2 c]] w (ofRes w 0 [] 0 0 18) := by
  have a_kx0 : (kx == 0) = false := by rw [beq_eq_false_iff_ne]; omega
  have b_kx0 : (kx != 0) = true := by rw [bne_iff_ne]; omega
  obtain ⟨hB, hc, -⟩ := two_cells w #[.int .i64 4, .int .u64 (n : Int), .string ⟨s.toArray⟩, .slice (some ad) 2 c] #[.int .i64 0, .string ⟨#[]⟩, .int .u64 0, .int .u64 0] 45 29
  have k0 := hc 0 _ rfl
  have k3 := hc 3 _ rfl
  have hR := alloc_new (w.alloc (.cells #[.int .i64 4, .int .u64 (n : Int), .string ⟨s.toArray⟩, .slice (some ad) 2 c] 45)) (.cells #[.int .i64 0, .string ⟨#[]⟩, .int .u64 0, .int .u64 0] 29 (0, 0))
  rw [alloc_size] at hR
  replace x0 := cell_below hB x0
  replace x1 := cell_below hB x1
  replace y0 := cell_below hB y0
  replace y1 := cell_below hB y1
  replace y2 := cell_below hB y2
  replace y3 := cell_below hB y3
  replace p0 := cell_below hB p0
  replace p1 := cell_below hB p1
  replace q0 := cell_below hB q0
  replace q1 := cell_below hB q1
  clear hc
  go_enter Try.func25, Try.ntmps25
  go_upto_region 1 with fail
  generalize (w.alloc (.cells #[.int .i64 4, .int .u64 (n : Int), .string ⟨s.toArray⟩, .slice (some ad) 2 c] 45)).alloc (.cells #[.int .i64 0, .string ⟨#[]⟩, .int .u64 0, .int .u64 0] 29) = w1 at *
  go_upto_region 5 with fail
  obtain ⟨hb, hcb⟩ := one_cells w1 #[.int .i64 4, .int .u64 (n2 : Int), .string ⟨s2.toArray⟩, .slice (some a2) 2 c2] 45
  have b0 := hcb 0 _ rfl
  have b1 := hcb 1 _ rfl
  have b2 := hcb 2 _ rfl
  have b3 := hcb 3 _ rfl
  replace p0 := cell_below hb p0
  replace p1 := cell_below hb p1
  replace q0 := cell_below hb q0
  replace q1 := cell_below hb q1
  replace hR := heap_below hb hR
  replace hB := below_trans hB hb
  clear hcb hb x0 x1 y0 y1 y2 y3 k0 k3
  generalize w1.alloc (.cells #[.int .i64 4, .int .u64 (n2 : Int), .string ⟨s2.toArray⟩, .slice (some a2) 2 c2] 45) = w2 at *
  obtain ⟨⟨z0, z1, z2, z3⟩, f0, f1, f2, f3⟩ := four_cells hR
  go_wp2_with fail
  have hh9 := four_heap hR (.int .i64 0) (.string ⟨#[]⟩) (.int .u64 0) (.int .u64 0)
  have hB9 := below_gbw (four_gb w2 (w.heap.size + 1) (.int .i64 0) (.string ⟨#[]⟩) (.int .u64 0) (.int .u64 0)) hB (by omega)
  obtain ⟨⟨r0, r1, r2, r3⟩, -⟩ := four_cells hh9
  refine bodyPost_ret (v := .tuple #[eidV 0 [] 0 0, .int .i64 18]) ?_ rfl ⟨rfl, hB9⟩
  simp [results, Try.results25, go_sem, r0, r1, r2, r3]
set_option maxRecDepth 100000 in
set_option maxHeartbeats 2000000 in
theorem rof_rest6 {n : Nat} {s : List UInt8} {ad : Addr} {c : Nat}    {n2 : Nat} {s2 : List UInt8}  {c2 : Nat} (w : World) {a2 : Addr} {ky : Int} {px py : Nat} (x0 : w.cell? ad = some (.int .i64 0)) (x1 : w.cell? ⟨ad.block, ad.off + 1, none⟩ = some (.int .u64 2)) (y0 : w.cell? ⟨ad.block, ad.off + 4, none⟩ = some (.int .i64 4)) (y1 : w.cell? ⟨ad.block, ad.off + 4 + 1, none⟩ = some (.int .u64 (n2 : Int))) (y2 : w.cell? ⟨ad.block, ad.off + 4 + 2, none⟩ = some (.string ⟨s2.toArray⟩)) (y3 : w.cell? ⟨ad.block, ad.off + 4 + 3, none⟩ = some (.slice (some a2) 2 c2)) (p0 : w.cell? a2 = some (.int .i64 0)) (p1 : w.cell? ⟨a2.block, a2.off + 1, none⟩ = some (.int .u64 (px : Int))) (q0 : w.cell? ⟨a2.block, a2.off + 4, none⟩ = some (.int .i64 ky)) (q1 : w.cell? ⟨a2.block, a2.off + 4 + 1, none⟩ = some (.int .u64 (py : Int))) (h : ky ≠ 0) : Calls Try.prog 25 #[.agg #[.int .i64 4, .int .u64 (n : Int), .string ⟨s.toArray⟩, .slice (some ad) 2 c]] w (ofRes w 0 [] 0 0 18) := by
  have a_ky0 : (ky == 0) = false := by rw [beq_eq_false_iff_ne]; omega
  have b_ky0 : (ky != 0) = true := by rw [bne_iff_ne]; omega
  obtain ⟨hB, hc, -⟩ := two_cells w #[.int .i64 4, .int .u64 (n : Int), .string ⟨s.toArray⟩, .slice (some ad) 2 c] #[.int .i64 0, .string ⟨#[]⟩, .int .u64 0, .int .u64 0] 45 29
  have k0 := hc 0 _ rfl
  have k3 := hc 3 _ rfl
  have hR := alloc_new (w.alloc (.cells #[.int .i64 4, .int .u64 (n : Int), .string ⟨s.toArray⟩, .slice (some ad) 2 c] 45)) (.cells #[.int .i64 0, .string ⟨#[]⟩, .int .u64 0, .int .u64 0] 29 (0, 0))
  rw [alloc_size] at hR
  replace x0 := cell_below hB x0
  replace x1 := cell_below hB x1
  replace y0 := cell_below hB y0
  replace y1 := cell_below hB y1
  replace y2 := cell_below hB y2
  replace y3 := cell_below hB y3
  replace p0 := cell_below hB p0
  replace p1 := cell_below hB p1
  replace q0 := cell_below hB q0
  replace q1 := cell_below hB q1
  clear hc
  go_enter Try.func25, Try.ntmps25
  go_upto_region 1 with fail
  generalize (w.alloc (.cells #[.int .i64 4, .int .u64 (n : Int), .string ⟨s.toArray⟩, .slice (some ad) 2 c] 45)).alloc (.cells #[.int .i64 0, .string ⟨#[]⟩, .int .u64 0, .int .u64 0] 29) = w1 at *
  go_upto_region 5 with fail
  obtain ⟨hb, hcb⟩ := one_cells w1 #[.int .i64 4, .int .u64 (n2 : Int), .string ⟨s2.toArray⟩, .slice (some a2) 2 c2] 45
  have b0 := hcb 0 _ rfl
  have b1 := hcb 1 _ rfl
  have b2 := hcb 2 _ rfl
  have b3 := hcb 3 _ rfl
  replace p0 := cell_below hb p0
  replace p1 := cell_below hb p1
  replace q0 := cell_below hb q0
  replace q1 := cell_below hb q1
  replace hR := heap_below hb hR
  replace hB := below_trans hB hb
  clear hcb hb x0 x1 y0 y1 y2 y3 k0 k3
  generalize w1.alloc (.cells #[.int .i64 4, .int .u64 (n2 : Int), .string ⟨s2.toArray⟩, .slice (some a2) 2 c2] 45) = w2 at *
  obtain ⟨⟨z0, z1, z2, z3⟩, f0, f1, f2, f3⟩ := four_cells hR
  go_wp2_with fail
  have hh9 := four_heap hR (.int .i64 0) (.string ⟨#[]⟩) (.int .u64 0) (.int .u64 0)
  have hB9 := below_gbw (four_gb w2 (w.heap.size + 1) (.int .i64 0) (.string ⟨#[]⟩) (.int .u64 0) (.int .u64 0)) hB (by omega)
  obtain ⟨⟨r0, r1, r2, r3⟩, -⟩ := four_cells hh9
  refine bodyPost_ret (v := .tuple #[eidV 0 [] 0 0, .int .i64 18]) ?_ rfl ⟨rfl, hB9⟩
  simp [results, Try.results25, go_sem, r0, r1, r2, r3]
set_option maxRecDepth 100000 in
set_option maxHeartbeats 2000000 in
theorem rof_ipn {n : Nat} {s : List UInt8} {ad : Addr} {c : Nat}    {n2 : Nat} {s2 : List UInt8}  {c2 : Nat} (w : World) {a2 : Addr}  {px py : Nat} (x0 : w.cell? ad = some (.int .i64 0)) (x1 : w.cell? ⟨ad.block, ad.off + 1, none⟩ = some (.int .u64 2)) (y0 : w.cell? ⟨ad.block, ad.off + 4, none⟩ = some (.int .i64 4)) (y1 : w.cell? ⟨ad.block, ad.off + 4 + 1, none⟩ = some (.int .u64 (n2 : Int))) (y2 : w.cell? ⟨ad.block, ad.off + 4 + 2, none⟩ = some (.string ⟨s2.toArray⟩)) (y3 : w.cell? ⟨ad.block, ad.off + 4 + 3, none⟩ = some (.slice (some a2) 2 c2)) (p0 : w.cell? a2 = some (.int .i64 0)) (p1 : w.cell? ⟨a2.block, a2.off + 1, none⟩ = some (.int .u64 (px : Int))) (q0 : w.cell? ⟨a2.block, a2.off + 4, none⟩ = some (.int .i64 0)) (q1 : w.cell? ⟨a2.block, a2.off + 4 + 1, none⟩ = some (.int .u64 (py : Int)))  : Calls Try.prog 25 #[.agg #[.int .i64 4, .int .u64 (n : Int), .string ⟨s.toArray⟩, .slice (some ad) 2 c]] w (ofRes w 2 [] px py 0) := by
  have ha2 := cell_lt p0
  obtain ⟨hB, hc, -⟩ := two_cells w #[.int .i64 4, .int .u64 (n : Int), .string ⟨s.toArray⟩, .slice (some ad) 2 c] #[.int .i64 0, .string ⟨#[]⟩, .int .u64 0, .int .u64 0] 45 29
  have k0 := hc 0 _ rfl
  have k3 := hc 3 _ rfl
  have hR := alloc_new (w.alloc (.cells #[.int .i64 4, .int .u64 (n : Int), .string ⟨s.toArray⟩, .slice (some ad) 2 c] 45)) (.cells #[.int .i64 0, .string ⟨#[]⟩, .int .u64 0, .int .u64 0] 29 (0, 0))
  rw [alloc_size] at hR
  replace x0 := cell_below hB x0
  replace x1 := cell_below hB x1
  replace y0 := cell_below hB y0
  replace y1 := cell_below hB y1
  replace y2 := cell_below hB y2
  replace y3 := cell_below hB y3
  replace p0 := cell_below hB p0
  replace p1 := cell_below hB p1
  replace q0 := cell_below hB q0
  replace q1 := cell_below hB q1
  clear hc
  go_enter Try.func25, Try.ntmps25
  go_upto_region 1 with fail
  generalize (w.alloc (.cells #[.int .i64 4, .int .u64 (n : Int), .string ⟨s.toArray⟩, .slice (some ad) 2 c] 45)).alloc (.cells #[.int .i64 0, .string ⟨#[]⟩, .int .u64 0, .int .u64 0] 29) = w1 at *
  have hlt1 : w.heap.size + 1 < w1.heap.size := heap_lt hR
  go_upto_region 5 with fail
  obtain ⟨hb, hcb⟩ := one_cells w1 #[.int .i64 4, .int .u64 (n2 : Int), .string ⟨s2.toArray⟩, .slice (some a2) 2 c2] 45
  have b0 := hcb 0 _ rfl
  have b1 := hcb 1 _ rfl
  have b2 := hcb 2 _ rfl
  have b3 := hcb 3 _ rfl
  replace p0 := cell_below hb p0
  replace p1 := cell_below hb p1
  replace q0 := cell_below hb q0
  replace q1 := cell_below hb q1
  replace hR := heap_below hb hR
  replace hB := below_trans hB hb
  clear hcb hb x0 x1 y0 y1 y2 y3 k0 k3
  generalize w1.alloc (.cells #[.int .i64 4, .int .u64 (n2 : Int), .string ⟨s2.toArray⟩, .slice (some a2) 2 c2] 45) = w2 at *
  obtain ⟨⟨z0, z1, z2, z3⟩, f0, f1, f2, f3⟩ := four_cells hR
  go_wp2_with fail
  refine wp_region_held (S := fun W => Below w.heap.size w2 W ∧ W.cell? ⟨w1.heap.size, 3, none⟩ = some (.slice (some a2) 2 c2) ∧ ∃ a b c d, W.heap[w.heap.size + 1]? = some (.cells #[a, b, c, d] 29 (0, 0))) (by kernel_rfl) ?_
  change wpAnyH _ _ _ _ _ _ _ _ (w2).drew
  have hS : (fun W => Below w.heap.size w2 W ∧ W.cell? ⟨w1.heap.size, 3, none⟩ = some (.slice (some a2) 2 c2) ∧ ∃ a b c d, W.heap[w.heap.size + 1]? = some (.cells #[a, b, c, d] 29 (0, 0))) (w2).drew := ⟨below_drewN (Below.refl _ _) 1, b3, _, _, _, _, hR⟩
  generalize (w2).drew = wd at hS ⊢
  refine wpAnyH_take (i := 0) (oi := { dst := some 95, op := Op.fieldAddr 45 (Operand.tmp 5) 3, type := 0, pos := "ref.go:85", after := #[], guard := none }) (v := ?_) rfl (by kernel_rfl) (by kernel_rfl) (by kernel_rfl) (fun _ _ _ h => h) (Or.inl ⟨by rfl, ?_⟩) (by assumption) ?_
  rotate_left
  · (intro wS hS; go_simp <;> with_reducible rfl)
  try simp only [Act.put, List.setIfInBounds_toArray, List.set_cons_zero, List.set_cons_succ]
  refine wpAnyH_take (i := 1) (oi := { dst := some 96, op := Op.load 43 (Operand.tmp 95), type := 43, pos := "ref.go:85", after := #[{ on := 0, ground := Ground.data }], guard := none }) (v := ?_) rfl (by kernel_rfl) (by kernel_rfl) (by kernel_rfl) (fun _ _ _ h => h) (Or.inl ⟨by rfl, ?_⟩) (by assumption) ?_
  rotate_left
  · (intro wS hS; have v3 := hS.2.1; have v1 := (hS.1.cell (p := ⟨a2.block, a2.off + 1, none⟩) ha2).trans p1; have v2 := (hS.1.cell (p := ⟨a2.block, a2.off + 4 + 1, none⟩) ha2).trans q1; go_simp <;> with_reducible rfl)
  try simp only [Act.put, List.setIfInBounds_toArray, List.set_cons_zero, List.set_cons_succ]
  refine wpAnyH_take (i := 2) (oi := { dst := some 97, op := Op.indexAddr 43 (Operand.tmp 96) (Operand.const (Value.int IntKind.i64 0)), type := 0, pos := "ref.go:85", after := #[{ on := 1, ground := Ground.data }], guard := none }) (v := ?_) rfl (by kernel_rfl) (by kernel_rfl) (by kernel_rfl) (fun _ _ _ h => h) (Or.inl ⟨by rfl, ?_⟩) (by assumption) ?_
  rotate_left
  · (intro wS hS; go_simp <;> with_reducible rfl)
  try simp only [Act.put, List.setIfInBounds_toArray, List.set_cons_zero, List.set_cons_succ]
  refine wpAnyH_take (i := 3) (oi := { dst := some 98, op := Op.fieldAddr 45 (Operand.tmp 97) 1, type := 0, pos := "ref.go:85", after := #[{ on := 2, ground := Ground.data }], guard := none }) (v := ?_) rfl (by kernel_rfl) (by kernel_rfl) (by kernel_rfl) (fun _ _ _ h => h) (Or.inl ⟨by rfl, ?_⟩) (by assumption) ?_
  rotate_left
  · (intro wS hS; go_simp <;> with_reducible rfl)
  try simp only [Act.put, List.setIfInBounds_toArray, List.set_cons_zero, List.set_cons_succ]
  refine wpAnyH_take (i := 4) (oi := { dst := some 99, op := Op.load 22 (Operand.tmp 98), type := 22, pos := "ref.go:85", after := #[{ on := 3, ground := Ground.data }], guard := none }) (v := ?_) rfl (by kernel_rfl) (by kernel_rfl) (by kernel_rfl) (fun _ _ _ h => h) (Or.inl ⟨by rfl, ?_⟩) (by assumption) ?_
  rotate_left
  · (intro wS hS; have v3 := hS.2.1; have v1 := (hS.1.cell (p := ⟨a2.block, a2.off + 1, none⟩) ha2).trans p1; have v2 := (hS.1.cell (p := ⟨a2.block, a2.off + 4 + 1, none⟩) ha2).trans q1; go_simp <;> with_reducible rfl)
  try simp only [Act.put, List.setIfInBounds_toArray, List.set_cons_zero, List.set_cons_succ]
  refine wpAnyH_take (i := 5) (oi := { dst := some 100, op := Op.fieldAddr 45 (Operand.tmp 5) 3, type := 0, pos := "ref.go:85", after := #[], guard := none }) (v := ?_) rfl (by kernel_rfl) (by kernel_rfl) (by kernel_rfl) (fun _ _ _ h => h) (Or.inl ⟨by rfl, ?_⟩) (by assumption) ?_
  rotate_left
  · (intro wS hS; go_simp <;> with_reducible rfl)
  try simp only [Act.put, List.setIfInBounds_toArray, List.set_cons_zero, List.set_cons_succ]
  refine wpAnyH_take (i := 6) (oi := { dst := some 101, op := Op.load 43 (Operand.tmp 100), type := 43, pos := "ref.go:85", after := #[{ on := 5, ground := Ground.data }], guard := none }) (v := ?_) rfl (by kernel_rfl) (by kernel_rfl) (by kernel_rfl) (fun _ _ _ h => h) (Or.inl ⟨by rfl, ?_⟩) (by assumption) ?_
  rotate_left
  · (intro wS hS; have v3 := hS.2.1; have v1 := (hS.1.cell (p := ⟨a2.block, a2.off + 1, none⟩) ha2).trans p1; have v2 := (hS.1.cell (p := ⟨a2.block, a2.off + 4 + 1, none⟩) ha2).trans q1; go_simp <;> with_reducible rfl)
  try simp only [Act.put, List.setIfInBounds_toArray, List.set_cons_zero, List.set_cons_succ]
  refine wpAnyH_take (i := 7) (oi := { dst := some 102, op := Op.indexAddr 43 (Operand.tmp 101) (Operand.const (Value.int IntKind.i64 1)), type := 0, pos := "ref.go:85", after := #[{ on := 6, ground := Ground.data }], guard := none }) (v := ?_) rfl (by kernel_rfl) (by kernel_rfl) (by kernel_rfl) (fun _ _ _ h => h) (Or.inl ⟨by rfl, ?_⟩) (by assumption) ?_
  rotate_left
  · (intro wS hS; go_simp <;> with_reducible rfl)
  try simp only [Act.put, List.setIfInBounds_toArray, List.set_cons_zero, List.set_cons_succ]
  refine wpAnyH_take (i := 8) (oi := { dst := some 103, op := Op.fieldAddr 45 (Operand.tmp 102) 1, type := 0, pos := "ref.go:85", after := #[{ on := 7, ground := Ground.data }], guard := none }) (v := ?_) rfl (by kernel_rfl) (by kernel_rfl) (by kernel_rfl) (fun _ _ _ h => h) (Or.inl ⟨by rfl, ?_⟩) (by assumption) ?_
  rotate_left
  · (intro wS hS; go_simp <;> with_reducible rfl)
  try simp only [Act.put, List.setIfInBounds_toArray, List.set_cons_zero, List.set_cons_succ]
  refine wpAnyH_take (i := 9) (oi := { dst := some 104, op := Op.load 22 (Operand.tmp 103), type := 22, pos := "ref.go:85", after := #[{ on := 8, ground := Ground.data }], guard := none }) (v := ?_) rfl (by kernel_rfl) (by kernel_rfl) (by kernel_rfl) (fun _ _ _ h => h) (Or.inl ⟨by rfl, ?_⟩) (by assumption) ?_
  rotate_left
  · (intro wS hS; have v3 := hS.2.1; have v1 := (hS.1.cell (p := ⟨a2.block, a2.off + 1, none⟩) ha2).trans p1; have v2 := (hS.1.cell (p := ⟨a2.block, a2.off + 4 + 1, none⟩) ha2).trans q1; go_simp <;> with_reducible rfl)
  try simp only [Act.put, List.setIfInBounds_toArray, List.set_cons_zero, List.set_cons_succ]
  refine wpAnyH_take (i := 10) (oi := { dst := some 105, op := Op.build 29 #[(0, Operand.const (Value.int IntKind.i64 2)), (2, Operand.tmp 99), (3, Operand.tmp 104)], type := 29, pos := "ref.go:85", after := #[{ on := 4, ground := Ground.data }, { on := 9, ground := Ground.data }], guard := none }) (v := ?_) rfl (by kernel_rfl) (by kernel_rfl) (by kernel_rfl) (fun _ _ _ h => h) (Or.inl ⟨by rfl, ?_⟩) (by assumption) ?_
  rotate_left
  · (intro wS hS; go_simp <;> with_reducible rfl)
  try simp only [Act.put, List.setIfInBounds_toArray, List.set_cons_zero, List.set_cons_succ]
  refine wpAnyH_ready (rs := [11]) (by kernel_rfl) (by simp) ?_
  refine AllReadyH.cons (o := { dst := none, op := Op.store 29 (Operand.tmp 2) (Operand.tmp 105), type := 0, pos := "ref.go:85", after := #[{ on := 10, ground := Ground.data }, { on := 0, ground := Ground.phase }, { on := 1, ground := Ground.phase }, { on := 2, ground := Ground.phase }, { on := 3, ground := Ground.phase }, { on := 4, ground := Ground.phase }, { on := 5, ground := Ground.phase }, { on := 6, ground := Ground.phase }, { on := 7, ground := Ground.phase }, { on := 8, ground := Ground.phase }, { on := 9, ground := Ground.phase }, { on := 10, ground := Ground.phase }], guard := none }) rfl (fun K hK => ?_) (AllReadyH.nil)
  obtain ⟨hS1, hS2, x5, x6, x7, x8, hhr⟩ := hS
  obtain ⟨⟨y0, y1, y2, y3⟩, g0, g1, g2, g3⟩ := four_cells hhr
  have hh4 := four_heap hhr (.int .i64 2) (.string ⟨#[]⟩) (.int .u64 (px : Int)) (.int .u64 (py : Int))
  have hG4 := four_gb wd (w.heap.size + 1) (.int .i64 2) (.string ⟨#[]⟩) (.int .u64 (px : Int)) (.int .u64 (py : Int))
  have hB4 := hS1.trans (below_gb hG4 (Nat.le_trans hB.size hS1.size) (by omega))
  have hc4 := hG4.cell hS2 (by simp; omega)
  go_simp
  refine hK.out _ _ ⟨hB4, hc4, _, _, _, _, hh4⟩ (fun _ => ?_)
  clear hK K
  try simp only [Act.put, List.setIfInBounds_toArray, List.set_cons_zero, List.set_cons_succ]
  refine wpAnyH_take (i := 12) (oi := { dst := some 3, op := Op.assign (Operand.const (Value.int IntKind.i64 0)), type := 37, pos := "ref.go:85", after := #[{ on := 11, ground := Ground.chain }, { on := 0, ground := Ground.phase }, { on := 1, ground := Ground.phase }, { on := 2, ground := Ground.phase }, { on := 3, ground := Ground.phase }, { on := 4, ground := Ground.phase }, { on := 5, ground := Ground.phase }, { on := 6, ground := Ground.phase }, { on := 7, ground := Ground.phase }, { on := 8, ground := Ground.phase }, { on := 9, ground := Ground.phase }, { on := 10, ground := Ground.phase }, { on := 11, ground := Ground.phase }], guard := none }) (v := ?_) rfl (by kernel_rfl) (by kernel_rfl) (by kernel_rfl) (fun _ _ _ h => h) (Or.inl ⟨by rfl, ?_⟩) (by assumption) ?_
  rotate_left
  · (intro wS hS; go_simp <;> with_reducible rfl)
  try simp only [Act.put, List.setIfInBounds_toArray, List.set_cons_zero, List.set_cons_succ]
  refine wpAnyH_done (by kernel_rfl) ?_ _
  go_wp2_with fail
  obtain ⟨⟨r0, r1, r2, r3⟩, -⟩ := four_cells hh4
  refine bodyPost_ret (v := .tuple #[eidV 2 [] px py, .int .i64 0]) ?_ rfl ⟨rfl, hB.trans hB4⟩
  simp [results, Try.results25, go_sem, r0, r1, r2, r3]
end Go.Proofs.Ytieigjlbjiielaa
