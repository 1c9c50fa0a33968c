/- Contract of reply.Text. No condition but lengths' bounds. -/
import Derived.Test.YtefipigdkdopcaaRep7
import Derived.Test.YtefipigdkdopcaaRep8
import Derived.Test.YtefipigdkdopcaaRep5
import Derived.Deep.DeepCutAuto
namespace Go.Proofs.Ytefipigdkdopcaa
open Go.RowKit

set_option maxRecDepth 100000 in
theorem rdig_any (n : Nat) (w : World) (hn : n < 9223372036854775808) :
    Calls Try.prog 75 #[.int .u64 (n : Int)] w fun e w' => e = .returned (.string ⟨(digs n).toArray⟩) ∧ Below w.heap.size w w' := by
  have KD := fun W => Lib.hid (rdigits_any (n : Int) W (by omega) (by omega))
  rw [digI_nat] at KD
  go_enter Try.func75, Try.ntmps75
  go_wp2_with fail
  refine (KD _).out.mono ?_
  rintro e w2 ⟨rfl, hb⟩
  go_wp2_with fail
  go_ret
  exact ⟨rfl, by subst hb; exact Below.refl _ _⟩

theorem sumW_len (ws : List (List UInt8)) : ws.length ≤ sumW ws := by
  unfold sumW
  induction ws with
  | nil => simp
  | cons x l ih => rw [List.map_cons, List.sum_cons, List.length_cons]; omega
theorem join_any (ws : List (List UInt8)) (v : Value) (base : Nat) (w : World) (ho : w.ownsRow base 9 1 v ws.length (strs ws)) (hpos : 0 < ws.length) (hN : sumW ws ≤ 1000000) :
    Calls Try.prog 77 #[v, .string ⟨#[32]⟩] w fun e w' => e = .returned (.string ⟨(Lib.join ws [32]).toArray⟩) ∧ Below w.heap.size w w' := by
  have hlen := sumW_len ws
  obtain ⟨A, c, rfl, hr, -⟩ := Rd.of_own ho
  rcases ho.2 with ⟨h1, h2⟩ | ⟨g, cap, cur, h1, hb, hg, hnc, hcm, hcs, htake⟩
  · omega
  cases h1
  have hx : (ws.map fun s => (⟨s.toArray⟩ : ByteArray)).map (·.data.toList) = ws := by simp [Function.comp_def]
  have hj := join_len ws
  have K := Try.strings_Join g 0 c (ws.map fun s => (⟨s.toArray⟩ : ByteArray)) ⟨#[32]⟩ w (fun j x hx => by
    have := hr.cell ⟨g, 0, none⟩ rfl j (.string x) (by rw [strs_list, List.getElem?_map, hx]; rfl)
    rw [add_plain0] at this
    rw [Nat.zero_add]
    exact this) (heap_lt hg) (by rw [List.length_map]; omega) (by rw [List.length_map]; exact hnc) (by rw [hx]; show (Lib.join ws [32]).length ≤ _; omega)
  rw [hx, List.length_map] at K
  exact K

set_option maxRecDepth 100000 in
set_option maxHeartbeats 4000000 in
theorem rtext36_no (e : Int) (n : Nat) (fs : List Fr) (ls : List (Nat × Nat)) (cs : List Int) (A : Option Addr) (a1 a2 : Nat) (B : Option Addr) (b1 b2 : Nat) (C : Option Addr) (c1 c2 : Nat) (w : World)
    (hf : Rd w A a1 a2 5 (frCs fs)) (hl : Rd w B b1 b2 2 (prCs ls)) (hc : Rd w C c1 c2 1 (inCs cs)) (hN : a1 ≤ 1000000 ∧ b1 ≤ 1000000 ∧ c1 ≤ 1000000) (hd : ∀ f ∈ fs, f.2.2.2.2.length ≤ 1000000000) (hbad : chkR e n fs ls cs ≠ 0) :
    Calls Try.prog 34 #[rpl e n A a1 a2 B b1 b2 C c1 c2] w fun x w' => x = .returned (.tuple #[.string ⟨([] : List UInt8).toArray⟩, .int .i64 (chkR e n fs ls cs : Nat)]) ∧ Below w.heap.size w w' := by
  obtain ⟨hB, hca⟩ := one_cells w (rplCs e n A a1 a2 B b1 b2 C c1 c2) 47
  have p0 := hca 0 (.int .i64 e) rfl
  have p1 := hca 1 (.int .u64 (n : Int)) rfl
  have p2 := hca 2 (.slice A a1 a2) rfl
  have p3 := hca 3 (.slice B b1 b2) rfl
  have p4 := hca 4 (.slice C c1 c2) rfl
  have KC := Lib.hid (rchk_any e n fs ls cs A a1 a2 B b1 b2 C c1 c2 _ (hf.below hB) (hl.below hB) (hc.below hB) hN hd)
  have h1 : ((chkR e n fs ls cs : Int) != 0) = true := by rw [bne_iff_ne]; omega
  clear hca hf hl hc hN hd hbad
  generalize chkR e n fs ls cs = R at *
  go_enter Try.func34, Try.ntmps34
  go_wp2_with fail
  refine KC.out.mono ?_
  rintro x w2 ⟨rfl, hb⟩
  go_wp2_with fail
  go_ret2
  exact ⟨rfl, below_trans hB hb⟩

set_option maxRecDepth 100000 in
set_option maxHeartbeats 8000000 in
theorem rtext36_yes (e : Int) (n : Nat) (fs : List Fr) (ls : List (Nat × Nat)) (cs : List Int) (A : Option Addr) (a1 a2 : Nat) (B : Option Addr) (b1 b2 : Nat) (C : Option Addr) (c1 c2 : Nat) (w : World)
    (hf : Rd w A a1 a2 5 (frCs fs)) (hl : Rd w B b1 b2 2 (prCs ls)) (hc : Rd w C c1 c2 1 (inCs cs)) (hg : GoodR e n fs ls cs) :
    Calls Try.prog 34 #[rpl e n A a1 a2 B b1 b2 C c1 c2] w fun x w' => x = .returned (.tuple #[.string ⟨(textR e n fs ls cs).toArray⟩, .int .i64 0]) ∧ Below w.heap.size w w' := by
  have hfl := hf.flen
  have hll := hl.plen
  have hcl := hc.ilen
  have hn1 := hg.nf
  have hn2 := hg.nl
  have hn3 := hg.nc
  obtain ⟨hB, hca⟩ := one_cells w (rplCs e n A a1 a2 B b1 b2 C c1 c2) 47
  have p0 := hca 0 (.int .i64 e) rfl
  have p1 := hca 1 (.int .u64 (n : Int)) rfl
  have p2 := hca 2 (.slice A a1 a2) rfl
  have p3 := hca 3 (.slice B b1 b2) rfl
  have p4 := hca 4 (.slice C c1 c2) rfl
  replace hf := hf.below hB
  replace hl := hl.below hB
  replace hc := hc.below hB
  have KC := Lib.hid (rchk_any e n fs ls cs A a1 a2 B b1 b2 C c1 c2 _ hf hl hc ⟨by omega, by omega, by omega⟩ (fun f h => by have := may1_len (hg.hf f h); omega))
  rw [chk_good.2 hg] at KC
  have he0 := hg.e0
  have he1 := hg.e1
  have hnn := hg.hn
  have HG := Lib.hid hg
  clear hca hg
  obtain ⟨E, rfl⟩ : ∃ E : Nat, e = E := ⟨e.toNat, by omega⟩
  have KD0 := fun W => Lib.hid (rdig_any E W (by omega))
  have KD1 := fun W => Lib.hid (rdig_any n W (by omega))
  have HT : Hid (textR E n fs ls cs = Lib.join ([digs E, digs n] ++ fs.flatMap frW ++ ls.flatMap prW ++ cs.flatMap inW) [32] ++ [10]) := by show _ = _; unfold textR wordsT restW; simp only [List.append_assoc, Int.toNat_natCast]
  have HWB : Hid (sumW ([digs E, digs n] ++ fs.flatMap frW ++ ls.flatMap prW ++ cs.flatMap inW) ≤ 90000) := by
    have h := words_bound HG.out
    unfold wordsT restW at h
    simp only [List.append_assoc, Int.toNat_natCast] at h
    show _ ≤ _
    simp only [List.append_assoc]
    exact h
  go_enter Try.func34, Try.ntmps34
  go_upto_region 1 with fail
  generalize w.alloc (.cells (rplCs E n A a1 a2 B b1 b2 C c1 c2) 47) = w1 at *
  go_wp2_with fail
  refine KC.out.mono ?_
  rintro x w2 ⟨rfl, hb⟩
  clear KC
  go_upto_region 4 with fail
  replace p0 := cell_below hb p0
  replace p1 := cell_below hb p1
  replace p2 := cell_below hb p2
  replace p3 := cell_below hb p3
  replace p4 := cell_below hb p4
  replace hf := hf.below hb
  replace hl := hl.below hb
  replace hc := hc.below hb
  replace hB := below_trans hB hb
  clear hb
  have hwE : IntKind.u64.wrap (E : Int) = E := by rw [wrap_u64]; omega
  refine wp_region_held (S := fun W => Below (w2).heap.size (w2) W) (by kernel_rfl) ?_
  change wpAnyH _ _ _ _ _ _ _ _ (w2).drew
  have hS : (fun W => Below (w2).heap.size (w2) W) (w2).drew := (Below.refl _ _).drew
  refine wpAnyH_take (i := 0) (oi := { dst := some 19, op := Op.fieldAddr 47 (Operand.tmp 1) 0, type := 0, pos := "reply.go:75", after := #[], guard := none }) (v := ?_) rfl (by kernel_rfl) (by kernel_rfl) (by kernel_rfl) (fun _ _ _ h => h) (Or.inl ⟨by rfl, ?_⟩) (by assumption) ?_
  rotate_left
  · (intro wS hS; go_simp <;> with_reducible rfl)
  try simp only [Act.put, List.setIfInBounds_toArray, List.set_cons_zero, List.set_cons_succ]
  refine wpAnyH_take (i := 1) (oi := { dst := some 20, op := Op.load 25 (Operand.tmp 19), type := 25, pos := "reply.go:75", after := #[{ on := 0, ground := Ground.data }], guard := none }) (v := ?_) rfl (by kernel_rfl) (by kernel_rfl) (by kernel_rfl) (fun _ _ _ h => h) (Or.inl ⟨by rfl, ?_⟩) (by assumption) ?_
  rotate_left
  · (intro wS hS; have p0 := cell_below hS p0; have p1 := cell_below hS p1; go_simp <;> with_reducible rfl)
  try simp only [Act.put, List.setIfInBounds_toArray, List.set_cons_zero, List.set_cons_succ]
  refine wpAnyH_take (i := 2) (oi := { dst := some 21, op := Op.convert 25 22 (Operand.tmp 20), type := 22, pos := "reply.go:75", after := #[{ on := 1, ground := Ground.data }], guard := none }) (v := ?_) rfl (by kernel_rfl) (by kernel_rfl) (by kernel_rfl) (fun _ _ _ h => h) (Or.inl ⟨by rfl, ?_⟩) (by assumption) ?_
  rotate_left
  · (intro wS hS; go_simp <;> with_reducible rfl)
  try simp only [Act.put, List.setIfInBounds_toArray, List.set_cons_zero, List.set_cons_succ]
  refine wpAnyH_take (i := 4) (oi := { dst := some 23, op := Op.fieldAddr 47 (Operand.tmp 1) 1, type := 0, pos := "reply.go:75", after := #[], guard := none }) (v := ?_) rfl (by kernel_rfl) (by kernel_rfl) (by kernel_rfl) (fun _ _ _ h => h) (Or.inl ⟨by rfl, ?_⟩) (by assumption) ?_
  rotate_left
  · (intro wS hS; go_simp <;> with_reducible rfl)
  try simp only [Act.put, List.setIfInBounds_toArray, List.set_cons_zero, List.set_cons_succ]
  refine wpAnyH_take (i := 5) (oi := { dst := some 24, op := Op.load 22 (Operand.tmp 23), type := 22, pos := "reply.go:75", after := #[{ on := 4, ground := Ground.data }], guard := none }) (v := ?_) rfl (by kernel_rfl) (by kernel_rfl) (by kernel_rfl) (fun _ _ _ h => h) (Or.inl ⟨by rfl, ?_⟩) (by assumption) ?_
  rotate_left
  · (intro wS hS; have p0 := cell_below hS p0; have p1 := cell_below hS p1; go_simp <;> with_reducible rfl)
  try simp only [Act.put, List.setIfInBounds_toArray, List.set_cons_zero, List.set_cons_succ]
  refine wpAnyH_ready (rs := [3]) (by kernel_rfl) (by simp) ?_
  refine AllReadyH.cons (o := { dst := some 22, op := Op.call { callee := Callee.value (Operand.func 75), args := #[Operand.tmp 21], argTypes := #[22] }, type := 9, pos := "reply.go:75", after := #[{ on := 2, ground := Ground.data }], guard := none }) rfl (fun K hK => ?_) AllReadyH.nil
  go_simp
  refine (KD0 _).out.mono ?_
  rintro e w103 ⟨rfl, hb⟩
  replace hS : (fun W => Below (w2).heap.size (w2) W) w103 := below_then hS hb (Below.size hS)
  refine hK.out _ _ hS (fun _ => ?_)
  clear hK K hb
  try simp only [Act.put, List.setIfInBounds_toArray, List.set_cons_zero, List.set_cons_succ]
  refine wpAnyH_ready (rs := [6]) (by kernel_rfl) (by simp) ?_
  refine AllReadyH.cons (o := { dst := some 25, op := Op.call { callee := Callee.value (Operand.func 75), args := #[Operand.tmp 24], argTypes := #[22] }, type := 9, pos := "reply.go:75", after := #[{ on := 5, ground := Ground.data }, { on := 3, ground := Ground.chain }], guard := none }) rfl (fun K hK => ?_) AllReadyH.nil
  go_simp
  refine (KD1 _).out.mono ?_
  rintro e w106 ⟨rfl, hb⟩
  replace hS : (fun W => Below (w2).heap.size (w2) W) w106 := below_then hS hb (Below.size hS)
  refine hK.out _ _ hS (fun _ => ?_)
  clear hK K hb
  try simp only [Act.put, List.setIfInBounds_toArray, List.set_cons_zero, List.set_cons_succ]
  refine wpAnyH_ready (rs := [7]) (by kernel_rfl) (by simp) ?_
  refine AllReadyH.cons (o := { dst := some 26, op := Op.buildSlice 91 2 #[(0, Operand.tmp 22), (1, Operand.tmp 25)], type := 91, pos := "reply.go:75", after := #[{ on := 3, ground := Ground.data }, { on := 6, ground := Ground.data }], guard := none }) rfl (fun K hK => ?_) AllReadyH.nil
  have p0 := cell_below hS p0; have p1 := cell_below hS p1; have hz7 := Below.size hS
  go_simp
  refine (fun (h : (fun W => Below (w2).heap.size (w2) W) _) => hK.out _ _ h (fun _ => ?_)) (Below.alloc hS (Below.size hS) _)
  replace hS := h
  clear h
  clear hK K
  try simp only [Act.put, List.setIfInBounds_toArray, List.set_cons_zero, List.set_cons_succ]
  refine wpAnyH_take (i := 8) (oi := { dst := some 5, op := Op.assign (Operand.tmp 26), type := 91, pos := "reply.go:75", after := #[{ on := 7, ground := Ground.data }, { on := 6, ground := Ground.chain }, { on := 0, ground := Ground.phase }, { on := 1, ground := Ground.phase }, { on := 2, ground := Ground.phase }, { on := 3, ground := Ground.phase }, { on := 4, ground := Ground.phase }, { on := 5, ground := Ground.phase }, { on := 6, ground := Ground.phase }, { on := 7, ground := Ground.phase }], guard := none }) (v := ?_) rfl (by kernel_rfl) (by kernel_rfl) (by kernel_rfl) (fun _ _ _ h => h) (Or.inl ⟨by rfl, ?_⟩) (by assumption) ?_
  rotate_left
  · (intro wS hS; go_simp <;> with_reducible rfl)
  try simp only [Act.put, List.setIfInBounds_toArray, List.set_cons_zero, List.set_cons_succ]
  refine wpAnyH_done (by kernel_rfl) ?_ _
  have ho := World.ownsRow_lit (e := 9) (size := 1) w106 #[.string ⟨(digs E).toArray⟩, .string ⟨(digs n).toArray⟩] 2 (show w2.heap.size ≤ w106.heap.size from hz7) (by decide) rfl
  replace hS : Below w2.heap.size w2 (w106.alloc (.cells #[.string ⟨(digs E).toArray⟩, .string ⟨(digs n).toArray⟩] 9)) := hS
  generalize w106.alloc (.cells #[.string ⟨(digs E).toArray⟩, .string ⟨(digs n).toArray⟩] 9) = w3 at *
  have r2 := cell_below hS p2
  go_wp2_with fail
  go_loopw [5, 7, 8, 9, 30] (fun v _ _ _ i wr => ∃ j : Nat, i = .int .i64 j ∧ j ≤ a1 ∧ wr.ownsRow w2.heap.size 9 1 v (2 + 2 * j) (strs ([digs E, digs n] ++ (fs.take j).flatMap frW)) ∧ Below w2.heap.size w2 wr) (fun _ _ _ _ i _ => a1 - (intOf i).toNat)
  case atStart => exact ⟨0, rfl, by omega, ho, hS⟩
  case round =>
    obtain ⟨j, rfl, hj, hown, hBr⟩ := hrel
    clear ho hS
    by_cases hlt : j < a1
    · obtain ⟨ad, rfl⟩ := hf.some_of_pos (by omega)
      obtain ⟨e0, e1, e2, e3, e4⟩ := (hf.below hBr).frame j (by omega)
      have HS := Lib.hid (flat_take_succ frW fs j (by omega))
      have hm := HG.out.hf fs[j] (List.getElem_mem _)
      have hq1 : (j : Int) < a1 := by omega
      clear hf hl hc
      generalize fs[j] = f at *
      obtain ⟨nu, id, oi, ti, d⟩ := f
      obtain ⟨o, t, ho1, ht1, hmy⟩ := may1_nat hm
      dsimp only at ho1 ht1 hmy e0 e1 e2 e3 e4
      subst ho1
      subst ht1
      have hdl := may1_len hm
      dsimp only at hdl
      have HFB : Hid (frmP nu id o t d = frB (nu, id, (o : Int), (t : Int), d)) := rfl
      obtain ⟨hb1, hca⟩ := one_cells wr (frmCs nu id (o : Int) (t : Int) d) 100
      have q0 := hca 0 (.int .u64 (nu : Int)) rfl
      have q1 := hca 1 (.int .u64 (id : Int)) rfl
      have q2 := hca 2 (.int .i64 (o : Int)) rfl
      have q3 := hca 3 (.int .i64 (t : Int)) rfl
      have q4 := hca 4 (.string ⟨d.toArray⟩) rfl
      replace hown := own_below hown hb1
      have hB2 := below_trans hBr hb1
      have KP := fun W => Lib.hid (fput_any nu id o t d W hmy)
      clear hca hBr hmy hm hb1
      go_upto_region 8 with fail
      generalize wr.alloc (.cells (frmCs nu id (o : Int) (t : Int) d) 100) = w4 at *
      go_wp2_with fail
      refine (KP _).out.mono ?_
      rintro x w5 ⟨v5, rfl, ho5, hb5⟩
      obtain ⟨A5, c5, rfl, hr5, -⟩ := Rd.of_own ho5
      rw [HFB.out] at hr5
      have KH := Lib.hid (rhex_any (frB (nu, id, (o : Int), (t : Int), d)) A5 (15 + d.length) c5 w5 hr5 (by omega))
      replace hown := own_below hown hb5
      replace hB2 := below_trans hB2 hb5
      clear hb5 ho5 hr5 KP q0 q1 q2 q3 q4
      go_wp2_with fail
      refine KH.out.mono ?_
      rintro x w6 ⟨rfl, hb6⟩
      replace hown := own_below hown hb6
      replace hB2 := below_trans hB2 hb6
      clear hb6 KH
      have HW : Hid (strs ([digs E, digs n] ++ (fs.take (j + 1)).flatMap frW) = strs ([digs E, digs n] ++ (fs.take j).flatMap frW) ++ [.string ⟨([102, 114, 97, 109, 101] : List UInt8).toArray⟩, .string ⟨(hexS (frB (nu, id, (o : Int), (t : Int), d))).toArray⟩]) := by
        show _ = _
        rw [HS.out, ← List.append_assoc, strs_append]
        rfl
      go_wp2_with (first
        | (at_builtin; refine wpl_append1 rfl (.tmp 39) (.tmp 42) 91 rfl w2.heap.size 9 (.string ⟨#[]⟩) 1 16 Try.underlying91 info_str rfl (by decide) _ (2 + 2 * j) _ rfl hown #[.string ⟨([102, 114, 97, 109, 101] : List UInt8).toArray⟩, .string ⟨(hexS (frB (nu, id, (o : Int), (t : Int), d))).toArray⟩] (0, 0) 2 rfl rfl (by simp [Value.oneCell']) (by unfold maxLen; omega) (by omega) hB2.size ?_; intro v7 w7 ho7 hg7; have hB7 := below_own hB2 hown hg7; clear hg7))
      go_roundw
      case rel => exact ⟨j + 1, by go_num, by omega, by rw [HW.out]; exact ho7, hB7⟩
      case measure => simp [intOf]; omega
    · obtain rfl : j = a1 := by omega
      rw [List.take_of_length_le (by omega)] at hown
      have r3 := cell_below hBr p3
      clear hf p0 p1 p2 r2
      generalize hWF : fs.flatMap frW = fw at *
      have hfw : fw.length = 2 * j := by rw [← hWF, flat_len frW 2 (fun _ => rfl) fs]; omega
      go_wp2_with fail
      go_loopw [5, 11, 48] (fun v _ i wr => ∃ k : Nat, i = .int .i64 k ∧ k ≤ b1 ∧ wr.ownsRow w2.heap.size 9 1 v (2 + 2 * j + 3 * k) (strs ([digs E, digs n] ++ fw ++ (ls.take k).flatMap prW)) ∧ Below w2.heap.size w2 wr) (fun _ _ i _ => b1 - (intOf i).toNat)
      case atStart => exact ⟨0, rfl, by omega, by simpa using hown, hBr⟩
      case round =>
        obtain ⟨k, rfl, hk, hown2, hB2⟩ := hrel
        clear hown hBr r3
        by_cases hlt : k < b1
        · obtain ⟨ad, rfl⟩ := hl.some_of_pos (by omega)
          have hxy := HG.out.hl ls[k] (List.getElem_mem _)
          obtain ⟨e0, e1⟩ := (hl.below hB2).pair k (by omega)
          have HS := Lib.hid (flat_take_succ prW ls k (by omega))
          have hq1 : (k : Int) < b1 := by omega
          clear hl hc
          generalize ls[k] = f at *
          obtain ⟨x, y⟩ := f
          dsimp only at e0 e1 hxy
          have KX := fun W => Lib.hid (rdig_any x W (by omega))
          have KY := fun W => Lib.hid (rdig_any y W (by omega))
          obtain ⟨hb1, hca⟩ := one_cells wr #[.int .u64 (x : Int), .int .u64 (y : Int)] 109
          have q0 := hca 0 (.int .u64 (x : Int)) rfl
          have q1 := hca 1 (.int .u64 (y : Int)) rfl
          have HW : Hid (strs ([digs E, digs n] ++ fw ++ (ls.take (k + 1)).flatMap prW) = strs ([digs E, digs n] ++ fw ++ (ls.take k).flatMap prW) ++ [.string ⟨([108, 111, 115, 116] : List UInt8).toArray⟩, .string ⟨(digs x).toArray⟩, .string ⟨(digs y).toArray⟩]) := by
            show _ = _
            rw [HS.out, ← List.append_assoc, strs_append]
            rfl
          generalize strs ([digs E, digs n] ++ fw ++ (ls.take k).flatMap prW) = ws at *
          clear HS hxy hca
          have hneR : some wr.heap.size ≠ u5.ownBlock := fun e => by have := (hown2.lt _ e.symm).2; omega
          replace hown2 := (own_below hown2 hb1).drew
          replace hB2 := (below_trans hB2 hb1).drew
          replace q0 := cell_below ((Below.refl _ _).drew) q0
          replace q1 := cell_below ((Below.refl _ _).drew) q1
          obtain ⟨ii, hii, hi0, hi1, hi2⟩ := info_strs
          clear hb1 KD0 KD1
          go_upto_region 14 with fail
          clear e0 e1
          generalize wr.alloc (.cells #[.int .u64 (x : Int), .int .u64 (y : Int)] 109) = w4 at *
          refine wp_region_held (S := fun W => W.cell? ⟨wr.heap.size, 0, none⟩ = some (.int .u64 (x : Int)) ∧ W.cell? ⟨wr.heap.size, 1, none⟩ = some (.int .u64 (y : Int))) (by kernel_rfl) ?_
          change wpAnyH _ _ _ _ _ _ _ _ (w4).drew
          have hS : (fun W => W.cell? ⟨wr.heap.size, 0, none⟩ = some (.int .u64 (x : Int)) ∧ W.cell? ⟨wr.heap.size, 1, none⟩ = some (.int .u64 (y : Int))) (w4).drew := ⟨q0, q1⟩
          generalize (w4).drew = wd at hS hown2 hB2 ⊢
          refine wpAnyH_take (i := 0) (oi := { dst := some 52, op := Op.move (Operand.tmp 5), type := 91, pos := "reply.go:81", after := #[], guard := none }) (v := ?_) rfl (by kernel_rfl) (by kernel_rfl) (by kernel_rfl) (fun _ _ _ h => h) (Or.inl ⟨by rfl, ?_⟩) (by assumption) ?_
          rotate_left
          · (intro wS hS; go_simp <;> with_reducible rfl)
          try simp only [Act.put, List.setIfInBounds_toArray, List.set_cons_zero, List.set_cons_succ]
          refine wpAnyH_take (i := 1) (oi := { dst := some 53, op := Op.indexAddr 109 (Operand.tmp 11) (Operand.const (Value.int IntKind.i64 0)), type := 0, pos := "reply.go:81", after := #[], guard := none }) (v := ?_) rfl (by kernel_rfl) (by kernel_rfl) (by kernel_rfl) (fun _ _ _ h => h) (Or.inl ⟨by rfl, ?_⟩) (by assumption) ?_
          rotate_left
          · (intro wS hS; go_simp <;> with_reducible rfl)
          try simp only [Act.put, List.setIfInBounds_toArray, List.set_cons_zero, List.set_cons_succ]
          refine wpAnyH_take (i := 2) (oi := { dst := some 54, op := Op.load 22 (Operand.tmp 53), type := 22, pos := "reply.go:81", after := #[{ on := 1, ground := Ground.data }], guard := none }) (v := ?_) rfl (by kernel_rfl) (by kernel_rfl) (by kernel_rfl) (fun _ _ _ h => h) (Or.inl ⟨by rfl, ?_⟩) (by assumption) ?_
          rotate_left
          · (intro wS hS; have q0 := hS.1; have q1 := hS.2; go_simp <;> with_reducible rfl)
          try simp only [Act.put, List.setIfInBounds_toArray, List.set_cons_zero, List.set_cons_succ]
          refine wpAnyH_take (i := 4) (oi := { dst := some 56, op := Op.indexAddr 109 (Operand.tmp 11) (Operand.const (Value.int IntKind.i64 1)), type := 0, pos := "reply.go:81", after := #[], guard := none }) (v := ?_) rfl (by kernel_rfl) (by kernel_rfl) (by kernel_rfl) (fun _ _ _ h => h) (Or.inl ⟨by rfl, ?_⟩) (by assumption) ?_
          rotate_left
          · (intro wS hS; go_simp <;> with_reducible rfl)
          try simp only [Act.put, List.setIfInBounds_toArray, List.set_cons_zero, List.set_cons_succ]
          refine wpAnyH_take (i := 5) (oi := { dst := some 57, op := Op.load 22 (Operand.tmp 56), type := 22, pos := "reply.go:81", after := #[{ on := 4, ground := Ground.data }], guard := none }) (v := ?_) rfl (by kernel_rfl) (by kernel_rfl) (by kernel_rfl) (fun _ _ _ h => h) (Or.inl ⟨by rfl, ?_⟩) (by assumption) ?_
          rotate_left
          · (intro wS hS; have q0 := hS.1; have q1 := hS.2; go_simp <;> with_reducible rfl)
          try simp only [Act.put, List.setIfInBounds_toArray, List.set_cons_zero, List.set_cons_succ]
          refine wpAnyH_ready (rs := [3]) (by kernel_rfl) (by simp) ?_
          refine AllReadyH.cons (o := { dst := some 55, op := Op.call { callee := Callee.value (Operand.func 75), args := #[Operand.tmp 54], argTypes := #[22] }, type := 9, pos := "reply.go:81", after := #[{ on := 2, ground := Ground.data }], guard := none }) rfl (fun K hK => ?_) (AllReadyH.nil)
          have q0 := hS.1; have q1 := hS.2
          go_simp
          refine (KX _).out.mono ?_
          rintro e w103 ⟨rfl, hb⟩
          replace hS : (fun W => W.cell? ⟨wr.heap.size, 0, none⟩ = some (.int .u64 (x : Int)) ∧ W.cell? ⟨wr.heap.size, 1, none⟩ = some (.int .u64 (y : Int))) w103 := ⟨cell_below hb hS.1, cell_below hb hS.2⟩
          replace hown2 := own_below hown2 hb
          replace hB2 := below_trans hB2 hb
          refine hK.out _ _ hS (fun _ => ?_)
          clear hK K hb
          try simp only [Act.put, List.setIfInBounds_toArray, List.set_cons_zero, List.set_cons_succ]
          refine wpAnyH_ready (rs := [6]) (by kernel_rfl) (by simp) ?_
          refine AllReadyH.cons (o := { dst := some 58, op := Op.call { callee := Callee.value (Operand.func 75), args := #[Operand.tmp 57], argTypes := #[22] }, type := 9, pos := "reply.go:81", after := #[{ on := 5, ground := Ground.data }, { on := 3, ground := Ground.chain }], guard := none }) rfl (fun K hK => ?_) (AllReadyH.nil)
          have q0 := hS.1; have q1 := hS.2
          go_simp
          refine (KY _).out.mono ?_
          rintro e w106 ⟨rfl, hb⟩
          replace hS : (fun W => W.cell? ⟨wr.heap.size, 0, none⟩ = some (.int .u64 (x : Int)) ∧ W.cell? ⟨wr.heap.size, 1, none⟩ = some (.int .u64 (y : Int))) w106 := ⟨cell_below hb hS.1, cell_below hb hS.2⟩
          replace hown2 := own_below hown2 hb
          replace hB2 := below_trans hB2 hb
          refine hK.out _ _ hS (fun _ => ?_)
          clear hK K hb
          try simp only [Act.put, List.setIfInBounds_toArray, List.set_cons_zero, List.set_cons_succ]
          refine wpAnyH_ready (rs := [7]) (by kernel_rfl) (by simp) ?_
          refine AllReadyH.cons (o := { dst := some 59, op := Op.buildSlice 91 3 #[(0, Operand.const (Value.string { data := #[108, 111, 115, 116] })), (1, Operand.tmp 55), (2, Operand.tmp 58)], type := 91, pos := "reply.go:81", after := #[{ on := 3, ground := Ground.data }, { on := 6, ground := Ground.data }], guard := none }) rfl (fun K hK => ?_) (AllReadyH.nil)
          go_simp
          have hbA := (one_cells w106 #[.string ⟨([108, 111, 115, 116] : List UInt8).toArray⟩, .string ⟨(digs x).toArray⟩, .string ⟨(digs y).toArray⟩] 9).1
          have hnb := World.news_of_block (alloc_new w106 (.cells #[.string ⟨([108, 111, 115, 116] : List UInt8).toArray⟩, .string ⟨(digs x).toArray⟩, .string ⟨(digs y).toArray⟩] 9 (0, 0)))
          replace hown2 := own_below hown2 hbA
          replace hB2 := below_trans hB2 hbA
          have hS2 := And.intro (cell_below hbA hS.1) (cell_below hbA hS.2)
          refine hK.out _ _ hS2 (fun _ => ?_)
          clear hK K hbA
          try simp only [Act.put, List.setIfInBounds_toArray, List.set_cons_zero, List.set_cons_succ]
          generalize hgB2 : World.heap w106 = hpB at *
          generalize World.alloc w106 (.cells #[.string ⟨([108, 111, 115, 116] : List UInt8).toArray⟩, .string ⟨(digs x).toArray⟩, .string ⟨(digs y).toArray⟩] 9) = wA at *
          clear hgB2
          refine wpAnyH_ready (rs := [8]) (by kernel_rfl) (by simp) ?_
          refine AllReadyH.cons (o := { dst := some 60, op := Op.call { callee := Callee.builtin Builtin.append, args := #[Operand.tmp 52, Operand.tmp 59], argTypes := #[91, 91] }, type := 91, pos := "reply.go:81", after := #[{ on := 0, ground := Ground.data }, { on := 7, ground := Ground.data }, { on := 6, ground := Ground.chain }], guard := none }) rfl (fun K hK => ?_) (AllReadyH.nil)
          refine step_append_lies _ rfl (.tmp 52) (.tmp 59) 91 rfl w2.heap.size 9 ii (.string ⟨#[]⟩) 1 16 Try.underlying91 hii hi0 hi1 hi2 rfl (by decide) _ (2 + 2 * j + 3 * k) _ rfl hown2 ⟨hpB.size, 0, none⟩ 3 3 [.string ⟨([108, 111, 115, 116] : List UInt8).toArray⟩, .string ⟨(digs x).toArray⟩, .string ⟨(digs y).toArray⟩] rfl rfl hnb (by simp [Value.oneCell']) (by decide) (by unfold maxLen; omega) (by omega) hB2.size _ rfl ?_
          intro gX capX wR8 ho' hg' hor hltX
          have hB3 := below_own hB2 hown2 hg'
          have hS3 := And.intro (World.grownBy.cell hg' hS2.1 hneR) (World.grownBy.cell hg' hS2.2 hneR)
          refine hK.out _ _ hS3 (fun _ => ?_)
          clear hK K
          try simp only [Act.put, List.setIfInBounds_toArray, List.set_cons_zero, List.set_cons_succ]
          refine wpAnyH_take (i := 9) (oi := { dst := some 5, op := Op.assign (Operand.tmp 60), type := 91, pos := "reply.go:81", after := #[{ on := 8, ground := Ground.data }, { on := 8, ground := Ground.chain }, { on := 0, ground := Ground.phase }, { on := 1, ground := Ground.phase }, { on := 2, ground := Ground.phase }, { on := 3, ground := Ground.phase }, { on := 4, ground := Ground.phase }, { on := 5, ground := Ground.phase }, { on := 6, ground := Ground.phase }, { on := 7, ground := Ground.phase }, { on := 8, ground := Ground.phase }], guard := none }) (v := ?_) rfl (by kernel_rfl) (by kernel_rfl) (by kernel_rfl) (fun _ _ _ h => h) (Or.inl ⟨by rfl, ?_⟩) (by assumption) ?_
          rotate_left
          · (intro wS hS; go_simp <;> with_reducible rfl)
          try simp only [Act.put, List.setIfInBounds_toArray, List.set_cons_zero, List.set_cons_succ]
          refine wpAnyH_done (by kernel_rfl) ?_ _
          go_wp2_with fail
          go_roundw
          case rel => exact ⟨k + 1, by go_num, by omega, by rw [HW.out]; exact ho', hB3⟩
          case measure => simp [intOf]; omega
        · obtain rfl : k = b1 := by omega
          rw [List.take_of_length_le (by omega)] at hown2
          have r4 := cell_below hB2 p4
          clear hl p3
          generalize hWL : ls.flatMap prW = lw at *
          have hlw : lw.length = 3 * k := by rw [← hWL, flat_len prW 3 (fun _ => rfl) ls]; omega
          clear hWL
          go_wp2_with fail
          go_loopw [5, 13, 65] (fun v _ i wr => ∃ l : Nat, i = .int .i64 l ∧ l ≤ c1 ∧ wr.ownsRow w2.heap.size 9 1 v (2 + 2 * j + 3 * k + 2 * l) (strs ([digs E, digs n] ++ fw ++ lw ++ (cs.take l).flatMap inW)) ∧ Below w2.heap.size w2 wr) (fun _ _ i _ => c1 - (intOf i).toNat)
          case atStart => exact ⟨0, rfl, by omega, by simpa using hown2, hB2⟩
          case round =>
            obtain ⟨l, rfl, hl, hown3, hB3⟩ := hrel
            clear hown2 hB2 r4
            by_cases hlt : l < c1
            · obtain ⟨ad, rfl⟩ := hc.some_of_pos (by omega)
              have hv := HG.out.hc cs[l] (List.getElem_mem _)
              have e0 := (hc.below hB3).icell l (by omega)
              have HS := Lib.hid (flat_take_succ inW cs l (by omega))
              have hq1 : (l : Int) < c1 := by omega
              clear hc
              generalize cs[l] = v at *
              obtain ⟨V, rfl⟩ : ∃ V : Nat, v = V := ⟨v.toNat, by omega⟩
              have KX := fun W => Lib.hid (rdig_any V W (by omega))
              have hw64 : IntKind.u64.wrap (V : Int) = V := by rw [wrap_u64]; omega
              have HW : Hid (strs ([digs E, digs n] ++ fw ++ lw ++ (cs.take (l + 1)).flatMap inW) = strs ([digs E, digs n] ++ fw ++ lw ++ (cs.take l).flatMap inW) ++ [.string ⟨([99, 111, 117, 110, 116] : List UInt8).toArray⟩, .string ⟨(digs V).toArray⟩]) := by
                show _ = _
                rw [HS.out, ← List.append_assoc, strs_append]
                rfl
              generalize strs ([digs E, digs n] ++ fw ++ lw ++ (cs.take l).flatMap inW) = ws at *
              clear HS
              go_wp2_with fail
              refine (KX _).out.mono ?_
              rintro e w6 ⟨rfl, hb6⟩
              replace hown3 := own_below hown3 hb6
              replace hB3 := below_trans hB3 hb6
              clear hb6 KX e0
              go_wp2_with (first
                | (at_builtin; refine wpl_append1 rfl (.tmp 69) (.tmp 73) 91 rfl w2.heap.size 9 (.string ⟨#[]⟩) 1 16 Try.underlying91 info_str rfl (by decide) _ (2 + 2 * j + 3 * k + 2 * l) _ rfl hown3 #[.string ⟨([99, 111, 117, 110, 116] : List UInt8).toArray⟩, .string ⟨(digs V).toArray⟩] (0, 0) 2 rfl rfl (by simp [Value.oneCell']) (by unfold maxLen; omega) (by omega) hB3.size ?_; intro v7 w7 ho7 hg7; have hB7 := below_own hB3 hown3 hg7; clear hg7))
              go_roundw
              case rel => exact ⟨l + 1, by go_num, by omega, by rw [HW.out]; exact ho7, hB7⟩
              case measure => simp [intOf]; omega
            · obtain rfl : l = c1 := by omega
              rw [List.take_of_length_le (by omega)] at hown3
              have hiw : (cs.flatMap inW).length = 2 * l := by rw [flat_len inW 2 (fun _ => rfl) cs]; omega
              generalize cs.flatMap inW = iw at *
              have hcnt : ([digs E, digs n] ++ fw ++ lw ++ iw).length = 2 + 2 * j + 3 * k + 2 * l := by
                simp only [List.length_append, List.length_cons, List.length_nil]; omega
              have KJ := fun W hh => Lib.hid (join_any ([digs E, digs n] ++ fw ++ lw ++ iw) u5 w2.heap.size W hh (by omega) (by have := HWB.out; omega))
              have hjl := Nat.le_trans (join_len _) HWB.out
              rw [← hcnt] at hown3
              generalize [digs E, digs n] ++ fw ++ lw ++ iw = wl at *
              clear hcnt HWB
              go_wp2_with fail
              refine (KJ _ hown3).out.mono ?_
              rintro x w6 ⟨rfl, hb6⟩
              clear KJ
              go_wp2_with fail
              go_ret2
              have HT2 : (⟨(textR E n fs ls cs).toArray⟩ : ByteArray) = ⟨(Lib.join wl [32]).toArray⟩ ++ ⟨#[10]⟩ := by rw [HT.out, ← cat_bytes]
              exact ⟨by rw [HT2]; rfl, below_trans hB (below_trans hB3 hb6)⟩
end Go.Proofs.Ytefipigdkdopcaa
