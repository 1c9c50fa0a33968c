/- Contract of cmd.All. No condition but the length's bound. -/
import Derived.Test.YtefipigdkdopcaaCmd5
import Derived.Deep.DeepCutAuto
import Derived.OwnWalk
namespace Go.Proofs.Ytefipigdkdopcaa
open Go.RowKit

theorem Rd.keptOwn {w1 w w' : World} {A : Option Addr} {n c size e sz m : Nat} {cs xs : List Value} {v : Value} (h1 : Rd w1 A n c size cs) (h : Rd w A n c size cs) (hown : w.ownsRow w1.heap.size e sz v m xs) (hg : w.grownBy w' v.ownBlock) : Rd w' A n c size cs :=
  ⟨h.len, h.nc, h.cm, h.nil, fun ad ea j u hu => hg.cell (h.cell ad ea j u hu) (fun eb => by
    have a1 := cell_lt (h1.cell ad ea j u hu)
    have a2 := (hown.lt _ eb.symm).1
    omega)⟩
/-- Commands as cells. -/
def cms : List Cm → List Value
  | [] => []
  | c :: r => .int .i64 (c.k : Nat) :: .int .u64 (c.a : Nat) :: .int .u64 (c.b : Nat) :: cms r
theorem cms_length (l : List Cm) : (cms l).length = l.length * 3 := by
  induction l with
  | nil => rfl
  | cons c r ih => simp only [cms, List.length_cons, ih]; omega
theorem cms_append (l m : List Cm) : cms (l ++ m) = cms l ++ cms m := by
  induction l with
  | nil => rfl
  | cons c r ih => simp only [List.cons_append, cms, ih]
theorem info_cmd : (Try.prog.info? 24).map (fun i => (i.zero, i.size, i.bytes)) = some (some (.agg #[.int .i64 0, .int .u64 0, .int .u64 0]), 3, 24) := by kernel_rfl
/-- The commands of lines; or which one is none, and why. -/
structure Al where
  l : List Cm
  n : Nat
  e : Nat
def allGo : List (List UInt8) → Nat → List Cm → Al
  | [], _, acc => ⟨acc, 0, 0⟩
  | t :: r, i, acc => if wordsL t = [] then allGo r (i + 1) acc else if (parseC t).e ≠ 0 then ⟨[], i + 1, (parseC t).e⟩ else allGo r (i + 1) (acc ++ [parseC t])
def allC (s : List UInt8) : Al := allGo (linesL s) 0 []
theorem allGo_drop (ls : List (List UInt8)) (j : Nat) (acc : List Cm) (h : j < ls.length) :
    allGo (ls.drop j) j acc = if wordsL (ls.getD j []) = [] then allGo (ls.drop (j + 1)) (j + 1) acc else if (parseC (ls.getD j [])).e ≠ 0 then ⟨[], j + 1, (parseC (ls.getD j [])).e⟩ else allGo (ls.drop (j + 1)) (j + 1) (acc ++ [parseC (ls.getD j [])]) := by
  rw [List.drop_eq_getElem_cons h, List.getD_eq_getElem?_getD, List.getElem?_eq_getElem h]
  rfl
/-- What All hands back. -/
def AllP (s : List UInt8) (w : World) (e : Ending) (w' : World) : Prop :=
  ∃ v, e = .returned (.tuple #[v, .int .i64 ((allC s).n : Nat), .int .i64 ((allC s).e : Nat)]) ∧ w'.ownsRow w.heap.size 24 3 v (allC s).l.length (cms (allC s).l) ∧ Below w.heap.size w w'

set_option maxRecDepth 100000 in
set_option maxHeartbeats 2000000 in
theorem call_any (s : List UInt8) (w : World) (hN : s.length ≤ 90000) : Calls Try.prog 22 #[.string ⟨s.toArray⟩] w (AllP s w) := by
  have KL := fun W => Lib.hid (lines_rd s W (by omega))
  have hlen : (linesL s).length ≤ s.length + 1 := split2_length 10 10 false s
  have hall : ∀ p ∈ linesL s, p.length ≤ s.length := fun p hp => (split2_free 10 10 false s p hp).2.2
  have HC : Hid (allC s = allGo (linesL s) 0 []) := rfl
  have HALL := Lib.hid hall
  clear hall
  generalize linesL s = ls at *
  go_enter Try.func22, Try.ntmps22
  go_wp2_with fail
  refine (KL _).out.mono ?_
  rintro e w1 ⟨A, c, rfl, hr1, hB⟩
  clear KL
  go_wp2_with fail
  go_loopw [5, 13] (fun v i wr => ∃ (j : Nat) (acc : List Cm), i = .int .i64 j ∧ j ≤ ls.length ∧ acc.length ≤ j ∧ Hid (allC s = allGo (ls.drop j) j acc) ∧ wr.ownsRow w1.heap.size 24 3 v acc.length (cms acc) ∧ RdS wr A ls.length c ls ∧ Below w1.heap.size w1 wr) (fun _ i _ => ls.length - (intOf i).toNat)
  case atStart => exact ⟨0, [], rfl, by omega, by simp, HC, World.ownsRow_nil _ _ _ _, hr1, Below.refl _ _⟩
  case round =>
    obtain ⟨j, acc, rfl, hj, hacc, HG, hown, hr, hBr⟩ := hrel
    by_cases hlt : j < ls.length
    · have HD := Lib.hid (allGo_drop ls j acc hlt)
      obtain ⟨ad, rfl, hc⟩ := hr.sat j hlt
      have hp : ls.getD j [] ∈ ls := by rw [List.getD_eq_getElem?_getD, List.getElem?_eq_getElem hlt]; exact List.getElem_mem _
      have hpl := HALL.out _ hp
      clear hp
      generalize ls.getD j [] = t at *
      have KW := fun W => Lib.hid (words_rd t W (by omega))
      have KP := fun W => Lib.hid (cparse_any t W (by omega))
      have hjl : (j : Int) < (ls.length : Int) := by omega
      have hj2 : ls.length ≤ 90001 := by omega
      generalize hnn : ls.length = nn at *
      clear hnn
      go_wp2_with fail
      refine (KW _).out.mono ?_
      rintro e w2 ⟨A2, c2, rfl, -, hb⟩
      replace hown := own_below hown hb
      replace hr := hr.below hb
      replace hBr := below_trans hBr hb
      clear hb KW hc
      cases hw : wordsL t with
      | nil =>
        rw [hw, if_pos rfl] at HD
        have HG2 := Lib.hid (HG.out.trans HD.out)
        clear HG HD
        go_wp2_with fail
        go_roundw
        case rel => exact ⟨j + 1, acc, by go_num, by omega, by omega, HG2, hown, hr, hBr⟩
        case measure => simp [intOf]; omega
      | cons h0 r0 =>
        rw [hw, if_neg (by simp)] at HD
        clear hw
        generalize parseC t = pc at *
        obtain ⟨k, a, b, er⟩ := pc
        dsimp only at HD KP
        go_wp2_with fail
        refine (KP _).out.mono ?_
        rintro e w3 ⟨rfl, hb⟩
        replace hown := own_below hown hb
        replace hr := hr.below hb
        replace hBr := below_trans hBr hb
        clear hb KP
        obtain ⟨hb, hc⟩ := one_cells w3 #[.int .i64 (k : Int), .int .u64 (a : Int), .int .u64 (b : Int)] 24
        have c0 := hc 0 (.int .i64 (k : Int)) rfl
        have c1 := hc 1 (.int .u64 (a : Int)) rfl
        have c2 := hc 2 (.int .u64 (b : Int)) rfl
        have hltC : w3.heap.size < (w3.alloc (.cells #[.int .i64 (k : Int), .int .u64 (a : Int), .int .u64 (b : Int)] 24)).heap.size := by rw [alloc_size]; omega
        replace hown := own_below hown hb
        replace hr := hr.below hb
        replace hBr := below_trans hBr hb
        clear hb hc
        go_upto_region 7 with fail
        generalize w3.alloc (.cells #[.int .i64 (k : Int), .int .u64 (a : Int), .int .u64 (b : Int)] 24) = w4 at *
        by_cases he : er = 0
        · rw [if_neg (by simpa using he)] at HD
          subst he
          have HG2 := Lib.hid (HG.out.trans HD.out)
          have hBz := hBr.size
          clear HG HD
          go_wp2_with (first
            | (at_builtin; refine wpl_append1 rfl (.tmp 32) (.tmp 34) 38 rfl w1.heap.size 24 _ 3 24 Try.underlying38 info_cmd rfl (by decide) _ acc.length _ rfl hown #[.int .i64 (k : Int), .int .u64 (a : Int), .int .u64 (b : Int)] (0, 0) 1 rfl rfl (by simp [Value.oneCell']) (by unfold maxLen; omega) (by omega) hBz ?_; intro v3 w5 hown3 hg3; have hr3 := hr1.keptOwn hr hown hg3; have hB3 := below_own hBr hown hg3; clear hg3))
          go_roundw
          case rel => exact ⟨j + 1, acc ++ [⟨k, a, b, 0⟩], by go_num, by omega, by simp; omega, HG2, by rw [cms_append]; simpa [cms] using hown3, hr3, hB3⟩
          case measure => simp [intOf]; omega
        · rw [if_pos he] at HD
          have HG2 := Lib.hid (HG.out.trans HD.out)
          have h1 : ((er : Int) != 0) = true := by rw [bne_iff_ne]; omega
          have h2 : ((er : Int) == 0) = false := by rw [beq_eq_false_iff_ne]; omega
          clear HG HD he
          go_wp2_with fail
          go_ret3
          exact ⟨.slice none 0 0, by rw [HG2.out]; rfl, by rw [HG2.out]; exact World.ownsRow_nil _ _ _ _, below_then hB hBr hB.size⟩
    · obtain rfl : j = ls.length := by omega
      rw [List.drop_length] at HG
      go_wp2_with fail
      go_ret3
      exact ⟨_, by rw [HG.out]; rfl, by rw [HG.out]; exact ownsRow_base hown hB.size, below_then hB hBr hB.size⟩
end Go.Proofs.Ytefipigdkdopcaa
