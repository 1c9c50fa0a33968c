/- item.Put and item.Same over what stands for a name. It asks the library's two tables. -/
import Derived.Test.YtieigjlbjiielaaDoorEt2
namespace Go.Proofs.YtieigjlbjiielaaDoor
open Go.RowKit

theorem lay_mono {w0 : World} {g : Nat} {u : Value} {xs : List UInt8} {k dp dp' : Nat} (h : LayAt w0 g u xs k dp) (hd : dp ≤ dp') : LayAt w0 g u xs k dp' := fun W m d h1 h2 h3 h4 => h W m d h1 h2 h3 (by omega)
theorem tabs_below {w w' : World} (hT : Lib.Utf8Tabs 0 1 w) (hb : Below w.heap.size w w') : Lib.Utf8Tabs 0 1 w' := ⟨fun c hc => cell_below hb (hT.1 c hc), fun i hi => ⟨cell_below hb (hT.2 i hi).1, cell_below hb (hT.2 i hi).2⟩⟩
theorem tabs_two {w : World} (hT : Lib.Utf8Tabs 0 1 w) : 2 ≤ w.heap.size := by
  have h : (1 : Nat) < w.heap.size := cell_lt (hT.2 0 (by decide)).1
  omega
theorem isI_num (n : Int) : (Value.iface 22 (.int .u64 n)) = .nilIface ∨ ∃ t v, (Value.iface 22 (.int .u64 n)) = .iface t v := .inr ⟨_, _, rfl⟩

/-- The bytes of a name's value. -/
def encE (sc : Int) (nm : List UInt8) (nd sv : Nat) : List UInt8 :=
  headB 4 2 ++ (headB 0 sc.toNat ++ (if sc = 2 then headB 4 2 ++ (headB 0 nd ++ headB 0 sv) else if nm = [] then headB 0 0 else headB 3 nm.length ++ nm))

theorem ar_pair {w : World} {S : Nat → Prop} {v x y : VT} {u : Value} (h : AR w S v u) (hk : v.kind = 4) (hl : v.lst = [x, y]) : ∃ A c p q, u = .iface 36 (.slice A 2 c) ∧ Rd w A 2 c 1 [p, q] ∧ AR w S x p ∧ AR w S y q := by
  cases h with
  | num n s l hn => simp [VT.kind] at hk
  | text n s l => simp [VT.kind] at hk
  | list n s l A c xs hxs hb hS hel =>
    obtain rfl : l = [x, y] := hl
    obtain ⟨p, q, rfl⟩ : ∃ p q, xs = [p, q] := by
      have := hxs.len
      match xs, this with
      | [p, q], _ => exact ⟨p, q, rfl⟩
    exact ⟨A, c, p, q, rfl, hxs, hel 0 (by simp) p rfl, hel 1 (by simp) q rfl⟩
  | other k n s l _ h0 h3 h4 a b c => exact absurd hk h4

theorem lay_two (w0 : World) (g : Nat) (A : Option Addr) (c : Nat) (x y : Value) (xs ys : List UInt8) (kx ky dp : Nat) (hr : Rd w0 A 2 c 1 [x, y]) (hA : ∀ ad, A = some ad → ad.block ≠ g) (hx : IsI x) (hy : IsI y) (lx : xs.length ≤ 1000) (ly : ys.length ≤ 1000) (hX : LayAt w0 g x xs kx dp) (hY : LayAt w0 g y ys ky dp) :
    LayAt w0 g (.iface 36 (.slice A 2 c)) (headB 4 2 ++ (xs ++ ys)) (1 + (kx + ky)) (dp + 1) := by
  have h := lay_list w0 g A 2 c [(x, xs, kx), (y, ys, ky)] hr hA (by decide) (by
      intro z hz
      simp only [List.mem_cons, List.not_mem_nil, or_false] at hz
      rcases hz with rfl | rfl
      · exact hx
      · exact hy) (by
      intro z hz
      simp only [List.mem_cons, List.not_mem_nil, or_false] at hz
      rcases hz with rfl | rfl
      · exact lx
      · exact ly) dp (by
      intro z hz
      simp only [List.mem_cons, List.not_mem_nil, or_false] at hz
      rcases hz with rfl | rfl
      · exact hX
      · exact hY)
  have e1 : layB [(x, xs, kx), (y, ys, ky)] 2 = xs ++ ys := by simp [layB]
  have e2 : layK [(x, xs, kx), (y, ys, ky)] 2 = kx + ky := by simp [layK]
  rw [e1, e2] at h
  exact h
theorem head_le (m n : Nat) : (headB m n).length ≤ 9 := by
  have := headB_length m n
  have := wideN_le n
  omega

theorem putok_val {w : World} {S : Nat → Prop} {sc : Int} {nm : List UInt8} {nd sv : Nat} {u : Value} (h : AR w S (valE sc nm nd sv) u) (hr : rightE sc nm nd sv = true) (hd : nd < 18446744073709551616) (hs : sv < 18446744073709551616) (hT : Lib.Utf8Tabs 0 1 w) :
    PutOk w u (encE sc nm nd sv) := by
  obtain ⟨A, c, p, q, rfl, hrd, hp, hq⟩ := ar_pair h rfl rfl
  have hpn := ar_num hp rfl
  rcases right_cases hr with ⟨rfl, rfl, rfl, rfl⟩ | ⟨rfl, rfl, rfl, hne, hnm⟩ | ⟨rfl, rfl⟩
  · have hqn := ar_num hq (by decide)
    subst hpn hqn
    exact putok_two w A c 1 0 (by decide) (by decide) hrd
  · have e : encE 1 nm 0 0 = headB 4 2 ++ (headB 0 1 ++ (headB 3 nm.length ++ nm)) := by
      unfold encE
      rw [if_neg (by decide), if_neg hne]
      rfl
    rw [if_neg (by decide), if_neg hne] at hq
    have hqt := ar_text hq rfl
    have hl := named_len hnm
    have hlow : ∀ c ∈ nm, c.toNat < 128 := by
      intro c hc
      have h3 : 3 ≤ nm.length := by
        unfold namedF at hnm
        rw [Bool.and_eq_true, decide_eq_true_iff] at hnm
        exact hnm.1.1
      rw [namedF_eq nm h3 hl, Bool.and_eq_true, List.all_eq_true] at hnm
      have := hnm.2 c hc
      unfold plainC at this
      rw [decide_eq_true_iff] at this
      omega
    subst hpn hqt
    rw [e]
    refine iput_any w _ _ (1 + (1 + 1)) (0 + 1) (by decide) (by decide) (fun W hW => ?_)
    have hbc := (one_cells W #[.int .i64 0] 81).1
    have l3 := head_le 3 nm.length
    exact lay_two (W.alloc (cntO 0)) W.heap.size A c _ _ (headB 0 1) (headB 3 nm.length ++ nm) 1 1 0 ((hrd.below hW).below hbc) (fun ad e => by have := (hrd.below hW).blk ad e (by decide); omega) (isI_num _) (.inr ⟨_, _, rfl⟩)
      (by have := head_le 0 1; omega) (by rw [List.length_append]; omega) (lay_num _ _ 1 (by decide)) (lay_text _ _ nm hlow (by omega) (tabs_below (tabs_below hT hW) hbc) (by have := tabs_two hT; have := hW.size; omega))
  · have e : encE 2 [] nd sv = headB 4 2 ++ (headB 0 2 ++ (headB 4 2 ++ (headB 0 nd ++ headB 0 sv))) := by
      unfold encE
      rw [if_pos rfl]
      rfl
    rw [if_pos rfl] at hq
    obtain ⟨A2, c2, p2, q2, rfl, hrd2, hp2, hq2⟩ := ar_pair hq rfl rfl
    have hp2n := ar_num hp2 rfl
    have hq2n := ar_num hq2 rfl
    subst hpn hp2n hq2n
    rw [e]
    refine iput_any w _ _ (1 + (1 + (1 + (1 + 1)))) (0 + 1 + 1) (by decide) (by decide) (fun W hW => ?_)
    have hbc := (one_cells W #[.int .i64 0] 81).1
    have l1 := head_le 4 2
    have l2 := head_le 0 nd
    have l3 := head_le 0 sv
    exact lay_two (W.alloc (cntO 0)) W.heap.size A c _ _ (headB 0 2) (headB 4 2 ++ (headB 0 nd ++ headB 0 sv)) 1 (1 + (1 + 1)) (0 + 1) ((hrd.below hW).below hbc) (fun ad e => by have := (hrd.below hW).blk ad e (by decide); omega) (isI_num _) (.inr ⟨_, _, rfl⟩)
      (by have := head_le 0 2; omega) (by rw [List.length_append, List.length_append]; omega) (lay_mono (lay_num _ _ 2 (by decide)) (by decide))
      (lay_two (W.alloc (cntO 0)) W.heap.size A2 c2 _ _ (headB 0 nd) (headB 0 sv) 1 1 0 ((hrd2.below hW).below hbc) (fun ad e => by have := (hrd2.below hW).blk ad e (by decide); omega) (isI_num _) (isI_num _) (by omega) (by omega) (lay_num _ _ nd hd) (lay_num _ _ sv hs))

/-- The name of a name's value. -/
theorem of_val {sc : Int} {nm : List UInt8} {nd sv : Nat} (hr : rightE sc nm nd sv = true) : OfC (valE sc nm nd sv) sc nm nd sv 0 := by
  rcases right_cases hr with ⟨rfl, rfl, rfl, rfl⟩ | ⟨rfl, rfl, rfl, hne, hnm⟩ | ⟨rfl, rfl⟩
  · exact .nobody _ _ _ rfl rfl rfl rfl rfl rfl
  · have e : valE 1 nm 0 0 = .mk 4 0 [] [.mk 0 1 [] [], .mk 3 0 nm []] := by unfold valE; rw [if_neg (by decide), if_neg hne]; rfl
    rw [e]
    exact .name _ (.mk 0 1 [] []) (.mk 3 0 nm []) rfl rfl rfl rfl rfl hne hr
  · exact .ipn _ _ _ (.mk 0 nd [] []) (.mk 0 sv [] []) rfl rfl rfl rfl rfl rfl rfl rfl
/-- What eid.Value tells stands for the name's value. -/
theorem evalue_any (sc : Int) (nm : List UInt8) (nd sv : Nat) (w : World) (hr : rightE sc nm nd sv = true) (hd : nd < 18446744073709551616) (hs : sv < 18446744073709551616) :
    Calls Tryd.prog 13 #[eidV sc nm nd sv] w fun e w' => ∃ A c, e = .returned (.tuple #[.iface 36 (.slice A 2 c), .int .i64 0]) ∧ AR w' (fun _ => True) (valE sc nm nd sv) (.iface 36 (.slice A 2 c)) ∧ Below w.heap.size w w' := by
  have pair : ∀ (w' : World) (A : Option Addr) (c : Nat) (a b : VT) (x y : Value), Rd w' A 2 c 1 [x, y] → AR w' (fun _ => True) a x → AR w' (fun _ => True) b y → AR w' (fun _ => True) (.mk 4 0 [] [a, b]) (.iface 36 (.slice A 2 c)) := by
    intro w' A c a b x y hr ha hb
    refine .list 0 [] [a, b] A c [x, y] hr (by simp) (fun _ _ => trivial) (fun i hi u hu => ?_)
    match i, hi with
    | 0, _ => obtain rfl : x = u := by simpa using hu
              exact ha
    | 1, _ => obtain rfl : y = u := by simpa using hu
              exact hb
  rcases right_cases hr with ⟨rfl, rfl, rfl, rfl⟩ | ⟨rfl, rfl, rfl, hne, hnm⟩ | ⟨rfl, rfl⟩
  · refine (evalue_none w).mono ?_
    rintro e w' ⟨A, rfl, hx, hb⟩
    exact ⟨A, 2, rfl, pair w' A 2 (.mk 0 1 [] []) (.mk 0 0 [] []) _ _ hx (.num 1 [] [] (by decide)) (.num 0 [] [] (by decide)), hb⟩
  · refine (evalue_named nm w hr hne).mono ?_
    rintro e w' ⟨A, rfl, hx, hb⟩
    have ev : valE 1 nm 0 0 = .mk 4 0 [] [.mk 0 1 [] [], .mk 3 0 nm []] := by unfold valE; rw [if_neg (by decide), if_neg hne]; rfl
    rw [ev]
    exact ⟨A, 2, rfl, pair w' A 2 (.mk 0 1 [] []) (.mk 3 0 nm []) _ _ hx (.num 1 [] [] (by decide)) (.text 0 nm []), hb⟩
  · refine (evalue_ipn nd sv w).mono ?_
    rintro e w' ⟨A, B, rfl, hx, hy, hb⟩
    exact ⟨A, 2, rfl, pair w' A 2 (.mk 0 2 [] []) (.mk 4 0 [] [.mk 0 nd [] [], .mk 0 sv [] []]) _ _ hx (.num 2 [] [] (by decide)) (pair w' B 2 (.mk 0 nd [] []) (.mk 0 sv [] []) _ _ hy (.num nd [] [] hd) (.num sv [] [] hs)), hb⟩
/-- The reference's value, as the document's types. -/
theorem rvalue_any (sc : Int) (nm : List UInt8) (nd sv : Nat) (w : World) (hr : rightE sc nm nd sv = true) (hd : nd < 18446744073709551616) (hs : sv < 18446744073709551616) :
    Calls Tryd.prog 20 #[eidV sc nm nd sv] w fun e w' => ∃ cs, e = .returned (.agg cs.toArray) ∧ VR w' (valE sc nm nd sv) cs ∧ Below w.heap.size w w' := by
  rcases right_cases hr with ⟨rfl, rfl, rfl, rfl⟩ | ⟨rfl, rfl, rfl, hne, hnm⟩ | ⟨rfl, rfl⟩
  · exact rvalue_none w
  · exact rvalue_named nm w hne
  · exact rvalue_ipn w nd sv hd hs
end Go.Proofs.YtieigjlbjiielaaDoor
