/- Contract of cmd.Print; plain facts on commands printed and read. No condition but the length's bound. -/
import Derived.Test.YtefipigdkdopcaaCmd8
import Derived.OwnWalk
namespace Go.Proofs.Ytefipigdkdopcaa
open Go.RowKit

/-- A command that came in. -/
structure Cx where
  k : Int
  a : Nat
  b : Nat
def cmx : List Cx → List Value
  | [] => []
  | c :: r => .int .i64 c.k :: .int .u64 (c.a : Int) :: .int .u64 (c.b : Int) :: cmx r
def Cm.x (c : Cm) : Cx := ⟨(c.k : Int), c.a, c.b⟩
theorem cms_x (l : List Cm) : cms l = cmx (l.map Cm.x) := by
  induction l with
  | nil => rfl
  | cons c r ih => simp only [cms, List.map_cons, cmx, Cm.x, ih]
theorem cmx_length (l : List Cx) : (cmx l).length = l.length * 3 := by
  induction l with
  | nil => rfl
  | cons c r ih => simp only [cmx, List.length_cons, ih]; omega
abbrev Cx0 : Cx := ⟨0, 0, 0⟩
theorem cmx_get (l : List Cx) : ∀ i, i < l.length → (cmx l)[i * 3]? = some (.int .i64 (l.getD i Cx0).k) ∧ (cmx l)[i * 3 + 1]? = some (.int .u64 ((l.getD i Cx0).a : Int)) ∧ (cmx l)[i * 3 + 2]? = some (.int .u64 ((l.getD i Cx0).b : Int)) := by
  induction l with
  | nil => intro i h; simp at h
  | cons c r ih =>
    intro i h
    cases i with
    | zero => exact ⟨rfl, rfl, rfl⟩
    | succ i =>
      have := ih i (by simpa using h)
      rw [show (i + 1) * 3 = i * 3 + 3 by omega]
      simpa [cmx] using this
theorem at_plusk {w : World} {ad : Addr} {m k : Nat} {v : Value} (hk : 0 < k) (h : w.cell? (ad.add (m + k)) = some v) : w.cell? ⟨(ad.add m).block, (ad.add m).off + k, none⟩ = some v := by
  have e : (⟨(ad.add m).block, (ad.add m).off + k, none⟩ : Addr) = ad.add (m + k) := by
    unfold Addr.add
    by_cases hm : m = 0 <;> simp [hm, Nat.add_assoc] <;> omega
  rw [e]; exact h
/-- The three cells of element j. -/
theorem Rd.cat3 {w : World} {ad : Addr} {n c : Nat} {l : List Cx} (h : Rd w (some ad) n c 3 (cmx l)) (j : Nat) (hj : j < n) :
    w.cell? (ad.add (j * 3)) = some (.int .i64 (l.getD j Cx0).k) ∧ w.cell? ⟨(ad.add (j * 3)).block, (ad.add (j * 3)).off + 1, none⟩ = some (.int .u64 ((l.getD j Cx0).a : Int)) ∧ w.cell? ⟨(ad.add (j * 3)).block, (ad.add (j * 3)).off + 2, none⟩ = some (.int .u64 ((l.getD j Cx0).b : Int)) := by
  have hl := h.len
  rw [cmx_length] at hl
  obtain ⟨g0, g1, g2⟩ := cmx_get l j (by omega)
  exact ⟨h.cell ad rfl _ _ g0, at_plusk (by omega) (h.cell ad rfl _ _ g1), at_plusk (by omega) (h.cell ad rfl _ _ g2)⟩
theorem Rd.clen3 {w : World} {A : Option Addr} {n c : Nat} {l : List Cx} (h : Rd w A n c 3 (cmx l)) : l.length = n := by
  have := h.len
  rw [cmx_length] at this
  omega
/-- Commands printed. -/
structure Pr where
  t : List UInt8
  e : Nat
def prGo : List Cx → List UInt8 → Pr
  | [], acc => ⟨acc, 0⟩
  | c :: r, acc => if cmdCheck c.k c.a c.b ≠ 0 then ⟨[], cmdCheck c.k c.a c.b⟩ else prGo r (acc ++ (textK c.k c.a c.b ++ [10]))
theorem prGo_drop (l : List Cx) (j : Nat) (acc : List UInt8) (h : j < l.length) :
    prGo (l.drop j) acc = if cmdCheck (l.getD j Cx0).k (l.getD j Cx0).a (l.getD j Cx0).b ≠ 0 then ⟨[], cmdCheck (l.getD j Cx0).k (l.getD j Cx0).a (l.getD j Cx0).b⟩ else prGo (l.drop (j + 1)) (acc ++ (textK (l.getD j Cx0).k (l.getD j Cx0).a (l.getD j Cx0).b ++ [10])) := by
  rw [List.drop_eq_getElem_cons h, List.getD_eq_getElem?_getD, List.getElem?_eq_getElem h]
  rfl
theorem prGo_len (l : List Cx) : ∀ acc, (∀ c ∈ l, c.a < 18446744073709551616 ∧ c.b < 18446744073709551616) → (prGo l acc).t.length ≤ acc.length + 50 * l.length := by
  induction l with
  | nil => intro acc _; simp [prGo]
  | cons c r ih =>
    intro acc h
    unfold prGo
    split
    · simp
    · have := ih (acc ++ (textK c.k c.a c.b ++ [10])) (fun d hd => h d (by simp [hd]))
      have ht := textK_length c.k c.a c.b (h c (by simp)).1 (h c (by simp)).2
      simp only [List.length_append, List.length_cons, List.length_nil] at this ⊢
      omega
theorem prGo_bad (l : List Cx) : ∀ acc, (prGo l acc).e ≠ 0 → (prGo l acc).t = [] := by
  induction l with
  | nil => intro acc h; exact absurd rfl h
  | cons c r ih =>
    intro acc h
    unfold prGo at h ⊢
    split
    · rfl
    · rename_i g
      rw [if_neg g] at h
      exact ih _ h

set_option maxRecDepth 100000 in
set_option maxHeartbeats 2000000 in
theorem cprint_any (l : List Cx) (A : Option Addr) (n c : Nat) (w : World) (hx : Rd w A n c 3 (cmx l)) (hn : n ≤ 30) (hab : ∀ c ∈ l, c.a < 18446744073709551616 ∧ c.b < 18446744073709551616) :
    Calls Try.prog 21 #[.slice A n c] w fun e w' => e = .returned (.tuple #[.string ⟨(prGo l []).t.toArray⟩, .int .i64 ((prGo l []).e : Nat)]) ∧ Below w.heap.size w w' := by
  have hB := Below.refl w.heap.size w
  have hl := hx.clen3
  have hc1 := hx.cm
  have hc2 := hx.nc
  unfold maxLen at hc1
  have HP : Hid (prGo l [] = prGo (l.drop 0) []) := rfl
  go_enter Try.func21, Try.ntmps21
  go_wp2_with fail
  go_loopw [4, 11] (fun t i wr => ∃ (j : Nat) (acc : List UInt8), i = .int .i64 j ∧ t = .string ⟨acc.toArray⟩ ∧ j ≤ n ∧ acc.length ≤ 50 * j ∧ Hid (prGo l [] = prGo (l.drop j) acc) ∧ Below w.heap.size w wr) (fun _ i _ => n - (intOf i).toNat)
  case atStart => exact ⟨0, [], rfl, rfl, by omega, by simp, HP, hB⟩
  case round =>
    obtain ⟨j, acc, rfl, rfl, hj, hacc, HG, hBr⟩ := hrel
    by_cases hlt : j < n
    · have HD := Lib.hid (prGo_drop l j acc (by omega))
      obtain ⟨ad, rfl⟩ := hx.some_of_pos (by omega)
      obtain ⟨e0, e1, e2⟩ := hx.cat3 j hlt
      have hm : l.getD j Cx0 ∈ l := by rw [List.getD_eq_getElem?_getD, List.getElem?_eq_getElem (by omega)]; exact List.getElem_mem _
      obtain ⟨ha, hb'⟩ := hab _ hm
      clear hm
      generalize l.getD j Cx0 = cx at *
      obtain ⟨k, a, b⟩ := cx
      dsimp only at e0 e1 e2 ha hb' HD
      replace e0 := cell_below hBr e0
      replace e1 := cell_below hBr e1
      replace e2 := cell_below hBr e2
      have hjn : (j : Int) < (n : Int) := by omega
      obtain ⟨hb1, hca⟩ := one_cells wr #[.int .i64 k, .int .u64 (a : Int), .int .u64 (b : Int)] 24
      have k0 := hca 0 (.int .i64 k) rfl
      have k1 := hca 1 (.int .u64 (a : Int)) rfl
      have k2 := hca 2 (.int .u64 (b : Int)) rfl
      have hBn := below_trans hBr hb1
      clear hca hb1
      by_cases he : cmdCheck k a b = 0
      · rw [if_neg (by simpa using he)] at HD
        have HG2 := Lib.hid (HG.out.trans HD.out)
        have KT := fun W => Lib.hid (ctext_yes k a b W he)
        have ht := textK_length k a b ha hb'
        clear HG HD he
        generalize textK k a b = tx at *
        have l1 : ¬ (9223372036854775807 < tx.length + [(10 : UInt8)].length) := by simp; omega
        have l2 : ¬ (9223372036854775807 < acc.length + (tx ++ [(10 : UInt8)]).length) := by simp; omega
        go_wp2_with (refine (KT _).out.mono ?_; rintro e w2 ⟨rfl, hb⟩; replace hBn := below_trans hBn hb; clear hb)
        rw [show (⟨tx.toArray⟩ : ByteArray) ++ ⟨#[10]⟩ = ⟨(tx ++ [10]).toArray⟩ from cat_bytes tx [10], cat_bytes]
        go_roundw
        case rel => exact ⟨j + 1, _, by go_num, rfl, by omega, by simp; omega, HG2, hBn⟩
        case measure => simp [intOf]; omega
      · rw [if_pos he] at HD
        have HG2 := Lib.hid (HG.out.trans HD.out)
        have KT := fun W => Lib.hid (ctext_no k a b (cmdCheck k a b) W rfl he)
        have hz1 : ((cmdCheck k a b : Int) != 0) = true := by rw [bne_iff_ne]; omega
        have hz2 : ((cmdCheck k a b : Int) == 0) = false := by rw [beq_eq_false_iff_ne]; omega
        clear HG HD he
        generalize cmdCheck k a b = er at *
        go_wp2_with (refine (KT _).out.mono ?_; rintro e w2 ⟨rfl, hb⟩; replace hBn := below_trans hBn hb; clear hb)
        go_ret2
        exact ⟨by rw [HG2.out]; rfl, hBn⟩
    · obtain rfl : j = n := by omega
      rw [← hl, List.drop_length] at HG
      go_wp2_with fail
      go_ret2
      exact ⟨by rw [HG.out]; rfl, hBr⟩
end Go.Proofs.Ytefipigdkdopcaa
