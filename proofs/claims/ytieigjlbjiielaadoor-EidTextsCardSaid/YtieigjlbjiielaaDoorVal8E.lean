/- eid.Of answers as the plain cases say. No condition. -/
import Derived.Test.YtieigjlbjiielaaDoorVal7E
namespace Go.Proofs.YtieigjlbjiielaaDoor
open Go.RowKit

theorem ar_num {w : World} {S : Nat → Prop} {v : VT} {u : Value} (h : AR w S v u) (hk : v.kind = 0) : u = .iface 22 (.int .u64 (v.num : Int)) := by
  cases h with
  | num n s l hn => rfl
  | text n s l => simp [VT.kind] at hk
  | list n s l A c xs hx hb hS hl => simp [VT.kind] at hk
  | other k n s l _ h0 h3 h4 a b c => exact absurd hk h0
theorem ar_text {w : World} {S : Nat → Prop} {v : VT} {u : Value} (h : AR w S v u) (hk : v.kind = 3) : u = .iface 9 (.string ⟨v.str.toArray⟩) := by
  cases h with
  | num n s l hn => simp [VT.kind] at hk
  | text n s l => rfl
  | list n s l A c xs hx hb hS hl => simp [VT.kind] at hk
  | other k n s l _ h0 h3 h4 a b c => exact absurd hk h3
theorem ar_two {w : World} {S : Nat → Prop} {v x y : VT} {u : Value} (h : AR w S v u) (hk : v.kind = 4) (hl : v.lst = [x, y]) (hx : x.kind = 0) (hy : y.kind = 0) :
    ∃ A c, u = .iface 36 (.slice A 2 c) ∧ Rd w A 2 c 1 [.iface 22 (.int .u64 (x.num : Int)), .iface 22 (.int .u64 (y.num : Int))] := by
  cases h with
  | num n s l hn => simp [VT.kind] at hk
  | text n s l => simp [VT.kind] at hk
  | list n s l A c xs hxs hb hS hel =>
    obtain rfl : l = [x, y] := hl
    obtain ⟨p, q, rfl⟩ : ∃ p q, xs = [p, q] := by
      have := hxs.len
      match xs, this with
      | [p, q], _ => exact ⟨p, q, rfl⟩
    have hp := ar_num (hel 0 (by simp) p rfl) hx
    have hq := ar_num (hel 1 (by simp) q rfl) hy
    refine ⟨A, c, rfl, ?_⟩
    rw [hp, hq] at hxs
    exact hxs
  | other k n s l _ h0 h3 h4 a b c => exact absurd hk h4

/-- What is asked of a pair whose first is a number. -/
theorem pair_num {w : World} {S : Nat → Prop} {v a b : VT} {u : Value} (h : AR w S v u) (h4 : v.kind = 4) (hl : v.lst = [a, b]) (ha : a.kind = 0) :
    ∃ p q, AR w S b q ∧ (∀ W, Below w.heap.size w W → Hid (Calls Tryd.prog 36 #[u] W fun e w' => e = .returned (.tuple #[p, q, .bool true]) ∧ Below W.heap.size W w')) ∧
      (∀ W, Hid (Calls Tryd.prog 28 #[p] W fun e w' => e = .returned (.tuple #[.int .u64 (a.num : Int), .bool true]) ∧ W = w')) := by
  obtain ⟨p, q, bp, hp, hpt, hpf, KP⟩ := pair_of h
  obtain rfl : bp = true := hp.2 ⟨h4, by rw [hl]; rfl⟩
  obtain ⟨x, y, hxy, hx, hy⟩ := hpt rfl
  rw [hl] at hxy
  obtain ⟨rfl, rfl⟩ : a = x ∧ b = y := by simpa using hxy
  obtain ⟨n, b1, h1, hn, KX⟩ := uint_of hx
  obtain rfl : b1 = true := h1.2 ha
  obtain rfl : n = a.num := hn rfl
  exact ⟨p, q, hy, KP, KX⟩

theorem eof_any {w : World} {S : Nat → Prop} {v : VT} {u : Value} {sc : Int} {nm : List UInt8} {nd sv : Nat} {er : Int} (h : AR w S v u) (hc : OfC v sc nm nd sv er) : Calls Tryd.prog 18 #[u] w (ofRes w sc nm nd sv er) := by
  cases hc with
  | notlist hn =>
    obtain ⟨p, q, bp, hp, hpt, hpf, KP⟩ := pair_of h
    obtain rfl : bp = false := by
      cases bp with
      | false => rfl
      | true => obtain ⟨e1, e2⟩ := hp.1 rfl; omega
    obtain ⟨rfl, rfl⟩ := hpf rfl
    exact eof_a u _ _ 0 false false w (.inl ⟨rfl, rfl⟩) KP uint_nil
  | first a b h4 hl ha =>
    obtain ⟨p, q, bp, hp, hpt, hpf, KP⟩ := pair_of h
    obtain rfl : bp = true := hp.2 ⟨h4, by rw [hl]; rfl⟩
    obtain ⟨x, y, hxy, hx, hy⟩ := hpt rfl
    rw [hl] at hxy
    obtain ⟨rfl, rfl⟩ : a = x ∧ b = y := by simpa using hxy
    obtain ⟨n, b1, h1, hn, KX⟩ := uint_of hx
    obtain rfl : b1 = false := by
      cases b1 with
      | false => rfl
      | true => exact absurd (h1.1 rfl) ha
    exact eof_a u _ _ n true false w (.inr ⟨rfl, rfl⟩) KP KX
  | none a b h4 hl ha h1 hb hz =>
    obtain ⟨p, q, hq, KP, KX⟩ := pair_num h h4 hl ha
    rw [h1] at KX
    obtain ⟨t, bt, hbt, -, KT⟩ := text_of hq
    obtain rfl := ar_num hq hb
    have := eof_c u _ _ 1 1 [] b.num 0 t bt false true w (.inl ⟨rfl, rfl⟩) KP KX (fun W _ => Lib.hid (within_num b.num W)) KT (by unfold rightE; rw [if_pos rfl]; simp [hz])
    rwa [if_pos rfl] at this
  | nobody a b h4 hl ha h1 hb hz =>
    obtain ⟨p, q, hq, KP, KX⟩ := pair_num h h4 hl ha
    rw [h1] at KX
    obtain ⟨t, bt, hbt, -, KT⟩ := text_of hq
    obtain rfl : bt = false := by
      cases bt with
      | false => rfl
      | true => have := hbt.1 rfl; omega
    obtain rfl := ar_num hq hb
    rw [hz] at KP KT
    have := eof_c u _ _ 1 1 [] 0 0 t false true false w (.inr (.inr (.inr ⟨rfl, rfl, rfl⟩))) KP KX (fun W _ => Lib.hid (within_num 0 W)) KT (by rfl)
    rwa [if_neg (by decide)] at this
  | badname a b h4 hl ha h1 hb hz =>
    obtain ⟨p, q, hq, KP, KX⟩ := pair_num h h4 hl ha
    rw [h1] at KX
    obtain rfl := ar_text hq hb
    by_cases hr : rightE 1 b.str 0 0 = false
    · have := eof_c u _ _ 1 1 b.str 0 0 b.str true false true w (.inl ⟨rfl, rfl⟩) KP KX (fun W _ => Lib.hid (within_text b.str W)) (fun W => Lib.hid (text_yes b.str W)) hr
      rwa [if_pos rfl] at this
    · have hs : b.str = [] := by exact hz.resolve_right hr
      have := eof_c u _ _ 1 1 b.str 0 0 b.str true true true w (.inr (.inl ⟨rfl, rfl, hs, rfl⟩)) KP KX (fun W _ => Lib.hid (within_text b.str W)) (fun W => Lib.hid (text_yes b.str W)) (by simpa using hr)
      rwa [if_pos rfl] at this
  | name a b h4 hl ha h1 hb hn hz =>
    obtain ⟨p, q, hq, KP, KX⟩ := pair_num h h4 hl ha
    rw [h1] at KX
    obtain rfl := ar_text hq hb
    have := eof_c u _ _ 1 1 b.str 0 0 b.str true true false w (.inr (.inr (.inl ⟨rfl, rfl, hn, rfl⟩))) KP KX (fun W _ => Lib.hid (within_text b.str W)) (fun W => Lib.hid (text_yes b.str W)) hz
    rwa [if_neg (by decide)] at this
  | ipn a b x y h4 hl ha h2 hb hbl hx hy =>
    obtain ⟨p, q, hq, KP, KX⟩ := pair_num h h4 hl ha
    rw [h2] at KX
    obtain ⟨t, bt, hbt, -, KT⟩ := text_of hq
    obtain rfl : bt = false := by
      cases bt with
      | false => rfl
      | true => have := hbt.1 rfl; omega
    obtain ⟨A, c, rfl, hr⟩ := ar_two hq hb hbl hx hy
    have := eof_c u _ _ 2 2 [] x.num y.num t false true false w (.inr (.inr (.inr ⟨rfl, rfl, rfl⟩))) KP KX (fun W hW => Lib.hid (within_ipn x.num y.num A c W (hr.below hW))) KT (by rfl)
    rwa [if_neg (by decide)] at this
  | rest a b h4 hl ha h1 h3 h2 =>
    obtain ⟨p, q, hq, KP, KX⟩ := pair_num h h4 hl ha
    exact eof_b u p q a.num w KP KX (fun W hW => Lib.hid (within_no a.num hq h1 h3 h2 W hW))
end Go.Proofs.YtieigjlbjiielaaDoor
