/- FnExactReadDecimal: the program's ReadDecimal and the reference's agree, for every text. -/
import Derived.Test.YtekoemmlkdancaaDoorQFnExactReadDecimalx0
import Derived.Test.YtekoemmlkdancaaDoorQFnExactReadDecimalx1
import Derived.Test.YtekoemmlkdancaaDoorPlain
namespace Go.Proofs.YtekoemmlkdancaaDoor.Pure
open Go.RowKit Go.Proofs.YtekoemmlkdancaaDoor.PFnExactReadDecimal Go.Proofs.YtekoemmlkdancaaDoor.Plain Go.Proofs.YtekoemmlkdancaaDoorW.PrintWords Go.Proofs.YtekoemmlkdancaaDoorW.PrintLast

theorem figure_val {d : Int} (h0 : 0 ≤ d) (h1 : d < 10) : spec_l01Figure.f d = some (48 + d) := by
  unfold spec_l01Figure.f
  rw [if_pos h1, w64 (n := 48 + d) (by omega) (by omega)]
  congr 1
  omega
/-- The digits; none of 0. -/
def dd (u : Nat) : List UInt8 := if u = 0 then [] else Lib.decDigits u
theorem dd_step {u : Nat} (h : u ≠ 0) : dd u = dd (u / 10) ++ [UInt8.ofNat (48 + u % 10)] := by
  unfold dd
  rw [if_neg h]
  by_cases h1 : u < 10
  · rw [if_pos (by omega), Lib.decDigits, dif_pos h1, Nat.mod_eq_of_lt h1]
    rfl
  · rw [if_neg (by omega), Lib.decDigits, dif_neg h1]
theorem one_data (d : Int) (h0 : 0 ≤ d) : (strOfNums [48 + d]).data.toList = [UInt8.ofNat (48 + d.toNat)] := by
  rw [strOfNums_data]
  simp only [List.map_cons, List.map_nil]
  congr 2
  omega
theorem dec_loop (b : Bool) (k : Nat) : ∀ (x : Int) (acc : ByteArray), x.natAbs < 10 ^ k → x.natAbs ≤ 9223372036854775808 → k ≤ 20 → acc.size + k ≤ 40 →
    ∃ r : ByteArray, spec_Decimal.l0 (k + 1) x b acc = some r ∧ r.data.toList = (if b = true then [45] else []) ++ dd x.natAbs ++ acc.data.toList := by
  induction k with
  | zero =>
    intro x acc hx hx2 hk ha
    have e : x = 0 := by omega
    subst e
    rw [spec_Decimal.l0, if_pos rfl]
    cases b
    · rw [if_neg (by decide)]
      exact ⟨_, rfl, by simp [dd]⟩
    · rw [if_pos rfl, if_pos (by omega)]
      exact ⟨_, rfl, by rw [ByteArray.data_append, Array.toList_append]; simp [dd]⟩
  | succ k ih =>
    intro x acc hx hx2 hk ha
    rw [spec_Decimal.l0]
    by_cases h0 : x = 0
    · subst h0
      rw [if_pos rfl]
      cases b
      · rw [if_neg (by decide)]
        exact ⟨_, rfl, by simp [dd]⟩
      · rw [if_pos rfl, if_pos (by omega)]
        exact ⟨_, rfl, by rw [ByteArray.data_append, Array.toList_append]; simp [dd]⟩
    · rw [if_neg h0]
      have hp : (10 : Nat) ^ (k + 1) = 10 ^ k * 10 := Nat.pow_succ 10 k
      have hq : x.natAbs / 10 < 10 ^ k := by omega
      have hk2 : (10 : Nat) ^ (k + 1) ≤ 10 ^ 20 := Nat.pow_le_pow_right (by decide) hk
      have key : ∃ d : Nat, d < 10 ∧ d = x.natAbs % 10 ∧ (Int.tmod x 10 = (d : Int) ∨ Int.tmod x 10 = -(d : Int)) ∧ (Int.tdiv x 10).natAbs = x.natAbs / 10 := by
        refine ⟨x.natAbs % 10, by omega, rfl, ?_, by rw [Int.natAbs_tdiv]; rfl⟩
        rcases Int.natAbs_eq x with h | h
        · left
          rw [h, tmod_pos (by omega)]
          omega
        · right
          rw [h, Int.neg_tmod, tmod_pos (by omega)]
          omega
      obtain ⟨d, hd, hd2, hm, hdiv⟩ := key
      have hw : wrap64 (Int.tdiv x 10) = Int.tdiv x 10 := w64 (by omega) (by omega)
      have fin : ∀ r : ByteArray, r.data.toList = (if b = true then [45] else []) ++ dd (Int.tdiv x 10).natAbs ++ (strOfNums [48 + (d : Int)] ++ acc).data.toList → r.data.toList = (if b = true then [45] else []) ++ dd x.natAbs ++ acc.data.toList := by
        intro r hr
        rw [hr, hdiv, dd_step (u := x.natAbs) (by omega), ByteArray.data_append, Array.toList_append, one_data _ (by omega), ← hd2]
        simp
      obtain ⟨r, e, hr⟩ := ih (Int.tdiv x 10) (strOfNums [48 + (d : Int)] ++ acc) (by omega) (by omega) (by omega) (by rw [ByteArray.size_append, str_size]; simp; omega)
      have hs : (strOfNums [48 + (d : Int)]).size + acc.size ≤ 9223372036854775807 := by rw [str_size]; simp; omega
      by_cases hneg : Int.tmod x 10 < 0
      · rw [if_pos hneg]
        have e1 : wrap64 (-(Int.tmod x 10)) = (d : Int) := by rw [w64 (by omega) (by omega)]; omega
        rw [e1, figure_val (by omega) (by omega), Option.bind_some, Option.bind_some, if_pos hs, hw, e]
        exact ⟨r, rfl, fin r hr⟩
      · rw [if_neg hneg]
        have e1 : Int.tmod x 10 = (d : Int) := by omega
        rw [e1, figure_val (by omega) (by omega), Option.bind_some, Option.bind_some, if_pos hs, hw, e]
        exact ⟨r, rfl, fin r hr⟩
theorem spec_dec (n : Int) (h0 : -9223372036854775808 ≤ n) (h1 : n ≤ 9223372036854775807) : ∃ r : ByteArray, spec_Decimal.f 21 n = some r ∧ r.data.toList = Lib.itoa n := by
  unfold spec_Decimal.f Lib.itoa
  by_cases hz : n = 0
  · subst hz
    rw [if_pos rfl, if_neg (by decide)]
    exact ⟨_, rfl, by rw [Lib.decDigits, dif_pos (by decide)]; rfl⟩
  · rw [if_neg hz]
    obtain ⟨r, e, hr⟩ := dec_loop (decide (n < 0)) 20 n ⟨#[]⟩ (by have : (10 : Nat) ^ 20 = 100000000000000000000 := rfl; omega) (by omega) (by omega) (by simp [ByteArray.size])
    refine ⟨r, e, ?_⟩
    have h2 : dd n.natAbs = Lib.decDigits n.natAbs := if_neg (by omega)
    rw [hr, h2]
    by_cases hn : n < 0
    · rw [if_pos hn, decide_eq_true hn, if_pos rfl]
      simp
    · rw [if_neg hn, decide_eq_false hn, if_neg (by decide), show n.natAbs = n.toNat by omega]
      simp
theorem impl_dec (n : Int) (h0 : -9223372036854775808 ≤ n) (h1 : n ≤ 9223372036854775807) : impl_Decimal.f n = some ⟨(Lib.itoa n).toArray⟩ := by
  unfold impl_Decimal.f strconv_Itoa.f
  rw [if_pos h0, if_pos h1]
  rfl

theorem read_loop (x : ByteArray) (hx : x.size ≤ 10) (d : Nat) : ∀ (i : Nat) (n : Int), x.size - i = d → i ≤ x.size → 0 ≤ n → n < 10 ^ i →
    ∃ r : Int × Bool, spec_ReadDecimal.l0 (d + 22) x n (i : Int) = some r ∧ ∀ k, d < k → impl_ReadDecimal.l0 k x n (i : Int) = some r := by
  induction d with
  | zero =>
    intro i n hd hi h0 h1
    have hp : (10 : Int) ^ i ≤ 10 ^ 10 := by
      have h := Nat.pow_le_pow_right (n := 10) (by decide) (show i ≤ 10 by omega)
      exact_mod_cast h
    have hp2 : (10 : Int) ^ 10 = 10000000000 := by decide
    by_cases hb : n > 1000000000
    · refine ⟨(0, false), ?_, fun k hk => ?_⟩
      · rw [spec_ReadDecimal.l0, if_neg (by omega), if_pos hb]
      · obtain ⟨k, rfl⟩ : ∃ m, k = m + 1 := ⟨k - 1, by omega⟩
        rw [impl_ReadDecimal.l0, if_neg (by omega), if_pos hb]
    · obtain ⟨q, e, hq⟩ := spec_dec n (by omega) (by omega)
      have e2 := impl_dec n (by omega) (by omega)
      refine ⟨if Lib.itoa n = x.toList then (n, true) else (0, false), ?_, fun k hk => ?_⟩
      · rw [show 0 + 22 = 21 + 1 by rfl, spec_ReadDecimal.l0, if_neg (by omega), if_neg hb, e, Option.bind_some, Lib.toList_data, hq]
        split <;> rfl
      · obtain ⟨k, rfl⟩ : ∃ m, k = m + 1 := ⟨k - 1, by omega⟩
        rw [impl_ReadDecimal.l0, if_neg (by omega), if_neg hb, e2, Option.bind_some, Lib.toList_data]
        split <;> rfl
  | succ d ih =>
    intro i n hd hi h0 h1
    have hp : (10 : Int) ^ i ≤ 10 ^ 10 := by
      have h := Nat.pow_le_pow_right (n := 10) (by decide) (show i ≤ 10 by omega)
      exact_mod_cast h
    have hp2 : (10 : Int) ^ 10 = 10000000000 := by decide
    have hp3 : (10 : Int) ^ (i + 1) = 10 ^ i * 10 := Int.pow_succ 10 i
    have c1 : (i : Int) < (x.size : Int) := by omega
    have c2 : (0 : Int) ≤ (i : Int) := by omega
    obtain ⟨b0, b1⟩ := bt_range x (i : Int)
    generalize hc : bt x (i : Int) = c at *
    by_cases l1 : c < 48
    · refine ⟨(0, false), ?_, fun k hk => ?_⟩
      · rw [spec_ReadDecimal.l0, if_pos c1, if_pos c2, hc, if_pos l1]
      · obtain ⟨k, rfl⟩ : ∃ m, k = m + 1 := ⟨k - 1, by omega⟩
        rw [impl_ReadDecimal.l0, if_pos c1, if_pos c2, hc, if_pos l1]
    · by_cases l2 : c > 57
      · refine ⟨(0, false), ?_, fun k hk => ?_⟩
        · rw [spec_ReadDecimal.l0, if_pos c1, if_pos c2, hc, if_neg l1, if_pos l2]
        · obtain ⟨k, rfl⟩ : ∃ m, k = m + 1 := ⟨k - 1, by omega⟩
          rw [impl_ReadDecimal.l0, if_pos c1, if_pos c2, hc, if_neg l1, if_pos l2]
      · obtain ⟨r, e, g⟩ := ih (i + 1) (10 * n + c - 48) (by omega) (by omega) (by omega) (by omega)
        refine ⟨r, ?_, fun k hk => ?_⟩
        · rw [show d + 1 + 22 = (d + 22) + 1 by omega, spec_ReadDecimal.l0, if_pos c1, if_pos c2, hc, if_neg l1, if_neg l2, w64 (n := 10 * n) (by omega) (by omega), w64 (n := c) (by omega) (by omega), w64 (n := 10 * n + c) (by omega) (by omega), w64 (n := 10 * n + c - 48) (by omega) (by omega), w64 (n := (i : Int) + 1) (by omega) (by omega),
            show (i : Int) + 1 = ((i + 1 : Nat) : Int) by omega]
          exact e
        · obtain ⟨k, rfl⟩ : ∃ m, k = m + 1 := ⟨k - 1, by omega⟩
          rw [impl_ReadDecimal.l0, if_pos c1, if_pos c2, hc, if_neg l1, if_neg l2, w64 (n := n * 10) (by omega) (by omega), show (c - 48) % 256 = c - 48 by omega, w64 (n := n * 10 + (c - 48)) (by omega) (by omega), w64 (n := (i : Int) + 1) (by omega) (by omega),
            show (i : Int) + 1 = ((i + 1 : Nat) : Int) by omega, show n * 10 + (c - 48) = 10 * n + c - 48 by omega]
          exact g k (by omega)
theorem read_same (a : ByteArray) : ∃ r : Int × Bool, spec_ReadDecimal.f (a.size + 22) a = some r ∧ impl_ReadDecimal.f (a.size + 22) a = some r := by
  unfold spec_ReadDecimal.f impl_ReadDecimal.f
  by_cases hb : (a.size : Int) > 10
  · rw [if_pos hb, if_neg (by omega), decide_eq_true hb]
    exact ⟨_, rfl, rfl⟩
  · rw [if_neg hb]
    by_cases hz : (a.size : Int) = 0
    · rw [if_pos hz]
      refine ⟨(0, false), ?_, rfl⟩
      obtain ⟨q, e, hq⟩ := spec_dec 0 (by omega) (by omega)
      have h0 : a.data.toList = [] := by
        have h1 : a.data.toList.length = a.size := by simp
        exact List.eq_nil_of_length_eq_zero (by omega)
      have h2 : Lib.itoa 0 = [48] := by
        unfold Lib.itoa
        rw [if_neg (by decide), Lib.decDigits, dif_pos (by decide)]
        rfl
      rw [show a.size + 22 = 21 + 1 by omega, spec_ReadDecimal.l0, if_neg (by omega), if_neg (by decide), e, Option.bind_some, Lib.toList_data, Lib.toList_data, hq, h0, h2, if_neg (by simp)]
    · rw [if_neg hz, decide_eq_false hb]
      obtain ⟨r, e, g⟩ := read_loop a (by omega) a.size 0 0 (by omega) (by omega) (by omega) (by decide)
      refine ⟨r, e, ?_⟩
      rw [show a.size + 22 = (a.size + 21) + 1 by omega, impl_ReadDecimal.j0, if_neg (by decide)]
      exact g _ (by omega)

theorem FnExactReadDecimal : laws_FnExactReadDecimal.Pure := by
  intro a _
  refine ⟨a.size + 22, ?_⟩
  obtain ⟨r, e, g⟩ := read_same a
  unfold laws_FnExactReadDecimal.f
  split
  · rfl
  · rw [e, g]
    simp
end Go.Proofs.YtekoemmlkdancaaDoor.Pure
