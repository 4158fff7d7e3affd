/- FnTurned: a drawn text sealed is unsealed as it was; one byte of it turned, it is not unsealed; the sum goes on; for every code. -/
import Derived.Test.YtpeopmkgabfjbaaQFnTurnedx0
import Derived.Test.YtpeopmkgabfjbaaQFnTurnedx1
import Derived.Test.YtpeopmkgabfjbaaQFnTurnedx2
import Derived.Test.YtpeopmkgabfjbaaQFnTurnedx3
import Derived.Test.YtpeopmkgabfjbaaPlain
namespace Go.Proofs.Ytpeopmkgabfjbaa.Pure
open Go.RowKit Go.Proofs.Ytpeopmkgabfjbaa.PFnTurned Go.Proofs.Ytpeopmkgabfjbaa.Plain Go.Proofs.YtpeopmkgabfjbaaW.PrintWords Go.Proofs.YtpeopmkgabfjbaaW.PrintLast

theorem bits_xor (k : IntKind) (j : Nat) (hj : j ≤ k.bits) (hk : ∀ n : Int, 0 ≤ n → n < 2 ^ j → k.wrap n = n) (a b : Nat) (ha : a < 2 ^ j) (hb : b < 2 ^ j) : Go.bits .xor k a b = ((a ^^^ b : Nat) : Int) := by
  have hp : 2 ^ j ≤ 2 ^ k.bits := Nat.pow_le_pow_right (by decide) hj
  have ha' : a % 2 ^ k.bits = a := Nat.mod_eq_of_lt (Nat.lt_of_lt_of_le ha hp)
  have hb' : b % 2 ^ k.bits = b := Nat.mod_eq_of_lt (Nat.lt_of_lt_of_le hb hp)
  simp only [Go.bits, BitVec.ofInt_natCast, BitVec.toNat_xor, BitVec.toNat_ofNat, ha', hb']
  exact hk _ (Int.natCast_nonneg _) (by exact_mod_cast Nat.xor_lt_two_pow ha hb)
theorem xor_nat (a b : Nat) (ha : a < 4294967296) (hb : b < 4294967296) : Go.bits .xor .u32 (a : Int) (b : Int) = ((a ^^^ b : Nat) : Int) :=
  bits_xor .u32 32 (by decide) (fun n h0 h1 => by rw [IntKind.wrap_u32]; omega) a b (by omega) (by omega)
theorem xor_nat8 (a b : Nat) (ha : a < 256) (hb : b < 256) : Go.bits .xor .u8 (a : Int) (b : Int) = ((a ^^^ b : Nat) : Int) :=
  bits_xor .u8 8 (by decide) (fun n h0 h1 => by rw [IntKind.wrap_u8]; omega) a b (by omega) (by omega)
theorem and_one {x : Int} (h0 : 0 ≤ x) (h1 : x < 4294967296) : Go.bits .and .u32 x 1 = x % 2 := by
  have h := bits_mask .u32 32 (by decide) (fun n a b => by rw [IntKind.wrap_u32]; omega) 1 (by decide) x h0 (by simpa using h1)
  simpa using h
/-- One bit of the sum's register. -/
def st (x : Nat) : Nat := if x % 2 = 1 then (x / 2) ^^^ 3558460437 else x / 2
def stn : Nat → Nat → Nat
  | 0, x => x
  | n + 1, x => stn n (st x)
theorem st_lt {x : Nat} (h : x < 4294967296) : st x < 4294967296 := by
  unfold st
  split
  · exact Nat.xor_lt_two_pow (n := 32) (by omega) (by omega)
  · omega
theorem high_no {x : Nat} (h : x < 4294967296) : (x / 2).testBit 31 = false := Nat.testBit_lt_two_pow (by omega)
theorem st_inj {x y : Nat} (hx : x < 4294967296) (hy : y < 4294967296) (h : st x = st y) : x = y := by
  have key : ∀ a b : Nat, a < 4294967296 → b < 4294967296 → (a / 2) ^^^ 3558460437 ≠ b / 2 := by
    intro a b ha hb e
    have h1 := congrArg (fun z => z.testBit 31) e
    simp only [Nat.testBit_xor, high_no ha, high_no hb] at h1
    revert h1
    decide
  unfold st at h
  split at h <;> split at h
  · have e : x / 2 = y / 2 := by
      have h2 := congrArg (fun z => z ^^^ 3558460437) h
      simp only [Nat.xor_assoc, Nat.xor_self, Nat.xor_zero] at h2
      exact h2
    omega
  · exact absurd h (key x y hx hy)
  · exact absurd h.symm (key y x hy hx)
  · omega
theorem stn_lt : ∀ (n : Nat) {x : Nat}, x < 4294967296 → stn n x < 4294967296
  | 0, _, h => h
  | n + 1, _, h => stn_lt n (st_lt h)
theorem stn_inj : ∀ (n : Nat) {x y : Nat}, x < 4294967296 → y < 4294967296 → stn n x = stn n y → x = y
  | 0, _, _, _, _, h => h
  | n + 1, _, _, hx, hy, h => st_inj hx hy (stn_inj n (st_lt hx) (st_lt hy) h)
/-- The sum's register behind these bytes. -/
def sumN (x : Nat) (l : List UInt8) : Nat := l.foldl (fun x u => stn 8 (x ^^^ u.toNat)) x
theorem byte_lt {x : Nat} (h : x < 4294967296) (u : UInt8) : x ^^^ u.toNat < 4294967296 := Nat.xor_lt_two_pow (n := 32) (by omega) (by have := u.toNat_lt; omega)
theorem sumN_lt : ∀ (l : List UInt8) {x : Nat}, x < 4294967296 → sumN x l < 4294967296
  | [], _, h => h
  | u :: l, _, h => sumN_lt l (stn_lt 8 (byte_lt h u))
theorem xor_left {a b c : Nat} (h : a ^^^ b = a ^^^ c) : b = c := by
  have h2 := congrArg (fun z => a ^^^ z) h
  simp only [← Nat.xor_assoc, Nat.xor_self, Nat.zero_xor] at h2
  exact h2
theorem sumN_inj : ∀ (l : List UInt8) {x y : Nat}, x < 4294967296 → y < 4294967296 → sumN x l = sumN y l → x = y
  | [], _, _, _, _, h => h
  | u :: l, x, y, hx, hy, h => by
    have e := stn_inj 8 (byte_lt hx u) (byte_lt hy u) (sumN_inj l (stn_lt 8 (byte_lt hx u)) (stn_lt 8 (byte_lt hy u)) h)
    rw [Nat.xor_comm x, Nat.xor_comm y] at e
    exact xor_left e
theorem sumN_set : ∀ (l : List UInt8) (j : Nat) (w : UInt8) {x : Nat}, x < 4294967296 → (h : j < l.length) → w ≠ l[j] → sumN x (l.set j w) ≠ sumN x l
  | u :: l, 0, w, x, hx, _, hw => by
    intro h
    have e := stn_inj 8 (byte_lt hx w) (byte_lt hx u) (sumN_inj l (stn_lt 8 (byte_lt hx w)) (stn_lt 8 (byte_lt hx u)) h)
    exact hw (UInt8.toNat_inj.1 (xor_left e))
  | u :: l, j + 1, w, x, hx, hj, hw => by
    exact sumN_set l j w (stn_lt 8 (byte_lt hx u)) (by simpa using hj) (by simpa using hw)
/-- The sum in four bytes. -/
def sealB (x : Nat) : List UInt8 := [UInt8.ofNat (x / 16777216), UInt8.ofNat (x / 65536), UInt8.ofNat (x / 256), UInt8.ofNat x]
theorem seal_inj {x y : Nat} (hx : x < 4294967296) (hy : y < 4294967296) (h : sealB x = sealB y) : x = y := by
  simp only [sealB, List.cons.injEq, and_true] at h
  obtain ⟨h1, h2, h3, h4⟩ := h
  have e1 := congrArg UInt8.toNat h1
  have e2 := congrArg UInt8.toNat h2
  have e3 := congrArg UInt8.toNat h3
  have e4 := congrArg UInt8.toNat h4
  simp only [UInt8.toNat_ofNat'] at e1 e2 e3 e4
  omega
theorem turned (l : List UInt8) (j : Nat) (w : UInt8) (hj : j < (l ++ sealB (sumN 4294967295 l)).length) (hw : w ≠ (l ++ sealB (sumN 4294967295 l))[j]) :
    sealB (sumN 4294967295 (((l ++ sealB (sumN 4294967295 l)).set j w).take l.length)) ≠ ((l ++ sealB (sumN 4294967295 l)).set j w).drop l.length := by
  by_cases h : j < l.length
  · rw [List.set_append_left _ _ h, List.take_left' (by simp), List.drop_left' (by simp)]
    intro e
    refine sumN_set l j w (by omega) h ?_ (seal_inj (sumN_lt _ (by omega)) (sumN_lt _ (by omega)) e)
    rw [List.getElem_append_left h] at hw
    exact hw
  · rw [List.set_append_right _ _ (by omega), List.take_left' rfl, List.drop_left' rfl]
    rw [List.getElem_append_right (by omega)] at hw
    intro e
    have h2 : j - l.length < (sealB (sumN 4294967295 l)).length := by
      rw [List.length_append] at hj
      omega
    have h3 := congrArg (fun z => z[j - l.length]?) e
    simp only [List.getElem?_set_self h2, List.getElem?_eq_getElem h2] at h3
    exact hw (Option.some.inj h3).symm
theorem more_bits (s : ByteArray) (i : Int) (n : Nat) : ∀ (k x : Nat) (j : Int), x < 4294967296 → 0 ≤ j → 8 - j = n → impl_SumMore.l1 (k + n + 1) (x : Int) s i j = impl_SumMore.l0 k ((stn n x : Nat) : Int) s (wrap64 (i + 1)) := by
  induction n with
  | zero =>
    intro k x j hx h0 hj
    rw [impl_SumMore.l1, if_neg (by omega)]
    rfl
  | succ n ih =>
    intro k x j hx h0 hj
    rw [show k + (n + 1) + 1 = (k + n + 1) + 1 by omega, impl_SumMore.l1, if_pos (by omega), and_one (by omega) (by omega), show ((x : Int) / 2) = ((x / 2 : Nat) : Int) by omega, w64 (n := j + 1) (by omega) (by omega)]
    have e3 : (3558460437 : Int) = ((3558460437 : Nat) : Int) := rfl
    rw [e3, xor_nat _ _ (by omega) (by omega)]
    by_cases h : x % 2 = 1
    · rw [if_pos (by omega), ih k _ (j + 1) (Nat.xor_lt_two_pow (n := 32) (by omega) (by omega)) (by omega) (by omega)]
      rw [stn, st, if_pos h]
    · rw [if_neg (by omega), ih k _ (j + 1) (by omega) (by omega) (by omega)]
      rw [stn, st, if_neg h]
theorem more_loop (s : ByteArray) (hs : s.size ≤ 1000000) (d : Nat) : ∀ (k i x : Nat), x < 4294967296 → s.size - i = d → i ≤ s.size → impl_SumMore.l0 (k + 10 * d + 1) (x : Int) s (i : Int) = some ((sumN x (s.data.toList.drop i) : Nat) : Int) := by
  induction d with
  | zero =>
    intro k i x hx hd hi
    rw [impl_SumMore.l0, if_neg (by omega), List.drop_of_length_le (by simp; omega)]
    rfl
  | succ d ih =>
    intro k i x hx hd hi
    have hlt : i < s.size := by omega
    have hl : i < s.data.toList.length := by simpa using hlt
    have hb := (s[i]'hlt).toNat_lt
    rw [show k + 10 * (d + 1) + 1 = ((k + 10 * d + 1) + 8 + 1) + 1 by omega, impl_SumMore.l0, if_pos (by omega), if_pos (by omega), bt_at' s i hlt, show (((s[i]'hlt).toNat : Int) % 4294967296) = (((s[i]'hlt).toNat : Nat) : Int) by omega, xor_nat _ _ hx (by omega),
      more_bits s (i : Int) 8 _ _ 0 (byte_lt hx _) (by omega) (by omega), w64 (n := (i : Int) + 1) (by omega) (by omega), show (i : Int) + 1 = ((i + 1 : Nat) : Int) by omega, ih k (i + 1) _ (stn_lt 8 (byte_lt hx _)) (by omega) (by omega), List.drop_eq_getElem_cons hl]
    rfl
theorem more_val (s : ByteArray) (hs : s.size ≤ 1000000) (x : Nat) (hx : x < 4294967296) (k : Nat) (hk : 10 * s.size < k) : impl_SumMore.f k (x : Int) s = some ((sumN x s.data.toList : Nat) : Int) := by
  unfold impl_SumMore.f
  have h := more_loop s hs s.size (k - 10 * s.size - 1) 0 x hx (by omega) (by omega)
  rw [show k - 10 * s.size - 1 + 10 * s.size + 1 = k by omega] at h
  exact h
theorem sum_val (s : ByteArray) (hs : s.size ≤ 1000000) (k : Nat) (hk : 10 * s.size < k) : impl_SumOf.f k s = some ((sumN 4294967295 s.data.toList : Nat) : Int) := by
  unfold impl_SumOf.f
  have h := more_val s hs 4294967295 (by omega) k hk
  rw [show ((4294967295 : Nat) : Int) = 4294967295 from rfl] at h
  rw [h]
  rfl
theorem text_val (s : ByteArray) (hs : s.size ≤ 1000000) (k : Nat) (hk : 10 * s.size < k) : ∃ z : ByteArray, impl_sumText.f k s = some z ∧ z.data.toList = sealB (sumN 4294967295 s.data.toList) ∧ z.size = 4 := by
  unfold impl_sumText.f
  rw [sum_val s hs k hk, Option.bind_some]
  refine ⟨_, rfl, ?_, by simp [str_size]⟩
  have hlt := sumN_lt s.data.toList (x := 4294967295) (by omega)
  generalize sumN 4294967295 s.data.toList = q at *
  rw [strOfNums_data]
  simp only [List.map_cons, List.map_nil, sealB]
  congr 1
  · apply UInt8.toNat_inj.1
    simp only [UInt8.toNat_ofNat']
    omega
  · congr 1
    · apply UInt8.toNat_inj.1
      simp only [UInt8.toNat_ofNat']
      omega
    · congr 1
      · apply UInt8.toNat_inj.1
        simp only [UInt8.toNat_ofNat']
        omega
      · congr 1
        apply UInt8.toNat_inj.1
        simp only [UInt8.toNat_ofNat']
        omega
theorem unsealed_val (z : ByteArray) (hz : 4 ≤ z.size) (hz1 : z.size ≤ 1000) (k : Nat) (hk : 10 * z.size < k) :
    impl_Unsealed.f k z = some (if sealB (sumN 4294967295 (z.data.toList.take (z.size - 4))) = z.data.toList.drop (z.size - 4) then (z.extract 0 (z.size - 4), true) else (⟨#[]⟩, false)) := by
  unfold impl_Unsealed.f
  rw [w64 (n := (z.size : Int) - 4) (by omega) (by omega), if_neg (by omega), if_neg (by omega), if_pos (by omega), if_pos (by omega), show ((z.size : Int) - 4).toNat = z.size - 4 by omega]
  have hd : (z.extract 0 (z.size - 4)).data.toList = z.data.toList.take (z.size - 4) := by
    rw [Lib.extract_data, List.drop_zero, Nat.sub_zero]
  have hsz : (z.extract 0 (z.size - 4)).size = z.size - 4 := by
    have h := congrArg List.length hd
    simp only [List.length_take] at h
    have h1 : (z.extract 0 (z.size - 4)).data.toList.length = (z.extract 0 (z.size - 4)).size := by simp
    have h2 : z.data.toList.length = z.size := by simp
    omega
  obtain ⟨q, e, hq, _⟩ := text_val (z.extract 0 (z.size - 4)) (by omega) k (by omega)
  have hd2 : (z.extract (z.size - 4) z.size).data.toList = z.data.toList.drop (z.size - 4) := by
    rw [Lib.extract_data]
    refine List.take_of_length_le ?_
    have h2 : z.data.toList.length = z.size := by simp
    rw [List.length_drop]
    omega
  rw [e, Option.bind_some, Lib.toList_data, Lib.toList_data, hq, hd, hd2]
  split <;> rfl
theorem sealed_val (s : ByteArray) (hs : s.size ≤ 1000) (k : Nat) (hk : 10 * s.size < k) : ∃ t : ByteArray, impl_Sealed.f k s = some (t, true) ∧ t.data.toList = s.data.toList ++ sealB (sumN 4294967295 s.data.toList) ∧ t.size = s.size + 4 := by
  unfold impl_Sealed.f
  obtain ⟨z, e, hz, hz4⟩ := text_val s (by omega) k hk
  rw [if_neg (by omega), e, Option.bind_some, if_pos (by omega)]
  refine ⟨_, rfl, ?_, ?_⟩
  · rw [ByteArray.data_append, Array.toList_append, hz]
  · rw [ByteArray.size_append, hz4]

/-- A draw of one byte, wherever the reader stands. -/
theorem draw_byte (l : List Int) (hl : l.length ≤ 140737488355328) (i h : Int) (h0 : 0 ≤ i) (h1 : i ≤ l.length) :
    ∃ x i' h' : Int, spec_l01Byte.f l i h = some (x, i', h') ∧ 0 ≤ x ∧ x < 256 ∧ 0 ≤ i' ∧ i' ≤ l.length := by
  unfold spec_l01Byte.f
  by_cases hlt : i < (l.length : Int)
  · rw [if_pos hlt, if_pos h0, w64 (n := i + 1) (by omega) (by omega)]
    exact ⟨_, _, _, rfl, (and255 _).1, (and255 _).2, by omega, by omega⟩
  · rw [if_neg hlt]
    exact ⟨_, _, _, rfl, (and255 _).1, (and255 _).2, h0, h1⟩

/-- A drawn number below n. -/
theorem draw_below (l : List Int) (hl : l.length ≤ 140737488355328) (i h : Int) (h0 : 0 ≤ i) (h1 : i ≤ l.length) (n : Int) (hn : 0 < n) :
    ∃ x i' h' : Int, spec_l01Below.f l i h n = some (x, i', h') ∧ 0 ≤ x ∧ x < n ∧ 0 ≤ i' ∧ i' ≤ l.length := by
  unfold spec_l01Below.f
  obtain ⟨x, i1, g1, e1, a1, b1, c1, d1⟩ := draw_byte l hl i h h0 h1
  rw [if_neg (by omega)]
  by_cases hs : n ≤ 256
  · rw [if_pos hs, e1]
    simp only [Option.bind_some]
    rw [if_neg (by omega), tmod_pos a1]
    exact ⟨_, _, _, rfl, Int.emod_nonneg _ (by omega), Int.emod_lt_of_pos _ hn, c1, d1⟩
  · obtain ⟨y, i2, g2, e2, a2, b2, c2, d2⟩ := draw_byte l hl i1 g1 c1 d1
    obtain ⟨z, i3, g3, e3, a3, b3, c3, d3⟩ := draw_byte l hl i2 g2 c2 d2
    obtain ⟨w, i4, g4, e4, a4, b4, c4, d4⟩ := draw_byte l hl i3 g3 c3 d3
    rw [if_neg hs, e1]
    simp only [Option.bind_some, e2, e3, e4]
    rw [w64 (n := x * 16777216) (by omega) (by omega), w64 (n := y * 65536) (by omega) (by omega), w64 (n := z * 256) (by omega) (by omega), w64 (n := x * 16777216 + y * 65536) (by omega) (by omega),
      w64 (n := x * 16777216 + y * 65536 + z * 256) (by omega) (by omega), w64 (n := x * 16777216 + y * 65536 + z * 256 + w) (by omega) (by omega), if_neg (by omega), tmod_pos (by omega)]
    exact ⟨_, _, _, rfl, Int.emod_nonneg _ (by omega), Int.emod_lt_of_pos _ hn, c4, d4⟩

theorem draw_new_loop (l : List Int) (hl : l.length ≤ 140737488355328) (d : Nat) : ∀ (k : Nat) (h i : Int), 0 ≤ i → i ≤ l.length → (l.length : Int) - i = d → d < k → ∃ h' : Int, spec_l01New.l0 k l h i = some (l, 0, h') := by
  induction d with
  | zero =>
    intro k h i h0 h1 hd hk
    obtain ⟨k, rfl⟩ : ∃ m, k = m + 1 := ⟨k - 1, by omega⟩
    simp only [spec_l01New.l0]
    rw [if_neg (by omega)]
    exact ⟨_, rfl⟩
  | succ d ih =>
    intro k h i h0 h1 hd hk
    obtain ⟨k, rfl⟩ : ∃ m, k = m + 1 := ⟨k - 1, by omega⟩
    simp only [spec_l01New.l0]
    have hlt : i < (l.length : Int) := by omega
    rw [if_pos hlt]
    by_cases h4 : i < 4000
    · rw [if_pos h4, if_pos h0, w64 (n := i + 1) (by omega) (by omega)]
      exact ih k _ (i + 1) (by omega) (by omega) (by omega) (by omega)
    · rw [if_neg h4]
      exact ⟨_, rfl⟩

theorem draw_new (l : List Int) (hl : l.length ≤ 140737488355328) (k : Nat) (hk : l.length < k) : ∃ h : Int, spec_l01New.f k l = some (l, 0, h) := by
  unfold spec_l01New.f
  exact draw_new_loop l hl l.length k _ 0 (by omega) (by omega) (by omega) hk

theorem draw_places_loop (l : List Int) (hl : l.length ≤ 140737488355328) (d : Nat) : ∀ (k : Nat) (acc : List Int) (j i h : Int), 0 ≤ i → i ≤ l.length → 12 - j = d → (acc.length : Int) = j → (∀ x ∈ acc, 0 ≤ x ∧ x < 10000) → d < k →
    ∃ r : List Int, spec_DrawPlaces.l0 k acc j l i h = some r ∧ r.length = 12 ∧ ∀ x ∈ r, 0 ≤ x ∧ x < 10000 := by
  induction d with
  | zero =>
    intro k acc j i h h0 h1 hd hj hx hk
    obtain ⟨k, rfl⟩ : ∃ m, k = m + 1 := ⟨k - 1, by omega⟩
    simp only [spec_DrawPlaces.l0]
    rw [if_neg (by omega)]
    exact ⟨acc, rfl, by omega, hx⟩
  | succ d ih =>
    intro k acc j i h h0 h1 hd hj hx hk
    obtain ⟨k, rfl⟩ : ∃ m, k = m + 1 := ⟨k - 1, by omega⟩
    simp only [spec_DrawPlaces.l0]
    obtain ⟨x, i', h', e, a, b, c, dd⟩ := draw_below l hl i h h0 h1 10000 (by omega)
    rw [if_pos (by omega), e]
    simp only [Option.bind_some]
    rw [if_pos (by omega), w64 (n := j + 1) (by omega) (by omega)]
    refine ih k _ (j + 1) i' h' c dd (by omega) (by simp only [List.length_append, List.length_cons, List.length_nil]; omega) (fun y hy => ?_) (by omega)
    rcases List.mem_append.1 hy with hy | hy
    · exact hx y hy
    · simp only [List.mem_singleton] at hy
      subst hy
      exact ⟨a, b⟩

theorem draw_places (l : List Int) (hl : l.length ≤ 140737488355328) (k : Nat) (hk : l.length + 13 < k) : ∃ r : List Int, spec_DrawPlaces.f k l = some r ∧ r.length = 12 ∧ ∀ j : Nat, j < 12 → 0 ≤ rd r j ∧ rd r j < 10000 := by
  unfold spec_DrawPlaces.f
  obtain ⟨h, e⟩ := draw_new l hl k (by omega)
  obtain ⟨x, i', h', e', a, b, c, d⟩ := draw_byte l hl 0 h (by omega) (by omega)
  rw [e]
  simp only [Option.bind_some, e']
  obtain ⟨r, er, hr, hx⟩ := draw_places_loop l hl 12 k [] 0 i' h' c d (by omega) rfl (fun y hy => by simp at hy) (by omega)
  refine ⟨r, er, hr, fun j hj => ?_⟩
  have hm : rd r j ∈ r := by
    unfold rd
    rw [show ((j : Int)).toNat = j by omega, List.getD_eq_getElem?_getD, List.getElem?_eq_getElem (by omega)]
    exact List.getElem_mem _
  exact hx _ hm

theorem text_loop (l : List Int) (hl : l.length ≤ 140737488355328) (a : Int) (ha : a ≤ 5000) (d : Nat) : ∀ (k : Nat) (acc : List Int) (j i h : Int), 0 ≤ i → i ≤ l.length → 0 ≤ j → j ≤ a → a - j = d → (acc.length : Int) = j → d < k →
    ∃ (s : ByteArray) (i' h' : Int), spec_l01Text.l0 k a acc j l i h = some (s, i', h') ∧ (s.size : Int) = a := by
  induction d with
  | zero =>
    intro k acc j i h h0 h1 hj ha1 hd hacc hk
    obtain ⟨k, rfl⟩ : ∃ m, k = m + 1 := ⟨k - 1, by omega⟩
    rw [spec_l01Text.l0, if_neg (by omega)]
    exact ⟨_, _, _, rfl, by rw [str_size]; omega⟩
  | succ d ih =>
    intro k acc j i h h0 h1 hj ha1 hd hacc hk
    obtain ⟨k, rfl⟩ : ∃ m, k = m + 1 := ⟨k - 1, by omega⟩
    obtain ⟨x, i', h', e, a1, b1, c1, d1⟩ := draw_byte l hl i h h0 h1
    rw [spec_l01Text.l0, if_pos (by omega), e, Option.bind_some, if_pos (by omega), w64 (n := j + 1) (by omega) (by omega)]
    exact ih k _ (j + 1) i' h' c1 d1 (by omega) (by omega) (by omega) (by simp; omega) (by omega)
theorem draw_text (l : List Int) (hl : l.length ≤ 140737488355328) (k : Nat) (hk : l.length + 100 < k) : ∃ s : ByteArray, spec_DrawSumOf.f k l = some s ∧ s.size < 40 := by
  obtain ⟨h, e⟩ := draw_new l hl k (by omega)
  obtain ⟨n, i1, g1, e1, a1, b1, c1, d1⟩ := draw_below l hl 0 h (by omega) (by omega) 40 (by omega)
  unfold spec_DrawSumOf.f spec_l01Text.f
  rw [e, Option.bind_some]
  simp only
  rw [e1, Option.bind_some]
  simp only
  rw [if_neg (by omega)]
  obtain ⟨k, rfl⟩ : ∃ m, k = m + 1 := ⟨k - 1, by omega⟩
  obtain ⟨s, i', h', e2, hs⟩ := text_loop l hl n (by omega) n.toNat k [] 0 i1 g1 c1 d1 (by omega) (by omega) (by omega) rfl (by omega)
  rw [spec_l01Text.j0, e2, Option.bind_some]
  exact ⟨s, rfl, by omega⟩
theorem bytesOf_back (t : ByteArray) : ((bytesOf t).map fun n => UInt8.ofNat n.toNat) = t.data.toList := by
  unfold bytesOf
  rw [List.map_map]
  conv => rhs; rw [← List.map_id t.data.toList]
  apply List.map_congr_left
  intro u _
  simp
theorem turn_ne (u : UInt8) (q : Nat) (h0 : 0 < q) (h1 : q < 256) : UInt8.ofNat (u.toNat ^^^ q) ≠ u := by
  intro h
  have hb := u.toNat_lt
  have hx : u.toNat ^^^ q < 2 ^ 8 := Nat.xor_lt_two_pow (n := 8) (by omega) (by omega)
  have e := congrArg UInt8.toNat h
  simp only [UInt8.toNat_ofNat'] at e
  rw [Nat.mod_eq_of_lt (by omega)] at e
  have e2 : u.toNat ^^^ q = u.toNat ^^^ 0 := by rw [e, Nat.xor_zero]
  have := xor_left e2
  omega
theorem byte_at (t : ByteArray) (j : Nat) (h : j < t.size) : ∀ (L : List UInt8), L = t.data.toList → (hj : j < L.length) → L[j] = t[j] := by
  rintro _ rfl hj
  rw [Array.getElem_toList]
  rfl
theorem FnTurned : laws_FnTurned.Pure := by
  intro l _ hl _
  refine ⟨l.length + 1000 + 1, ?_⟩
  unfold laws_FnTurned.f laws_big.f
  rw [Option.bind_some]
  by_cases hbig : decide ((l.length : Int) > 1048576) = true
  · rw [if_pos hbig]
  · rw [if_neg hbig]
    clear hbig
    obtain ⟨s, e1, hs⟩ := draw_text l (by omega) (l.length + 1000 + 1) (by omega)
    obtain ⟨p, e2, hp, hpp⟩ := draw_places l (by omega) (l.length + 1000 + 1) (by omega)
    obtain ⟨t, e3, ht, hts⟩ := sealed_val s (by omega) (l.length + 1000 + 1) (by omega)
    have hsl : s.data.toList.length = s.size := by simp
    have e4 := unsealed_val t (by omega) (by omega) (l.length + 1000 + 1) (by omega)
    rw [ht, show t.size - 4 = s.data.toList.length by omega, List.take_left' rfl, List.drop_left' rfl, if_pos rfl] at e4
    have hu : (t.extract 0 s.data.toList.length).toList = s.toList := by
      rw [Lib.toList_data, Lib.toList_data, Lib.extract_data, List.drop_zero, Nat.sub_zero, ht, List.take_left' rfl]
    rw [e1, Option.bind_some, e2, Option.bind_some, e3, Option.bind_some]
    simp only
    rw [e4, Option.bind_some, if_pos trivial]
    simp only
    rw [if_pos trivial, if_pos hu, w64 (n := (s.size : Int) + 4) (by omega) (by omega), show ((t.size : Int) != (s.size : Int) + 4) = false by simp; omega]
    have p0 := hpp 0 (by omega)
    have p1 := hpp 1 (by omega)
    have hyl : (bytesOf t).length = t.size := bytesOf_length t
    rw [laws_FnTurned.j0, if_neg (by decide), if_pos (by omega), Option.bind_some, if_pos (by omega), if_neg (by omega), hyl]
    have z0 : ((0 : Nat) : Int) = 0 := rfl
    have z1 : ((1 : Nat) : Int) = 1 := rfl
    rw [z0] at p0
    rw [z1] at p1
    generalize rd p 0 = a at *
    generalize rd p 1 = b at *
    have hts0 : (0 : Int) < (t.size : Int) := by omega
    have hm := Int.emod_nonneg a (show (t.size : Int) ≠ 0 by omega)
    have hm2 := Int.emod_lt_of_pos a hts0
    rw [tmod_pos p0.1, tmod_pos p1.1, if_pos hm, if_pos hm2, if_pos (by omega)]
    obtain ⟨j, hj⟩ := Int.eq_ofNat_of_zero_le hm
    rw [hj] at hm2 ⊢
    have hjl : j < t.size := by omega
    have hb0 : 0 ≤ b % 255 ∧ b % 255 < 255 := by omega
    rw [w64 (n := 1 + b % 255) (by omega) (by omega), show (1 + b % 255) % 256 = 1 + b % 255 by omega, rd_bytesOf, bt_at' t j hjl]
    obtain ⟨q, hq⟩ := Int.eq_ofNat_of_zero_le (show 0 ≤ 1 + b % 255 by omega)
    have hub := (t[j]'hjl).toNat_lt
    rw [hq, xor_nat8 _ _ (by omega) (by omega)]
    have hz : (strOfNums ((bytesOf t).set ((j : Int)).toNat (((t[j]'hjl).toNat ^^^ q : Nat) : Int))).data.toList = (s.data.toList ++ sealB (sumN 4294967295 s.data.toList)).set j (UInt8.ofNat ((t[j]'hjl).toNat ^^^ q)) := by
      rw [strOfNums_data, List.map_set, bytesOf_back, ht]
      simp
    have hzs : (strOfNums ((bytesOf t).set ((j : Int)).toNat (((t[j]'hjl).toNat ^^^ q : Nat) : Int))).size = t.size := by
      rw [str_size, List.length_set, hyl]
    have hjl2 : j < (s.data.toList ++ sealB (sumN 4294967295 s.data.toList)).length := by
      rw [← ht]
      simpa using hjl
    have hget : (s.data.toList ++ sealB (sumN 4294967295 s.data.toList))[j] = t[j]'hjl := byte_at t j hjl _ ht.symm hjl2
    have e5 := unsealed_val (strOfNums ((bytesOf t).set ((j : Int)).toNat (((t[j]'hjl).toNat ^^^ q : Nat) : Int))) (by omega) (by omega) (l.length + 1000) (by omega)
    rw [hz, hzs, show t.size - 4 = s.data.toList.length by omega, if_neg (turned s.data.toList j _ hjl2 (by rw [hget]; exact turn_ne _ q (by omega) (by omega)))] at e5
    have hX : (⟨#[120]⟩ : ByteArray).size = 1 := rfl
    have hsx : (s ++ (⟨#[120]⟩ : ByteArray)).size = s.size + 1 := by rw [ByteArray.size_append, hX]
    have hfin : sumN (sumN 4294967295 s.data.toList) (⟨#[120]⟩ : ByteArray).data.toList = sumN 4294967295 (s ++ (⟨#[120]⟩ : ByteArray)).data.toList := by
      rw [ByteArray.data_append, Array.toList_append]
      unfold sumN
      rw [List.foldl_append]
    rw [e5, Option.bind_some, if_neg (by decide), sum_val s (by omega) _ (by omega), Option.bind_some, more_val _ (by omega) _ (sumN_lt _ (by omega)) _ (by omega), Option.bind_some, if_pos (by omega), sum_val _ (by omega) _ (by omega), Option.bind_some, hfin]
    simp
end Go.Proofs.Ytpeopmkgabfjbaa.Pure
