/- FnNumbers: a drawn number comes back from VarText and from Decimal, a drawn text from ShortText and Hex; for every code. -/
import Derived.Test.YtekoemmlkdancaaDoorQFnNumbersx0
import Derived.Test.YtekoemmlkdancaaDoorQFnNumbersx1
import Derived.Test.YtekoemmlkdancaaDoorQFnNumbersx2
import Derived.Test.YtekoemmlkdancaaDoorQFnNumbersx3
import Derived.Test.YtekoemmlkdancaaDoorQFnNumbersx4
import Derived.Test.YtekoemmlkdancaaDoorPlain
namespace Go.Proofs.YtekoemmlkdancaaDoor.Pure
open Go.RowKit Go.Proofs.YtekoemmlkdancaaDoor.PFnNumbers Go.Proofs.YtekoemmlkdancaaDoor.Plain Go.Proofs.YtekoemmlkdancaaDoorW.PrintWords Go.Proofs.YtekoemmlkdancaaDoorW.PrintLast

/-- A draw of one byte, wherever the reader stands. -/
theorem draw_byte (l : List Int) (hl : l.length ≤ 140737488355328) (i h : Int) (h0 : 0 ≤ i) (h1 : i ≤ l.length) :
    ∃ x i' h' : Int, spec_l01Byte.f l i h = some (x, i', h') ∧ 0 ≤ x ∧ x < 256 ∧ 0 ≤ i' ∧ i' ≤ l.length := by
  unfold spec_l01Byte.f
  by_cases hlt : i < (l.length : Int)
  · rw [if_pos hlt, if_pos h0, w64 (n := i + 1) (by omega) (by omega)]
    exact ⟨_, _, _, rfl, (and255 _).1, (and255 _).2, by omega, by omega⟩
  · rw [if_neg hlt]
    exact ⟨_, _, _, rfl, (and255 _).1, (and255 _).2, h0, h1⟩

/-- A drawn number below n. -/
theorem draw_below (l : List Int) (hl : l.length ≤ 140737488355328) (i h : Int) (h0 : 0 ≤ i) (h1 : i ≤ l.length) (n : Int) (hn : 0 < n) :
    ∃ x i' h' : Int, spec_l01Below.f l i h n = some (x, i', h') ∧ 0 ≤ x ∧ x < n ∧ 0 ≤ i' ∧ i' ≤ l.length := by
  unfold spec_l01Below.f
  obtain ⟨x, i1, g1, e1, a1, b1, c1, d1⟩ := draw_byte l hl i h h0 h1
  rw [if_neg (by omega)]
  by_cases hs : n ≤ 256
  · rw [if_pos hs, e1]
    simp only [Option.bind_some]
    rw [if_neg (by omega), tmod_pos a1]
    exact ⟨_, _, _, rfl, Int.emod_nonneg _ (by omega), Int.emod_lt_of_pos _ hn, c1, d1⟩
  · obtain ⟨y, i2, g2, e2, a2, b2, c2, d2⟩ := draw_byte l hl i1 g1 c1 d1
    obtain ⟨z, i3, g3, e3, a3, b3, c3, d3⟩ := draw_byte l hl i2 g2 c2 d2
    obtain ⟨w, i4, g4, e4, a4, b4, c4, d4⟩ := draw_byte l hl i3 g3 c3 d3
    rw [if_neg hs, e1]
    simp only [Option.bind_some, e2, e3, e4]
    rw [w64 (n := x * 16777216) (by omega) (by omega), w64 (n := y * 65536) (by omega) (by omega), w64 (n := z * 256) (by omega) (by omega), w64 (n := x * 16777216 + y * 65536) (by omega) (by omega),
      w64 (n := x * 16777216 + y * 65536 + z * 256) (by omega) (by omega), w64 (n := x * 16777216 + y * 65536 + z * 256 + w) (by omega) (by omega), if_neg (by omega), tmod_pos (by omega)]
    exact ⟨_, _, _, rfl, Int.emod_nonneg _ (by omega), Int.emod_lt_of_pos _ hn, c4, d4⟩

theorem draw_new_loop (l : List Int) (hl : l.length ≤ 140737488355328) (d : Nat) : ∀ (k : Nat) (h i : Int), 0 ≤ i → i ≤ l.length → (l.length : Int) - i = d → d < k → ∃ h' : Int, spec_l01New.l0 k l h i = some (l, 0, h') := by
  induction d with
  | zero =>
    intro k h i h0 h1 hd hk
    obtain ⟨k, rfl⟩ : ∃ m, k = m + 1 := ⟨k - 1, by omega⟩
    simp only [spec_l01New.l0]
    rw [if_neg (by omega)]
    exact ⟨_, rfl⟩
  | succ d ih =>
    intro k h i h0 h1 hd hk
    obtain ⟨k, rfl⟩ : ∃ m, k = m + 1 := ⟨k - 1, by omega⟩
    simp only [spec_l01New.l0]
    have hlt : i < (l.length : Int) := by omega
    rw [if_pos hlt]
    by_cases h4 : i < 4000
    · rw [if_pos h4, if_pos h0, w64 (n := i + 1) (by omega) (by omega)]
      exact ih k _ (i + 1) (by omega) (by omega) (by omega) (by omega)
    · rw [if_neg h4]
      exact ⟨_, rfl⟩

theorem draw_new (l : List Int) (hl : l.length ≤ 140737488355328) (k : Nat) (hk : l.length < k) : ∃ h : Int, spec_l01New.f k l = some (l, 0, h) := by
  unfold spec_l01New.f
  exact draw_new_loop l hl l.length k _ 0 (by omega) (by omega) (by omega) hk

theorem impl_var (n : Nat) : ∀ (k : Nat) (acc : List Int), n < k → acc.length + n < 140737488355328 → impl_varText.l0 k (n : Int) acc = some (strOfNums (acc ++ vtL n)) := by
  induction n using Nat.strongRecOn with
  | ind n ih =>
    intro k acc hk hn
    obtain ⟨k, rfl⟩ : ∃ m, k = m + 1 := ⟨k - 1, by omega⟩
    simp only [impl_varText.l0]
    by_cases h : 127 < n
    · rw [if_pos (by omega), if_pos (by omega), tdiv_pos (by omega), tmod_pos (by omega), w64 (n := (n : Int) / 128) (by omega) (by omega), w64 (n := 128 + (n : Int) % 128) (by omega) (by omega)]
      rw [show (n : Int) / 128 = ((n / 128 : Nat) : Int) by omega, ih (n / 128) (by omega) k _ (by omega) (by simp only [List.length_append, List.length_cons, List.length_nil]; omega), vtL_big h,
        show (128 + (n : Int) % 128) % 256 = ((n % 128 + 128 : Nat) : Int) by omega]
      simp
    · rw [if_neg (by omega), if_pos (by omega), vtL_small h, show (n : Int) % 256 = (n : Int) by omega]

theorem dig_wrap (c u : Nat) (hc : c < 256) (hu : u ≤ 268435456) : wrap64 (Int.tmod (c : Int) 128 * (u : Int)) = ((c % 128 * u : Nat) : Int) := by
  rw [tmod_pos (by omega)]
  have h : c % 128 * u ≤ 127 * 268435456 := Nat.mul_le_mul (by omega) hu
  have e : ((c : Int) % 128) * (u : Int) = ((c % 128 * u : Nat) : Int) := by push_cast; rfl
  rw [e]
  generalize c % 128 * u = p at h
  exact w64 (by omega) (by omega)

theorem sum_small (n c u : Nat) (hn : n < u) (hu : u ≤ 268435456) : n + c % 128 * u ≤ 281474976710656 := by
  have h : c % 128 * u ≤ 127 * 268435456 := Nat.mul_le_mul (by omega) hu
  generalize c % 128 * u = p at h
  omega

theorem wnat1 (n : Nat) (h : n ≤ 281474976710656) : wrap64 ((n : Int) + 1) = ((n + 1 : Nat) : Int) := by rw [w64 (by omega) (by omega)]; omega
theorem wnat (n : Nat) (h : n ≤ 281474976710656) : wrap64 (n : Int) = (n : Int) := w64 (by omega) (by omega)
theorem wmul (n : Nat) (h : n ≤ 281474976710656) : wrap64 ((n : Int) * 128) = ((n * 128 : Nat) : Int) := by rw [w64 (by omega) (by omega)]; omega

theorem impl_dec (n : Int) (h0 : -9223372036854775808 ≤ n) (h1 : n ≤ 9223372036854775807) : impl_Decimal.f n = some ⟨(Lib.itoa n).toArray⟩ := by
  unfold impl_Decimal.f strconv_Itoa.f
  rw [if_pos h0, if_pos h1]
  rfl

theorem text_loop (l : List Int) (hl : l.length ≤ 140737488355328) (a : Int) (ha : a ≤ 5000) (d : Nat) : ∀ (k : Nat) (acc : List Int) (j i h : Int), 0 ≤ i → i ≤ l.length → 0 ≤ j → j ≤ a → a - j = d → (acc.length : Int) = j → d < k →
    ∃ (s : ByteArray) (i' h' : Int), spec_l01Text.l0 k a acc j l i h = some (s, i', h') ∧ (s.size : Int) = a := by
  induction d with
  | zero =>
    intro k acc j i h h0 h1 hj ha1 hd hacc hk
    obtain ⟨k, rfl⟩ : ∃ m, k = m + 1 := ⟨k - 1, by omega⟩
    rw [spec_l01Text.l0, if_neg (by omega)]
    exact ⟨_, _, _, rfl, by rw [str_size]; omega⟩
  | succ d ih =>
    intro k acc j i h h0 h1 hj ha1 hd hacc hk
    obtain ⟨k, rfl⟩ : ∃ m, k = m + 1 := ⟨k - 1, by omega⟩
    obtain ⟨x, i', h', e, a1, b1, c1, d1⟩ := draw_byte l hl i h h0 h1
    rw [spec_l01Text.l0, if_pos (by omega), e, Option.bind_some, if_pos (by omega), w64 (n := j + 1) (by omega) (by omega)]
    exact ih k _ (j + 1) i' h' c1 d1 (by omega) (by omega) (by omega) (by simp; omega) (by omega)
theorem long_loop (a c : Int) (d : Nat) : ∀ (k : Nat) (acc : List Int) (j : Int), 0 ≤ j → j ≤ a → a ≤ 30000 → a - j = d → (acc.length : Int) = a → d < k → ∃ s : ByteArray, spec_l01Long.l0 k a c acc j = some s := by
  induction d with
  | zero =>
    intro k acc j h0 h1 ha hd hacc hk
    obtain ⟨k, rfl⟩ : ∃ m, k = m + 1 := ⟨k - 1, by omega⟩
    rw [spec_l01Long.l0, if_neg (by omega)]
    exact ⟨_, rfl⟩
  | succ d ih =>
    intro k acc j h0 h1 ha hd hacc hk
    obtain ⟨k, rfl⟩ : ∃ m, k = m + 1 := ⟨k - 1, by omega⟩
    rw [spec_l01Long.l0, if_pos (by omega), if_pos h0, if_pos (by omega), w64 (n := j + 1) (by omega) (by omega)]
    exact ih k _ (j + 1) (by omega) (by omega) ha (by omega) (by simp; exact hacc) (by omega)
theorem draw_hex (l : List Int) (hl : l.length ≤ 140737488355328) (k : Nat) (hk : l.length + 40000 < k) : ∃ t : ByteArray, spec_DrawHex.f k l = some t := by
  obtain ⟨h, e⟩ := draw_new l hl k (by omega)
  obtain ⟨n, i1, g1, e1, a1, b1, c1, d1⟩ := draw_below l hl 0 h (by omega) (by omega) 60 (by omega)
  unfold spec_DrawHex.f spec_l01Once.f
  rw [e, Option.bind_some]
  simp only
  rw [e1, Option.bind_some]
  simp only [Option.bind_some]
  by_cases hz : (n == 0) = true
  · rw [if_pos hz]
    obtain ⟨m, i2, g2, e2, a2, b2, c2, d2⟩ := draw_below l hl i1 g1 c1 d1 2 (by omega)
    rw [e2, Option.bind_some]
    simp only
    rw [w64 (n := 20000 + m) (by omega) (by omega)]
    unfold spec_l01Long.f
    rw [if_pos (by omega), if_pos (by omega)]
    obtain ⟨s, e3⟩ := long_loop (20000 + m) 200 (20000 + m).toNat k (List.replicate (20000 + m).toNat 0) 0 (by omega) (by omega) (by omega) (by omega) (by simp; omega) (by omega)
    rw [e3]
    exact ⟨s, rfl⟩
  · rw [if_neg hz]
    obtain ⟨m, i2, g2, e2, a2, b2, c2, d2⟩ := draw_below l hl i1 g1 c1 d1 30 (by omega)
    rw [e2, Option.bind_some]
    simp only
    unfold spec_l01Text.f
    rw [if_neg (by omega)]
    obtain ⟨k, rfl⟩ : ∃ m, k = m + 1 := ⟨k - 1, by omega⟩
    obtain ⟨s, i', h', e3, _⟩ := text_loop l hl m (by omega) m.toNat k [] 0 i2 g2 c2 d2 (by omega) (by omega) (by omega) rfl (by omega)
    rw [spec_l01Text.j0, e3, Option.bind_some]
    exact ⟨s, rfl⟩
theorem draw_varText (l : List Int) (hl : l.length ≤ 140737488355328) (k : Nat) (hk : l.length < k) : ∃ n : Int, spec_DrawVarText.f k l = some n := by
  obtain ⟨h, e⟩ := draw_new l hl k hk
  obtain ⟨n, i1, g1, e1, a1, b1, c1, d1⟩ := draw_below l hl 0 h (by omega) (by omega) 4 (by omega)
  unfold spec_DrawVarText.f spec_l01Number.f
  rw [e, Option.bind_some]
  simp only
  rw [e1, Option.bind_some]
  simp only
  by_cases h0 : n = 0
  · rw [if_pos h0]
    unfold spec_l01PickInt.f
    obtain ⟨m, i2, g2, e2, a2, b2, c2, d2⟩ := draw_below l hl i1 g1 c1 d1 10 (by omega)
    have e2 : spec_l01Below.f l i1 g1 (([(-1), 0, 127, 128, 16383, 16384, 1000000000, 1000000001, 9223372036854775807, (-9223372036854775808)] : List Int).length : Int) = some (m, i2, g2) := e2
    rw [e2, Option.bind_some]
    simp only
    rw [if_pos a2, if_pos (by simpa using b2)]
    exact ⟨_, rfl⟩
  · rw [if_neg h0]
    by_cases h1 : n = 1
    · rw [if_pos h1]
      obtain ⟨m, i2, g2, e2, a2, b2, c2, d2⟩ := draw_below l hl i1 g1 c1 d1 1000000000 (by omega)
      rw [e2]
      exact ⟨_, rfl⟩
    · rw [if_neg h1]
      obtain ⟨m, i2, g2, e2, a2, b2, c2, d2⟩ := draw_below l hl i1 g1 c1 d1 400 (by omega)
      rw [e2]
      exact ⟨_, rfl⟩

/-! ### bytes of a text -/
theorem bt_str (L : List Int) (hL : ∀ x ∈ L, 0 ≤ x ∧ x < 256) (i : Nat) (h : i < L.length) : bt (strOfNums L) (i : Int) = L[i] := by
  have hs : i < (strOfNums L).size := by rw [str_size]; exact h
  rw [bt_at' _ i hs]
  have e : ((strOfNums L)[i]'hs).toNat = ((strOfNums L).data.toList[i]'(by simpa using hs)).toNat := by rw [Array.getElem_toList]; rfl
  rw [e]
  have e2 : (strOfNums L).data.toList = L.map fun n => UInt8.ofNat n.toNat := rfl
  simp only [e2, List.getElem_map, UInt8.toNat_ofNat']
  have := hL L[i] (List.getElem_mem h)
  omega
/-! ### VarText and back -/
@[irreducible] def P128 (i : Nat) : Nat := 128 ^ i
theorem P128_succ (i : Nat) : P128 (i + 1) = P128 i * 128 := by unfold P128; exact Nat.pow_succ ..
theorem P128_zero : P128 0 = 1 := by unfold P128; rfl
theorem P128_le (i : Nat) (h : i ≤ 4) : P128 i ≤ 268435456 := by
  unfold P128; exact Nat.le_trans (Nat.pow_le_pow_right (by decide) h) (by decide)
theorem P128_pos (i : Nat) : 0 < P128 i := by unfold P128; exact Nat.pow_pos (by decide)
/-- A fact that omega does not look at. -/
structure Hid (p : Prop) : Prop where
  out : p
theorem rv_loop (s : ByteArray) (hs : s.size ≤ 1000000) (a : Nat) (v : Nat) : ∀ (k i n u : Nat) (L : List Int), L = vtL v → i + L.length ≤ 5 → a + i + L.length ≤ s.size → (∀ j, (h : j < L.length) → bt s ((a + i + j : Nat) : Int) = L[j]) →
    u = P128 i → n + v * u ≤ 1000000000 → (0 < v ∨ i = 0) → 2 * L.length < k → impl_ReadVar.l0 k s (a : Int) (n : Int) (u : Int) (i : Int) = some (((n + v * u : Nat) : Int), ((a + i + L.length : Nat) : Int), true) := by
  induction v using Nat.strongRecOn with
  | ind v ih =>
    intro k i n u L hL hi ha hb hu hm hz hk
    have hl0 : 0 < L.length := by
      rw [hL]
      by_cases h : 127 < v
      · rw [vtL_big h]; exact Nat.succ_pos _
      · rw [vtL_small h]; exact Nat.succ_pos _
    have hu5 : u ≤ 268435456 := by
      rw [hu]
      exact P128_le i (by omega)
    have hu0 : 0 < u := by rw [hu]; exact P128_pos i
    have hvu : v ≤ v * u := Nat.le_mul_of_pos_right v hu0
    obtain ⟨k, rfl⟩ : ∃ m, k = m + 2 := ⟨k - 2, by omega⟩
    have hb0 := hb 0 hl0
    rw [Nat.add_zero] at hb0
    have hi5 : (i : Int) < 5 := by omega
    have hq : ((a + i : Nat) : Int) < (s.size : Int) := by omega
    have hq0 : (0 : Int) ≤ ((a + i : Nat) : Int) := by omega
    have e1 : wrap64 ((a : Int) + (i : Int)) = ((a + i : Nat) : Int) := by rw [w64 (by omega) (by omega)]; omega
    rw [impl_ReadVar.l0, if_pos hi5, e1, decide_eq_true hq, impl_ReadVar.j2, if_pos rfl, e1, if_pos hq0, if_pos hq, hb0]
    clear hb0 e1
    by_cases h : 127 < v
    · obtain ⟨L', hL'⟩ : ∃ L', L' = vtL (v / 128) := ⟨_, rfl⟩
      rw [vtL_big h, ← hL'] at hL
      subst hL
      have hlen : ((((v % 128 + 128 : Nat) : Int)) :: L').length = L'.length + 1 := rfl
      rw [hlen] at hi ha hk
      have hmod : (v % 128 + 128) % 128 = v % 128 := by omega
      have hsum : (v % 128) * u + (v / 128) * (u * 128) = v * u := by
        have h1 : v * u = (128 * (v / 128) + v % 128) * u := by rw [Nat.div_add_mod]
        rw [h1, Nat.add_mul, Nat.add_comm]
        congr 1
        ac_rfl
      have hw : Hid (wrap64 ((v % 128 + 128 : Nat) : Int) = ((v % 128 + 128 : Nat) : Int)) := ⟨w64 (by omega) (by omega)⟩
      have hd : Hid (wrap64 (Int.tmod ((v % 128 + 128 : Nat) : Int) 128 * (u : Int)) = ((v % 128 * u : Nat) : Int)) := by
        have hd := dig_wrap (v % 128 + 128) u (by omega) hu5
        rw [hmod] at hd
        exact ⟨hd⟩
      have hp : (v % 128) * u ≤ v * u := by omega
      have hn2 : Hid (wrap64 ((n : Int) + (((v % 128) * u : Nat) : Int)) = ((n + (v % 128) * u : Nat) : Int)) := ⟨by rw [w64 (by omega) (by omega)]; omega⟩
      rw [List.getElem_cons_zero, hw.out, if_pos (by omega), hd.out, hn2.out, wmul u (by omega), w64 (n := (i : Int) + 1) (by omega) (by omega), show (i : Int) + 1 = ((i + 1 : Nat) : Int) by omega]
      rw [ih (v / 128) (by omega) k (i + 1) (n + (v % 128) * u) (u * 128) L' hL' (by omega) (by omega) (fun j hj => by
        have h2 := hb (j + 1) (by rw [hlen]; omega)
        rw [show a + (i + 1) + j = a + i + (j + 1) by omega, h2, List.getElem_cons_succ]) (by rw [hu, P128_succ]) (by omega) (Or.inl (by omega)) (by omega)]
      rw [hlen, show n + v % 128 * u + v / 128 * (u * 128) = n + v * u by omega, show a + (i + 1) + L'.length = a + i + (L'.length + 1) by omega]
    · rw [vtL_small h] at hL
      subst hL
      have hlen : [(v : Int)].length = 1 := rfl
      rw [hlen] at hi ha hk
      have hw : Hid (wrap64 (v : Int) = (v : Int)) := ⟨w64 (by omega) (by omega)⟩
      have hd : Hid (wrap64 (Int.tmod (v : Int) 128 * (u : Int)) = ((v * u : Nat) : Int)) := by
        have hd := dig_wrap v u (by omega) hu5
        rw [Nat.mod_eq_of_lt (show v < 128 by omega)] at hd
        exact ⟨hd⟩
      have hn2 : Hid (wrap64 ((n : Int) + ((v * u : Nat) : Int)) = ((n + v * u : Nat) : Int)) := ⟨by rw [w64 (by omega) (by omega)]; omega⟩
      rw [List.getElem_cons_zero, hw.out, if_neg (by omega), hd.out, hn2.out, w64 (n := ((a + i : Nat) : Int) + 1) (by omega) (by omega), hlen, show ((a + i : Nat) : Int) + 1 = ((a + i + 1 : Nat) : Int) by omega]
      by_cases hv : (v : Int) = 0
      · rw [if_pos hv, if_neg (by omega), if_neg (by omega)]
      · rw [if_neg hv, if_neg (by omega)]
theorem vtL_short (v : Nat) : ∀ k : Nat, v < 128 ^ (k + 1) → (vtL v).length ≤ k + 1 := by
  induction v using Nat.strongRecOn with
  | ind v ih =>
    intro k hv
    by_cases h : 127 < v
    · rw [vtL_big h, List.length_cons]
      cases k with
      | zero => simp at hv; omega
      | succ k =>
        have := ih (v / 128) (by omega) k (by rw [Nat.pow_succ] at hv; omega)
        omega
    · rw [vtL_small h]
      simp
theorem read_at (s : ByteArray) (hs : s.size ≤ 1000000) (a v : Nat) (hv : v ≤ 1000000000) (ha : a + (vtL v).length ≤ s.size) (hb : ∀ j, (h : j < (vtL v).length) → bt s ((a + j : Nat) : Int) = (vtL v)[j]) (k : Nat) (hk : 20 < k) :
    impl_ReadVar.f k s (a : Int) = some ((v : Int), ((a + (vtL v).length : Nat) : Int), true) := by
  have h5 := vtL_short v 4 (by have : (128 : Nat) ^ 5 = 34359738368 := rfl; omega)
  obtain ⟨k, rfl⟩ : ∃ m, k = m + 1 := ⟨k - 1, by omega⟩
  unfold impl_ReadVar.f
  rw [if_neg (by omega), decide_eq_false (by omega), impl_ReadVar.j0, if_neg (by decide)]
  have h := rv_loop s hs a v k 0 0 1 (vtL v) rfl (by omega) (by omega) (fun j hj => by rw [Nat.add_zero]; exact hb j hj) P128_zero.symm (by omega) (Or.inr rfl) (by omega)
  rw [Nat.zero_add, Nat.mul_one, Nat.add_zero] at h
  exact h
theorem part_left (A B : ByteArray) (L : List Int) (hL : ∀ x ∈ L, 0 ≤ x ∧ x < 256) (hA : A = strOfNums L) (j : Nat) (h : j < L.length) : bt (A ++ B) (j : Int) = L[j] := by
  rw [← bt_str L hL j h, ← hA]
  have h1 : j < A.size := by rw [hA, str_size]; exact h
  have h2 : j < (A ++ B).size := by rw [ByteArray.size_append]; omega
  rw [bt_at' _ j h2, bt_at' _ j h1]
  congr 2
  exact ByteArray.getElem_append_left h1
theorem part_right (A B : ByteArray) (j : Nat) (h : j < B.size) : bt (A ++ B) ((A.size + j : Nat) : Int) = bt B (j : Int) := by
  have h2 : A.size + j < (A ++ B).size := by rw [ByteArray.size_append]; omega
  rw [bt_at' _ _ h2, bt_at' _ j h]
  congr 2
  rw [ByteArray.getElem_append_right (by omega)]
  congr 1
  omega
/-! ### Decimal and back -/
def pv (l : List UInt8) : Nat := l.foldl (fun n c => 10 * n + (c.toNat - 48)) 0
theorem pv_snoc (l : List UInt8) (c : UInt8) : pv (l ++ [c]) = 10 * pv l + (c.toNat - 48) := by simp [pv]
theorem dec_facts (u : Nat) : pv (Lib.decDigits u) = u ∧ (∀ c ∈ Lib.decDigits u, 48 ≤ c.toNat ∧ c.toNat ≤ 57) ∧ 0 < (Lib.decDigits u).length ∧ ∀ k, u < 10 ^ (k + 1) → (Lib.decDigits u).length ≤ k + 1 := by
  induction u using Nat.strongRecOn with
  | ind u ih =>
    by_cases h : u < 10
    · rw [Lib.decDigits, dif_pos h]
      have hc : (UInt8.ofNat (48 + u)).toNat = 48 + u := by rw [UInt8.toNat_ofNat']; omega
      refine ⟨by (simp [pv]; omega), fun c hm => ?_, by simp, fun k _ => by simp⟩
      rw [List.mem_singleton.1 hm, hc]
      omega
    · rw [Lib.decDigits, dif_neg h]
      obtain ⟨h1, h2, h3, h4⟩ := ih (u / 10) (by omega)
      have hc : (UInt8.ofNat (48 + u % 10)).toNat = 48 + u % 10 := by rw [UInt8.toNat_ofNat']; omega
      refine ⟨?_, fun c hm => ?_, by simp, fun k hk => ?_⟩
      · rw [pv_snoc, h1, hc]
        omega
      · rcases List.mem_append.1 hm with hm | hm
        · exact h2 c hm
        · rw [List.mem_singleton.1 hm, hc]
          omega
      · rw [List.length_append, List.length_singleton]
        cases k with
        | zero => simp at hk; omega
        | succ k =>
          have := h4 k (by rw [Nat.pow_succ] at hk; omega)
          omega
theorem read_back (s : ByteArray) (D : List UInt8) (hD : s.data.toList = D) (hl : D.length ≤ 10) (hd : ∀ c ∈ D, 48 ≤ c.toNat ∧ c.toNat ≤ 57) (v : Nat) (hv : pv D = v) (hv1 : v ≤ 1000000000) (hi : Lib.itoa (v : Int) = D) (d : Nat) :
    ∀ (k i : Nat), D.length - i = d → i ≤ D.length → pv (D.take i) < 10 ^ i → d < k → impl_ReadDecimal.l0 k s ((pv (D.take i) : Nat) : Int) (i : Int) = some ((v : Int), true) := by
  have hsz : s.size = D.length := by rw [← hD]; simp
  induction d with
  | zero =>
    intro k i hd0 hi0 _ hk
    obtain ⟨k, rfl⟩ : ∃ m, k = m + 1 := ⟨k - 1, by omega⟩
    rw [impl_ReadDecimal.l0, if_neg (by omega), List.take_of_length_le (by omega), hv, if_neg (by omega), impl_dec _ (by omega) (by omega), Option.bind_some, hi, Lib.toList_data, Lib.toList_data, hD, if_pos (by simp)]
  | succ d ih =>
    intro k i hd0 hi0 hp hk
    obtain ⟨k, rfl⟩ : ∃ m, k = m + 1 := ⟨k - 1, by omega⟩
    have hlt : i < D.length := by omega
    have hs : i < s.size := by omega
    have hc := hd D[i] (List.getElem_mem hlt)
    have hb : bt s (i : Int) = ((D[i].toNat : Nat) : Int) := by
      rw [bt_at' s i hs]
      congr 2
      have h3 : s.data.toList[i]'(by simpa using hs) = s[i]'hs := by rw [Array.getElem_toList]; rfl
      rw [← h3]
      simp only [hD]
    have ht : pv (D.take (i + 1)) = 10 * pv (D.take i) + (D[i].toNat - 48) := by
      rw [← List.take_append_getElem hlt, pv_snoc]
    have h10 : (10 : Nat) ^ i ≤ 10 ^ 10 := Nat.pow_le_pow_right (by decide) (by omega)
    have h11 : (10 : Nat) ^ 10 = 10000000000 := rfl
    have h12 : (10 : Nat) ^ (i + 1) = 10 ^ i * 10 := Nat.pow_succ 10 i
    have hnext := ih k (i + 1) (by omega) (by omega) (by omega) (by omega)
    rw [ht] at hnext
    generalize pv (D.take i) = n at *
    rw [impl_ReadDecimal.l0, if_pos (by omega), if_pos (by omega), hb, if_neg (by omega), if_neg (by omega), w64 (n := (n : Int) * 10) (by omega) (by omega), show (((D[i].toNat : Nat) : Int) - 48) % 256 = ((D[i].toNat - 48 : Nat) : Int) by omega,
      w64 (n := (n : Int) * 10 + ((D[i].toNat - 48 : Nat) : Int)) (by omega) (by omega), w64 (n := (i : Int) + 1) (by omega) (by omega), show (i : Int) + 1 = ((i + 1 : Nat) : Int) by omega, show (n : Int) * 10 + ((D[i].toNat - 48 : Nat) : Int) = ((10 * n + (D[i].toNat - 48) : Nat) : Int) by omega]
    exact hnext
theorem decimal_back (v : Nat) (hv : v ≤ 1000000000) (k : Nat) (hk : 20 < k) : ∃ s : ByteArray, impl_Decimal.f (v : Int) = some s ∧ impl_ReadDecimal.f k s = some ((v : Int), true) := by
  refine ⟨_, impl_dec _ (by omega) (by omega), ?_⟩
  have hi : Lib.itoa (v : Int) = Lib.decDigits v := by
    unfold Lib.itoa
    rw [if_neg (by omega)]
    congr 1
  obtain ⟨h1, h2, h3, h4⟩ := dec_facts v
  have h5 := h4 9 (by have : (10 : Nat) ^ 10 = 10000000000 := rfl; omega)
  have hsz : (⟨(Lib.itoa (v : Int)).toArray⟩ : ByteArray).size = (Lib.decDigits v).length := by rw [hi]; simp [ByteArray.size]
  obtain ⟨k, rfl⟩ : ∃ m, k = m + 1 := ⟨k - 1, by omega⟩
  unfold impl_ReadDecimal.f
  rw [if_neg (by omega), decide_eq_false (by omega), impl_ReadDecimal.j0, if_neg (by decide)]
  have h := read_back ⟨(Lib.itoa (v : Int)).toArray⟩ (Lib.decDigits v) (by rw [hi]) (by omega) h2 v h1 hv hi (Lib.decDigits v).length k 0 (by omega) (by omega) (by simp [pv]) (by omega)
  exact h
/-! ### Hex and back -/
abbrev HX : ByteArray := ⟨#[48, 49, 50, 51, 52, 53, 54, 55, 56, 57, 97, 98, 99, 100, 101, 102]⟩
def val (c : Int) : Int := Go.Lib.indexByte HX.data.toList c.toNat.toUInt8
theorem index_val (c : Int) : strings_IndexByte.f HX c = some (val c) := rfl
def hx (c : Int) : List Int := [bt HX (c / 16), bt HX (Go.bits .and .u8 c 15)]
theorem hex_all : ∀ n : Nat, n < 256 → (0 ≤ (n : Int) / 16 ∧ (n : Int) / 16 < (HX.size : Int) ∧ 0 ≤ Go.bits .and .u8 (n : Int) 15 ∧ Go.bits .and .u8 (n : Int) 15 < (HX.size : Int)) ∧
    (0 ≤ val (bt HX ((n : Int) / 16)) ∧ 0 ≤ val (bt HX (Go.bits .and .u8 (n : Int) 15)) ∧ (Go.bits .or .i64 (wrap64 (val (bt HX ((n : Int) / 16)) * 16)) (val (bt HX (Go.bits .and .u8 (n : Int) 15)))) % 256 = (n : Int)) := by decide +kernel
theorem hex_one {c : Int} (h0 : 0 ≤ c) (h1 : c ≤ 255) : (0 ≤ c / 16 ∧ c / 16 < (HX.size : Int) ∧ 0 ≤ Go.bits .and .u8 c 15 ∧ Go.bits .and .u8 c 15 < (HX.size : Int)) ∧
    (0 ≤ val (bt HX (c / 16)) ∧ 0 ≤ val (bt HX (Go.bits .and .u8 c 15)) ∧ (Go.bits .or .i64 (wrap64 (val (bt HX (c / 16)) * 16)) (val (bt HX (Go.bits .and .u8 c 15)))) % 256 = c) := by
  obtain ⟨n, rfl⟩ := Int.eq_ofNat_of_zero_le h0
  exact hex_all n (by omega)
theorem hex_loop (x : ByteArray) (hx0 : x.size ≤ 20000) (d : Nat) : ∀ (k i : Nat) (acc : List Int), x.size - i = d → i ≤ x.size → acc.length ≤ 2 * i → d < k →
    impl_Hex.l0 k x HX acc (i : Int) = some (strOfNums (acc ++ (numsAt x i (x.size - i)).flatMap hx), true) := by
  induction d with
  | zero =>
    intro k i acc hd hi ha hk
    obtain ⟨k, rfl⟩ : ∃ m, k = m + 1 := ⟨k - 1, by omega⟩
    rw [impl_Hex.l0, if_neg (by omega), hd, numsAt_zero]
    simp
  | succ d ih =>
    intro k i acc hd hi ha hk
    obtain ⟨k, rfl⟩ : ∃ m, k = m + 1 := ⟨k - 1, by omega⟩
    obtain ⟨b0, b1⟩ := bt_range x (i : Int)
    obtain ⟨⟨g1, g2, g3, g4⟩, _⟩ := hex_one b0 b1
    rw [impl_Hex.l0, if_pos (by omega), if_pos (by omega), if_pos g1, if_pos g2, if_pos g3, if_pos g4, Option.bind_some, if_pos (by simp; omega), w64 (n := (i : Int) + 1) (by omega) (by omega), show (i : Int) + 1 = ((i + 1 : Nat) : Int) by omega,
      ih k (i + 1) _ (by omega) (by omega) (by simp; omega) (by omega)]
    have e : numsAt x i (x.size - i) = bt x (i : Int) :: numsAt x (i + 1) (x.size - (i + 1)) := by
      have hl : i < x.data.toList.length := by have : x.data.toList.length = x.size := by simp
                                               omega
      unfold numsAt
      rw [List.drop_eq_getElem_cons hl, show x.size - i = (x.size - (i + 1)) + 1 by omega, List.take_succ_cons, List.map_cons]
      congr 1
      rw [bt_at' x i (by omega), Array.getElem_toList]
      rfl
    rw [e, List.flatMap_cons, List.append_assoc]
    rfl
theorem flat_at (l : List Int) : ∀ (i : Nat) (h : i < l.length), (l.flatMap hx)[2 * i]? = some (bt HX (l[i] / 16)) ∧ (l.flatMap hx)[2 * i + 1]? = some (bt HX (Go.bits .and .u8 l[i] 15)) := by
  induction l with
  | nil => intro i h; simp at h
  | cons c l ih =>
    intro i h
    rw [List.flatMap_cons]
    cases i with
    | zero => exact ⟨rfl, rfl⟩
    | succ i =>
      have h2 := ih i (by simpa using h)
      rw [show 2 * (i + 1) = 2 * i + 1 + 1 by omega]
      exact h2
theorem flat_len (l : List Int) : (l.flatMap hx).length = 2 * l.length := by
  induction l with
  | nil => rfl
  | cons c l ih =>
    rw [List.flatMap_cons, List.length_append, ih, List.length_cons]
    have : (hx c).length = 2 := rfl
    omega
theorem unhex_loop (l : List Int) (hl : l.length ≤ 20000) (hr : ∀ c ∈ l, 0 ≤ c ∧ c < 256) (z : ByteArray) (hz : z = strOfNums (l.flatMap hx)) (d : Nat) : ∀ (k i : Nat), l.length - i = d → i ≤ l.length → d < k →
    impl_Unhex.l0 k z (l.take i) ((2 * i : Nat) : Int) = some (strOfNums l, true) := by
  have hzs : z.size = 2 * l.length := by rw [hz, str_size, flat_len]
  have hrange : ∀ x ∈ l.flatMap hx, 0 ≤ x ∧ x < 256 := by
    intro x hm
    obtain ⟨c, _, hc⟩ := List.mem_flatMap.1 hm
    have hb : ∀ y : Int, 0 ≤ bt HX y ∧ bt HX y < 256 := fun y => ⟨(bt_range HX y).1, by have := (bt_range HX y).2; omega⟩
    simp only [hx, List.mem_cons, List.not_mem_nil, or_false] at hc
    rcases hc with rfl | rfl
    · exact hb _
    · exact hb _
  induction d with
  | zero =>
    intro k i hd hi hk
    obtain ⟨k, rfl⟩ : ∃ m, k = m + 1 := ⟨k - 1, by omega⟩
    rw [impl_Unhex.l0, if_neg (by omega), List.take_of_length_le (by omega)]
  | succ d ih =>
    intro k i hd hi hk
    obtain ⟨k, rfl⟩ : ∃ m, k = m + 1 := ⟨k - 1, by omega⟩
    have hlt : i < l.length := by omega
    obtain ⟨c0, c1⟩ := hr l[i] (List.getElem_mem hlt)
    obtain ⟨_, g1, g2, g3⟩ := hex_one c0 (show l[i] ≤ 255 by omega)
    obtain ⟨f1, f2⟩ := flat_at l i hlt
    have q1 : 2 * i < (l.flatMap hx).length := by rw [flat_len]; omega
    have q2 : 2 * i + 1 < (l.flatMap hx).length := by rw [flat_len]; omega
    rw [List.getElem?_eq_getElem q1] at f1
    rw [List.getElem?_eq_getElem q2] at f2
    have b1 : bt z ((2 * i : Nat) : Int) = bt HX (l[i] / 16) := by rw [hz, bt_str _ hrange _ q1]; exact Option.some.inj f1
    have b2 : bt z (((2 * i : Nat) : Int) + 1) = bt HX (Go.bits .and .u8 l[i] 15) := by rw [show ((2 * i : Nat) : Int) + 1 = ((2 * i + 1 : Nat) : Int) by omega, hz, bt_str _ hrange _ q2]; exact Option.some.inj f2
    rw [impl_Unhex.l0, if_pos (by omega), if_pos (by omega), w64 (n := ((2 * i : Nat) : Int) + 1) (by omega) (by omega), b1, index_val, Option.bind_some, if_pos (by omega), if_pos (by omega), b2, index_val, Option.bind_some, if_neg (by omega), if_neg (by omega),
      if_pos (by rw [List.length_take]; omega), g3, List.take_append_getElem hlt, w64 (n := ((2 * i : Nat) : Int) + 2) (by omega) (by omega), show ((2 * i : Nat) : Int) + 2 = ((2 * (i + 1) : Nat) : Int) by omega]
    exact ih k (i + 1) (by omega) (by omega) (by omega)
theorem hex_back (t : ByteArray) (ht : t.size ≤ 300) (k : Nat) (hk : 400 < k) : ∃ z r : ByteArray, impl_Hex.f k t = some (z, true) ∧ impl_Unhex.f k z = some (r, true) ∧ r.toList = t.toList := by
  have hl := numsAt_length t 0 t.size (by omega)
  refine ⟨strOfNums ((numsAt t 0 t.size).flatMap hx), strOfNums (numsAt t 0 t.size), ?_, ?_, ?_⟩
  · unfold impl_Hex.f
    rw [if_neg (by omega), w64 (n := 2 * (t.size : Int)) (by omega) (by omega), if_pos (by omega), if_pos (by omega)]
    have h := hex_loop t (by omega) t.size k 0 [] (by omega) (by omega) (by simp) (by omega)
    exact h
  · have hzs : (strOfNums ((numsAt t 0 t.size).flatMap hx)).size = 2 * t.size := by rw [str_size, flat_len, hl]
    obtain ⟨k, rfl⟩ : ∃ m, k = m + 1 := ⟨k - 1, by omega⟩
    unfold impl_Unhex.f
    rw [if_pos (by omega), decide_eq_false (by omega), impl_Unhex.j0, if_neg (by decide), w64 (n := ((strOfNums ((numsAt t 0 t.size).flatMap hx)).size : Int) / 2) (by omega) (by omega), if_pos (by omega), if_pos (by omega)]
    have h := unhex_loop (numsAt t 0 t.size) (by omega) (numsAt_range t 0 t.size) _ rfl (numsAt t 0 t.size).length k 0 (by omega) (by omega) (by omega)
    exact h
  · rw [str_toList]
    have h0 := extract_nums t 0 t.size
    rw [Nat.sub_zero] at h0
    rw [← h0]
    have h1 : t.data.toList.length = t.size := by simp
    rw [Lib.toList_data, Lib.toList_data, Lib.extract_data, List.drop_zero, Nat.sub_zero, List.take_of_length_le (by omega)]
/-! ### ShortText and back -/
theorem short_back (t : ByteArray) (ht : t.size ≤ 300) (k : Nat) (hk : 400 < k) : ∃ a b : ByteArray, impl_ShortText.f k t = some (a, true) ∧ impl_ReadShort.f k a 0 = some (b, (a.size : Int), true) ∧ b.toList = t.toList := by
  have hv := impl_var t.size k [] (by omega) (by simp; omega)
  rw [List.nil_append] at hv
  have h5 := vtL_short t.size 4 (by have : (128 : Nat) ^ 5 = 34359738368 := rfl; omega)
  have hA : (strOfNums (vtL t.size)).size = (vtL t.size).length := str_size _
  have hsz : (strOfNums (vtL t.size) ++ t).size = (vtL t.size).length + t.size := by rw [ByteArray.size_append, hA]
  refine ⟨strOfNums (vtL t.size) ++ t, (strOfNums (vtL t.size) ++ t).extract (vtL t.size).length ((vtL t.size).length + t.size), ?_, ?_, ?_⟩
  · unfold impl_ShortText.f impl_varText.f
    rw [if_neg (by omega), hv, Option.bind_some, if_pos (by omega)]
  · unfold impl_ReadShort.f
    have h := read_at (strOfNums (vtL t.size) ++ t) (by omega) 0 t.size (by omega) (by omega) (fun j hj => by rw [Nat.zero_add]; exact part_left _ t (vtL t.size) (vtL_range t.size) rfl j hj) k (by omega)
    have h : impl_ReadVar.f k (strOfNums (vtL t.size) ++ t) 0 = some ((t.size : Int), ((0 + (vtL t.size).length : Nat) : Int), true) := h
    rw [h, Option.bind_some]
    simp only
    rw [if_pos trivial, if_neg (by omega), w64 (n := ((strOfNums (vtL t.size) ++ t).size : Int) - ((0 + (vtL t.size).length : Nat) : Int)) (by omega) (by omega), if_neg (by omega), if_pos (by omega),
      w64 (n := ((0 + (vtL t.size).length : Nat) : Int) + (t.size : Int)) (by omega) (by omega), if_pos (by omega), if_pos (by omega), show (((0 + (vtL t.size).length : Nat) : Int)).toNat = (vtL t.size).length by omega, show (((0 + (vtL t.size).length : Nat) : Int) + (t.size : Int)).toNat = (vtL t.size).length + t.size by omega,
      show ((0 + (vtL t.size).length : Nat) : Int) + (t.size : Int) = ((strOfNums (vtL t.size) ++ t).size : Int) by omega]
  · rw [Lib.toList_data, Lib.toList_data, Lib.extract_data, ByteArray.data_append, Array.toList_append]
    have h1 : (strOfNums (vtL t.size)).data.toList.length = (vtL t.size).length := by rw [strOfNums_data]; simp
    have h2 : t.data.toList.length = t.size := by simp
    rw [List.drop_left' h1, List.take_of_length_le (by omega)]
theorem numbers_j2 (v : Nat) (s : ByteArray) (at_ : Int) (ha : at_ = wrap64 ((s.size : Int) + 1)) (t : ByteArray) (ht : t.size ≤ 300) (k : Nat) (hk : 500 < k) : laws_FnNumbers.j2 k (v : Int) s true (v : Int) at_ true (v : Int) true t = some true := by
  obtain ⟨k, rfl⟩ : ∃ m, k = m + 1 := ⟨k - 1, by omega⟩
  obtain ⟨a, b, e1, e2, e3⟩ := short_back t ht k (by omega)
  obtain ⟨z, r, e4, e5, e6⟩ := hex_back t ht k (by omega)
  rw [laws_FnNumbers.j2, e1, Option.bind_some]
  simp only
  rw [e2, Option.bind_some]
  simp only
  rw [e4, Option.bind_some]
  simp only
  rw [e5, Option.bind_some]
  simp only [if_true, e3, e6, ha, beq_self_eq_true]
theorem numbers_j1 (l : List Int) (hl : l.length ≤ 1048576) (v : Nat) (hv : v ≤ 1000000000) (k : Nat) (hk : 1002000000 < k) : laws_FnNumbers.j1 k l (v : Int) = some true := by
  obtain ⟨k, rfl⟩ : ∃ m, k = m + 1 := ⟨k - 1, by omega⟩
  have hvt := impl_var v k [] (by omega) (by simp; omega)
  rw [List.nil_append] at hvt
  have h5 := vtL_short v 4 (by have : (128 : Nat) ^ 5 = 34359738368 := rfl; omega)
  have hA : (strOfNums (vtL v)).size = (vtL v).length := str_size _
  have hX : (⟨#[120]⟩ : ByteArray).size = 1 := rfl
  have hY : (⟨#[121]⟩ : ByteArray).size = 1 := rfl
  have hs1 : ((⟨#[120]⟩ : ByteArray) ++ strOfNums (vtL v)).size = 1 + (vtL v).length := by rw [ByteArray.size_append, hX, hA]
  have hs2 : (((⟨#[120]⟩ : ByteArray) ++ strOfNums (vtL v)) ++ (⟨#[121]⟩ : ByteArray)).size = 1 + (vtL v).length + 1 := by rw [ByteArray.size_append, hs1, hY]
  have hb : ∀ j, (h : j < (vtL v).length) → bt (((⟨#[120]⟩ : ByteArray) ++ strOfNums (vtL v)) ++ (⟨#[121]⟩ : ByteArray)) ((1 + j : Nat) : Int) = (vtL v)[j] := by
    intro j hj
    rw [ByteArray.append_assoc]
    have h1 := part_right (⟨#[120]⟩ : ByteArray) (strOfNums (vtL v) ++ (⟨#[121]⟩ : ByteArray)) j (by rw [ByteArray.size_append, hA]; omega)
    rw [hX] at h1
    rw [h1]
    exact part_left _ _ (vtL v) (vtL_range v) rfl j hj
  have hr := read_at _ (by omega) 1 v hv (by omega) hb k (by omega)
  have hr : impl_ReadVar.f k (((⟨#[120]⟩ : ByteArray) ++ strOfNums (vtL v)) ++ (⟨#[121]⟩ : ByteArray)) 1 = some ((v : Int), ((1 + (vtL v).length : Nat) : Int), true) := hr
  obtain ⟨q, e1, e2⟩ := decimal_back v hv k (by omega)
  obtain ⟨t, e3⟩ := draw_hex l (by omega) k (by omega)
  rw [laws_FnNumbers.j1]
  unfold impl_VarText.f impl_varText.f
  rw [if_neg (by omega), if_neg (by omega), hvt, Option.bind_some, Option.bind_some]
  simp only
  rw [if_pos (by omega), if_pos (by omega), hr, Option.bind_some]
  simp only
  rw [e1, Option.bind_some, e2, Option.bind_some]
  simp only
  rw [e3, Option.bind_some]
  have ha : ((1 + (vtL v).length : Nat) : Int) = wrap64 (((strOfNums (vtL v)).size : Int) + 1) := by rw [hA, w64 (by omega) (by omega)]; omega
  by_cases hb : (t.size : Int) > 300
  · rw [if_pos hb]
    exact numbers_j2 v _ _ ha _ (by decide) k (by omega)
  · rw [if_neg hb]
    exact numbers_j2 v _ _ ha t (by omega) k (by omega)
theorem FnNumbers : laws_FnNumbers.Pure := by
  intro l _ hl _
  refine ⟨1002000002, ?_⟩
  unfold laws_FnNumbers.f laws_big.f
  rw [Option.bind_some]
  by_cases hbig : decide ((l.length : Int) > 1048576) = true
  · rw [if_pos hbig]
  · rw [if_neg hbig]
    have hb : l.length ≤ 1048576 := by
      have := of_decide_eq_false (Bool.eq_false_iff.2 hbig)
      omega
    obtain ⟨n, e⟩ := draw_varText l (by omega) 1002000002 (by omega)
    rw [e, Option.bind_some]
    have h12 : laws_FnNumbers.j1 1002000001 l 12345 = some true := numbers_j1 l hb 12345 (by omega) _ (by omega)
    by_cases h0 : n < 0
    · rw [if_pos h0, show (1002000002 : Nat) = 1002000001 + 1 from rfl, laws_FnNumbers.j0, if_pos rfl]
      exact h12
    · rw [if_neg h0, show (1002000002 : Nat) = 1002000001 + 1 from rfl, laws_FnNumbers.j0]
      by_cases h1 : n > 1000000000
      · rw [if_pos (decide_eq_true h1)]
        exact h12
      · rw [if_neg (by simpa using h1)]
        obtain ⟨v, rfl⟩ := Int.eq_ofNat_of_zero_le (show 0 ≤ n by omega)
        exact numbers_j1 l hb v (by omega) _ (by omega)
end Go.Proofs.YtekoemmlkdancaaDoor.Pure
