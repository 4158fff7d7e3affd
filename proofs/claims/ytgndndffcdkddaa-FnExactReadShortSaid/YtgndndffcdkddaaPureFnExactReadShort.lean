/- FnExactReadShort: the program's ReadShort and the reference's agree, for every text and every place. -/
import Derived.Test.YtgndndffcdkddaaPFnExactReadShortx0
import Derived.Test.YtgndndffcdkddaaPFnExactReadShortx1
import Derived.Test.YtgndndffcdkddaaPFnExactReadShortx2
import Derived.Test.YtgndndffcdkddaaPlain
namespace Go.Proofs.Ytgndndffcdkddaa.Pure
open Go.RowKit Go.Proofs.Ytgndndffcdkddaa.PFnExactReadShort Go.Proofs.Ytgndndffcdkddaa.Plain Go.Proofs.YtgndndffcdkddaaW.PrintWords Go.Proofs.YtgndndffcdkddaaW.PrintLast

theorem spec_var (n : Nat) : ∀ (k : Nat) (acc : List Int), n < k → acc.length + n < 140737488355328 → spec_l01Var.l0 k (n : Int) acc = some (strOfNums (acc ++ vtL n)) := by
  induction n using Nat.strongRecOn with
  | ind n ih =>
    intro k acc hk hn
    obtain ⟨k, rfl⟩ : ∃ m, k = m + 1 := ⟨k - 1, by omega⟩
    simp only [spec_l01Var.l0]
    by_cases h : 127 < n
    · rw [if_pos (by omega), if_pos (by omega), tdiv_pos (by omega), tmod_pos (by omega), w64 (n := (n : Int) / 128) (by omega) (by omega), w64 (n := (n : Int) % 128 + 128) (by omega) (by omega)]
      rw [show (n : Int) / 128 = ((n / 128 : Nat) : Int) by omega, ih (n / 128) (by omega) k _ (by omega) (by simp only [List.length_append, List.length_cons, List.length_nil]; omega), vtL_big h,
        show ((n : Int) % 128 + 128) % 256 = ((n % 128 + 128 : Nat) : Int) by omega]
      simp
    · rw [if_neg (by omega), if_pos (by omega), vtL_small h, show (n : Int) % 256 = (n : Int) by omega]

theorem spec_in (a b c : Int) : spec_l01In.f a b c = some (decide (b ≤ a ∧ a ≤ c)) := by
  unfold spec_l01In.f
  by_cases h : b ≤ a
  · rw [if_pos h]
    simp [h]
  · rw [if_neg h]
    simp [h]

theorem bt_in (s : ByteArray) (i : Int) : 0 ≤ bt s i ∧ bt s i < 256 := by
  have := bt_range s i
  omega

/-- What has been read of a number: its digits so far are bytes from 128 on, and what follows is what follows. -/
structure Sofar (s : ByteArray) (a i : Nat) (n u : Nat) : Prop where
  here : a + i ≤ s.size
  goes : ∀ m : Nat, (0 < m ∨ i = 0) → vtL (n + m * u) = numsAt s a i ++ vtL m
  unit : u = 128 ^ i
  small : n < u

theorem Sofar.start (s : ByteArray) (a : Nat) (h : a ≤ s.size) : Sofar s a 0 0 1 := ⟨by omega, fun m _ => by simp [numsAt_zero], rfl, by omega⟩

theorem Sofar.step {s : ByteArray} {a i n u : Nat} (h : Sofar s a i n u) (hlt : a + i < s.size) (c : Nat) (hc : bt s ((a + i : Nat) : Int) = (c : Int)) (h0 : 128 ≤ c) (h1 : c < 256) :
    Sofar s a (i + 1) (n + (c % 128) * u) (u * 128) := by
  refine ⟨by omega, fun m hm => ?_, by rw [h.unit, Nat.pow_succ], ?_⟩
  · have hm0 : 0 < m := by omega
    have e : n + c % 128 * u + m * (u * 128) = n + (c % 128 + 128 * m) * u := by
      rw [Nat.add_mul, Nat.mul_comm u 128, ← Nat.mul_assoc, Nat.mul_comm m 128, Nat.add_assoc]
    rw [e, h.goes _ (.inl (by omega)), numsAt_succ s a i hlt, hc, vtL_big (by omega), show (c % 128 + 128 * m) % 128 + 128 = c by omega, show (c % 128 + 128 * m) / 128 = m by omega]
    simp
  · have := h.small
    have h2 : c % 128 ≤ 127 := by omega
    have h3 : c % 128 * u ≤ 127 * u := Nat.mul_le_mul_right _ h2
    omega

theorem Sofar.u_le {s : ByteArray} {a i n u : Nat} (h : Sofar s a i n u) (hi : i ≤ 4) : 0 < u ∧ u ≤ 268435456 := by
  have := h.unit
  have hc : i = 0 ∨ i = 1 ∨ i = 2 ∨ i = 3 ∨ i = 4 := by omega
  rcases hc with rfl | rfl | rfl | rfl | rfl <;> omega

/-- The last byte: the text is the number's, just when it ends well. -/
theorem Sofar.last {s : ByteArray} {a i n u : Nat} (h : Sofar s a i n u) (hlt : a + i < s.size) (c : Nat) (hc : bt s ((a + i : Nat) : Int) = (c : Int)) (h1 : c < 128) :
    (strOfNums (vtL (n + c * u))).toList = (s.extract a (a + i + 1)).toList ↔ ¬ (c = 0 ∧ 0 < i) := by
  rw [str_toList, extract_nums, show a + i + 1 - a = i + 1 by omega, numsAt_succ s a i hlt, hc]
  constructor
  · intro he hz
    obtain ⟨rfl, hi⟩ := hz
    have e := bytesOf_inj (vtL_range _) (by
      intro y hy
      rcases List.mem_append.1 hy with hy | hy
      · exact numsAt_range s a i y hy
      · simp only [List.mem_singleton] at hy
        omega) he
    have e2 := vtL_last _ _ e
    have e3 := numsAt_length s a i (by omega)
    rw [e2] at e3
    simp only [List.length_nil] at e3
    omega
  · intro hz
    rw [h.goes c (by omega), vtL_small (by omega)]

theorem dig_wrap (c u : Nat) (hc : c < 256) (hu : u ≤ 268435456) : wrap64 (Int.tmod (c : Int) 128 * (u : Int)) = ((c % 128 * u : Nat) : Int) := by
  rw [tmod_pos (by omega)]
  have h : c % 128 * u ≤ 127 * 268435456 := Nat.mul_le_mul (by omega) hu
  have e : ((c : Int) % 128) * (u : Int) = ((c % 128 * u : Nat) : Int) := by push_cast; rfl
  rw [e]
  generalize c % 128 * u = p at h
  exact w64 (by omega) (by omega)

theorem sum_small (n c u : Nat) (hn : n < u) (hu : u ≤ 268435456) : n + c % 128 * u ≤ 281474976710656 := by
  have h : c % 128 * u ≤ 127 * 268435456 := Nat.mul_le_mul (by omega) hu
  generalize c % 128 * u = p at h
  omega

theorem wnat1 (n : Nat) (h : n ≤ 281474976710656) : wrap64 ((n : Int) + 1) = ((n + 1 : Nat) : Int) := by rw [w64 (by omega) (by omega)]; omega
theorem wnat (n : Nat) (h : n ≤ 281474976710656) : wrap64 (n : Int) = (n : Int) := w64 (by omega) (by omega)
theorem wmul (n : Nat) (h : n ≤ 281474976710656) : wrap64 ((n : Int) * 128) = ((n * 128 : Nat) : Int) := by rw [w64 (by omega) (by omega)]; omega

/-- What both answer. -/
theorem readVar_loop (s : ByteArray) (hs : s.size ≤ 140737488351232) (a : Nat) (d : Nat) : ∀ (i n u k : Nat), 5 - i = d → i ≤ 5 → Sofar s a i n u → 2 * d + 2 + 1000000001 < k →
    ∃ r : Int × Int × Bool, spec_ReadVar.l0 k s (a : Int) (n : Int) (u : Int) ((a + i : Nat) : Int) = some r ∧ impl_ReadVar.l0 k s (a : Int) (n : Int) (u : Int) (i : Int) = some r ∧
      (r.2.2 = true → 0 ≤ r.1 ∧ r.1 ≤ 1000000000 ∧ 0 ≤ r.2.1 ∧ r.2.1 ≤ s.size) := by
  induction d with
  | zero =>
    intro i n u k hd hi hS hk
    obtain ⟨k, rfl⟩ : ∃ m, k = m + 2 := ⟨k - 2, by omega⟩
    have hi5 : i = 5 := by omega
    subst hi5
    refine ⟨(0, 0, false), ?_, ?_, by simp⟩
    · simp only [spec_ReadVar.l0]
      rw [w64 (n := (a : Int) + 5) (by have := hS.here; omega) (by have := hS.here; omega)]
      by_cases h : ((a + 5 : Nat) : Int) < (s.size : Int)
      · rw [if_pos h, show decide (((a + 5 : Nat) : Int) < (a : Int) + 5) = false from decide_eq_false (by omega)]
        simp [spec_ReadVar.j1]
      · rw [if_neg h]
        simp [spec_ReadVar.j1]
    · simp only [impl_ReadVar.l0]
      rw [if_neg (by omega)]
      simp [impl_ReadVar.j2]
  | succ d ih =>
    intro i n u k hd hi hS hk
    obtain ⟨k, rfl⟩ : ∃ m, k = m + 2 := ⟨k - 2, by omega⟩
    have hh := hS.here
    have hu := hS.u_le (by omega)
    have hn := hS.small
    simp only [spec_ReadVar.l0, impl_ReadVar.l0]
    rw [w64 (n := (a : Int) + 5) (by omega) (by omega), w64 (n := (a : Int) + (i : Int)) (by omega) (by omega), if_pos (show (i : Int) < 5 by omega)]
    by_cases h : ((a + i : Nat) : Int) < (s.size : Int)
    · rw [if_pos h, show decide (((a + i : Nat) : Int) < (a : Int) + 5) = true from decide_eq_true (by omega), show decide ((a : Int) + (i : Int) < (s.size : Int)) = true from decide_eq_true (by omega)]
      have hlt : a + i < s.size := by omega
      have hai : a + i ≤ 281474976710656 := by omega
      have hi4 : i ≤ 281474976710656 := by omega
      have h0i : (0 : Int) ≤ ((a + i : Nat) : Int) := by omega
      have ⟨hb, hb2⟩ := bt_in s ((a + i : Nat) : Int)
      obtain ⟨c, hc⟩ := Int.eq_ofNat_of_zero_le hb
      have hc256 : c < 256 := by omega
      have hc2 : c ≤ 281474976710656 := by omega
      have hu2 : u ≤ 281474976710656 := by omega
      clear hb hb2
      have HC := Aside0.mk hc
      simp only [spec_ReadVar.j1, impl_ReadVar.j2, ← Int.natCast_add, wnat (a + i) hai, wnat c hc2, hc, if_true, if_pos h0i, if_pos h, dig_wrap c u hc256 hu.2, wnat _ (sum_small n c u hn hu.2), wnat1 (a + i) hai, wnat1 i hi4, wmul u hu2]
      clear hc
      by_cases hbig : 128 ≤ c
      · rw [if_neg (show ¬ (c : Int) < 128 by omega), if_pos (show (c : Int) ≥ 128 by omega)]
        exact ih (i + 1) (n + c % 128 * u) (u * 128) k (by omega) (by omega) (hS.step hlt c HC.out hbig hc256) (by omega)
      · rw [if_pos (show (c : Int) < 128 by omega), if_neg (show ¬ (c : Int) ≥ 128 by omega)]
        have hlast := hS.last hlt c HC.out (by omega)
        rw [← show c % 128 = c by omega] at hlast
        generalize hN : n + c % 128 * u = N at hlast
        by_cases hmax : ((N : Nat) : Int) > 1000000000
        · refine ⟨(0, 0, false), ?_, ?_, by simp⟩
          · rw [if_pos hmax]
          · rw [if_pos hmax]
            split
            · split <;> rfl
            · rfl
        · rw [if_neg hmax, if_neg hmax]
          have hv : spec_l01Var.f k ((N : Nat) : Int) = some (strOfNums (vtL N)) := by
            unfold spec_l01Var.f
            have := spec_var N k [] (by omega) (by simp only [List.length_nil]; omega)
            simpa using this
          have h1 : (0 : Int) ≤ (a : Int) := by omega
          have h2 : (a : Int) ≤ ((a + i + 1 : Nat) : Int) := by omega
          have h3 : ((a + i + 1 : Nat) : Int) ≤ (s.size : Int) := by omega
          rw [hv]
          simp only [Option.bind_some, if_pos h1, if_pos h2, if_pos h3, Int.toNat_natCast]
          by_cases hz : c = 0 ∧ 0 < i
          · refine ⟨(0, 0, false), ?_, ?_, by simp⟩
            · rw [if_neg (fun he => (hlast.1 he) ⟨by omega, hz.2⟩)]
            · rw [if_pos (show (c : Int) = 0 by omega), if_pos (show (i : Int) > 0 by omega)]
          · refine ⟨(((N : Nat) : Int), ((a + i + 1 : Nat) : Int), true), ?_, ?_, ?_⟩
            · rw [if_pos (hlast.2 (fun he => hz ⟨by omega, he.2⟩))]
            · by_cases hc0 : c = 0
              · rw [if_pos (show (c : Int) = 0 by omega), if_neg (show ¬ (i : Int) > 0 by omega)]
              · rw [if_neg (show ¬ (c : Int) = 0 by omega)]
            · intro _
              simp only
              omega
    · refine ⟨(0, 0, false), ?_, ?_, by simp⟩
      · rw [if_neg h]
        simp [spec_ReadVar.j1]
      · rw [show decide ((a : Int) + (i : Int) < (s.size : Int)) = false from decide_eq_false (by omega)]
        simp [impl_ReadVar.j2]

theorem readVar_both (s : ByteArray) (hs : s.size ≤ 140737488351232) (a : Int) (k : Nat) (hk : 1000000020 < k) :
    ∃ r : Int × Int × Bool, spec_ReadVar.f k s a = some r ∧ impl_ReadVar.f k s a = some r ∧ (r.2.2 = true → 0 ≤ r.1 ∧ r.1 ≤ 1000000000 ∧ 0 ≤ r.2.1 ∧ r.2.1 ≤ s.size) := by
  obtain ⟨k, rfl⟩ : ∃ m, k = m + 1 := ⟨k - 1, by omega⟩
  unfold spec_ReadVar.f impl_ReadVar.f
  rw [spec_in]
  simp only [Option.bind_some, impl_ReadVar.j0]
  by_cases h : 0 ≤ a ∧ a ≤ s.size
  · obtain ⟨n, rfl⟩ := Int.eq_ofNat_of_zero_le h.1
    have hS := Sofar.start s n (by omega)
    obtain ⟨r, h1, h2, h3⟩ := readVar_loop s hs n 5 0 0 1 k (by omega) (by omega) hS (by omega)
    have h1' := (spec_ReadVar.mono_l k).1 _ _ _ _ _ r h1
    refine ⟨r, ?_, ?_, h3⟩
    · rw [decide_eq_true h, if_pos rfl]
      simpa using h1'
    · rw [if_neg (by omega), decide_eq_false (show ¬ (n : Int) > (s.size : Int) by omega), if_neg (by decide)]
      simpa using h2
  · refine ⟨(0, 0, false), ?_, ?_, by simp⟩
    · rw [decide_eq_false h]
      simp
    · by_cases ha : a < 0
      · rw [if_pos ha]
        simp
      · rw [if_neg ha, decide_eq_true (show a > (s.size : Int) by omega)]
        simp

theorem readShort_both (s : ByteArray) (hs : s.size ≤ 140737488351232) (a : Int) (k : Nat) (hk : 1000000020 < k) :
    ∃ r : ByteArray × Int × Bool, spec_ReadShort.f k s a = some r ∧ impl_ReadShort.f k s a = some r := by
  obtain ⟨⟨n, p, b⟩, h, g, hr⟩ := readVar_both s hs a k hk
  unfold spec_ReadShort.f impl_ReadShort.f
  rw [h, g]
  simp only [Option.bind_some]
  cases b with
  | false => exact ⟨_, rfl, rfl⟩
  | true =>
    obtain ⟨h0, h1, h2, h3⟩ := hr rfl
    simp only at h0 h1 h2 h3
    by_cases c1 : n > 20000
    · simp [c1]
    · have w1 : wrap64 ((s.size : Int) - p) = (s.size : Int) - p := w64 (by omega) (by omega)
      have w2 : wrap64 (p + n) = p + n := w64 (by omega) (by omega)
      by_cases c2 : n > (s.size : Int) - p
      · simp [c1, w1, c2]
      · have e1 : p ≤ p + n := by omega
        have e2 : p + n ≤ (s.size : Int) := by omega
        rw [if_pos rfl, if_neg c1, w1, if_neg c2, w2, if_pos h2, if_pos e1, if_pos e2]
        exact ⟨_, rfl, rfl⟩

theorem FnExactReadShort : laws_FnExactReadShort.Pure := by
  intro s a hs _
  refine ⟨1000000021, ?_⟩
  obtain ⟨r, h, g⟩ := readShort_both s hs a 1000000021 (by omega)
  unfold laws_FnExactReadShort.f
  split
  · rfl
  · rw [h, g]
    simp
end Go.Proofs.Ytgndndffcdkddaa.Pure
