/- Plain lemmas on whole numbers and bytes, of no program. -/
import Derived.Test.YtpmgfmalpijjbaaDoorWWords
import Derived.Lib.Bytes
import Derived.Lib.IndexBytes
import Derived.Laws.BitsLemmas
namespace Go.Proofs.YtpmgfmalpijjbaaDoor.Plain
open Go.RowKit Go.Proofs.YtpmgfmalpijjbaaDoorW.PrintWords

/-! ### Whole numbers -/
theorem w64 {n : Int} (h0 : -9223372036854775808 ≤ n) (h1 : n ≤ 9223372036854775807) : wrap64 n = n := by
  unfold wrap64
  omega

theorem wf64 {n : Int} (h : (Lit.int .i64 n).wf = true) : -9223372036854775808 ≤ n ∧ n ≤ 9223372036854775807 := by
  simp only [Lit.wf, Bool.and_eq_true, decide_eq_true_eq] at h
  have h1 : IntKind.i64.min = -9223372036854775808 := by decide
  have h2 : IntKind.i64.max = 9223372036854775807 := by decide
  omega

theorem wfu32 {n : Int} (h : (Lit.int .u32 n).wf = true) : 0 ≤ n ∧ n < 4294967296 := by
  simp only [Lit.wf, Bool.and_eq_true, decide_eq_true_eq] at h
  have h1 : IntKind.u32.min = 0 := by decide
  have h2 : IntKind.u32.max = 4294967295 := by decide
  omega

theorem tdiv_pos {a b : Int} (h : 0 ≤ a) : Int.tdiv a b = a / b := Int.tdiv_eq_ediv_of_nonneg h
theorem tmod_pos {a b : Int} (h : 0 ≤ a) : Int.tmod a b = a % b := Int.tmod_eq_emod_of_nonneg h

theorem sq_mono {a b : Int} (h0 : 0 ≤ a) (h : a ≤ b) : a * a ≤ b * b := Int.mul_le_mul h h h0 (Int.le_trans h0 h)

/-! ### Bytes -/
theorem bytesOf_inj : ∀ {xs ys : List Int}, (∀ x ∈ xs, 0 ≤ x ∧ x < 256) → (∀ y ∈ ys, 0 ≤ y ∧ y < 256) → Lib.bytesOf xs = Lib.bytesOf ys → xs = ys
  | [], [], _, _, _ => rfl
  | [], _ :: _, _, _, h => by simp [Lib.bytesOf] at h
  | _ :: _, [], _, _, h => by simp [Lib.bytesOf] at h
  | x :: xs, y :: ys, hx, hy, h => by
    simp only [Lib.bytesOf, List.map_cons, List.cons.injEq] at h
    have a := hx x (by simp)
    have b := hy y (by simp)
    have e : x = y := by
      have h1 := congrArg UInt8.toNat h.1
      simp only [UInt8.toNat_ofNat'] at h1
      omega
    subst e
    rw [bytesOf_inj (fun z hz => hx z (by simp [hz])) (fun z hz => hy z (by simp [hz])) h.2]

def numsAt (s : ByteArray) (a n : Nat) : List Int := ((s.data.toList.drop a).take n).map fun u => (u.toNat : Int)

theorem numsAt_range (s : ByteArray) (a n : Nat) : ∀ x ∈ numsAt s a n, 0 ≤ x ∧ x < 256 := by
  intro x hx
  simp only [numsAt, List.mem_map] at hx
  obtain ⟨u, _, rfl⟩ := hx
  have := u.toNat_lt
  omega

theorem numsAt_zero (s : ByteArray) (a : Nat) : numsAt s a 0 = [] := by simp [numsAt]

theorem numsAt_length (s : ByteArray) (a n : Nat) (h : a + n ≤ s.size) : (numsAt s a n).length = n := by
  have : s.data.toList.length = s.size := by simp
  simp only [numsAt, List.length_map, List.length_take, List.length_drop]
  omega

theorem numsAt_succ (s : ByteArray) (a n : Nat) (h : a + n < s.size) : numsAt s a (n + 1) = numsAt s a n ++ [bt s ((a + n : Nat) : Int)] := by
  have hl : n < (s.data.toList.drop a).length := by
    have : s.data.toList.length = s.size := by simp
    simp only [List.length_drop]
    omega
  simp only [numsAt]
  rw [List.take_succ_eq_append_getElem hl, List.map_append]
  congr 1
  simp only [List.map_cons, List.map_nil, List.getElem_drop, List.cons.injEq, and_true]
  unfold bt
  have hi : ((a + n : Nat) : Int).toNat = a + n := by omega
  rw [dif_pos (by omega)]
  simp only [hi]
  rfl

theorem bytesOf_nums (l : List UInt8) : Lib.bytesOf (l.map fun u => (u.toNat : Int)) = l := by
  induction l with
  | nil => rfl
  | cons u l ih =>
    simp only [Lib.bytesOf, List.map_cons, List.map_map] at ih ⊢
    rw [ih]
    simp

theorem extract_nums (s : ByteArray) (a b : Nat) : (s.extract a b).toList = Lib.bytesOf (numsAt s a (b - a)) := by
  rw [Lib.toList_data, Lib.extract_data, numsAt, bytesOf_nums]

theorem str_toList (xs : List Int) : (strOfNums xs).toList = Lib.bytesOf xs := Lib.strOfNums_toList xs

theorem str_size (xs : List Int) : (strOfNums xs).size = xs.length := by simp [strOfNums, ByteArray.size]

theorem bt_at' (s : ByteArray) (i : Nat) (h : i < s.size) : bt s (i : Int) = ((s[i]'h).toNat : Int) := by
  unfold bt
  rw [dif_pos (by simpa using h)]
  rfl

/-! ### A number in bytes -/
/-- VarText's bytes. -/
def vtL (n : Nat) : List Int := if 127 < n then ((n % 128 + 128 : Nat) : Int) :: vtL (n / 128) else [(n : Int)]
termination_by n
decreasing_by omega

theorem vtL_big {n : Nat} (h : 127 < n) : vtL n = ((n % 128 + 128 : Nat) : Int) :: vtL (n / 128) := by rw [vtL, if_pos h]
theorem vtL_small {n : Nat} (h : ¬ 127 < n) : vtL n = [(n : Int)] := by rw [vtL, if_neg h]

theorem vtL_length (n : Nat) : (vtL n).length ≤ n + 1 := by
  induction n using Nat.strongRecOn with
  | ind n ih =>
    by_cases h : 127 < n
    · rw [vtL_big h]
      have := ih (n / 128) (by omega)
      simp only [List.length_cons]
      omega
    · rw [vtL_small h]
      simp

theorem vtL_range (n : Nat) : ∀ x ∈ vtL n, 0 ≤ x ∧ x < 256 := by
  induction n using Nat.strongRecOn with
  | ind n ih =>
    intro x hx
    by_cases h : 127 < n
    · rw [vtL_big h] at hx
      rcases List.mem_cons.1 hx with rfl | hx
      · omega
      · exact ih (n / 128) (by omega) x hx
    · rw [vtL_small h] at hx
      simp only [List.mem_singleton] at hx
      omega

theorem vtL_last (n : Nat) : ∀ ds, vtL n = ds ++ [0] → ds = [] := by
  induction n using Nat.strongRecOn with
  | ind n ih =>
    intro ds h
    by_cases hn : 127 < n
    · rw [vtL_big hn] at h
      match ds, h with
      | [], h => rfl
      | d :: ds, h =>
        simp only [List.cons_append, List.cons.injEq] at h
        have e := ih (n / 128) (by omega) ds h.2
        subst e
        have h2 := h.2
        by_cases hm : 127 < n / 128
        · rw [vtL_big hm] at h2
          have h3 := congrArg List.length h2
          have h4 : 0 < (vtL (n / 128 / 128)).length := by
            by_cases hk : 127 < n / 128 / 128
            · rw [vtL_big hk]; simp
            · rw [vtL_small hk]; simp
          simp only [List.length_cons, List.nil_append, List.length_nil] at h3
          omega
        · rw [vtL_small hm] at h2
          simp only [List.nil_append, List.cons.injEq, and_true] at h2
          omega
    · rw [vtL_small hn] at h
      match ds, h with
      | [], _ => rfl
      | [d], h => simp at h
      | d :: e :: ds, h => simp at h

/-! ### Divisions -/
theorem ediv_neg_of {n b : Int} (hb : 0 < b) : (-n) / b = if n % b = 0 then -(n / b) else -(n / b) - 1 := by
  have h1 := Int.mul_ediv_add_emod n b
  have h2 := Int.emod_nonneg n (show b ≠ 0 by omega)
  have h3 := Int.emod_lt_of_pos n hb
  by_cases h : n % b = 0
  · rw [if_pos h]
    refine ((Int.ediv_emod_unique hb (r := 0)).2 ⟨?_, by omega, by omega⟩).1
    rw [Int.mul_neg]
    omega
  · rw [if_neg h]
    refine ((Int.ediv_emod_unique hb (r := b - n % b)).2 ⟨?_, by omega, by omega⟩).1
    rw [Int.mul_sub, Int.mul_neg, Int.mul_one]
    omega

/-- What FloorDiv's two divisions come to. -/
theorem tdiv_down {a b : Int} (hb : 0 < b) : (if Int.tmod a b < 0 then Int.tdiv a b - 1 else Int.tdiv a b) = a / b := by
  by_cases h : 0 ≤ a
  · rw [tmod_pos h, tdiv_pos h, if_neg]
    have := Int.emod_nonneg a (show b ≠ 0 by omega)
    omega
  · obtain ⟨n, rfl⟩ : ∃ n, a = -n := ⟨-a, by omega⟩
    rw [Int.neg_tdiv, Int.neg_tmod, tmod_pos (show 0 ≤ n by omega), tdiv_pos (show 0 ≤ n by omega), ediv_neg_of hb]
    have := Int.emod_nonneg n (show b ≠ 0 by omega)
    by_cases h0 : n % b = 0
    · rw [if_neg (by omega), if_pos h0]
    · rw [if_pos (by omega), if_neg h0]

theorem ediv_bounds {a b : Int} (hb : 0 < b) {m : Int} (h0 : -m ≤ a) (h1 : a ≤ m) (hm : 0 ≤ m) : -m ≤ a / b ∧ a / b ≤ m := by
  constructor
  · refine (Int.le_ediv_iff_mul_le hb).2 ?_
    have : m * 1 ≤ m * b := Int.mul_le_mul_of_nonneg_left (by omega) hm
    rw [Int.neg_mul]
    omega
  · refine Int.le_trans (Int.ediv_le_ediv hb h1) ?_
    exact Int.ediv_le_self b hm

theorem tdiv_bounds {a b : Int} (hb : 0 < b) {m : Int} (h0 : -m ≤ a) (h1 : a ≤ m) (hm : 0 ≤ m) : -m ≤ Int.tdiv a b ∧ Int.tdiv a b ≤ m := by
  by_cases h : 0 ≤ a
  · rw [tdiv_pos h]
    exact ediv_bounds hb h0 h1 hm
  · obtain ⟨n, rfl⟩ : ∃ n, a = -n := ⟨-a, by omega⟩
    rw [Int.neg_tdiv, tdiv_pos (show 0 ≤ n by omega)]
    have := ediv_bounds (a := n) hb (m := m) (by omega) (by omega) hm
    omega

/-- FloorDiv's text, where nothing wraps. -/
theorem floor_text {a b : Int} (hb : 0 < b) (h0 : -4611686018427387904 ≤ a) (h1 : a ≤ 4611686018427387904) :
    (if b < 1 then (some 0) else (if b = 0 then (none) else (if (Int.tmod a b) < 0 then (some (wrap64 ((wrap64 (Int.tdiv a b)) - 1))) else (some (wrap64 (Int.tdiv a b)))))) = some (a / b) := by
  have hq := tdiv_bounds hb h0 h1 (by omega)
  rw [if_neg (by omega), if_neg (by omega), w64 (n := Int.tdiv a b) (by omega) (by omega), w64 (n := Int.tdiv a b - 1) (by omega) (by omega), ← tdiv_down hb]
  split <;> rfl

def rdiv (a b : Int) : Int := if a % b ≥ b - a % b then a / b + 1 else a / b

/-- RoundDiv's text behind its FloorDiv, where nothing wraps. -/
theorem round_text {a b : Int} (hb : 0 < b) (hb1 : b ≤ 4611686018427387904) (h0 : -4611686018427387904 ≤ a) (h1 : a ≤ 4611686018427387904) :
    (if (wrap64 (a - (wrap64 (a / b * b)))) ≥ (wrap64 (b - (wrap64 (a - (wrap64 (a / b * b)))))) then (some (wrap64 (a / b + 1))) else (some (a / b))) = some (rdiv a b) := by
  have e := Int.mul_ediv_add_emod a b
  have h2 := Int.emod_nonneg a (show b ≠ 0 by omega)
  have h3 := Int.emod_lt_of_pos a hb
  have hq := ediv_bounds hb h0 h1 (by omega)
  rw [Int.mul_comm] at e
  rw [w64 (n := a / b * b) (by omega) (by omega), show a - a / b * b = a % b by omega, w64 (n := a % b) (by omega) (by omega), w64 (n := b - a % b) (by omega) (by omega), w64 (n := a / b + 1) (by omega) (by omega)]
  unfold rdiv
  split <;> rfl

def clampI (x lo hi : Int) : Int := if x < lo then lo else if x > hi then hi else x
theorem clampI_text (x lo hi : Int) : (if x < lo then (some lo) else (if x > hi then (some hi) else (some x))) = some (clampI x lo hi) := by
  unfold clampI
  split
  · rfl
  · split <;> rfl
theorem clampI_in {x lo hi : Int} (h : lo ≤ hi) : lo ≤ clampI x lo hi ∧ clampI x lo hi ≤ hi := by
  unfold clampI
  split
  · omega
  · split <;> omega
theorem clampI_self {x lo hi : Int} (h0 : lo ≤ x) (h1 : x ≤ hi) : clampI x lo hi = x := by
  unfold clampI
  rw [if_neg (by omega), if_neg (by omega)]

/-! ### Boxes -/
def emB (a b c d : Int) : Bool := decide (c ≤ a) || decide (d ≤ b)
theorem emB_text (a b c d : Int) : (if a ≥ c then (some true) else (some (decide (b ≥ d)))) = some (emB a b c d) := by
  unfold emB
  by_cases h : c ≤ a <;> simp [h]
theorem emB_true {a b c d : Int} : emB a b c d = true ↔ c ≤ a ∨ d ≤ b := by simp [emB]
theorem emB_false {a b c d : Int} : emB a b c d = false ↔ a < c ∧ b < d := by
  simp only [emB, Bool.or_eq_false_iff, decide_eq_false_iff_not]
  omega

/-! ### Draws -/
theorem and255 (y : Int) : 0 ≤ Go.bits .and .i64 y 255 ∧ Go.bits .and .i64 y 255 < 256 := by
  have h : (BitVec.ofInt 64 y &&& BitVec.ofInt 64 255).toNat ≤ 255 := by
    rw [BitVec.toNat_and]
    exact Nat.and_le_right
  show 0 ≤ IntKind.i64.wrap ((BitVec.ofInt 64 y &&& BitVec.ofInt 64 255).toNat : Int) ∧ IntKind.i64.wrap ((BitVec.ofInt 64 y &&& BitVec.ofInt 64 255).toNat : Int) < 256
  rw [IntKind.wrap_i64]
  omega
end Go.Proofs.YtpmgfmalpijjbaaDoor.Plain
