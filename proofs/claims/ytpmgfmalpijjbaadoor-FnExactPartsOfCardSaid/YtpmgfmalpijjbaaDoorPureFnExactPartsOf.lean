/- FnExactPartsOf: the program's PartsOf and the reference's agree, for every text. -/
import Derived.Test.YtpmgfmalpijjbaaDoorQFnExactPartsOfx0
import Derived.Test.YtpmgfmalpijjbaaDoorQFnExactPartsOfx1
import Derived.Test.YtpmgfmalpijjbaaDoorQFnExactPartsOfx2
import Derived.Test.YtpmgfmalpijjbaaDoorQFnExactPartsOfx3
import Derived.Test.YtpmgfmalpijjbaaDoorPlain
namespace Go.Proofs.YtpmgfmalpijjbaaDoor.Pure
open Go.RowKit Go.Proofs.YtpmgfmalpijjbaaDoor.PFnExactPartsOf Go.Proofs.YtpmgfmalpijjbaaDoor.Plain Go.Proofs.YtpmgfmalpijjbaaDoorW.PrintWords Go.Proofs.YtpmgfmalpijjbaaDoorW.PrintLast

/-! ### words with one blank between -/
def J (L : List (List UInt8)) : List UInt8 := Lib.join L [32]
theorem J_nil : J [] = [] := rfl
theorem J_one (x : List UInt8) : J [x] = x := Lib.join_one x [32]
theorem J_cons (x : List UInt8) (r : List (List UInt8)) : J (x :: r) = x ++ (r.map fun y => 32 :: y).flatten := by
  unfold J
  rw [Lib.join_cons]
  rfl
theorem J_snoc (L : List (List UInt8)) (x : List UInt8) (h : L ≠ []) : J (L ++ [x]) = J L ++ 32 :: x := by
  cases L with
  | nil => exact absurd rfl h
  | cons y r =>
    rw [List.cons_append, J_cons, J_cons]
    simp
theorem J_cons2 (x y : List UInt8) (r : List (List UInt8)) : J (x :: y :: r) = x ++ 32 :: J (y :: r) := by
  rw [J_cons, J_cons]
  simp
theorem J_length (x : List UInt8) (r : List (List UInt8)) : (J (x :: r)).length = r.length + Lib.lens (x :: r) := by
  unfold J
  rw [Lib.join_length]
  simp
/-! ### a text parted at its blanks -/
def parts : List UInt8 → List (List UInt8)
  | [] => [[]]
  | b :: l => if b = 32 then [] :: parts l else (b :: (parts l).headD []) :: (parts l).tail
theorem parts_ne (l : List UInt8) : parts l ≠ [] := by
  cases l with
  | nil => simp [parts]
  | cons b l =>
    unfold parts
    split <;> simp
theorem J_parts (l : List UInt8) : J (parts l) = l := by
  induction l with
  | nil => rfl
  | cons b l ih =>
    have hn := parts_ne l
    unfold parts
    obtain ⟨x, r, e⟩ : ∃ x r, parts l = x :: r := by
      cases h : parts l with
      | nil => exact absurd h hn
      | cons x r => exact ⟨x, r, rfl⟩
    rw [e] at ih ⊢
    split
    · rename_i hb
      subst hb
      rw [J_cons2, ih]
      rfl
    · rw [List.headD_cons, List.tail_cons, J_cons]
      rw [J_cons] at ih
      rw [List.cons_append, ih]
theorem parts_no (l : List UInt8) : ∀ x ∈ parts l, ∀ b ∈ x, b ≠ 32 := by
  induction l with
  | nil => simp [parts]
  | cons c l ih =>
    unfold parts
    split
    · intro x hx
      rcases List.mem_cons.1 hx with rfl | hx
      · simp
      · exact ih x hx
    · rename_i hc
      intro x hx
      have hn := parts_ne l
      obtain ⟨y, r, e⟩ : ∃ x r, parts l = x :: r := by
        cases h : parts l with
        | nil => exact absurd h hn
        | cons x r => exact ⟨x, r, rfl⟩
      rw [e] at hx ih
      rcases List.mem_cons.1 hx with rfl | hx
      · intro b hb
        rcases List.mem_cons.1 hb with rfl | hb
        · exact hc
        · exact ih y List.mem_cons_self b hb
      · exact ih x (List.mem_cons_of_mem _ hx)
theorem parts_word (x : List UInt8) (hx : ∀ b ∈ x, b ≠ 32) : parts x = [x] := by
  induction x with
  | nil => rfl
  | cons b x ih =>
    unfold parts
    rw [if_neg (hx b List.mem_cons_self), ih (fun c hc => hx c (List.mem_cons_of_mem _ hc))]
    rfl
theorem parts_app (x : List UInt8) (hx : ∀ b ∈ x, b ≠ 32) (l : List UInt8) : parts (x ++ 32 :: l) = x :: parts l := by
  induction x with
  | nil => simp [parts]
  | cons b x ih =>
    rw [List.cons_append, parts, if_neg (hx b List.mem_cons_self), ih (fun c hc => hx c (List.mem_cons_of_mem _ hc))]
    rfl
/-- The words come back. -/
theorem parts_J (L : List (List UInt8)) (hL : L ≠ []) (h : ∀ x ∈ L, ∀ b ∈ x, b ≠ 32) : parts (J L) = L := by
  induction L with
  | nil => exact absurd rfl hL
  | cons x r ih =>
    cases r with
    | nil => rw [J_one, parts_word x (h x List.mem_cons_self)]
    | cons y r => rw [J_cons2, parts_app x (h x List.mem_cons_self), ih (by simp) (fun z hz => h z (List.mem_cons_of_mem _ hz))]
/-! ### the library's own -/
theorem first_blank (s : List UInt8) : (∀ b ∈ s, b ≠ 32) ∨ ∃ x l, s = x ++ 32 :: l ∧ ∀ b ∈ x, b ≠ 32 := by
  induction s with
  | nil => exact .inl (by simp)
  | cons b s ih =>
    by_cases hb : b = 32
    · subst hb
      exact .inr ⟨[], s, rfl, by simp⟩
    · rcases ih with h | ⟨x, l, rfl, h⟩
      · exact .inl (fun c hc => by
          rcases List.mem_cons.1 hc with rfl | hc
          · exact hb
          · exact h c hc)
      · exact .inr ⟨b :: x, l, rfl, fun c hc => by
          rcases List.mem_cons.1 hc with rfl | hc
          · exact hb
          · exact h c hc⟩
theorem index_at (x l : List UInt8) (h : ∀ b ∈ x, b ≠ 32) : Lib.index (x ++ 32 :: l) [32] = (x.length : Int) := by
  rw [Lib.index_one]
  induction x with
  | nil => simp [Lib.indexByte]
  | cons b x ih =>
    have ih := ih (fun c hc => h c (List.mem_cons_of_mem _ hc))
    rw [List.cons_append, Lib.indexByte, ih]
    have hb : b ≠ 32 := h b List.mem_cons_self
    simp [hb]
theorem split_parts (s : List UInt8) : Lib.split s [32] = parts s := by
  have key : ∀ (n : Nat) (s : List UInt8), s.length = n → Lib.split s [32] = parts s := by
    intro n
    induction n using Nat.strongRecOn with
    | ind n ih =>
      intro s hn
      rcases first_blank s with h | ⟨x, l, rfl, h⟩
      · rw [parts_word s h]
        have hc : Lib.count s [32] = 0 := by
          rw [Lib.count_one, List.count_eq_zero]
          exact fun hm => h 32 hm rfl
        unfold Lib.split
        rw [hc]
        rfl
      · have hix := index_at x l h
        have hd : (x ++ 32 :: l).drop (x.length + 1) = l := by
          rw [← List.drop_drop, List.drop_left]
          rfl
        have hc : Lib.count (x ++ 32 :: l) [32] = Lib.count l [32] + 1 := by
          rw [Lib.count_hit (by simp) hix, List.length_singleton, hd, Nat.add_comm]
        have ih := ih l.length (by rw [← hn, List.length_append, List.length_cons]; omega) l rfl
        unfold Lib.split at ih ⊢
        rw [parts_app x h, hc, Lib.splitK, hix, if_neg (by simp), ← ih]
        simp
  exact key s.length s rfl
/-- strings.Split at a blank. -/
theorem splitB_parts (s : ByteArray) : (Lib.splitB ⟨#[32]⟩ 0 (Lib.countB s ⟨#[32]⟩) s).map (·.data.toList) = parts s.data.toList := by
  rw [Lib.splitB_data]
  exact split_parts s.data.toList

/-- A text of bytes. -/
def mk (l : List UInt8) : ByteArray := ⟨l.toArray⟩
theorem mk_data (l : List UInt8) : (mk l).data.toList = l := rfl
theorem mk_toList (l : List UInt8) : (mk l).toList = l := Lib.toList_data _
theorem mk_size (l : List UInt8) : (mk l).size = l.length := Lib.size_eq _
theorem mk_of (s : ByteArray) : mk s.data.toList = s := Lib.mk_data s
theorem mk_extract (s : ByteArray) (b i : Nat) : s.extract b i = mk ((s.data.toList.drop b).take (i - b)) := by
  rw [← mk_of (s.extract b i), Lib.extract_data]
theorem mk_inj {x y : List UInt8} (h : mk x = mk y) : x = y := by
  have := congrArg (fun s : ByteArray => s.data.toList) h
  exact this
theorem data_inj {x y : ByteArray} (h : x.data.toList = y.data.toList) : x = y := by
  rw [← mk_of x, ← mk_of y, h]
theorem bt_list (s : ByteArray) (i : Nat) (h : i < s.data.toList.length) : bt s (i : Int) = ((s.data.toList[i]).toNat : Int) := by
  have hs : i < s.size := by rw [Lib.size_eq]; exact h
  rw [bt_at' s i hs, Array.getElem_toList]
  rfl
theorem split_mk (s : ByteArray) : Lib.splitB ⟨#[32]⟩ 0 (Lib.countB s ⟨#[32]⟩) s = (parts s.data.toList).map mk := by
  rw [← splitB_parts, List.map_map, show (mk ∘ fun x : ByteArray => x.data.toList) = id from funext fun x => mk_of x, List.map_id]
theorem parts_length (l : List UInt8) : (parts l).length ≤ l.length + 1 := by
  induction l with
  | nil => simp [parts]
  | cons b l ih =>
    have hn := parts_ne l
    unfold parts
    split
    · simp only [List.length_cons]; omega
    · simp only [List.length_cons, List.length_tail]; omega

theorem rdS (l : List ByteArray) (i : Nat) (h : i < l.length) : rdOf ByteArray.empty l (i : Int) = l[i] := by
  simp [rdOf, List.getD_eq_getElem?_getD, List.getElem?_eq_getElem h]
theorem eqStrs_loop (l : List ByteArray) (hl : l.length ≤ 9223372036854775806) (d : Nat) : ∀ (k i : Nat), l.length - i = d → i ≤ l.length → d < k → laws_eqStringS.l0 k l l (i : Int) = some true := by
  induction d with
  | zero =>
    intro k i hd hi hk
    obtain ⟨k, rfl⟩ : ∃ m, k = m + 1 := ⟨k - 1, by omega⟩
    simp only [laws_eqStringS.l0]
    rw [if_neg (by omega)]
  | succ d ih =>
    intro k i hd hi hk
    obtain ⟨k, rfl⟩ : ∃ m, k = m + 1 := ⟨k - 1, by omega⟩
    simp only [laws_eqStringS.l0]
    have c1 : (i : Int) < (l.length : Int) := by omega
    have c2 : (0 : Int) ≤ (i : Int) := by omega
    rw [if_pos c1, if_pos c2, if_pos c1, if_pos trivial, w64 (n := (i : Int) + 1) (by omega) (by omega), show (i : Int) + 1 = ((i + 1 : Nat) : Int) by omega]
    exact ih k (i + 1) (by omega) (by omega) (by omega)
theorem eqStrs_self (l : List ByteArray) (hl : l.length ≤ 9223372036854775806) (k : Nat) (hk : l.length < k) : laws_eqStringS.f k l l = some true := by
  unfold laws_eqStringS.f
  rw [if_pos rfl]
  exact eqStrs_loop l hl l.length k 0 (by omega) (by omega) hk
/-! ### the marks -/
def markT (x : Int) : ByteArray := (laws_markText.f 5 x).getD ByteArray.empty
theorem more_rounds {g : Nat → Option ByteArray} (hg : ∀ k, LeO (g k) (g (k + 1))) (k : Nat) (r : ByteArray) (h : g k = some r) : ∀ m, g (k + m) = some r
  | 0 => h
  | m + 1 => hg (k + m) r (more_rounds hg k r h m)
theorem markT_some (x : Int) (h0 : 1 ≤ x) (h1 : x ≤ 20) (k : Nat) (hk : 5 ≤ k) : laws_markText.f k x = some (markT x) := by
  have h5 : laws_markText.f 5 x = some (markT x) := by
    have hc : x = 1 ∨ x = 2 ∨ x = 3 ∨ x = 4 ∨ x = 5 ∨ x = 6 ∨ x = 7 ∨ x = 8 ∨ x = 9 ∨ x = 10 ∨ x = 11 ∨ x = 12 ∨ x = 13 ∨ x = 14 ∨ x = 15 ∨ x = 16 ∨ x = 17 ∨ x = 18 ∨ x = 19 ∨ x = 20 := by omega
    have e : (laws_markText.f 5 x).isSome = true := by
      rcases hc with rfl | rfl | rfl | rfl | rfl | rfl | rfl | rfl | rfl | rfl | rfl | rfl | rfl | rfl | rfl | rfl | rfl | rfl | rfl | rfl <;> decide +kernel
    unfold markT
    obtain ⟨r, hr⟩ := Option.isSome_iff_exists.1 e
    rw [hr]
    rfl
  obtain ⟨m, rfl⟩ : ∃ m, k = 5 + m := ⟨k - 5, by omega⟩
  exact more_rounds (g := fun k => laws_markText.f k x) (laws_markText.mono x) 5 _ h5 m
theorem markStrs_loop (n : Nat) : ∀ (k i : Nat) (acc : List ByteArray), acc.length ≤ 15 → acc.length - i = n → i ≤ acc.length → (∀ j : Nat, j < i → acc[j]? = some (markT (1 + (j : Int)))) → n + 5 < k →
    ∃ r : List ByteArray, laws_markStringS.l0 k acc (1 + (i : Int)) (i : Int) = some (1 + (acc.length : Int), r) ∧ r.length = acc.length ∧ ∀ j : Nat, j < r.length → r[j]? = some (markT (1 + (j : Int))) := by
  induction n with
  | zero =>
    intro k i acc hl hd hi hj hk
    obtain ⟨k, rfl⟩ : ∃ m, k = m + 1 := ⟨k - 1, by omega⟩
    have e : i = acc.length := by omega
    subst e
    simp only [laws_markStringS.l0]
    rw [if_neg (by omega)]
    exact ⟨acc, rfl, rfl, hj⟩
  | succ n ih =>
    intro k i acc hl hd hi hj hk
    obtain ⟨k, rfl⟩ : ∃ m, k = m + 1 := ⟨k - 1, by omega⟩
    simp only [laws_markStringS.l0]
    rw [if_pos (show (i : Int) < (acc.length : Int) by omega), markT_some (1 + (i : Int)) (by omega) (by omega) k (by omega), Option.bind_some, if_pos (show (0 : Int) ≤ (i : Int) by omega), w64 (n := 1 + (i : Int) + 1) (by omega) (by omega), w64 (n := (i : Int) + 1) (by omega) (by omega),
      show 1 + (i : Int) + 1 = 1 + ((i + 1 : Nat) : Int) by omega, show (i : Int) + 1 = ((i + 1 : Nat) : Int) by omega, show ((i : Int)).toNat = i by omega]
    obtain ⟨r, e, g, q⟩ := ih k (i + 1) (acc.set i (markT (1 + (i : Int)))) (by simpa using hl) (by simp; omega) (by simp; omega) (fun j hj1 => by
      rw [List.getElem?_set]
      by_cases h : i = j
      · subst h
        rw [if_pos rfl, if_pos (by omega)]
      · rw [if_neg h]
        exact hj j (by omega)) (by omega)
    rw [List.length_set] at e g
    exact ⟨r, e, g, q⟩
theorem heldStrs_loop (r : List ByteArray) (hl : r.length ≤ 15) (hr : ∀ j : Nat, j < r.length → r[j]? = some (markT (1 + (j : Int)))) (n : Nat) : ∀ (k i : Nat), r.length - i = n → i ≤ r.length → n + 5 < k →
    laws_heldStringS.l0 k r (1 + (i : Int)) (i : Int) = some (1 + (r.length : Int)) := by
  induction n with
  | zero =>
    intro k i hd hi hk
    obtain ⟨k, rfl⟩ : ∃ m, k = m + 1 := ⟨k - 1, by omega⟩
    have e : i = r.length := by omega
    subst e
    simp only [laws_heldStringS.l0]
    rw [if_neg (by omega)]
  | succ n ih =>
    intro k i hd hi hk
    obtain ⟨k, rfl⟩ : ∃ m, k = m + 1 := ⟨k - 1, by omega⟩
    have hlt : i < r.length := by omega
    have hv := hr i hlt
    rw [List.getElem?_eq_getElem hlt] at hv
    simp only [laws_heldStringS.l0]
    rw [if_pos (show (i : Int) < (r.length : Int) by omega), if_pos (show (0 : Int) ≤ (i : Int) by omega), markT_some (1 + (i : Int)) (by omega) (by omega) k (by omega), Option.bind_some, rdS r i hlt, if_pos (congrArg ByteArray.toList (Option.some.inj hv)), w64 (n := 1 + (i : Int) + 1) (by omega) (by omega), w64 (n := (i : Int) + 1) (by omega) (by omega),
      show 1 + (i : Int) + 1 = 1 + ((i + 1 : Nat) : Int) by omega, show (i : Int) + 1 = ((i + 1 : Nat) : Int) by omega]
    exact ih k (i + 1) (by omega) (by omega) (by omega)
theorem mark_strs (l : List ByteArray) (hl : l.length ≤ 15) (k : Nat) (hk : l.length + 5 < k) :
    ∃ (n : Int) (r : List ByteArray), laws_markStringS.f k l 1 = some (n, r) ∧ 0 ≤ n ∧ ∀ k', l.length + 5 < k' → laws_heldStringS.f k' r 1 = some n := by
  obtain ⟨r, e, g, q⟩ := markStrs_loop l.length k 0 l hl (by omega) (by omega) (fun j hj => absurd hj (by omega)) hk
  exact ⟨1 + (l.length : Int), r, e, by omega, fun k' hk' => by
    have h := heldStrs_loop r (by omega) q r.length k' 0 (by omega) (by omega) (by omega)
    rw [g] at h
    exact h⟩

/-! ### the words that are not empty -/
def good (b : UInt8) : Bool := decide (32 ≤ b.toNat) && decide (b.toNat ≤ 126)
def full (l : List UInt8) : List ByteArray := ((parts l).filter (fun x => !x.isEmpty)).map mk
def cut (P : List ByteArray) : List ByteArray × Bool := if 10 < P.length then ([], false) else (P, true)
theorem cut_text (P : List ByteArray) : (if (P.length : Int) > 10 then (some (([] : List ByteArray), false)) else (some (P, true))) = some (cut P) := by
  unfold cut
  by_cases h : 10 < P.length
  · rw [if_pos (by omega), if_pos h]
  · rw [if_neg (by omega), if_neg h]
theorem cut_length (P : List ByteArray) : (cut P).1.length ≤ 10 := by
  unfold cut
  split
  · simp
  · simp only; omega
theorem full_end (l : List UInt8) (h : ∀ b ∈ l, b ≠ 32) : full l = if l = [] then [] else [mk l] := by
  unfold full
  rw [parts_word l h]
  by_cases hl : l = []
  · subst hl
    rfl
  · rw [if_neg hl, List.filter_cons, if_pos (by simpa using hl)]
    rfl
theorem full_app (x l : List UInt8) (h : ∀ b ∈ x, b ≠ 32) : full (x ++ 32 :: l) = (if x = [] then [] else [mk x]) ++ full l := by
  unfold full
  rw [parts_app x h]
  by_cases hx : x = []
  · subst hx
    rfl
  · rw [if_neg hx, List.filter_cons, if_pos (by simpa using hx)]
    rfl
theorem good_text (b : UInt8) (h0 : ¬ ((b.toNat : Int) < 32)) (h1 : ¬ ((b.toNat : Int) > 126)) : good b = true := by
  unfold good
  rw [decide_eq_true (by omega), decide_eq_true (by omega)]
  rfl
theorem bad_text (b : UInt8) (h : (b.toNat : Int) < 32 ∨ (b.toNat : Int) > 126) : good b = false := by
  unfold good
  rcases h with h | h
  · rw [decide_eq_false (by omega)]; rfl
  · rw [decide_eq_false (p := b.toNat ≤ 126) (by omega), Bool.and_false]
theorem blank_text (b : UInt8) : ((b.toNat : Int) != 32) = (b != 32) := by
  by_cases h : b = 32
  · subst h; rfl
  · have : ¬ (b.toNat : Int) = 32 := fun e => h (UInt8.toNat_inj.1 (by show b.toNat = 32; omega))
    rw [bne_iff_ne.2 this, bne_iff_ne.2 h]
/-! ### the reference's loop -/
theorem spec_parts_loop (s : ByteArray) (hs : s.size ≤ 600) (d : Nat) : ∀ (k i b : Nat) (out : List ByteArray), s.size - i = d → i ≤ s.size → b ≤ i → out.length ≤ i → (∀ c ∈ (s.data.toList.drop b).take (i - b), c ≠ 32) → 3 * d + 4 ≤ k →
    spec_PartsOf.l0 k s out (b : Int) (i : Int) = some (if (s.data.toList.drop i).all good = true then cut (out ++ full (s.data.toList.drop b)) else ([], false)) := by
  have hsz := Lib.size_eq s
  induction d with
  | zero =>
    intro k i b out hd hi hb hout hw hk
    obtain ⟨k, rfl⟩ : ∃ m, k = m + 4 := ⟨k - 4, by omega⟩
    have e : i = s.size := by omega
    subst e
    have h0 : s.data.toList.drop s.size = [] := by rw [hsz]; exact List.drop_length
    have hx : (s.data.toList.drop b).take (s.size - b) = s.data.toList.drop b := by rw [List.take_of_length_le (by rw [List.length_drop]; omega)]
    have hl : (s.data.toList.drop b).length = s.size - b := by rw [List.length_drop, hsz]
    rw [h0, List.all_nil, if_pos rfl, full_end _ (by rw [← hx]; exact hw)]
    rw [spec_PartsOf.l0, if_pos (by omega), if_neg (by omega), spec_PartsOf.j1, if_neg (by decide), if_neg (by omega), spec_PartsOf.j2, if_neg (by decide), w64 (n := (s.size : Int) + 1) (by omega) (by omega)]
    by_cases hbs : b < s.size
    · have hne : s.data.toList.drop b ≠ [] := fun e => by rw [e] at hl; simp at hl; omega
      rw [if_pos (by omega), if_pos (by omega), if_pos (by omega), if_pos (by omega), if_pos (by omega), if_neg hne, Int.toNat_natCast, Int.toNat_natCast, mk_extract, hx, spec_PartsOf.l0, if_neg (by omega), cut_text]
    · have hne : s.data.toList.drop b = [] := List.eq_nil_of_length_eq_zero (by omega)
      rw [if_neg (by omega), if_pos hne, List.append_nil, spec_PartsOf.l0, if_neg (by omega), cut_text]
  | succ d ih =>
    intro k i b out hd hi hb hout hw hk
    obtain ⟨k, rfl⟩ : ∃ m, k = m + 3 := ⟨k - 3, by omega⟩
    have hlt : i < s.data.toList.length := by omega
    have hdrop : s.data.toList.drop i = s.data.toList[i] :: s.data.toList.drop (i + 1) := List.drop_eq_getElem_cons hlt
    have htake : (s.data.toList.drop b).take (i + 1 - b) = (s.data.toList.drop b).take (i - b) ++ [s.data.toList[i]] := by
      rw [show i + 1 - b = (i - b) + 1 by omega, List.take_add_one, List.getElem?_drop, show b + (i - b) = i by omega, List.getElem?_eq_getElem hlt]
      rfl
    generalize hc : s.data.toList[i] = c at hdrop htake
    have hbt : bt s (i : Int) = (c.toNat : Int) := by rw [bt_list s i hlt, hc]
    rw [hdrop, List.all_cons]
    rw [spec_PartsOf.l0, if_pos (by omega), if_pos (by omega), if_pos (by omega), hbt]
    by_cases h0 : (c.toNat : Int) < 32
    · rw [if_pos h0, spec_PartsOf.j1, if_pos rfl, bad_text c (.inl h0), Bool.false_and, if_neg (by decide)]
    · rw [if_neg h0]
      by_cases h1 : (c.toNat : Int) > 126
      · rw [decide_eq_true h1, spec_PartsOf.j1, if_pos rfl, bad_text c (.inr h1), Bool.false_and, if_neg (by decide)]
      · rw [decide_eq_false h1, spec_PartsOf.j1, if_neg (by decide), if_pos (by omega), if_pos (by omega), hbt, blank_text, good_text c h0 h1, Bool.true_and]
        by_cases h2 : c = 32
        · subst h2
          rw [show ((32 : UInt8) != 32) = false from rfl, spec_PartsOf.j2, if_neg (by decide), w64 (n := (i : Int) + 1) (by omega) (by omega), show (i : Int) + 1 = ((i + 1 : Nat) : Int) by omega]
          have hparts : s.data.toList.drop b = (s.data.toList.drop b).take (i - b) ++ 32 :: s.data.toList.drop (i + 1) := by
            have h := (List.take_append_drop (i - b) (s.data.toList.drop b)).symm
            rw [List.drop_drop, show b + (i - b) = i by omega, hdrop] at h
            exact h
          have hnil : (s.data.toList.drop b).take (i - b) = [] ↔ ¬ b < i := by
            rw [← List.length_eq_zero_iff, List.length_take, List.length_drop]
            omega
          rw [hparts, full_app _ _ hw]
          by_cases hbi : b < i
          · rw [if_pos (by omega), if_pos (by omega), if_pos (by omega), if_pos (by omega), if_pos (by omega), if_neg (fun e => hnil.1 e hbi), Int.toNat_natCast, Int.toNat_natCast, mk_extract,
              ih k (i + 1) (i + 1) _ (by omega) (by omega) (by omega) (by simp; omega) (by simp) (by omega), List.append_assoc]
          · rw [if_neg (by omega), if_pos (hnil.2 hbi), List.nil_append, ih k (i + 1) (i + 1) _ (by omega) (by omega) (by omega) (by omega) (by simp) (by omega)]
        · rw [show (c != 32) = true by simpa using h2, spec_PartsOf.j2, if_pos rfl, w64 (n := (i : Int) + 1) (by omega) (by omega), show (i : Int) + 1 = ((i + 1 : Nat) : Int) by omega,
            ih k (i + 1) b out (by omega) (by omega) (by omega) (by omega) (fun x hx => by
              rw [htake] at hx
              rcases List.mem_append.1 hx with hx | hx
              · exact hw x hx
              · rw [List.mem_singleton.1 hx]; exact h2) (by omega)]
def answer (s : ByteArray) : List ByteArray × Bool := if 600 < s.size then ([], false) else if s.data.toList.all good = true then cut (full s.data.toList) else ([], false)
theorem spec_parts (s : ByteArray) (k : Nat) (hk : 2000 ≤ k) : spec_PartsOf.f k s = some (answer s) := by
  unfold spec_PartsOf.f answer
  rw [Option.bind_some]
  by_cases h : 600 < s.size
  · rw [if_pos (by omega), if_pos h]
  · rw [if_neg (by omega), if_neg h]
    exact spec_parts_loop s (by omega) s.size k 0 0 [] (by omega) (by omega) (by omega) (by simp) (by simp) (by omega)
/-! ### the program's loops -/
theorem impl_take_loop (L : List ByteArray) (hL : L.length ≤ 1000) (d : Nat) : ∀ (k i : Nat) (acc : List ByteArray), L.length - i = d → i ≤ L.length → acc.length ≤ i → d < k →
    impl_PartsOf.l1 k acc L (L.length : Int) (i : Int) = some (cut (acc ++ (L.drop i).filter (fun x => !x.toList.isEmpty))) := by
  induction d with
  | zero =>
    intro k i acc hd hi ha hk
    obtain ⟨k, rfl⟩ : ∃ m, k = m + 1 := ⟨k - 1, by omega⟩
    rw [impl_PartsOf.l1, if_neg (by omega), List.drop_of_length_le (by omega), List.filter_nil, List.append_nil, cut_text]
  | succ d ih =>
    intro k i acc hd hi ha hk
    obtain ⟨k, rfl⟩ : ∃ m, k = m + 1 := ⟨k - 1, by omega⟩
    have hlt : i < L.length := by omega
    rw [impl_PartsOf.l1, if_pos (by omega), if_pos (by omega), if_pos (by omega), rdS L i hlt, w64 (n := (i : Int) + 1) (by omega) (by omega), show (i : Int) + 1 = ((i + 1 : Nat) : Int) by omega, List.drop_eq_getElem_cons hlt, List.filter_cons]
    by_cases he : L[i].toList = ([] : List UInt8)
    · rw [if_pos he, if_neg (by rw [he]; decide), ih k (i + 1) acc (by omega) (by omega) (by omega) (by omega)]
    · rw [if_neg he, if_pos (show acc.length < 8796093022208 by omega), if_pos (by simpa using he), ih k (i + 1) (acc ++ [L[i]]) (by omega) (by omega) (by simp; omega) (by omega), List.append_assoc]
      rfl
theorem full_filter (l : List UInt8) : ((parts l).map mk).filter (fun x => !x.toList.isEmpty) = full l := by
  unfold full
  rw [List.filter_map]
  congr 1
  apply List.filter_congr
  intro x _
  show (!(mk x).toList.isEmpty) = _
  rw [mk_toList]
theorem impl_parts_loop (s : ByteArray) (hs : s.size ≤ 600) (d : Nat) : ∀ (k i : Nat), s.size - i = d → i ≤ s.size → d + 1000 ≤ k →
    impl_PartsOf.l0 k s (i : Int) = some (if (s.data.toList.drop i).all good = true then cut (full s.data.toList) else ([], false)) := by
  have hsz := Lib.size_eq s
  induction d with
  | zero =>
    intro k i hd hi hk
    obtain ⟨k, rfl⟩ : ∃ m, k = m + 1 := ⟨k - 1, by omega⟩
    have e : i = s.size := by omega
    subst e
    have h0 : s.data.toList.drop s.size = [] := by rw [hsz]; exact List.drop_length
    have hn : ((parts s.data.toList).map mk).length ≤ 601 := by
      rw [List.length_map]
      have := parts_length s.data.toList
      omega
    have h1 := impl_take_loop ((parts s.data.toList).map mk) (by omega) _ k 0 [] rfl (by omega) (by simp) (by omega)
    rw [List.drop_zero, List.nil_append, full_filter] at h1
    rw [h0, List.all_nil, if_pos rfl, impl_PartsOf.l0, if_neg (by omega), strings_Split.f, if_pos (by omega), if_pos (by decide), Option.bind_some, split_mk]
    exact h1
  | succ d ih =>
    intro k i hd hi hk
    obtain ⟨k, rfl⟩ : ∃ m, k = m + 1 := ⟨k - 1, by omega⟩
    have hlt : i < s.data.toList.length := by omega
    have hdrop : s.data.toList.drop i = s.data.toList[i] :: s.data.toList.drop (i + 1) := List.drop_eq_getElem_cons hlt
    generalize hc : s.data.toList[i] = c at hdrop
    have hbt : bt s (i : Int) = (c.toNat : Int) := by rw [bt_list s i hlt, hc]
    rw [hdrop, List.all_cons, impl_PartsOf.l0, if_pos (by omega), if_pos (by omega), hbt]
    by_cases h0 : (c.toNat : Int) < 32
    · rw [if_pos h0, bad_text c (.inl h0), Bool.false_and, if_neg (by decide)]
    · rw [if_neg h0]
      by_cases h1 : (c.toNat : Int) > 126
      · rw [if_pos h1, bad_text c (.inr h1), Bool.false_and, if_neg (by decide)]
      · rw [if_neg h1, w64 (n := (i : Int) + 1) (by omega) (by omega), show (i : Int) + 1 = ((i + 1 : Nat) : Int) by omega, ih k (i + 1) (by omega) (by omega) (by omega), good_text c h0 h1, Bool.true_and]
theorem impl_parts (s : ByteArray) (k : Nat) (hk : 2000 ≤ k) : impl_PartsOf.f k s = some (answer s) := by
  unfold impl_PartsOf.f answer
  by_cases h : 600 < s.size
  · rw [if_pos (by omega), if_pos h]
  · rw [if_neg (by omega), if_neg h]
    exact impl_parts_loop s (by omega) s.size k 0 (by omega) (by omega) (by omega)
theorem answer_length (s : ByteArray) : (answer s).1.length ≤ 10 := by
  unfold answer
  split
  · simp
  · split
    · exact cut_length _
    · simp
theorem FnExactPartsOf : laws_FnExactPartsOf.Pure := by
  intro a0 _
  refine ⟨3000, ?_⟩
  have hl := answer_length a0
  obtain ⟨n, r, e1, h0, e2⟩ := mark_strs (answer a0).1 (by omega) 2999 (by omega)
  unfold laws_FnExactPartsOf.f
  by_cases h : (a0.size : Int) > 1048576
  · rw [if_pos h]
  · rw [if_neg h, spec_parts a0 3000 (by omega), impl_parts a0 3000 (by omega), Option.bind_some, Option.bind_some, eqStrs_self _ (by omega) 3000 (by omega), Option.bind_some, if_pos rfl]
    have hb : ((answer a0).2 != (answer a0).2) = false := by cases (answer a0).2 <;> rfl
    rw [hb, laws_FnExactPartsOf.j0, if_neg (by decide), e1, Option.bind_some, e2 2999 (by omega), Option.bind_some, if_neg (by omega), if_pos rfl, impl_parts a0 2999 (by omega), Option.bind_some, eqStrs_self _ (by omega) 2999 (by omega), Option.bind_some, if_pos rfl, hb, laws_FnExactPartsOf.j1, if_neg (by decide), e2 2998 (by omega), Option.bind_some, if_neg (by omega), if_pos rfl]
end Go.Proofs.YtpmgfmalpijjbaaDoor.Pure
