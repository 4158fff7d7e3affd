/- []byte(s) of a string: a row of bytes of the call's own, with the mark that such a row bears; plain laws on it and on the walk's goal. -/
import Derived.Test.YtpmgfmalpijjbaaDoorWWords
namespace Go.Proofs.YtpmgfmalpijjbaaDoor.Conv
open Go.RowKit Go.Proofs.YtpmgfmalpijjbaaDoorW.PrintWords
/-- A row of bytes that was made of a string. -/
def MR (w : World) (base : Nat) (v : Value) (xs : List Int) : Prop := ∃ g cap cur, v = .slice (some ⟨g, 0, none⟩) xs.length cap ∧ base ≤ g ∧ w.heap[g]? = some (.cells cur 5 (cur.size, cur.size + 1)) ∧ xs.length ≤ cur.size ∧ xs.length ≤ 9223372036854775807 ∧
  ∀ j : Nat, j < xs.length → cur[j]? = some (.int .u8 (xs.getD j 0))
variable {w w1 W : World} {base base' g n cap : Nat} {v : Value} {xs : List Int}
theorem MR_lower (h : MR w base v xs) (hb : base' ≤ base) : MR w base' v xs := by
  obtain ⟨g, cap, cur, h1, h2, h3⟩ := h
  exact ⟨g, cap, cur, h1, Nat.le_trans hb h2, h3⟩
theorem MR_below (h : MR w base v xs) (hb : Below w.heap.size w w1) : MR w1 base v xs := by
  obtain ⟨g, cap, cur, h1, h2, h3, h4⟩ := h
  refine ⟨g, cap, cur, h1, h2, ?_, h4⟩
  rw [hb.block g (Array.getElem?_eq_some_iff.1 h3).1]
  exact h3
theorem MR_drew (h : MR w base v xs) : MR w.drew base v xs := MR_below h (below_drew (Below.refl _ _))
theorem MR_slice (h : MR w base v xs) : ∃ A c, v = .slice A xs.length c := by
  obtain ⟨g, cap, cur, h1, _⟩ := h
  exact ⟨_, _, h1⟩
theorem MR_reads' {A : Option Addr} {n c : Nat} (h : MR w base (.slice A n c) xs) : n = xs.length ∧ True ∧ (Kd.int .u8).C w A xs.length xs := by
  obtain ⟨g, cap, cur, h1, h2, h3, h4, h5, h6⟩ := h
  injection h1 with e1 e2 e3
  subst e1
  refine ⟨e2, trivial, rfl, h5, fun _ => ⟨_, rfl, fun j p hj => ?_⟩⟩
  obtain ⟨hlt, rfl⟩ := List.getElem?_eq_some_iff.1 hj
  refine ⟨[.int .u8 xs[j]], rfl, rfl, fun i u hu => ?_⟩
  cases i with
  | zero =>
    injection hu with hu
    subst hu
    have h7 := h6 j hlt
    rw [List.getD_eq_getElem?_getD, List.getElem?_eq_getElem hlt] at h7
    show w.cell? ((⟨g, 0, none⟩ : Addr).add (j * 1 + 0)) = _
    rw [add_plain, Nat.mul_one, Nat.add_zero]
    simp only [World.cell?, h3]
    simpa using h7
  | succ i => simp at hu
theorem MR_form (h : MR w base v xs) (_ : 0 < xs.length) : ∃ g cap, v = .slice (some ⟨g, 0, none⟩) xs.length cap ∧ base ≤ g ∧ g < w.heap.size ∧ ∃ cells : Array Value, w.heap[g]? = some (.cells cells 5 (cells.size, cells.size + 1)) := by
  obtain ⟨g, cap, cur, h1, h2, h3, _⟩ := h
  exact ⟨g, cap, h1, h2, (Array.getElem?_eq_some_iff.1 h3).1, cur, h3⟩
theorem MR_celln (h : MR W base (.slice (some ⟨g, 0, none⟩) n cap) xs) (i : Int) (h0 : 0 ≤ i) (hi : i < n) : W.cell? ⟨g, i.toNat, none⟩ = some (.int .u8 (rd xs i)) ∧ W.frozen? ⟨g, i.toNat, none⟩ = false := by
  obtain ⟨g', cap', cur, h1, h2, h3, h4, h5, h6⟩ := h
  injection h1 with e1 e2 e3
  injection e1 with e1
  injection e1 with e1
  subst e1
  have hl : i.toNat < xs.length := by omega
  constructor
  · simp only [World.cell?, h3]
    have h7 := h6 i.toNat hl
    unfold rd
    simpa using h7
  · simp only [World.frozen?, h3]
    have : ¬ cur.size ≤ i.toNat := by omega
    simp [this]
theorem MR_putn (h : MR W base (.slice (some ⟨g, 0, none⟩) n cap) xs) (i : Int) (x : Int) : MR (W.setCell ⟨g, i.toNat, none⟩ (.int .u8 x)) base (.slice (some ⟨g, 0, none⟩) n cap) (xs.set i.toNat x) := by
  obtain ⟨g', cap', cur, h1, h2, h3, h4, h5, h6⟩ := h
  injection h1 with e1 e2 e3
  injection e1 with e1
  injection e1 with e1
  subst e1
  subst e2
  refine ⟨g, cap, cur.setIfInBounds i.toNat (.int .u8 x), by rw [List.length_set], h2, ?_, by rw [List.length_set, Array.size_setIfInBounds]; exact h4, by rw [List.length_set]; exact h5, fun j hj => ?_⟩
  · have hm : (W.setCell ⟨g, i.toNat, none⟩ (.int .u8 x)).heap[g]? = (W.heap[g]?).map (fun | .cells c elem frozen => .cells (c.setIfInBounds i.toNat (.int .u8 x)) elem frozen | o => o) := by
      simp only [World.setCell, Array.getElem?_modify, if_pos]
      congr 1
    rw [hm, h3, Array.size_setIfInBounds]
    rfl
  · rw [List.length_set] at hj
    rw [List.getD_eq_getElem?_getD, List.getElem?_set, Array.getElem?_setIfInBounds]
    by_cases e : i.toNat = j
    · subst e
      rw [if_pos rfl, if_pos rfl, if_pos hj, if_pos (by omega)]
      rfl
    · rw [if_neg e, if_neg e, h6 j hj, List.getD_eq_getElem?_getD]
theorem MR_string {P : Program} {e src dst : TypeId} (hs : P.underlying src = some (.slice e)) (he : P.underlying e = some (.int .u8)) (hd : P.underlying dst = some .string) (h : MR w base v xs) : (convert src dst v).run P w = .ok (.string (strOfNums xs)) w := by
  obtain ⟨g, cap, cur, rfl, h2, h3, h4, h5, h6⟩ := h
  refine run_convert_bytes_arg w src e hs he g 0 xs.length cap xs rfl (fun i hi => ?_) dst hd
  rw [Nat.zero_add]
  simp only [World.cell?, h3]
  simpa using h6 i hi
/-- By types alone, whatever mark the other block bears. -/
theorem R_types_m {α : Type} {d : Kd α} {e : Nat} {ok : Nat → Prop} {ys : List α} {mk : Nat × Nat} (h : d.R e w base ok v ys) {g t : Nat} {cells : Array Value} (hb : w.heap[g]? = some (.cells cells t mk)) (ht : ∀ q, q ∈ e :: d.E → q ≠ t) : d.R e w base (fun k => ok k ∧ k ≠ g) v ys :=
  Kd.R_mono (Kd.R_bound h) (fun k hk => ⟨hk.1, by
    obtain ⟨_, _, _, q, hq, cells', hc⟩ := hk
    rintro rfl
    rw [hc] at hb
    injection hb with hb
    injection hb with _ hb
    exact ht q hq hb⟩)
section
variable {P : Program} {o : Oper} {rest : List Oper} {ops : Array Oper} {a : Act} {Q : Exit → Act → World → Prop}
theorem R_conv {w0 W : World} (base e : Nat) (hgd : o.guard = none) {N : Tmp} (_hd : o.dst = some N) (src t : TypeId) (x : Operand) (ho : o.op = .convert src t x) (y : ByteArray) (hx : a.eval x = .string y)
    (hs : P.underlying src = some .string) (ht : P.underlying t = some (.slice e)) (he : P.underlying e = some (.int .u8)) (he5 : e = 5) (hl : y.size ≤ 140737488355328) (HB : Below base w0 W) (hbase : base ≤ W.heap.size)
    (h : ∀ v1 w1, MR w1 base v1 (bytesOf y) → Below base w0 w1 → True → True → wpList P ops Q rest (a.put o.dst v1) w1) : wpList P ops Q (o :: rest) a W := by
  have hr := Lib.run_convert_string_bytes (P := P) W src t e y hs ht he
  refine Kd.event_run hgd (v := .slice (some ⟨W.heap.size, 0, none⟩) y.size (grownCap W y.size 0 e)) (w1 := Lib.bytesWorld W e y) ?_ (h _ _ ⟨W.heap.size, grownCap W y.size 0 e, Lib.bytesCells W e y, by rw [bytesOf_length], hbase, ?_, ?_, by rw [bytesOf_length]; omega, fun j hj => ?_⟩ (bytes_below HB hbase e y) trivial trivial)
  · simp [execOp, ho, hx, hr]
  · rw [Lib.bytesWorld_at_new, he5]
  · rw [bytesOf_length]
    simp [Lib.bytesCells]
  · rw [bytesOf_length] at hj
    have h1 := Lib.bytesWorld_cell W e y j hj
    simp only [World.cell?, Lib.bytesWorld_at_new] at h1
    rw [show (bytesOf y).getD j 0 = ((y.data.toList.getD j 0).toNat : Int) by
      have hl : j < y.data.toList.length := by simpa using hj
      unfold bytesOf
      rw [List.getD_eq_getElem?_getD, List.getElem?_map, List.getElem?_eq_getElem hl, List.getD_eq_getElem?_getD, List.getElem?_eq_getElem hl]
      rfl]
    simpa using h1
end
end Go.Proofs.YtpmgfmalpijjbaaDoor.Conv
