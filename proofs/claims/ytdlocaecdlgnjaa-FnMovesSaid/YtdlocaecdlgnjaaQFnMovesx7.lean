/- The walks of FnMoves, part 7: what the print wrote, with some proofs of the session's own. -/
import Derived.Test.YtdlocaecdlgnjaaName
import Derived.Test.YtdlocaecdlgnjaaQFnMovesx0
import Derived.Test.YtdlocaecdlgnjaaQFnMovesx1
import Derived.Test.YtdlocaecdlgnjaaQFnMovesx2
import Derived.Test.YtdlocaecdlgnjaaQFnMovesx3
import Derived.Test.YtdlocaecdlgnjaaQFnMovesx4
import Derived.Test.YtdlocaecdlgnjaaQFnMovesx5
import Derived.Test.YtdlocaecdlgnjaaQFnMovesx6
namespace Go.Proofs.Ytdlocaecdlgnjaa.PFnMoves
open Go.RowKit Go.Proofs.YtdlocaecdlgnjaaW.PrintWords Go.Proofs.YtdlocaecdlgnjaaW.PrintLast Go.Proofs.YtdlocaecdlgnjaaW.PrintMore
attribute [local go_sem] max2_int min2_int max_two min_two max_three min_three max_four min_four   -- for this text's walks alone
set_option linter.unusedVariables false
set_option linter.unusedSimpArgs false

attribute [local go_sem high] eqA24 eqA34
/-! ### laws_FnMoves: function 10 -/
def laws_FnMoves.f (k : Nat) (l0 : List Int) : Option (Bool) := (laws_big.f l0).bind fun t234 => (if t234 = true then (some true) else ((spec_DrawMoved.f k l0).bind fun bt235 => ((impl_Shift.f 70 (-30)).bind fun bt245 => ((impl_Apply.f bt245.1 bt245.2.1 bt245.2.2.1 bt245.2.2.2.1 bt245.2.2.2.2.1 bt245.2.2.2.2.2 bt235.2.2.2.2.2.2.1 bt235.2.2.2.2.2.2.2).bind fun bt251 => ((impl_Still.f).bind fun bt254 => ((impl_Compose.f k bt235.1 bt235.2.1 bt235.2.2.1 bt235.2.2.2.1 bt235.2.2.2.2.1 bt235.2.2.2.2.2.1 bt254.1 bt254.2.1 bt254.2.2.1 bt254.2.2.2.1 bt254.2.2.2.2.1 bt254.2.2.2.2.2).bind fun bt260 => ((impl_Still.f).bind fun bt268 => ((impl_Compose.f k bt268.1 bt268.2.1 bt268.2.2.1 bt268.2.2.2.1 bt268.2.2.2.2.1 bt268.2.2.2.2.2 bt235.1 bt235.2.1 bt235.2.2.1 bt235.2.2.2.1 bt235.2.2.2.2.1 bt235.2.2.2.2.2.1).bind fun bt274 => ((impl_Shift.f 5 9).bind fun bt282 => ((impl_Compose.f k bt282.1 bt282.2.1 bt282.2.2.1 bt282.2.2.2.1 bt282.2.2.2.2.1 bt282.2.2.2.2.2 bt235.1 bt235.2.1 bt235.2.2.1 bt235.2.2.2.1 bt235.2.2.2.2.1 bt235.2.2.2.2.2.1).bind fun bt288 => ((impl_Apply.f bt235.1 bt235.2.1 bt235.2.2.1 bt235.2.2.2.1 bt235.2.2.2.2.1 bt235.2.2.2.2.2.1 bt235.2.2.2.2.2.2.1 bt235.2.2.2.2.2.2.2).bind fun bt296 => ((impl_Apply.f bt288.1 bt288.2.1 bt288.2.2.1 bt288.2.2.2.1 bt288.2.2.2.2.1 bt288.2.2.2.2.2.1 bt235.2.2.2.2.2.2.1 bt235.2.2.2.2.2.2.2).bind fun bt299 => ((impl_Still.f).bind fun bt302 => ((impl_Apply.f bt302.1 bt302.2.1 bt302.2.2.1 bt302.2.2.2.1 bt302.2.2.2.2.1 bt302.2.2.2.2.2 bt235.2.2.2.2.2.2.1 bt235.2.2.2.2.2.2.2).bind fun bt308 => (if (bt308.1 == bt235.2.2.2.2.2.2.1 && (bt308.2 == bt235.2.2.2.2.2.2.2)) = true then (if bt251.1 = (wrap64 (bt235.2.2.2.2.2.2.1 + 70)) then (if bt251.2 = (wrap64 (bt235.2.2.2.2.2.2.2 - 30)) then ((impl_Shift.f (-70) 30).bind fun bt310 => ((impl_Apply.f bt310.1 bt310.2.1 bt310.2.2.1 bt310.2.2.2.1 bt310.2.2.2.2.1 bt310.2.2.2.2.2 bt251.1 bt251.2).bind fun bt316 => (if (bt316.1 == bt235.2.2.2.2.2.2.1 && (bt316.2 == bt235.2.2.2.2.2.2.2)) = true then (if bt260.2.2.2.2.2.2 = true then (if bt274.2.2.2.2.2.2 = true then (if (bt260.1 == bt235.1 && (bt260.2.1 == bt235.2.1 && (bt260.2.2.1 == bt235.2.2.1 && (bt260.2.2.2.1 == bt235.2.2.2.1 && (bt260.2.2.2.2.1 == bt235.2.2.2.2.1 && (bt260.2.2.2.2.2.1 == bt235.2.2.2.2.2.1)))))) = true then (if (bt274.1 == bt235.1 && (bt274.2.1 == bt235.2.1 && (bt274.2.2.1 == bt235.2.2.1 && (bt274.2.2.2.1 == bt235.2.2.2.1 && (bt274.2.2.2.2.1 == bt235.2.2.2.2.1 && (bt274.2.2.2.2.2.1 == bt235.2.2.2.2.2.1)))))) = true then (if bt288.2.2.2.2.2.2 = true then (if bt299.1 = (wrap64 (bt296.1 + 5)) then (if bt299.2 = (wrap64 (bt296.2 + 9)) then ((spec_Apply.f k bt235.1 bt235.2.1 bt235.2.2.1 bt235.2.2.2.1 bt235.2.2.2.2.1 bt235.2.2.2.2.2.1 bt235.2.2.2.2.2.2.1 bt235.2.2.2.2.2.2.2).bind fun bt318 => (if (bt296.1 == bt318.1 && (bt296.2 == bt318.2)) = true then ((impl_MatOk.f bt235.1 bt235.2.1 bt235.2.2.1 bt235.2.2.2.1 bt235.2.2.2.2.1 bt235.2.2.2.2.2.1).bind fun t320 => (if t320 = true then ((impl_PointOk.f bt235.2.2.2.2.2.2.1 bt235.2.2.2.2.2.2.2).bind fun t321 => (some t321)) else (some false))) else (some false))) else (some false)) else (some false)) else (some false)) else (some false)) else (some false)) else (some false)) else (some false)) else (some false)))) else (some false)) else (some false)) else (some false))))))))))))))))
def laws_FnMoves.T5 : Bool × List (List Nat × List Nat) := (true, [([], []), ([], []), ([0, 1, 1], [0, 1]), ([2], [2]), ([3], [3]), ([3], [3]), ([], []), ([6, 4, 2, 0, 1, 2, 3, 4, 6], [4, 6]), ([5, 7, 0, 1, 2, 3, 4, 5, 6, 7], [5])])
def laws_FnMoves.B5 : List Nat := [0, 0, 3, 7, 15, 15, 0, 95, 255]
theorem laws_FnMoves.tab5 : rtab .any (opsOf Try.f10 5) = laws_FnMoves.T5 := by kernel_rfl
theorem laws_FnMoves.bits5 : waitsOk laws_FnMoves.T5.2 laws_FnMoves.B5 = true := by kernel_rfl
def laws_FnMoves.T6 : Bool × List (List Nat × List Nat) := (true, [([], []), ([], []), ([0, 1, 0], [0, 1]), ([2], [2]), ([3], [3]), ([3], [3]), ([], []), ([6, 4, 2, 0, 1, 2, 3, 4, 6], [4, 6]), ([5, 7, 0, 1, 2, 3, 4, 5, 6, 7], [5])])
def laws_FnMoves.B6 : List Nat := [0, 0, 3, 7, 15, 15, 0, 95, 255]
theorem laws_FnMoves.tab6 : rtab .any (opsOf Try.f10 6) = laws_FnMoves.T6 := by kernel_rfl
theorem laws_FnMoves.bits6 : waitsOk laws_FnMoves.T6.2 laws_FnMoves.B6 = true := by kernel_rfl
def laws_FnMoves.T7 : Bool × List (List Nat × List Nat) := (true, [([], []), ([], []), ([0, 1, 0], [0, 1]), ([2], [2]), ([3], [3]), ([3], [3]), ([], []), ([6, 4, 2, 0, 1, 2, 3, 4, 6], [4, 6]), ([5, 7, 0, 1, 2, 3, 4, 5, 6, 7], [5])])
def laws_FnMoves.B7 : List Nat := [0, 0, 3, 7, 15, 15, 0, 95, 255]
theorem laws_FnMoves.tab7 : rtab .any (opsOf Try.f10 7) = laws_FnMoves.T7 := by kernel_rfl
theorem laws_FnMoves.bits7 : waitsOk laws_FnMoves.T7.2 laws_FnMoves.B7 = true := by kernel_rfl
def laws_FnMoves.T10 : Bool × List (List Nat × List Nat) := (true, [([], []), ([], []), ([0, 1, 0], [0, 1]), ([], []), ([2, 3], [2, 3]), ([4, 2], [4]), ([5], [5]), ([6, 5], [5, 6]), ([5], [5]), ([8, 5], [5, 8]), ([9, 5], [5, 9]), ([7, 10, 5], [5, 7, 10]), ([5, 11], [5, 11]), ([12, 5], [12]), ([13], [13]), ([14, 13], [13, 14]), ([13], [13]), ([16, 13], [13, 16]), ([17, 13], [13, 17]), ([15, 18, 13], [13, 15, 18]), ([13, 19], [13, 19]), ([20, 13], [20]), ([21, 21], [21]), ([21], [21]), ([22, 23, 22, 21], [21, 22, 23]), ([21], [21]), ([24, 25, 21], [21, 24, 25]), ([21, 26], [21, 26]), ([27, 24], [27]), ([28], [28]), ([28, 29], [28, 29]), ([30, 28], [30]), ([31], [31]), ([31, 32], [31, 32]), ([33, 31], [33]), ([34], [34]), ([34], [34]), ([35, 36, 34], [34, 35, 36]), ([34, 37], [34, 37]), ([38, 34], [38]), ([39], [39]), ([39], [39]), ([40, 41, 39], [39, 40, 41]), ([39, 42], [39, 42]), ([43, 39], [43]), ([44], [44]), ([44, 45], [44, 45]), ([46, 44], [46]), ([47], [47]), ([48, 47], [47, 48]), ([47], [47]), ([50, 47], [47, 50]), ([51, 47], [47, 51]), ([49, 52, 47], [47, 49, 52]), ([47, 53], [47, 53]), ([54, 47], [54]), ([55], [55]), ([56, 55], [55, 56]), ([55], [55]), ([58, 55], [55, 58]), ([59, 55], [55, 59]), ([57, 60, 55], [55, 57, 60]), ([55, 61], [55, 61]), ([62, 55], [62]), ([63], [63]), ([63], [63]), ([63], [63]), ([65, 66, 63, 63], [63, 65, 66]), ([64, 67, 63], [63, 64, 67]), ([63, 68], [63, 68]), ([69, 67], [69]), ([70], [70]), ([71, 70, 70], [70, 71]), ([70, 72], [70, 72]), ([73, 72], [73]), ([74], [74]), ([75, 74, 74], [74, 75]), ([74, 76], [74, 76]), ([77, 76, 0, 1, 2, 3, 4, 5, 6, 7, 8, 9, 10, 11, 12, 13, 14, 15, 16, 17, 18, 19, 20, 21, 22, 23, 24, 25, 26, 27, 28, 29, 30, 31, 32, 33, 34, 35, 36, 37, 38, 39, 40, 41, 42, 43, 44, 45, 46, 47, 48, 49, 50, 51, 52, 53, 54, 55, 56, 57, 58, 59, 60, 61, 62, 63, 64, 65, 66, 67, 68, 69, 70, 71, 72, 73, 74, 75, 76, 77], [77])])
def laws_FnMoves.B10 : List Nat := [0, 0, 3, 0, 15, 31, 63, 127, 63, 319, 831, 2047, 4095, 8191, 16383, 32767, 16383, 81919, 212991, 524287, 1048575, 2097151, 4194303, 4194303, 16777215, 4194303, 67108863, 134217727, 268435455, 536870911, 1073741823, 2147483647, 4294967295, 8589934591, 17179869183, 34359738367, 34359738367, 137438953471, 274877906943, 549755813887, 1099511627775, 1099511627775, 4398046511103, 8796093022207, 17592186044415, 35184372088831, 70368744177663, 140737488355327, 281474976710655, 562949953421311, 281474976710655, 1407374883553279, 3659174697238527, 9007199254740991, 18014398509481983, 36028797018963967, 72057594037927935, 144115188075855871, 72057594037927935, 360287970189639679, 936748722493063167, 2305843009213693951, 4611686018427387903, 9223372036854775807, 18446744073709551615, 18446744073709551615, 18446744073709551615, 129127208515966861311, 295147905179352825855, 590295810358705651711, 1180591620717411303423, 2361183241434822606847, 4722366482869645213695, 9444732965739290427391, 18889465931478580854783, 37778931862957161709567, 75557863725914323419135, 151115727451828646838271, 302231454903657293676543]
theorem laws_FnMoves.tab10 : rtab .any (opsOf Try.f10 10) = laws_FnMoves.T10 := by kernel_rfl
theorem laws_FnMoves.bits10 : waitsOk laws_FnMoves.T10.2 laws_FnMoves.B10 = true := by kernel_rfl
abbrev T : Bool := true
abbrev F : Bool := false
theorem PS : (∀ (a : Act) (n : Tmp) (v : Value), a.put (some n) v = { a with tmps := a.tmps.setIfInBounds n v }) ∧ (∀ (a : Act) (v : Value), a.put none v = a) ∧ (∀ (l : List Value) (i : Nat) (x : Value), l.toArray.setIfInBounds i x = (l.set i x).toArray) ∧
    (∀ (x y : Value) (l : List Value), (x :: l).set 0 y = y :: l) ∧ (∀ (x y : Value) (l : List Value) (n : Nat), (x :: l).set (n + 1) y = x :: l.set n y) ∧ (∀ n : Int, IntKind.i64.wrap n = wrap64 n) ∧ (∀ n : Int, IntKind.i32.wrap n = wrap32 n) :=
  ⟨fun _ _ _ => rfl, fun _ _ => rfl, fun l i x => List.setIfInBounds_toArray .., fun _ _ _ => rfl, fun _ _ _ _ => rfl, i64_w, i32_w⟩
theorem PQ : (∀ (a : Act) (n : Tmp) (v : Value), a.put (some n) v = { a with tmps := a.tmps.setIfInBounds n v }) ∧ (∀ (a : Act) (v : Value), a.put none v = a) ∧ (∀ (l : List Value) (i : Nat) (x : Value), l.toArray.setIfInBounds i x = (l.set i x).toArray) ∧
    (∀ (x y : Value) (l : List Value), (x :: l).set 0 y = y :: l) ∧ (∀ (x y : Value) (l : List Value) (n : Nat), (x :: l).set (n + 1) y = x :: l.set n y) :=
  ⟨fun _ _ _ => rfl, fun _ _ => rfl, fun l i x => List.setIfInBounds_toArray .., fun _ _ _ => rfl, fun _ _ _ _ => rfl⟩
set_option maxHeartbeats 8000000 in
set_option maxRecDepth 100000 in
theorem laws_FnMoves.calls (k : Nat) (A0 : Option Addr) (c0 : Nat) (l0 : List Int) (r : Bool) (hr_ : r = true) (w : World) (hr0 : Kd.C (Kd.int .u8) w A0 l0.length l0) (hc0 : l0.length ≤ c0) (h : laws_FnMoves.f k l0 = some r) :
    Calls Try.prog 10 #[.slice A0 l0.length c0] w fun e w' => e = .returned (.bool r) ∧ Below w.heap.size w w' := by
 have hu34 := Try.underlying34
 have hu24 := Try.underlying24
 have HR0 := Aside0.mk hr0
 have HC0 := Aside0.mk hc0
 clear hr0 hc0
 have HB := Aside0.mk (Below.refl w.heap.size w)
 have H : ((laws_big.f l0).bind fun t234 => (if t234 = true then (some true) else ((spec_DrawMoved.f k l0).bind fun bt235 => ((impl_Shift.f 70 (-30)).bind fun bt245 => ((impl_Apply.f bt245.1 bt245.2.1 bt245.2.2.1 bt245.2.2.2.1 bt245.2.2.2.2.1 bt245.2.2.2.2.2 bt235.2.2.2.2.2.2.1 bt235.2.2.2.2.2.2.2).bind fun bt251 => ((impl_Still.f).bind fun bt254 => ((impl_Compose.f k bt235.1 bt235.2.1 bt235.2.2.1 bt235.2.2.2.1 bt235.2.2.2.2.1 bt235.2.2.2.2.2.1 bt254.1 bt254.2.1 bt254.2.2.1 bt254.2.2.2.1 bt254.2.2.2.2.1 bt254.2.2.2.2.2).bind fun bt260 => ((impl_Still.f).bind fun bt268 => ((impl_Compose.f k bt268.1 bt268.2.1 bt268.2.2.1 bt268.2.2.2.1 bt268.2.2.2.2.1 bt268.2.2.2.2.2 bt235.1 bt235.2.1 bt235.2.2.1 bt235.2.2.2.1 bt235.2.2.2.2.1 bt235.2.2.2.2.2.1).bind fun bt274 => ((impl_Shift.f 5 9).bind fun bt282 => ((impl_Compose.f k bt282.1 bt282.2.1 bt282.2.2.1 bt282.2.2.2.1 bt282.2.2.2.2.1 bt282.2.2.2.2.2 bt235.1 bt235.2.1 bt235.2.2.1 bt235.2.2.2.1 bt235.2.2.2.2.1 bt235.2.2.2.2.2.1).bind fun bt288 => ((impl_Apply.f bt235.1 bt235.2.1 bt235.2.2.1 bt235.2.2.2.1 bt235.2.2.2.2.1 bt235.2.2.2.2.2.1 bt235.2.2.2.2.2.2.1 bt235.2.2.2.2.2.2.2).bind fun bt296 => ((impl_Apply.f bt288.1 bt288.2.1 bt288.2.2.1 bt288.2.2.2.1 bt288.2.2.2.2.1 bt288.2.2.2.2.2.1 bt235.2.2.2.2.2.2.1 bt235.2.2.2.2.2.2.2).bind fun bt299 => ((impl_Still.f).bind fun bt302 => ((impl_Apply.f bt302.1 bt302.2.1 bt302.2.2.1 bt302.2.2.2.1 bt302.2.2.2.2.1 bt302.2.2.2.2.2 bt235.2.2.2.2.2.2.1 bt235.2.2.2.2.2.2.2).bind fun bt308 => (if (bt308.1 == bt235.2.2.2.2.2.2.1 && (bt308.2 == bt235.2.2.2.2.2.2.2)) = true then (if bt251.1 = (wrap64 (bt235.2.2.2.2.2.2.1 + 70)) then (if bt251.2 = (wrap64 (bt235.2.2.2.2.2.2.2 - 30)) then ((impl_Shift.f (-70) 30).bind fun bt310 => ((impl_Apply.f bt310.1 bt310.2.1 bt310.2.2.1 bt310.2.2.2.1 bt310.2.2.2.2.1 bt310.2.2.2.2.2 bt251.1 bt251.2).bind fun bt316 => (if (bt316.1 == bt235.2.2.2.2.2.2.1 && (bt316.2 == bt235.2.2.2.2.2.2.2)) = true then (if bt260.2.2.2.2.2.2 = true then (if bt274.2.2.2.2.2.2 = true then (if (bt260.1 == bt235.1 && (bt260.2.1 == bt235.2.1 && (bt260.2.2.1 == bt235.2.2.1 && (bt260.2.2.2.1 == bt235.2.2.2.1 && (bt260.2.2.2.2.1 == bt235.2.2.2.2.1 && (bt260.2.2.2.2.2.1 == bt235.2.2.2.2.2.1)))))) = true then (if (bt274.1 == bt235.1 && (bt274.2.1 == bt235.2.1 && (bt274.2.2.1 == bt235.2.2.1 && (bt274.2.2.2.1 == bt235.2.2.2.1 && (bt274.2.2.2.2.1 == bt235.2.2.2.2.1 && (bt274.2.2.2.2.2.1 == bt235.2.2.2.2.2.1)))))) = true then (if bt288.2.2.2.2.2.2 = true then (if bt299.1 = (wrap64 (bt296.1 + 5)) then (if bt299.2 = (wrap64 (bt296.2 + 9)) then ((spec_Apply.f k bt235.1 bt235.2.1 bt235.2.2.1 bt235.2.2.2.1 bt235.2.2.2.2.1 bt235.2.2.2.2.2.1 bt235.2.2.2.2.2.2.1 bt235.2.2.2.2.2.2.2).bind fun bt318 => (if (bt296.1 == bt318.1 && (bt296.2 == bt318.2)) = true then ((impl_MatOk.f bt235.1 bt235.2.1 bt235.2.2.1 bt235.2.2.2.1 bt235.2.2.2.2.1 bt235.2.2.2.2.2.1).bind fun t320 => (if t320 = true then ((impl_PointOk.f bt235.2.2.2.2.2.2.1 bt235.2.2.2.2.2.2.2).bind fun t321 => (some t321)) else (some false))) else (some false))) else (some false)) else (some false)) else (some false)) else (some false)) else (some false)) else (some false)) else (some false)) else (some false)))) else (some false)) else (some false)) else (some false))))))))))))))))) = some r := h
 clear h
 replace H := Option.bind_eq_some_iff.mp H
 obtain ⟨t234, A20, H⟩ := H
 replace H : (if t234 = true then (some true) else ((spec_DrawMoved.f k l0).bind fun bt235 => ((impl_Shift.f 70 (-30)).bind fun bt245 => ((impl_Apply.f bt245.1 bt245.2.1 bt245.2.2.1 bt245.2.2.2.1 bt245.2.2.2.2.1 bt245.2.2.2.2.2 bt235.2.2.2.2.2.2.1 bt235.2.2.2.2.2.2.2).bind fun bt251 => ((impl_Still.f).bind fun bt254 => ((impl_Compose.f k bt235.1 bt235.2.1 bt235.2.2.1 bt235.2.2.2.1 bt235.2.2.2.2.1 bt235.2.2.2.2.2.1 bt254.1 bt254.2.1 bt254.2.2.1 bt254.2.2.2.1 bt254.2.2.2.2.1 bt254.2.2.2.2.2).bind fun bt260 => ((impl_Still.f).bind fun bt268 => ((impl_Compose.f k bt268.1 bt268.2.1 bt268.2.2.1 bt268.2.2.2.1 bt268.2.2.2.2.1 bt268.2.2.2.2.2 bt235.1 bt235.2.1 bt235.2.2.1 bt235.2.2.2.1 bt235.2.2.2.2.1 bt235.2.2.2.2.2.1).bind fun bt274 => ((impl_Shift.f 5 9).bind fun bt282 => ((impl_Compose.f k bt282.1 bt282.2.1 bt282.2.2.1 bt282.2.2.2.1 bt282.2.2.2.2.1 bt282.2.2.2.2.2 bt235.1 bt235.2.1 bt235.2.2.1 bt235.2.2.2.1 bt235.2.2.2.2.1 bt235.2.2.2.2.2.1).bind fun bt288 => ((impl_Apply.f bt235.1 bt235.2.1 bt235.2.2.1 bt235.2.2.2.1 bt235.2.2.2.2.1 bt235.2.2.2.2.2.1 bt235.2.2.2.2.2.2.1 bt235.2.2.2.2.2.2.2).bind fun bt296 => ((impl_Apply.f bt288.1 bt288.2.1 bt288.2.2.1 bt288.2.2.2.1 bt288.2.2.2.2.1 bt288.2.2.2.2.2.1 bt235.2.2.2.2.2.2.1 bt235.2.2.2.2.2.2.2).bind fun bt299 => ((impl_Still.f).bind fun bt302 => ((impl_Apply.f bt302.1 bt302.2.1 bt302.2.2.1 bt302.2.2.2.1 bt302.2.2.2.2.1 bt302.2.2.2.2.2 bt235.2.2.2.2.2.2.1 bt235.2.2.2.2.2.2.2).bind fun bt308 => (if (bt308.1 == bt235.2.2.2.2.2.2.1 && (bt308.2 == bt235.2.2.2.2.2.2.2)) = true then (if bt251.1 = (wrap64 (bt235.2.2.2.2.2.2.1 + 70)) then (if bt251.2 = (wrap64 (bt235.2.2.2.2.2.2.2 - 30)) then ((impl_Shift.f (-70) 30).bind fun bt310 => ((impl_Apply.f bt310.1 bt310.2.1 bt310.2.2.1 bt310.2.2.2.1 bt310.2.2.2.2.1 bt310.2.2.2.2.2 bt251.1 bt251.2).bind fun bt316 => (if (bt316.1 == bt235.2.2.2.2.2.2.1 && (bt316.2 == bt235.2.2.2.2.2.2.2)) = true then (if bt260.2.2.2.2.2.2 = true then (if bt274.2.2.2.2.2.2 = true then (if (bt260.1 == bt235.1 && (bt260.2.1 == bt235.2.1 && (bt260.2.2.1 == bt235.2.2.1 && (bt260.2.2.2.1 == bt235.2.2.2.1 && (bt260.2.2.2.2.1 == bt235.2.2.2.2.1 && (bt260.2.2.2.2.2.1 == bt235.2.2.2.2.2.1)))))) = true then (if (bt274.1 == bt235.1 && (bt274.2.1 == bt235.2.1 && (bt274.2.2.1 == bt235.2.2.1 && (bt274.2.2.2.1 == bt235.2.2.2.1 && (bt274.2.2.2.2.1 == bt235.2.2.2.2.1 && (bt274.2.2.2.2.2.1 == bt235.2.2.2.2.2.1)))))) = true then (if bt288.2.2.2.2.2.2 = true then (if bt299.1 = (wrap64 (bt296.1 + 5)) then (if bt299.2 = (wrap64 (bt296.2 + 9)) then ((spec_Apply.f k bt235.1 bt235.2.1 bt235.2.2.1 bt235.2.2.2.1 bt235.2.2.2.2.1 bt235.2.2.2.2.2.1 bt235.2.2.2.2.2.2.1 bt235.2.2.2.2.2.2.2).bind fun bt318 => (if (bt296.1 == bt318.1 && (bt296.2 == bt318.2)) = true then ((impl_MatOk.f bt235.1 bt235.2.1 bt235.2.2.1 bt235.2.2.2.1 bt235.2.2.2.2.1 bt235.2.2.2.2.2.1).bind fun t320 => (if t320 = true then ((impl_PointOk.f bt235.2.2.2.2.2.2.1 bt235.2.2.2.2.2.2.2).bind fun t321 => (some t321)) else (some false))) else (some false))) else (some false)) else (some false)) else (some false)) else (some false)) else (some false)) else (some false)) else (some false)) else (some false)))) else (some false)) else (some false)) else (some false)))))))))))))))) = some r := H
 have A2 := Aside0.mk A20
 clear A20
 by_cases c3 : t234 = true
 ·subst c3
  have H1 : (some true) = some r := by rw [if_pos rfl] at H; exact H
  clear H
  have H := H1
  clear H1
  obtain rfl := Option.some.inj H
  go_enter Try.func10, Try.ntmps10
  go_wp2_with (first | ((with_reducible refine gate_callee (f := 35) rfl ?_); refine goesL_ (some 15) rfl rfl Try.func35 (by kernel_rfl) rfl #[.slice A0 l0.length c0] rfl (by (try simp only [List.map_toArray, List.map_cons, List.map_nil]); first | done | rfl | (simp only [List.length_drop, List.length_take]; rfl)) ?_; (with_reducible refine (laws_big.calls _ _ l0 true _ ?side1 ?side2 A2.out).mono ?_); (case side1 => repeat (first | exact HR0.out | (with_reducible refine Kd.C_alloc ?_ _) | (with_reducible refine Kd.C_drewN ?_ _) | (with_reducible refine Kd.C_drew ?_))); (case side2 => exact HC0.out); rintro e w' ⟨rfl, ⟨nd, rfl⟩⟩; refine ⟨_, rfl, ?_⟩))
  all_goals (go_ret; exact ⟨by first | rfl | (simp [errW_none, errW_some] <;> rfl) | (simp [*, errW_none, errW_some] <;> rfl), by repeat (first | (with_reducible first | exact HB.out | apply below_alloc | apply pw_below_drewN | apply below_drew1) | exact HB.out)⟩)
 replace c3 := Bool.eq_false_iff.mpr c3
 subst c3
 have H1 : ((spec_DrawMoved.f k l0).bind fun bt235 => ((impl_Shift.f 70 (-30)).bind fun bt245 => ((impl_Apply.f bt245.1 bt245.2.1 bt245.2.2.1 bt245.2.2.2.1 bt245.2.2.2.2.1 bt245.2.2.2.2.2 bt235.2.2.2.2.2.2.1 bt235.2.2.2.2.2.2.2).bind fun bt251 => ((impl_Still.f).bind fun bt254 => ((impl_Compose.f k bt235.1 bt235.2.1 bt235.2.2.1 bt235.2.2.2.1 bt235.2.2.2.2.1 bt235.2.2.2.2.2.1 bt254.1 bt254.2.1 bt254.2.2.1 bt254.2.2.2.1 bt254.2.2.2.2.1 bt254.2.2.2.2.2).bind fun bt260 => ((impl_Still.f).bind fun bt268 => ((impl_Compose.f k bt268.1 bt268.2.1 bt268.2.2.1 bt268.2.2.2.1 bt268.2.2.2.2.1 bt268.2.2.2.2.2 bt235.1 bt235.2.1 bt235.2.2.1 bt235.2.2.2.1 bt235.2.2.2.2.1 bt235.2.2.2.2.2.1).bind fun bt274 => ((impl_Shift.f 5 9).bind fun bt282 => ((impl_Compose.f k bt282.1 bt282.2.1 bt282.2.2.1 bt282.2.2.2.1 bt282.2.2.2.2.1 bt282.2.2.2.2.2 bt235.1 bt235.2.1 bt235.2.2.1 bt235.2.2.2.1 bt235.2.2.2.2.1 bt235.2.2.2.2.2.1).bind fun bt288 => ((impl_Apply.f bt235.1 bt235.2.1 bt235.2.2.1 bt235.2.2.2.1 bt235.2.2.2.2.1 bt235.2.2.2.2.2.1 bt235.2.2.2.2.2.2.1 bt235.2.2.2.2.2.2.2).bind fun bt296 => ((impl_Apply.f bt288.1 bt288.2.1 bt288.2.2.1 bt288.2.2.2.1 bt288.2.2.2.2.1 bt288.2.2.2.2.2.1 bt235.2.2.2.2.2.2.1 bt235.2.2.2.2.2.2.2).bind fun bt299 => ((impl_Still.f).bind fun bt302 => ((impl_Apply.f bt302.1 bt302.2.1 bt302.2.2.1 bt302.2.2.2.1 bt302.2.2.2.2.1 bt302.2.2.2.2.2 bt235.2.2.2.2.2.2.1 bt235.2.2.2.2.2.2.2).bind fun bt308 => (if (bt308.1 == bt235.2.2.2.2.2.2.1 && (bt308.2 == bt235.2.2.2.2.2.2.2)) = true then (if bt251.1 = (wrap64 (bt235.2.2.2.2.2.2.1 + 70)) then (if bt251.2 = (wrap64 (bt235.2.2.2.2.2.2.2 - 30)) then ((impl_Shift.f (-70) 30).bind fun bt310 => ((impl_Apply.f bt310.1 bt310.2.1 bt310.2.2.1 bt310.2.2.2.1 bt310.2.2.2.2.1 bt310.2.2.2.2.2 bt251.1 bt251.2).bind fun bt316 => (if (bt316.1 == bt235.2.2.2.2.2.2.1 && (bt316.2 == bt235.2.2.2.2.2.2.2)) = true then (if bt260.2.2.2.2.2.2 = true then (if bt274.2.2.2.2.2.2 = true then (if (bt260.1 == bt235.1 && (bt260.2.1 == bt235.2.1 && (bt260.2.2.1 == bt235.2.2.1 && (bt260.2.2.2.1 == bt235.2.2.2.1 && (bt260.2.2.2.2.1 == bt235.2.2.2.2.1 && (bt260.2.2.2.2.2.1 == bt235.2.2.2.2.2.1)))))) = true then (if (bt274.1 == bt235.1 && (bt274.2.1 == bt235.2.1 && (bt274.2.2.1 == bt235.2.2.1 && (bt274.2.2.2.1 == bt235.2.2.2.1 && (bt274.2.2.2.2.1 == bt235.2.2.2.2.1 && (bt274.2.2.2.2.2.1 == bt235.2.2.2.2.2.1)))))) = true then (if bt288.2.2.2.2.2.2 = true then (if bt299.1 = (wrap64 (bt296.1 + 5)) then (if bt299.2 = (wrap64 (bt296.2 + 9)) then ((spec_Apply.f k bt235.1 bt235.2.1 bt235.2.2.1 bt235.2.2.2.1 bt235.2.2.2.2.1 bt235.2.2.2.2.2.1 bt235.2.2.2.2.2.2.1 bt235.2.2.2.2.2.2.2).bind fun bt318 => (if (bt296.1 == bt318.1 && (bt296.2 == bt318.2)) = true then ((impl_MatOk.f bt235.1 bt235.2.1 bt235.2.2.1 bt235.2.2.2.1 bt235.2.2.2.2.1 bt235.2.2.2.2.2.1).bind fun t320 => (if t320 = true then ((impl_PointOk.f bt235.2.2.2.2.2.2.1 bt235.2.2.2.2.2.2.2).bind fun t321 => (some t321)) else (some false))) else (some false))) else (some false)) else (some false)) else (some false)) else (some false)) else (some false)) else (some false)) else (some false)) else (some false)))) else (some false)) else (some false)) else (some false))))))))))))))) = some r := by rw [if_neg (show ¬ (false = true) by decide)] at H; exact H
 clear H
 have H := H1
 clear H1
 replace H := Option.bind_eq_some_iff.mp H
 obtain ⟨⟨t235, t236, t237, t238, t239, t240, t241, t242⟩, A40, H⟩ := H
 replace H : ((impl_Shift.f 70 (-30)).bind fun bt245 => ((impl_Apply.f bt245.1 bt245.2.1 bt245.2.2.1 bt245.2.2.2.1 bt245.2.2.2.2.1 bt245.2.2.2.2.2 t241 t242).bind fun bt251 => ((impl_Still.f).bind fun bt254 => ((impl_Compose.f k t235 t236 t237 t238 t239 t240 bt254.1 bt254.2.1 bt254.2.2.1 bt254.2.2.2.1 bt254.2.2.2.2.1 bt254.2.2.2.2.2).bind fun bt260 => ((impl_Still.f).bind fun bt268 => ((impl_Compose.f k bt268.1 bt268.2.1 bt268.2.2.1 bt268.2.2.2.1 bt268.2.2.2.2.1 bt268.2.2.2.2.2 t235 t236 t237 t238 t239 t240).bind fun bt274 => ((impl_Shift.f 5 9).bind fun bt282 => ((impl_Compose.f k bt282.1 bt282.2.1 bt282.2.2.1 bt282.2.2.2.1 bt282.2.2.2.2.1 bt282.2.2.2.2.2 t235 t236 t237 t238 t239 t240).bind fun bt288 => ((impl_Apply.f t235 t236 t237 t238 t239 t240 t241 t242).bind fun bt296 => ((impl_Apply.f bt288.1 bt288.2.1 bt288.2.2.1 bt288.2.2.2.1 bt288.2.2.2.2.1 bt288.2.2.2.2.2.1 t241 t242).bind fun bt299 => ((impl_Still.f).bind fun bt302 => ((impl_Apply.f bt302.1 bt302.2.1 bt302.2.2.1 bt302.2.2.2.1 bt302.2.2.2.2.1 bt302.2.2.2.2.2 t241 t242).bind fun bt308 => (if (bt308.1 == t241 && (bt308.2 == t242)) = true then (if bt251.1 = (wrap64 (t241 + 70)) then (if bt251.2 = (wrap64 (t242 - 30)) then ((impl_Shift.f (-70) 30).bind fun bt310 => ((impl_Apply.f bt310.1 bt310.2.1 bt310.2.2.1 bt310.2.2.2.1 bt310.2.2.2.2.1 bt310.2.2.2.2.2 bt251.1 bt251.2).bind fun bt316 => (if (bt316.1 == t241 && (bt316.2 == t242)) = true then (if bt260.2.2.2.2.2.2 = true then (if bt274.2.2.2.2.2.2 = true then (if (bt260.1 == t235 && (bt260.2.1 == t236 && (bt260.2.2.1 == t237 && (bt260.2.2.2.1 == t238 && (bt260.2.2.2.2.1 == t239 && (bt260.2.2.2.2.2.1 == t240)))))) = true then (if (bt274.1 == t235 && (bt274.2.1 == t236 && (bt274.2.2.1 == t237 && (bt274.2.2.2.1 == t238 && (bt274.2.2.2.2.1 == t239 && (bt274.2.2.2.2.2.1 == t240)))))) = true then (if bt288.2.2.2.2.2.2 = true then (if bt299.1 = (wrap64 (bt296.1 + 5)) then (if bt299.2 = (wrap64 (bt296.2 + 9)) then ((spec_Apply.f k t235 t236 t237 t238 t239 t240 t241 t242).bind fun bt318 => (if (bt296.1 == bt318.1 && (bt296.2 == bt318.2)) = true then ((impl_MatOk.f t235 t236 t237 t238 t239 t240).bind fun t320 => (if t320 = true then ((impl_PointOk.f t241 t242).bind fun t321 => (some t321)) else (some false))) else (some false))) else (some false)) else (some false)) else (some false)) else (some false)) else (some false)) else (some false)) else (some false)) else (some false)))) else (some false)) else (some false)) else (some false)))))))))))))) = some r := H
 have A4 := Aside0.mk A40
 clear A40
 replace H := Option.bind_eq_some_iff.mp H
 obtain ⟨⟨t245, t246, t247, t248, t249, t250⟩, A50, H⟩ := H
 replace H : ((impl_Apply.f t245 t246 t247 t248 t249 t250 t241 t242).bind fun bt251 => ((impl_Still.f).bind fun bt254 => ((impl_Compose.f k t235 t236 t237 t238 t239 t240 bt254.1 bt254.2.1 bt254.2.2.1 bt254.2.2.2.1 bt254.2.2.2.2.1 bt254.2.2.2.2.2).bind fun bt260 => ((impl_Still.f).bind fun bt268 => ((impl_Compose.f k bt268.1 bt268.2.1 bt268.2.2.1 bt268.2.2.2.1 bt268.2.2.2.2.1 bt268.2.2.2.2.2 t235 t236 t237 t238 t239 t240).bind fun bt274 => ((impl_Shift.f 5 9).bind fun bt282 => ((impl_Compose.f k bt282.1 bt282.2.1 bt282.2.2.1 bt282.2.2.2.1 bt282.2.2.2.2.1 bt282.2.2.2.2.2 t235 t236 t237 t238 t239 t240).bind fun bt288 => ((impl_Apply.f t235 t236 t237 t238 t239 t240 t241 t242).bind fun bt296 => ((impl_Apply.f bt288.1 bt288.2.1 bt288.2.2.1 bt288.2.2.2.1 bt288.2.2.2.2.1 bt288.2.2.2.2.2.1 t241 t242).bind fun bt299 => ((impl_Still.f).bind fun bt302 => ((impl_Apply.f bt302.1 bt302.2.1 bt302.2.2.1 bt302.2.2.2.1 bt302.2.2.2.2.1 bt302.2.2.2.2.2 t241 t242).bind fun bt308 => (if (bt308.1 == t241 && (bt308.2 == t242)) = true then (if bt251.1 = (wrap64 (t241 + 70)) then (if bt251.2 = (wrap64 (t242 - 30)) then ((impl_Shift.f (-70) 30).bind fun bt310 => ((impl_Apply.f bt310.1 bt310.2.1 bt310.2.2.1 bt310.2.2.2.1 bt310.2.2.2.2.1 bt310.2.2.2.2.2 bt251.1 bt251.2).bind fun bt316 => (if (bt316.1 == t241 && (bt316.2 == t242)) = true then (if bt260.2.2.2.2.2.2 = true then (if bt274.2.2.2.2.2.2 = true then (if (bt260.1 == t235 && (bt260.2.1 == t236 && (bt260.2.2.1 == t237 && (bt260.2.2.2.1 == t238 && (bt260.2.2.2.2.1 == t239 && (bt260.2.2.2.2.2.1 == t240)))))) = true then (if (bt274.1 == t235 && (bt274.2.1 == t236 && (bt274.2.2.1 == t237 && (bt274.2.2.2.1 == t238 && (bt274.2.2.2.2.1 == t239 && (bt274.2.2.2.2.2.1 == t240)))))) = true then (if bt288.2.2.2.2.2.2 = true then (if bt299.1 = (wrap64 (bt296.1 + 5)) then (if bt299.2 = (wrap64 (bt296.2 + 9)) then ((spec_Apply.f k t235 t236 t237 t238 t239 t240 t241 t242).bind fun bt318 => (if (bt296.1 == bt318.1 && (bt296.2 == bt318.2)) = true then ((impl_MatOk.f t235 t236 t237 t238 t239 t240).bind fun t320 => (if t320 = true then ((impl_PointOk.f t241 t242).bind fun t321 => (some t321)) else (some false))) else (some false))) else (some false)) else (some false)) else (some false)) else (some false)) else (some false)) else (some false)) else (some false)) else (some false)))) else (some false)) else (some false)) else (some false))))))))))))) = some r := H
 have A5 := Aside0.mk A50
 clear A50
 replace H := Option.bind_eq_some_iff.mp H
 obtain ⟨⟨t251, t252⟩, A60, H⟩ := H
 replace H : ((impl_Still.f).bind fun bt254 => ((impl_Compose.f k t235 t236 t237 t238 t239 t240 bt254.1 bt254.2.1 bt254.2.2.1 bt254.2.2.2.1 bt254.2.2.2.2.1 bt254.2.2.2.2.2).bind fun bt260 => ((impl_Still.f).bind fun bt268 => ((impl_Compose.f k bt268.1 bt268.2.1 bt268.2.2.1 bt268.2.2.2.1 bt268.2.2.2.2.1 bt268.2.2.2.2.2 t235 t236 t237 t238 t239 t240).bind fun bt274 => ((impl_Shift.f 5 9).bind fun bt282 => ((impl_Compose.f k bt282.1 bt282.2.1 bt282.2.2.1 bt282.2.2.2.1 bt282.2.2.2.2.1 bt282.2.2.2.2.2 t235 t236 t237 t238 t239 t240).bind fun bt288 => ((impl_Apply.f t235 t236 t237 t238 t239 t240 t241 t242).bind fun bt296 => ((impl_Apply.f bt288.1 bt288.2.1 bt288.2.2.1 bt288.2.2.2.1 bt288.2.2.2.2.1 bt288.2.2.2.2.2.1 t241 t242).bind fun bt299 => ((impl_Still.f).bind fun bt302 => ((impl_Apply.f bt302.1 bt302.2.1 bt302.2.2.1 bt302.2.2.2.1 bt302.2.2.2.2.1 bt302.2.2.2.2.2 t241 t242).bind fun bt308 => (if (bt308.1 == t241 && (bt308.2 == t242)) = true then (if t251 = (wrap64 (t241 + 70)) then (if t252 = (wrap64 (t242 - 30)) then ((impl_Shift.f (-70) 30).bind fun bt310 => ((impl_Apply.f bt310.1 bt310.2.1 bt310.2.2.1 bt310.2.2.2.1 bt310.2.2.2.2.1 bt310.2.2.2.2.2 t251 t252).bind fun bt316 => (if (bt316.1 == t241 && (bt316.2 == t242)) = true then (if bt260.2.2.2.2.2.2 = true then (if bt274.2.2.2.2.2.2 = true then (if (bt260.1 == t235 && (bt260.2.1 == t236 && (bt260.2.2.1 == t237 && (bt260.2.2.2.1 == t238 && (bt260.2.2.2.2.1 == t239 && (bt260.2.2.2.2.2.1 == t240)))))) = true then (if (bt274.1 == t235 && (bt274.2.1 == t236 && (bt274.2.2.1 == t237 && (bt274.2.2.2.1 == t238 && (bt274.2.2.2.2.1 == t239 && (bt274.2.2.2.2.2.1 == t240)))))) = true then (if bt288.2.2.2.2.2.2 = true then (if bt299.1 = (wrap64 (bt296.1 + 5)) then (if bt299.2 = (wrap64 (bt296.2 + 9)) then ((spec_Apply.f k t235 t236 t237 t238 t239 t240 t241 t242).bind fun bt318 => (if (bt296.1 == bt318.1 && (bt296.2 == bt318.2)) = true then ((impl_MatOk.f t235 t236 t237 t238 t239 t240).bind fun t320 => (if t320 = true then ((impl_PointOk.f t241 t242).bind fun t321 => (some t321)) else (some false))) else (some false))) else (some false)) else (some false)) else (some false)) else (some false)) else (some false)) else (some false)) else (some false)) else (some false)))) else (some false)) else (some false)) else (some false)))))))))))) = some r := H
 have A6 := Aside0.mk A60
 clear A60
 replace H := Option.bind_eq_some_iff.mp H
 obtain ⟨⟨t254, t255, t256, t257, t258, t259⟩, A70, H⟩ := H
 replace H : ((impl_Compose.f k t235 t236 t237 t238 t239 t240 t254 t255 t256 t257 t258 t259).bind fun bt260 => ((impl_Still.f).bind fun bt268 => ((impl_Compose.f k bt268.1 bt268.2.1 bt268.2.2.1 bt268.2.2.2.1 bt268.2.2.2.2.1 bt268.2.2.2.2.2 t235 t236 t237 t238 t239 t240).bind fun bt274 => ((impl_Shift.f 5 9).bind fun bt282 => ((impl_Compose.f k bt282.1 bt282.2.1 bt282.2.2.1 bt282.2.2.2.1 bt282.2.2.2.2.1 bt282.2.2.2.2.2 t235 t236 t237 t238 t239 t240).bind fun bt288 => ((impl_Apply.f t235 t236 t237 t238 t239 t240 t241 t242).bind fun bt296 => ((impl_Apply.f bt288.1 bt288.2.1 bt288.2.2.1 bt288.2.2.2.1 bt288.2.2.2.2.1 bt288.2.2.2.2.2.1 t241 t242).bind fun bt299 => ((impl_Still.f).bind fun bt302 => ((impl_Apply.f bt302.1 bt302.2.1 bt302.2.2.1 bt302.2.2.2.1 bt302.2.2.2.2.1 bt302.2.2.2.2.2 t241 t242).bind fun bt308 => (if (bt308.1 == t241 && (bt308.2 == t242)) = true then (if t251 = (wrap64 (t241 + 70)) then (if t252 = (wrap64 (t242 - 30)) then ((impl_Shift.f (-70) 30).bind fun bt310 => ((impl_Apply.f bt310.1 bt310.2.1 bt310.2.2.1 bt310.2.2.2.1 bt310.2.2.2.2.1 bt310.2.2.2.2.2 t251 t252).bind fun bt316 => (if (bt316.1 == t241 && (bt316.2 == t242)) = true then (if bt260.2.2.2.2.2.2 = true then (if bt274.2.2.2.2.2.2 = true then (if (bt260.1 == t235 && (bt260.2.1 == t236 && (bt260.2.2.1 == t237 && (bt260.2.2.2.1 == t238 && (bt260.2.2.2.2.1 == t239 && (bt260.2.2.2.2.2.1 == t240)))))) = true then (if (bt274.1 == t235 && (bt274.2.1 == t236 && (bt274.2.2.1 == t237 && (bt274.2.2.2.1 == t238 && (bt274.2.2.2.2.1 == t239 && (bt274.2.2.2.2.2.1 == t240)))))) = true then (if bt288.2.2.2.2.2.2 = true then (if bt299.1 = (wrap64 (bt296.1 + 5)) then (if bt299.2 = (wrap64 (bt296.2 + 9)) then ((spec_Apply.f k t235 t236 t237 t238 t239 t240 t241 t242).bind fun bt318 => (if (bt296.1 == bt318.1 && (bt296.2 == bt318.2)) = true then ((impl_MatOk.f t235 t236 t237 t238 t239 t240).bind fun t320 => (if t320 = true then ((impl_PointOk.f t241 t242).bind fun t321 => (some t321)) else (some false))) else (some false))) else (some false)) else (some false)) else (some false)) else (some false)) else (some false)) else (some false)) else (some false)) else (some false)))) else (some false)) else (some false)) else (some false))))))))))) = some r := H
 have A7 := Aside0.mk A70
 clear A70
 replace H := Option.bind_eq_some_iff.mp H
 obtain ⟨⟨t260, t261, t262, t263, t264, t265, t266⟩, A80, H⟩ := H
 replace H : ((impl_Still.f).bind fun bt268 => ((impl_Compose.f k bt268.1 bt268.2.1 bt268.2.2.1 bt268.2.2.2.1 bt268.2.2.2.2.1 bt268.2.2.2.2.2 t235 t236 t237 t238 t239 t240).bind fun bt274 => ((impl_Shift.f 5 9).bind fun bt282 => ((impl_Compose.f k bt282.1 bt282.2.1 bt282.2.2.1 bt282.2.2.2.1 bt282.2.2.2.2.1 bt282.2.2.2.2.2 t235 t236 t237 t238 t239 t240).bind fun bt288 => ((impl_Apply.f t235 t236 t237 t238 t239 t240 t241 t242).bind fun bt296 => ((impl_Apply.f bt288.1 bt288.2.1 bt288.2.2.1 bt288.2.2.2.1 bt288.2.2.2.2.1 bt288.2.2.2.2.2.1 t241 t242).bind fun bt299 => ((impl_Still.f).bind fun bt302 => ((impl_Apply.f bt302.1 bt302.2.1 bt302.2.2.1 bt302.2.2.2.1 bt302.2.2.2.2.1 bt302.2.2.2.2.2 t241 t242).bind fun bt308 => (if (bt308.1 == t241 && (bt308.2 == t242)) = true then (if t251 = (wrap64 (t241 + 70)) then (if t252 = (wrap64 (t242 - 30)) then ((impl_Shift.f (-70) 30).bind fun bt310 => ((impl_Apply.f bt310.1 bt310.2.1 bt310.2.2.1 bt310.2.2.2.1 bt310.2.2.2.2.1 bt310.2.2.2.2.2 t251 t252).bind fun bt316 => (if (bt316.1 == t241 && (bt316.2 == t242)) = true then (if t266 = true then (if bt274.2.2.2.2.2.2 = true then (if (t260 == t235 && (t261 == t236 && (t262 == t237 && (t263 == t238 && (t264 == t239 && (t265 == t240)))))) = true then (if (bt274.1 == t235 && (bt274.2.1 == t236 && (bt274.2.2.1 == t237 && (bt274.2.2.2.1 == t238 && (bt274.2.2.2.2.1 == t239 && (bt274.2.2.2.2.2.1 == t240)))))) = true then (if bt288.2.2.2.2.2.2 = true then (if bt299.1 = (wrap64 (bt296.1 + 5)) then (if bt299.2 = (wrap64 (bt296.2 + 9)) then ((spec_Apply.f k t235 t236 t237 t238 t239 t240 t241 t242).bind fun bt318 => (if (bt296.1 == bt318.1 && (bt296.2 == bt318.2)) = true then ((impl_MatOk.f t235 t236 t237 t238 t239 t240).bind fun t320 => (if t320 = true then ((impl_PointOk.f t241 t242).bind fun t321 => (some t321)) else (some false))) else (some false))) else (some false)) else (some false)) else (some false)) else (some false)) else (some false)) else (some false)) else (some false)) else (some false)))) else (some false)) else (some false)) else (some false)))))))))) = some r := H
 have A8 := Aside0.mk A80
 clear A80
 replace H := Option.bind_eq_some_iff.mp H
 obtain ⟨⟨t268, t269, t270, t271, t272, t273⟩, A90, H⟩ := H
 replace H : ((impl_Compose.f k t268 t269 t270 t271 t272 t273 t235 t236 t237 t238 t239 t240).bind fun bt274 => ((impl_Shift.f 5 9).bind fun bt282 => ((impl_Compose.f k bt282.1 bt282.2.1 bt282.2.2.1 bt282.2.2.2.1 bt282.2.2.2.2.1 bt282.2.2.2.2.2 t235 t236 t237 t238 t239 t240).bind fun bt288 => ((impl_Apply.f t235 t236 t237 t238 t239 t240 t241 t242).bind fun bt296 => ((impl_Apply.f bt288.1 bt288.2.1 bt288.2.2.1 bt288.2.2.2.1 bt288.2.2.2.2.1 bt288.2.2.2.2.2.1 t241 t242).bind fun bt299 => ((impl_Still.f).bind fun bt302 => ((impl_Apply.f bt302.1 bt302.2.1 bt302.2.2.1 bt302.2.2.2.1 bt302.2.2.2.2.1 bt302.2.2.2.2.2 t241 t242).bind fun bt308 => (if (bt308.1 == t241 && (bt308.2 == t242)) = true then (if t251 = (wrap64 (t241 + 70)) then (if t252 = (wrap64 (t242 - 30)) then ((impl_Shift.f (-70) 30).bind fun bt310 => ((impl_Apply.f bt310.1 bt310.2.1 bt310.2.2.1 bt310.2.2.2.1 bt310.2.2.2.2.1 bt310.2.2.2.2.2 t251 t252).bind fun bt316 => (if (bt316.1 == t241 && (bt316.2 == t242)) = true then (if t266 = true then (if bt274.2.2.2.2.2.2 = true then (if (t260 == t235 && (t261 == t236 && (t262 == t237 && (t263 == t238 && (t264 == t239 && (t265 == t240)))))) = true then (if (bt274.1 == t235 && (bt274.2.1 == t236 && (bt274.2.2.1 == t237 && (bt274.2.2.2.1 == t238 && (bt274.2.2.2.2.1 == t239 && (bt274.2.2.2.2.2.1 == t240)))))) = true then (if bt288.2.2.2.2.2.2 = true then (if bt299.1 = (wrap64 (bt296.1 + 5)) then (if bt299.2 = (wrap64 (bt296.2 + 9)) then ((spec_Apply.f k t235 t236 t237 t238 t239 t240 t241 t242).bind fun bt318 => (if (bt296.1 == bt318.1 && (bt296.2 == bt318.2)) = true then ((impl_MatOk.f t235 t236 t237 t238 t239 t240).bind fun t320 => (if t320 = true then ((impl_PointOk.f t241 t242).bind fun t321 => (some t321)) else (some false))) else (some false))) else (some false)) else (some false)) else (some false)) else (some false)) else (some false)) else (some false)) else (some false)) else (some false)))) else (some false)) else (some false)) else (some false))))))))) = some r := H
 have A9 := Aside0.mk A90
 clear A90
 replace H := Option.bind_eq_some_iff.mp H
 obtain ⟨⟨t274, t275, t276, t277, t278, t279, t280⟩, A100, H⟩ := H
 replace H : ((impl_Shift.f 5 9).bind fun bt282 => ((impl_Compose.f k bt282.1 bt282.2.1 bt282.2.2.1 bt282.2.2.2.1 bt282.2.2.2.2.1 bt282.2.2.2.2.2 t235 t236 t237 t238 t239 t240).bind fun bt288 => ((impl_Apply.f t235 t236 t237 t238 t239 t240 t241 t242).bind fun bt296 => ((impl_Apply.f bt288.1 bt288.2.1 bt288.2.2.1 bt288.2.2.2.1 bt288.2.2.2.2.1 bt288.2.2.2.2.2.1 t241 t242).bind fun bt299 => ((impl_Still.f).bind fun bt302 => ((impl_Apply.f bt302.1 bt302.2.1 bt302.2.2.1 bt302.2.2.2.1 bt302.2.2.2.2.1 bt302.2.2.2.2.2 t241 t242).bind fun bt308 => (if (bt308.1 == t241 && (bt308.2 == t242)) = true then (if t251 = (wrap64 (t241 + 70)) then (if t252 = (wrap64 (t242 - 30)) then ((impl_Shift.f (-70) 30).bind fun bt310 => ((impl_Apply.f bt310.1 bt310.2.1 bt310.2.2.1 bt310.2.2.2.1 bt310.2.2.2.2.1 bt310.2.2.2.2.2 t251 t252).bind fun bt316 => (if (bt316.1 == t241 && (bt316.2 == t242)) = true then (if t266 = true then (if t280 = true then (if (t260 == t235 && (t261 == t236 && (t262 == t237 && (t263 == t238 && (t264 == t239 && (t265 == t240)))))) = true then (if (t274 == t235 && (t275 == t236 && (t276 == t237 && (t277 == t238 && (t278 == t239 && (t279 == t240)))))) = true then (if bt288.2.2.2.2.2.2 = true then (if bt299.1 = (wrap64 (bt296.1 + 5)) then (if bt299.2 = (wrap64 (bt296.2 + 9)) then ((spec_Apply.f k t235 t236 t237 t238 t239 t240 t241 t242).bind fun bt318 => (if (bt296.1 == bt318.1 && (bt296.2 == bt318.2)) = true then ((impl_MatOk.f t235 t236 t237 t238 t239 t240).bind fun t320 => (if t320 = true then ((impl_PointOk.f t241 t242).bind fun t321 => (some t321)) else (some false))) else (some false))) else (some false)) else (some false)) else (some false)) else (some false)) else (some false)) else (some false)) else (some false)) else (some false)))) else (some false)) else (some false)) else (some false)))))))) = some r := H
 have A10 := Aside0.mk A100
 clear A100
 replace H := Option.bind_eq_some_iff.mp H
 obtain ⟨⟨t282, t283, t284, t285, t286, t287⟩, A110, H⟩ := H
 replace H : ((impl_Compose.f k t282 t283 t284 t285 t286 t287 t235 t236 t237 t238 t239 t240).bind fun bt288 => ((impl_Apply.f t235 t236 t237 t238 t239 t240 t241 t242).bind fun bt296 => ((impl_Apply.f bt288.1 bt288.2.1 bt288.2.2.1 bt288.2.2.2.1 bt288.2.2.2.2.1 bt288.2.2.2.2.2.1 t241 t242).bind fun bt299 => ((impl_Still.f).bind fun bt302 => ((impl_Apply.f bt302.1 bt302.2.1 bt302.2.2.1 bt302.2.2.2.1 bt302.2.2.2.2.1 bt302.2.2.2.2.2 t241 t242).bind fun bt308 => (if (bt308.1 == t241 && (bt308.2 == t242)) = true then (if t251 = (wrap64 (t241 + 70)) then (if t252 = (wrap64 (t242 - 30)) then ((impl_Shift.f (-70) 30).bind fun bt310 => ((impl_Apply.f bt310.1 bt310.2.1 bt310.2.2.1 bt310.2.2.2.1 bt310.2.2.2.2.1 bt310.2.2.2.2.2 t251 t252).bind fun bt316 => (if (bt316.1 == t241 && (bt316.2 == t242)) = true then (if t266 = true then (if t280 = true then (if (t260 == t235 && (t261 == t236 && (t262 == t237 && (t263 == t238 && (t264 == t239 && (t265 == t240)))))) = true then (if (t274 == t235 && (t275 == t236 && (t276 == t237 && (t277 == t238 && (t278 == t239 && (t279 == t240)))))) = true then (if bt288.2.2.2.2.2.2 = true then (if bt299.1 = (wrap64 (bt296.1 + 5)) then (if bt299.2 = (wrap64 (bt296.2 + 9)) then ((spec_Apply.f k t235 t236 t237 t238 t239 t240 t241 t242).bind fun bt318 => (if (bt296.1 == bt318.1 && (bt296.2 == bt318.2)) = true then ((impl_MatOk.f t235 t236 t237 t238 t239 t240).bind fun t320 => (if t320 = true then ((impl_PointOk.f t241 t242).bind fun t321 => (some t321)) else (some false))) else (some false))) else (some false)) else (some false)) else (some false)) else (some false)) else (some false)) else (some false)) else (some false)) else (some false)))) else (some false)) else (some false)) else (some false))))))) = some r := H
 have A11 := Aside0.mk A110
 clear A110
 replace H := Option.bind_eq_some_iff.mp H
 obtain ⟨⟨t288, t289, t290, t291, t292, t293, t294⟩, A120, H⟩ := H
 replace H : ((impl_Apply.f t235 t236 t237 t238 t239 t240 t241 t242).bind fun bt296 => ((impl_Apply.f t288 t289 t290 t291 t292 t293 t241 t242).bind fun bt299 => ((impl_Still.f).bind fun bt302 => ((impl_Apply.f bt302.1 bt302.2.1 bt302.2.2.1 bt302.2.2.2.1 bt302.2.2.2.2.1 bt302.2.2.2.2.2 t241 t242).bind fun bt308 => (if (bt308.1 == t241 && (bt308.2 == t242)) = true then (if t251 = (wrap64 (t241 + 70)) then (if t252 = (wrap64 (t242 - 30)) then ((impl_Shift.f (-70) 30).bind fun bt310 => ((impl_Apply.f bt310.1 bt310.2.1 bt310.2.2.1 bt310.2.2.2.1 bt310.2.2.2.2.1 bt310.2.2.2.2.2 t251 t252).bind fun bt316 => (if (bt316.1 == t241 && (bt316.2 == t242)) = true then (if t266 = true then (if t280 = true then (if (t260 == t235 && (t261 == t236 && (t262 == t237 && (t263 == t238 && (t264 == t239 && (t265 == t240)))))) = true then (if (t274 == t235 && (t275 == t236 && (t276 == t237 && (t277 == t238 && (t278 == t239 && (t279 == t240)))))) = true then (if t294 = true then (if bt299.1 = (wrap64 (bt296.1 + 5)) then (if bt299.2 = (wrap64 (bt296.2 + 9)) then ((spec_Apply.f k t235 t236 t237 t238 t239 t240 t241 t242).bind fun bt318 => (if (bt296.1 == bt318.1 && (bt296.2 == bt318.2)) = true then ((impl_MatOk.f t235 t236 t237 t238 t239 t240).bind fun t320 => (if t320 = true then ((impl_PointOk.f t241 t242).bind fun t321 => (some t321)) else (some false))) else (some false))) else (some false)) else (some false)) else (some false)) else (some false)) else (some false)) else (some false)) else (some false)) else (some false)))) else (some false)) else (some false)) else (some false)))))) = some r := H
 have A12 := Aside0.mk A120
 clear A120
 replace H := Option.bind_eq_some_iff.mp H
 obtain ⟨⟨t296, t297⟩, A130, H⟩ := H
 replace H : ((impl_Apply.f t288 t289 t290 t291 t292 t293 t241 t242).bind fun bt299 => ((impl_Still.f).bind fun bt302 => ((impl_Apply.f bt302.1 bt302.2.1 bt302.2.2.1 bt302.2.2.2.1 bt302.2.2.2.2.1 bt302.2.2.2.2.2 t241 t242).bind fun bt308 => (if (bt308.1 == t241 && (bt308.2 == t242)) = true then (if t251 = (wrap64 (t241 + 70)) then (if t252 = (wrap64 (t242 - 30)) then ((impl_Shift.f (-70) 30).bind fun bt310 => ((impl_Apply.f bt310.1 bt310.2.1 bt310.2.2.1 bt310.2.2.2.1 bt310.2.2.2.2.1 bt310.2.2.2.2.2 t251 t252).bind fun bt316 => (if (bt316.1 == t241 && (bt316.2 == t242)) = true then (if t266 = true then (if t280 = true then (if (t260 == t235 && (t261 == t236 && (t262 == t237 && (t263 == t238 && (t264 == t239 && (t265 == t240)))))) = true then (if (t274 == t235 && (t275 == t236 && (t276 == t237 && (t277 == t238 && (t278 == t239 && (t279 == t240)))))) = true then (if t294 = true then (if bt299.1 = (wrap64 (t296 + 5)) then (if bt299.2 = (wrap64 (t297 + 9)) then ((spec_Apply.f k t235 t236 t237 t238 t239 t240 t241 t242).bind fun bt318 => (if (t296 == bt318.1 && (t297 == bt318.2)) = true then ((impl_MatOk.f t235 t236 t237 t238 t239 t240).bind fun t320 => (if t320 = true then ((impl_PointOk.f t241 t242).bind fun t321 => (some t321)) else (some false))) else (some false))) else (some false)) else (some false)) else (some false)) else (some false)) else (some false)) else (some false)) else (some false)) else (some false)))) else (some false)) else (some false)) else (some false))))) = some r := H
 have A13 := Aside0.mk A130
 clear A130
 replace H := Option.bind_eq_some_iff.mp H
 obtain ⟨⟨t299, t300⟩, A140, H⟩ := H
 replace H : ((impl_Still.f).bind fun bt302 => ((impl_Apply.f bt302.1 bt302.2.1 bt302.2.2.1 bt302.2.2.2.1 bt302.2.2.2.2.1 bt302.2.2.2.2.2 t241 t242).bind fun bt308 => (if (bt308.1 == t241 && (bt308.2 == t242)) = true then (if t251 = (wrap64 (t241 + 70)) then (if t252 = (wrap64 (t242 - 30)) then ((impl_Shift.f (-70) 30).bind fun bt310 => ((impl_Apply.f bt310.1 bt310.2.1 bt310.2.2.1 bt310.2.2.2.1 bt310.2.2.2.2.1 bt310.2.2.2.2.2 t251 t252).bind fun bt316 => (if (bt316.1 == t241 && (bt316.2 == t242)) = true then (if t266 = true then (if t280 = true then (if (t260 == t235 && (t261 == t236 && (t262 == t237 && (t263 == t238 && (t264 == t239 && (t265 == t240)))))) = true then (if (t274 == t235 && (t275 == t236 && (t276 == t237 && (t277 == t238 && (t278 == t239 && (t279 == t240)))))) = true then (if t294 = true then (if t299 = (wrap64 (t296 + 5)) then (if t300 = (wrap64 (t297 + 9)) then ((spec_Apply.f k t235 t236 t237 t238 t239 t240 t241 t242).bind fun bt318 => (if (t296 == bt318.1 && (t297 == bt318.2)) = true then ((impl_MatOk.f t235 t236 t237 t238 t239 t240).bind fun t320 => (if t320 = true then ((impl_PointOk.f t241 t242).bind fun t321 => (some t321)) else (some false))) else (some false))) else (some false)) else (some false)) else (some false)) else (some false)) else (some false)) else (some false)) else (some false)) else (some false)))) else (some false)) else (some false)) else (some false)))) = some r := H
 have A14 := Aside0.mk A140
 clear A140
 replace H := Option.bind_eq_some_iff.mp H
 obtain ⟨⟨t302, t303, t304, t305, t306, t307⟩, A150, H⟩ := H
 replace H : ((impl_Apply.f t302 t303 t304 t305 t306 t307 t241 t242).bind fun bt308 => (if (bt308.1 == t241 && (bt308.2 == t242)) = true then (if t251 = (wrap64 (t241 + 70)) then (if t252 = (wrap64 (t242 - 30)) then ((impl_Shift.f (-70) 30).bind fun bt310 => ((impl_Apply.f bt310.1 bt310.2.1 bt310.2.2.1 bt310.2.2.2.1 bt310.2.2.2.2.1 bt310.2.2.2.2.2 t251 t252).bind fun bt316 => (if (bt316.1 == t241 && (bt316.2 == t242)) = true then (if t266 = true then (if t280 = true then (if (t260 == t235 && (t261 == t236 && (t262 == t237 && (t263 == t238 && (t264 == t239 && (t265 == t240)))))) = true then (if (t274 == t235 && (t275 == t236 && (t276 == t237 && (t277 == t238 && (t278 == t239 && (t279 == t240)))))) = true then (if t294 = true then (if t299 = (wrap64 (t296 + 5)) then (if t300 = (wrap64 (t297 + 9)) then ((spec_Apply.f k t235 t236 t237 t238 t239 t240 t241 t242).bind fun bt318 => (if (t296 == bt318.1 && (t297 == bt318.2)) = true then ((impl_MatOk.f t235 t236 t237 t238 t239 t240).bind fun t320 => (if t320 = true then ((impl_PointOk.f t241 t242).bind fun t321 => (some t321)) else (some false))) else (some false))) else (some false)) else (some false)) else (some false)) else (some false)) else (some false)) else (some false)) else (some false)) else (some false)))) else (some false)) else (some false)) else (some false))) = some r := H
 have A15 := Aside0.mk A150
 clear A150
 replace H := Option.bind_eq_some_iff.mp H
 obtain ⟨⟨t308, t309⟩, A160, H⟩ := H
 replace H : (if (t308 == t241 && (t309 == t242)) = true then (if t251 = (wrap64 (t241 + 70)) then (if t252 = (wrap64 (t242 - 30)) then ((impl_Shift.f (-70) 30).bind fun bt310 => ((impl_Apply.f bt310.1 bt310.2.1 bt310.2.2.1 bt310.2.2.2.1 bt310.2.2.2.2.1 bt310.2.2.2.2.2 t251 t252).bind fun bt316 => (if (bt316.1 == t241 && (bt316.2 == t242)) = true then (if t266 = true then (if t280 = true then (if (t260 == t235 && (t261 == t236 && (t262 == t237 && (t263 == t238 && (t264 == t239 && (t265 == t240)))))) = true then (if (t274 == t235 && (t275 == t236 && (t276 == t237 && (t277 == t238 && (t278 == t239 && (t279 == t240)))))) = true then (if t294 = true then (if t299 = (wrap64 (t296 + 5)) then (if t300 = (wrap64 (t297 + 9)) then ((spec_Apply.f k t235 t236 t237 t238 t239 t240 t241 t242).bind fun bt318 => (if (t296 == bt318.1 && (t297 == bt318.2)) = true then ((impl_MatOk.f t235 t236 t237 t238 t239 t240).bind fun t320 => (if t320 = true then ((impl_PointOk.f t241 t242).bind fun t321 => (some t321)) else (some false))) else (some false))) else (some false)) else (some false)) else (some false)) else (some false)) else (some false)) else (some false)) else (some false)) else (some false)))) else (some false)) else (some false)) else (some false)) = some r := H
 have A16 := Aside0.mk A160
 clear A160
 by_cases c17 : (t308 == t241 && (t309 == t242)) = true
 rotate_left
 ·rw [if_neg c17] at H
  have c17b0 : (t308 == t241 && (t309 == t242)) = false := by simpa using c17
  (try (have c17b1 : decide (t308 = t241 && (t309 == t242)) = false := by simpa using c17))
  (try (have c17b2 : (t308 == t241 && (t309 == t242)) = false := by simpa using c17))
  (try (have c17b3 : ¬ (t308 = t241 && (t309 == t242)) := by simpa using c17))
  clear c17
  obtain rfl := Option.some.inj H
  exact absurd hr_ (by decide)
 rw [if_pos c17] at H
 have c17b0 : (t308 == t241 && (t309 == t242)) = true := c17
 (try (have c17b1 : decide (t308 = t241 && (t309 == t242)) = true := by simpa using c17))
 (try (have c17b2 : (t308 == t241 && (t309 == t242)) = true := by simpa using c17))
 clear c17
 by_cases c18 : t251 = (wrap64 (t241 + 70))
 rotate_left
 ·rw [if_neg c18] at H
  have c18b0 : (t251 == (wrap64 (t241 + 70))) = false := beq_eq_false_iff_ne.mpr c18
  have c18b1 : (t251 != (wrap64 (t241 + 70))) = true := bne_iff_ne.mpr c18
  obtain rfl := Option.some.inj H
  exact absurd hr_ (by decide)
 rw [if_pos c18] at H
 have c18b0 : (t251 == (wrap64 (t241 + 70))) = true := beq_iff_eq.mpr c18
 have c18b1 : (t251 != (wrap64 (t241 + 70))) = false := bne_eq_false_iff_eq.mpr c18
 clear c18
 by_cases c19 : t252 = (wrap64 (t242 - 30))
 rotate_left
 ·rw [if_neg c19] at H
  have c19b0 : (t252 == (wrap64 (t242 - 30))) = false := beq_eq_false_iff_ne.mpr c19
  have c19b1 : (t252 != (wrap64 (t242 - 30))) = true := bne_iff_ne.mpr c19
  obtain rfl := Option.some.inj H
  exact absurd hr_ (by decide)
 rw [if_pos c19] at H
 have c19b0 : (t252 == (wrap64 (t242 - 30))) = true := beq_iff_eq.mpr c19
 have c19b1 : (t252 != (wrap64 (t242 - 30))) = false := bne_eq_false_iff_eq.mpr c19
 clear c19
 replace H := Option.bind_eq_some_iff.mp H
 obtain ⟨⟨t310, t311, t312, t313, t314, t315⟩, A200, H⟩ := H
 replace H : ((impl_Apply.f t310 t311 t312 t313 t314 t315 t251 t252).bind fun bt316 => (if (bt316.1 == t241 && (bt316.2 == t242)) = true then (if t266 = true then (if t280 = true then (if (t260 == t235 && (t261 == t236 && (t262 == t237 && (t263 == t238 && (t264 == t239 && (t265 == t240)))))) = true then (if (t274 == t235 && (t275 == t236 && (t276 == t237 && (t277 == t238 && (t278 == t239 && (t279 == t240)))))) = true then (if t294 = true then (if t299 = (wrap64 (t296 + 5)) then (if t300 = (wrap64 (t297 + 9)) then ((spec_Apply.f k t235 t236 t237 t238 t239 t240 t241 t242).bind fun bt318 => (if (t296 == bt318.1 && (t297 == bt318.2)) = true then ((impl_MatOk.f t235 t236 t237 t238 t239 t240).bind fun t320 => (if t320 = true then ((impl_PointOk.f t241 t242).bind fun t321 => (some t321)) else (some false))) else (some false))) else (some false)) else (some false)) else (some false)) else (some false)) else (some false)) else (some false)) else (some false)) else (some false))) = some r := H
 have A20 := Aside0.mk A200
 clear A200
 replace H := Option.bind_eq_some_iff.mp H
 obtain ⟨⟨t316, t317⟩, A210, H⟩ := H
 replace H : (if (t316 == t241 && (t317 == t242)) = true then (if t266 = true then (if t280 = true then (if (t260 == t235 && (t261 == t236 && (t262 == t237 && (t263 == t238 && (t264 == t239 && (t265 == t240)))))) = true then (if (t274 == t235 && (t275 == t236 && (t276 == t237 && (t277 == t238 && (t278 == t239 && (t279 == t240)))))) = true then (if t294 = true then (if t299 = (wrap64 (t296 + 5)) then (if t300 = (wrap64 (t297 + 9)) then ((spec_Apply.f k t235 t236 t237 t238 t239 t240 t241 t242).bind fun bt318 => (if (t296 == bt318.1 && (t297 == bt318.2)) = true then ((impl_MatOk.f t235 t236 t237 t238 t239 t240).bind fun t320 => (if t320 = true then ((impl_PointOk.f t241 t242).bind fun t321 => (some t321)) else (some false))) else (some false))) else (some false)) else (some false)) else (some false)) else (some false)) else (some false)) else (some false)) else (some false)) else (some false)) = some r := H
 have A21 := Aside0.mk A210
 clear A210
 by_cases c22 : (t316 == t241 && (t317 == t242)) = true
 rotate_left
 ·rw [if_neg c22] at H
  have c22b0 : (t316 == t241 && (t317 == t242)) = false := by simpa using c22
  (try (have c22b1 : decide (t316 = t241 && (t317 == t242)) = false := by simpa using c22))
  (try (have c22b2 : (t316 == t241 && (t317 == t242)) = false := by simpa using c22))
  (try (have c22b3 : ¬ (t316 = t241 && (t317 == t242)) := by simpa using c22))
  clear c22
  obtain rfl := Option.some.inj H
  exact absurd hr_ (by decide)
 rw [if_pos c22] at H
 have c22b0 : (t316 == t241 && (t317 == t242)) = true := c22
 (try (have c22b1 : decide (t316 = t241 && (t317 == t242)) = true := by simpa using c22))
 (try (have c22b2 : (t316 == t241 && (t317 == t242)) = true := by simpa using c22))
 clear c22
 by_cases c23 : t266 = true
 rotate_left
 ·replace c23 := Bool.eq_false_iff.mpr c23
  subst c23
  have H1 : (some false) = some r := by rw [if_neg (show ¬ (false = true) by decide)] at H; exact H
  clear H
  have H := H1
  clear H1
  obtain rfl := Option.some.inj H
  exact absurd hr_ (by decide)
 subst c23
 have H1 : (if t280 = true then (if (t260 == t235 && (t261 == t236 && (t262 == t237 && (t263 == t238 && (t264 == t239 && (t265 == t240)))))) = true then (if (t274 == t235 && (t275 == t236 && (t276 == t237 && (t277 == t238 && (t278 == t239 && (t279 == t240)))))) = true then (if t294 = true then (if t299 = (wrap64 (t296 + 5)) then (if t300 = (wrap64 (t297 + 9)) then ((spec_Apply.f k t235 t236 t237 t238 t239 t240 t241 t242).bind fun bt318 => (if (t296 == bt318.1 && (t297 == bt318.2)) = true then ((impl_MatOk.f t235 t236 t237 t238 t239 t240).bind fun t320 => (if t320 = true then ((impl_PointOk.f t241 t242).bind fun t321 => (some t321)) else (some false))) else (some false))) else (some false)) else (some false)) else (some false)) else (some false)) else (some false)) else (some false)) = some r := by rw [if_pos rfl] at H; exact H
 clear H
 have H := H1
 clear H1
 by_cases c24 : t280 = true
 rotate_left
 ·replace c24 := Bool.eq_false_iff.mpr c24
  subst c24
  have H1 : (some false) = some r := by rw [if_neg (show ¬ (false = true) by decide)] at H; exact H
  clear H
  have H := H1
  clear H1
  obtain rfl := Option.some.inj H
  exact absurd hr_ (by decide)
 subst c24
 have H1 : (if (t260 == t235 && (t261 == t236 && (t262 == t237 && (t263 == t238 && (t264 == t239 && (t265 == t240)))))) = true then (if (t274 == t235 && (t275 == t236 && (t276 == t237 && (t277 == t238 && (t278 == t239 && (t279 == t240)))))) = true then (if t294 = true then (if t299 = (wrap64 (t296 + 5)) then (if t300 = (wrap64 (t297 + 9)) then ((spec_Apply.f k t235 t236 t237 t238 t239 t240 t241 t242).bind fun bt318 => (if (t296 == bt318.1 && (t297 == bt318.2)) = true then ((impl_MatOk.f t235 t236 t237 t238 t239 t240).bind fun t320 => (if t320 = true then ((impl_PointOk.f t241 t242).bind fun t321 => (some t321)) else (some false))) else (some false))) else (some false)) else (some false)) else (some false)) else (some false)) else (some false)) = some r := by rw [if_pos rfl] at H; exact H
 clear H
 have H := H1
 clear H1
 by_cases c25 : (t260 == t235 && (t261 == t236 && (t262 == t237 && (t263 == t238 && (t264 == t239 && (t265 == t240)))))) = true
 rotate_left
 ·rw [if_neg c25] at H
  have c25b0 : (t260 == t235 && (t261 == t236 && (t262 == t237 && (t263 == t238 && (t264 == t239 && (t265 == t240)))))) = false := by simpa using c25
  (try (have c25b1 : decide (t260 = t235 && (t261 == t236 && (t262 == t237 && (t263 == t238 && (t264 == t239 && (t265 == t240)))))) = false := by simpa using c25))
  (try (have c25b2 : (t260 == t235 && (t261 == t236 && (t262 == t237 && (t263 == t238 && (t264 == t239 && (t265 == t240)))))) = false := by simpa using c25))
  (try (have c25b3 : ¬ (t260 = t235 && (t261 == t236 && (t262 == t237 && (t263 == t238 && (t264 == t239 && (t265 == t240)))))) := by simpa using c25))
  clear c25
  obtain rfl := Option.some.inj H
  exact absurd hr_ (by decide)
 rw [if_pos c25] at H
 have c25b0 : (t260 == t235 && (t261 == t236 && (t262 == t237 && (t263 == t238 && (t264 == t239 && (t265 == t240)))))) = true := c25
 (try (have c25b1 : decide (t260 = t235 && (t261 == t236 && (t262 == t237 && (t263 == t238 && (t264 == t239 && (t265 == t240)))))) = true := by simpa using c25))
 (try (have c25b2 : (t260 == t235 && (t261 == t236 && (t262 == t237 && (t263 == t238 && (t264 == t239 && (t265 == t240)))))) = true := by simpa using c25))
 clear c25
 by_cases c26 : (t274 == t235 && (t275 == t236 && (t276 == t237 && (t277 == t238 && (t278 == t239 && (t279 == t240)))))) = true
 rotate_left
 ·rw [if_neg c26] at H
  have c26b0 : (t274 == t235 && (t275 == t236 && (t276 == t237 && (t277 == t238 && (t278 == t239 && (t279 == t240)))))) = false := by simpa using c26
  (try (have c26b1 : decide (t274 = t235 && (t275 == t236 && (t276 == t237 && (t277 == t238 && (t278 == t239 && (t279 == t240)))))) = false := by simpa using c26))
  (try (have c26b2 : (t274 == t235 && (t275 == t236 && (t276 == t237 && (t277 == t238 && (t278 == t239 && (t279 == t240)))))) = false := by simpa using c26))
  (try (have c26b3 : ¬ (t274 = t235 && (t275 == t236 && (t276 == t237 && (t277 == t238 && (t278 == t239 && (t279 == t240)))))) := by simpa using c26))
  clear c26
  obtain rfl := Option.some.inj H
  exact absurd hr_ (by decide)
 rw [if_pos c26] at H
 have c26b0 : (t274 == t235 && (t275 == t236 && (t276 == t237 && (t277 == t238 && (t278 == t239 && (t279 == t240)))))) = true := c26
 (try (have c26b1 : decide (t274 = t235 && (t275 == t236 && (t276 == t237 && (t277 == t238 && (t278 == t239 && (t279 == t240)))))) = true := by simpa using c26))
 (try (have c26b2 : (t274 == t235 && (t275 == t236 && (t276 == t237 && (t277 == t238 && (t278 == t239 && (t279 == t240)))))) = true := by simpa using c26))
 clear c26
 by_cases c27 : t294 = true
 rotate_left
 ·replace c27 := Bool.eq_false_iff.mpr c27
  subst c27
  have H1 : (some false) = some r := by rw [if_neg (show ¬ (false = true) by decide)] at H; exact H
  clear H
  have H := H1
  clear H1
  obtain rfl := Option.some.inj H
  exact absurd hr_ (by decide)
 subst c27
 have H1 : (if t299 = (wrap64 (t296 + 5)) then (if t300 = (wrap64 (t297 + 9)) then ((spec_Apply.f k t235 t236 t237 t238 t239 t240 t241 t242).bind fun bt318 => (if (t296 == bt318.1 && (t297 == bt318.2)) = true then ((impl_MatOk.f t235 t236 t237 t238 t239 t240).bind fun t320 => (if t320 = true then ((impl_PointOk.f t241 t242).bind fun t321 => (some t321)) else (some false))) else (some false))) else (some false)) else (some false)) = some r := by rw [if_pos rfl] at H; exact H
 clear H
 have H := H1
 clear H1
 by_cases c28 : t299 = (wrap64 (t296 + 5))
 rotate_left
 ·rw [if_neg c28] at H
  have c28b0 : (t299 == (wrap64 (t296 + 5))) = false := beq_eq_false_iff_ne.mpr c28
  have c28b1 : (t299 != (wrap64 (t296 + 5))) = true := bne_iff_ne.mpr c28
  obtain rfl := Option.some.inj H
  exact absurd hr_ (by decide)
 rw [if_pos c28] at H
 have c28b0 : (t299 == (wrap64 (t296 + 5))) = true := beq_iff_eq.mpr c28
 have c28b1 : (t299 != (wrap64 (t296 + 5))) = false := bne_eq_false_iff_eq.mpr c28
 clear c28
 by_cases c29 : t300 = (wrap64 (t297 + 9))
 rotate_left
 ·rw [if_neg c29] at H
  have c29b0 : (t300 == (wrap64 (t297 + 9))) = false := beq_eq_false_iff_ne.mpr c29
  have c29b1 : (t300 != (wrap64 (t297 + 9))) = true := bne_iff_ne.mpr c29
  obtain rfl := Option.some.inj H
  exact absurd hr_ (by decide)
 rw [if_pos c29] at H
 have c29b0 : (t300 == (wrap64 (t297 + 9))) = true := beq_iff_eq.mpr c29
 have c29b1 : (t300 != (wrap64 (t297 + 9))) = false := bne_eq_false_iff_eq.mpr c29
 clear c29
 replace H := Option.bind_eq_some_iff.mp H
 obtain ⟨⟨t318, t319⟩, A300, H⟩ := H
 replace H : (if (t296 == t318 && (t297 == t319)) = true then ((impl_MatOk.f t235 t236 t237 t238 t239 t240).bind fun t320 => (if t320 = true then ((impl_PointOk.f t241 t242).bind fun t321 => (some t321)) else (some false))) else (some false)) = some r := H
 have A30 := Aside0.mk A300
 clear A300
 by_cases c31 : (t296 == t318 && (t297 == t319)) = true
 rotate_left
 ·rw [if_neg c31] at H
  have c31b0 : (t296 == t318 && (t297 == t319)) = false := by simpa using c31
  (try (have c31b1 : decide (t296 = t318 && (t297 == t319)) = false := by simpa using c31))
  (try (have c31b2 : (t296 == t318 && (t297 == t319)) = false := by simpa using c31))
  (try (have c31b3 : ¬ (t296 = t318 && (t297 == t319)) := by simpa using c31))
  clear c31
  obtain rfl := Option.some.inj H
  exact absurd hr_ (by decide)
 rw [if_pos c31] at H
 have c31b0 : (t296 == t318 && (t297 == t319)) = true := c31
 (try (have c31b1 : decide (t296 = t318 && (t297 == t319)) = true := by simpa using c31))
 (try (have c31b2 : (t296 == t318 && (t297 == t319)) = true := by simpa using c31))
 clear c31
 replace H := Option.bind_eq_some_iff.mp H
 obtain ⟨t320, A320, H⟩ := H
 replace H : (if t320 = true then ((impl_PointOk.f t241 t242).bind fun t321 => (some t321)) else (some false)) = some r := H
 have A32 := Aside0.mk A320
 clear A320
 by_cases c33 : t320 = true
 rotate_left
 ·replace c33 := Bool.eq_false_iff.mpr c33
  subst c33
  have H1 : (some false) = some r := by rw [if_neg (show ¬ (false = true) by decide)] at H; exact H
  clear H
  have H := H1
  clear H1
  obtain rfl := Option.some.inj H
  exact absurd hr_ (by decide)
 subst c33
 have H1 : ((impl_PointOk.f t241 t242).bind fun t321 => (some t321)) = some r := by rw [if_pos rfl] at H; exact H
 clear H
 have H := H1
 clear H1
 replace H := Option.bind_eq_some_iff.mp H
 obtain ⟨t321, A340, H⟩ := H
 replace H : (some t321) = some r := H
 have A34 := Aside0.mk A340
 clear A340
 obtain rfl := Option.some.inj H
 go_enter Try.func10, Try.ntmps10
 try go_wp2_with (first | ((with_reducible refine gate_callee (f := 35) rfl ?_); refine goesL_ (some 15) rfl rfl Try.func35 (by kernel_rfl) rfl #[.slice A0 l0.length c0] rfl (by (try simp only [List.map_toArray, List.map_cons, List.map_nil]); first | done | rfl | (simp only [List.length_drop, List.length_take]; rfl)) ?_; (with_reducible refine (laws_big.calls _ _ l0 false _ ?side1 ?side2 A2.out).mono ?_); (case side1 => repeat (first | exact HR0.out | (with_reducible refine Kd.C_alloc ?_ _) | (with_reducible refine Kd.C_drewN ?_ _) | (with_reducible refine Kd.C_drew ?_))); (case side2 => exact HC0.out); rintro e w' ⟨rfl, ⟨nd, rfl⟩⟩; refine ⟨_, rfl, ?_⟩) | ((with_reducible refine gate_callee (f := 46) rfl ?_); refine goesL_ (some 18) rfl rfl Try.func46 (by kernel_rfl) rfl #[.slice A0 l0.length c0] rfl (by (try simp only [List.map_toArray, List.map_cons, List.map_nil]); first | done | rfl | (simp only [List.length_drop, List.length_take]; rfl)) ?_; (with_reducible refine (spec_DrawMoved.calls k _ _ l0 t235 t236 t237 t238 t239 t240 t241 t242 _ ?side1 ?side2 A4.out).mono ?_); (case side1 => repeat (first | exact HR0.out | (with_reducible refine Kd.C_alloc ?_ _) | (with_reducible refine Kd.C_drewN ?_ _) | (with_reducible refine Kd.C_drew ?_))); (case side2 => exact HC0.out); rintro e w35 ⟨rfl, hb⟩; refine ⟨_, rfl, ?_⟩; have n0_ := Aside0.mk (below_step (by repeat (first | (with_reducible first | exact HB.out | apply below_alloc | apply pw_below_drewN | apply below_drew1) | exact HB.out)) hb); clear HB; have HB := n0_; clear n0_; (try clear hb); (try clear hb2); (try clear hk); (try clear hi)) | ((with_reducible refine gate_dst (N := 3) rfl ?_); refine box_event ?hg (N := 3) ?hd (cs := #[.int .i64 0, .int .i64 0, .int .i64 0, .int .i64 0, .int .i64 0, .int .i64 0]) (t := 34) ?hr ?_; (case hd => rfl); (case hg => rfl); (case hr => first | (go_simp; done) | (go_simp; rfl)); intro gb243 hg w36 hbox hb; have n0_ := Aside0.mk (below_step (by repeat (first | (with_reducible first | exact HB.out | apply below_alloc | apply pw_below_drewN | apply below_drew1) | exact HB.out)) hb); have n1_ := Aside0.mk (hbox); have n2_ := Aside0.mk ((by rw [hg]; exact (below_size (by repeat (first | (with_reducible first | exact HB.out | apply below_alloc | apply pw_below_drewN | apply below_drew1) | exact HB.out))) : w.heap.size ≤ gb243)); have n3_ := Aside0.mk ((by rw [hg]; exact (below_size (by repeat (first | (with_reducible first | exact HB.out | apply below_alloc | apply pw_below_drewN | apply below_drew1) | exact HB.out))) : w.heap.size ≤ gb243)); clear HB; have HB := n0_; have BK243 := n1_; have GW243 := n2_; have GE243 := n3_; clear n0_ n1_ n2_ n3_; clear hb hbox hg) | ((with_reducible refine gate_dst (N := 4) rfl ?_); refine box_event ?hg (N := 4) ?hd (cs := #[.int .i64 0, .int .i64 0]) (t := 24) ?hr ?_; (case hd => rfl); (case hg => rfl); (case hr => first | (go_simp; done) | (go_simp; rfl)); intro gb244 hg w37 hbox hb; have n0_ := Aside0.mk (blk_below BK243.out hb); have n1_ := Aside0.mk (below_step (by repeat (first | (with_reducible first | exact HB.out | apply below_alloc | apply pw_below_drewN | apply below_drew1 | refine below_set ?_ GE243.out) | exact HB.out)) hb); have n2_ := Aside0.mk (hbox); have n3_ := Aside0.mk ((by rw [hg]; exact (below_size (by repeat (first | (with_reducible first | exact HB.out | apply below_alloc | apply pw_below_drewN | apply below_drew1 | refine below_set ?_ GE243.out) | exact HB.out))) : w.heap.size ≤ gb244)); have n4_ := Aside0.mk ((by rw [hg]; exact (below_size (by repeat (first | (with_reducible first | exact HB.out | apply below_alloc | apply pw_below_drewN | apply below_drew1 | refine below_set ?_ GE243.out) | exact HB.out))) : w.heap.size ≤ gb244)); have n5_ := Aside0.mk ((by rw [hg]; exact Nat.ne_of_lt (blk_lt BK243.out) : gb243 ≠ gb244)); have n6_ := Aside0.mk ((by rw [hg]; exact Nat.ne_of_gt (blk_lt BK243.out) : gb244 ≠ gb243)); clear BK243; clear HB; have BK243 := n0_; have HB := n1_; have BK244 := n2_; have GW244 := n3_; have GE244 := n4_; have NB243_244 := n5_; have NB244_243 := n6_; clear n0_ n1_ n2_ n3_ n4_ n5_ n6_; clear hb hbox hg; have hnb38 := NB243_244.out; have hnc38 := NB244_243.out; have hcz39_0 : w37.cell? ⟨gb243, 0, none⟩ = some (.int .i64 0) := (blk_cell BK243.out 0).trans rfl; have hcz39_1 : w37.cell? ⟨gb243, 1, none⟩ = some (.int .i64 0) := (blk_cell BK243.out 1).trans rfl; have hcz39_2 : w37.cell? ⟨gb243, 2, none⟩ = some (.int .i64 0) := (blk_cell BK243.out 2).trans rfl; have hcz39_3 : w37.cell? ⟨gb243, 3, none⟩ = some (.int .i64 0) := (blk_cell BK243.out 3).trans rfl; have hcz39_4 : w37.cell? ⟨gb243, 4, none⟩ = some (.int .i64 0) := (blk_cell BK243.out 4).trans rfl; have hcz39_5 : w37.cell? ⟨gb243, 5, none⟩ = some (.int .i64 0) := (blk_cell BK243.out 5).trans rfl; have hfz39_0 := blk_frozen BK243.out 0; have hfz39_1 := blk_frozen BK243.out 1; have hfz39_2 := blk_frozen BK243.out 2; have hfz39_3 := blk_frozen BK243.out 3; have hfz39_4 := blk_frozen BK243.out 4; have hfz39_5 := blk_frozen BK243.out 5; have hcz40_0 : w37.cell? ⟨gb244, 0, none⟩ = some (.int .i64 0) := (blk_cell BK244.out 0).trans rfl; have hcz40_1 : w37.cell? ⟨gb244, 1, none⟩ = some (.int .i64 0) := (blk_cell BK244.out 1).trans rfl; have hfz40_0 := blk_frozen BK244.out 0; have hfz40_1 := blk_frozen BK244.out 1))
 have n0_ : Aside0 (((((((((w37.setCell ⟨gb243, 0, none⟩ (.int .i64 t235)).setCell ⟨gb243, 1, none⟩ (.int .i64 t236)).setCell ⟨gb243, 2, none⟩ (.int .i64 t237)).setCell ⟨gb243, 3, none⟩ (.int .i64 t238)).setCell ⟨gb243, 4, none⟩ (.int .i64 t239)).setCell ⟨gb243, 5, none⟩ (.int .i64 t240)).setCell ⟨gb244, 0, none⟩ (.int .i64 t241)).setCell ⟨gb244, 1, none⟩ (.int .i64 t242)).heap[gb243]? = some (.cells #[.int .i64 t235, .int .i64 t236, .int .i64 t237, .int .i64 t238, .int .i64 t239, .int .i64 t240] 34 (0, 0))) := ⟨by (with_reducible repeat (first | refine blk_drewN ?_ _ | refine blk_drew ?_ | refine blk_alloc ?_ _)); refine blk_far ?_ NB243_244.out _; (with_reducible repeat (first | refine blk_drewN ?_ _ | refine blk_drew ?_ | refine blk_alloc ?_ _)); refine blk_far ?_ NB243_244.out _; (with_reducible repeat (first | refine blk_drewN ?_ _ | refine blk_drew ?_ | refine blk_alloc ?_ _)); refine blk_put (cs := #[.int .i64 t235, .int .i64 t236, .int .i64 t237, .int .i64 t238, .int .i64 t239, .int .i64 0]) ?_ 5 _ rfl; (with_reducible repeat (first | refine blk_drewN ?_ _ | refine blk_drew ?_ | refine blk_alloc ?_ _)); refine blk_put (cs := #[.int .i64 t235, .int .i64 t236, .int .i64 t237, .int .i64 t238, .int .i64 0, .int .i64 0]) ?_ 4 _ rfl; (with_reducible repeat (first | refine blk_drewN ?_ _ | refine blk_drew ?_ | refine blk_alloc ?_ _)); refine blk_put (cs := #[.int .i64 t235, .int .i64 t236, .int .i64 t237, .int .i64 0, .int .i64 0, .int .i64 0]) ?_ 3 _ rfl; (with_reducible repeat (first | refine blk_drewN ?_ _ | refine blk_drew ?_ | refine blk_alloc ?_ _)); refine blk_put (cs := #[.int .i64 t235, .int .i64 t236, .int .i64 0, .int .i64 0, .int .i64 0, .int .i64 0]) ?_ 2 _ rfl; (with_reducible repeat (first | refine blk_drewN ?_ _ | refine blk_drew ?_ | refine blk_alloc ?_ _)); refine blk_put (cs := #[.int .i64 t235, .int .i64 0, .int .i64 0, .int .i64 0, .int .i64 0, .int .i64 0]) ?_ 1 _ rfl; (with_reducible repeat (first | refine blk_drewN ?_ _ | refine blk_drew ?_ | refine blk_alloc ?_ _)); refine blk_put (cs := #[.int .i64 0, .int .i64 0, .int .i64 0, .int .i64 0, .int .i64 0, .int .i64 0]) ?_ 0 _ rfl; (with_reducible repeat (first | refine blk_drewN ?_ _ | refine blk_drew ?_ | refine blk_alloc ?_ _)); exact BK243.out⟩
 have n1_ : Aside0 (((((((((w37.setCell ⟨gb243, 0, none⟩ (.int .i64 t235)).setCell ⟨gb243, 1, none⟩ (.int .i64 t236)).setCell ⟨gb243, 2, none⟩ (.int .i64 t237)).setCell ⟨gb243, 3, none⟩ (.int .i64 t238)).setCell ⟨gb243, 4, none⟩ (.int .i64 t239)).setCell ⟨gb243, 5, none⟩ (.int .i64 t240)).setCell ⟨gb244, 0, none⟩ (.int .i64 t241)).setCell ⟨gb244, 1, none⟩ (.int .i64 t242)).heap[gb244]? = some (.cells #[.int .i64 t241, .int .i64 t242] 24 (0, 0))) := ⟨by (with_reducible repeat (first | refine blk_drewN ?_ _ | refine blk_drew ?_ | refine blk_alloc ?_ _)); refine blk_put (cs := #[.int .i64 t241, .int .i64 0]) ?_ 1 _ rfl; (with_reducible repeat (first | refine blk_drewN ?_ _ | refine blk_drew ?_ | refine blk_alloc ?_ _)); refine blk_put (cs := #[.int .i64 0, .int .i64 0]) ?_ 0 _ rfl; (with_reducible repeat (first | refine blk_drewN ?_ _ | refine blk_drew ?_ | refine blk_alloc ?_ _)); refine blk_far ?_ NB244_243.out _; (with_reducible repeat (first | refine blk_drewN ?_ _ | refine blk_drew ?_ | refine blk_alloc ?_ _)); refine blk_far ?_ NB244_243.out _; (with_reducible repeat (first | refine blk_drewN ?_ _ | refine blk_drew ?_ | refine blk_alloc ?_ _)); refine blk_far ?_ NB244_243.out _; (with_reducible repeat (first | refine blk_drewN ?_ _ | refine blk_drew ?_ | refine blk_alloc ?_ _)); refine blk_far ?_ NB244_243.out _; (with_reducible repeat (first | refine blk_drewN ?_ _ | refine blk_drew ?_ | refine blk_alloc ?_ _)); refine blk_far ?_ NB244_243.out _; (with_reducible repeat (first | refine blk_drewN ?_ _ | refine blk_drew ?_ | refine blk_alloc ?_ _)); refine blk_far ?_ NB244_243.out _; (with_reducible repeat (first | refine blk_drewN ?_ _ | refine blk_drew ?_ | refine blk_alloc ?_ _)); exact BK244.out⟩
 have n2_ : Aside0 (Below w.heap.size w ((((((((w37.setCell ⟨gb243, 0, none⟩ (.int .i64 t235)).setCell ⟨gb243, 1, none⟩ (.int .i64 t236)).setCell ⟨gb243, 2, none⟩ (.int .i64 t237)).setCell ⟨gb243, 3, none⟩ (.int .i64 t238)).setCell ⟨gb243, 4, none⟩ (.int .i64 t239)).setCell ⟨gb243, 5, none⟩ (.int .i64 t240)).setCell ⟨gb244, 0, none⟩ (.int .i64 t241)).setCell ⟨gb244, 1, none⟩ (.int .i64 t242))) := ⟨by repeat (first | (with_reducible first | exact HB.out | apply below_alloc | apply pw_below_drewN | apply below_drew1 | refine below_set ?_ GE243.out | refine below_set ?_ GE244.out) | exact HB.out)⟩
 (try clear BK243)
 (try clear BK244)
 (try clear HB)
 generalize ((((((((w37.setCell ⟨gb243, 0, none⟩ (.int .i64 t235)).setCell ⟨gb243, 1, none⟩ (.int .i64 t236)).setCell ⟨gb243, 2, none⟩ (.int .i64 t237)).setCell ⟨gb243, 3, none⟩ (.int .i64 t238)).setCell ⟨gb243, 4, none⟩ (.int .i64 t239)).setCell ⟨gb243, 5, none⟩ (.int .i64 t240)).setCell ⟨gb244, 0, none⟩ (.int .i64 t241)).setCell ⟨gb244, 1, none⟩ (.int .i64 t242)) = w41 at n0_ n1_ n2_ ⊢
 have BK243 := n0_
 have BK244 := n1_
 have HB := n2_
 clear n0_ n1_ n2_
 replace BK243 := Aside0.mk (blk_drew BK243.out)
 replace BK244 := Aside0.mk (blk_drew BK244.out)
 replace HB := Aside0.mk (below_drew1 HB.out)
 refine start_ (n := 5) (S := fun w' => w'.cell? ⟨gb244, 0, none⟩ = some (.int .i64 t241) ∧ w'.cell? ⟨gb244, 1, none⟩ = some (.int .i64 t242)) (ds := []) #[false, false, false, false, false] (by kernel_rfl) rfl rfl ⟨(blk_cell BK244.out 0).trans rfl, (blk_cell BK244.out 1).trans rfl⟩ (fun hHeld => ?_)
 generalize w41.drew = w42 at BK243 BK244 HB hHeld ⊢
 refine take_ (i := 1) (N := some 22) (v := ?_) (a' := ?_) #[false, true, false, false, false] rfl rfl (by kernel_rfl) (fun _ _ _ h => h) (Or.inl ⟨by rfl, ?_⟩) hHeld ?_ ?_; rotate_left
 ·rintro w' ⟨s0, s1⟩; go_simp; with_reducible rfl
 rotate_left; (focus (simp only [PS]; rfl))
 refine join_ (σ := Nat) 1 #[true, true, true, true, false] (fun s_ => [(21, .agg #[.int .i64 t245, .int .i64 t246, .int .i64 t247, .int .i64 t248, .int .i64 t249, .int .i64 t250]), (23, .agg #[.int .i64 t251, .int .i64 t252]), (5, .pointer (some ⟨s_, 0, none⟩))]) (fun s_ w' => (w'.cell? ⟨gb244, 0, none⟩ = some (.int .i64 t241) ∧ w'.cell? ⟨gb244, 1, none⟩ = some (.int .i64 t242)) ∧ (w'.heap[gb243]? = some (.cells #[.int .i64 t235, .int .i64 t236, .int .i64 t237, .int .i64 t238, .int .i64 t239, .int .i64 t240] 34 (0, 0))) ∧ (w'.heap[gb244]? = some (.cells #[.int .i64 t241, .int .i64 t242] 24 (0, 0))) ∧ (w'.heap[s_]? = some (.cells #[.int .i64 0, .int .i64 0] 24 (0, 0))) ∧ (w.heap.size ≤ s_) ∧ (w.heap.size ≤ s_) ∧ (gb243 ≠ s_) ∧ (s_ ≠ gb243) ∧ (gb244 ≠ s_) ∧ (s_ ≠ gb244) ∧ (Below w.heap.size w w')) ?_ ?_
 rotate_left
 ·intro hCont
  refine two_ (i := 0) (j := 3) (Ni := some 21) (Nj := some 5) #[true, true, false, false, false] #[false, true, false, true, false] rfl rfl rfl rfl (by kernel_rfl) (by decide) (by decide) (fun K hK => ?_) (fun K hK => ?_)
  ·skip
   refine goes_ Try.func47 (by kernel_rfl) rfl #[.int .i64 70, .int .i64 (-30)] (by rfl) rfl rfl (by (try simp only [List.map_toArray, List.map_cons, List.map_nil]); first | done | rfl | (simp only [List.length_drop, List.length_take]; rfl)) ?_
   with_reducible refine (impl_Shift.calls 70 (-30) t245 t246 t247 t248 t249 t250 _ A5.out).mono ?_
   rintro e w43 ⟨rfl, hb⟩
   refine ⟨_, rfl, ?_⟩
   replace BK243 := Aside0.mk (blk_below BK243.out hb)
   replace BK244 := Aside0.mk (blk_below BK244.out hb)
   replace HB := Aside0.mk (below_step HB.out hb)
   (try clear hb)
   (try clear hb2)
   (try clear hk)
   (try clear hi)
   refine hK.out _ _ ⟨(blk_cell BK244.out 0).trans rfl, (blk_cell BK244.out 1).trans rfl⟩ (fun hHeld => ?_)
   clear hK K
   refine norm_ (a' := ?_) ?_ ?_; rotate_left
   ·show Act.put _ (some 21) _ = _
    simp only [PS]
    rfl
   refine two_ (i := 2) (j := 3) (Ni := some 23) (Nj := some 5) #[true, true, true, false, false] #[true, true, false, true, false] rfl rfl rfl rfl (by kernel_rfl) (by decide) (by decide) (fun K hK => ?_) (fun K hK => ?_)
   ·skip
    refine goes_ Try.func22 (by kernel_rfl) rfl #[.agg #[.int .i64 t245, .int .i64 t246, .int .i64 t247, .int .i64 t248, .int .i64 t249, .int .i64 t250], .agg #[.int .i64 t241, .int .i64 t242]] (by rfl) rfl rfl (by (try simp only [List.map_toArray, List.map_cons, List.map_nil]); first | done | rfl | (simp only [List.length_drop, List.length_take]; rfl)) ?_
    with_reducible refine (impl_Apply.calls t245 t246 t247 t248 t249 t250 t241 t242 t251 t252 _ A6.out).mono ?_
    rintro e w44 ⟨rfl, hb⟩
    refine ⟨_, rfl, ?_⟩
    replace BK243 := Aside0.mk (blk_below BK243.out hb)
    replace BK244 := Aside0.mk (blk_below BK244.out hb)
    replace HB := Aside0.mk (below_step HB.out hb)
    (try clear hb)
    (try clear hb2)
    (try clear hk)
    (try clear hi)
    refine hK.out _ _ ⟨(blk_cell BK244.out 0).trans rfl, (blk_cell BK244.out 1).trans rfl⟩ (fun hHeld => ?_)
    clear hK K
    refine norm_ (a' := ?_) ?_ ?_; rotate_left
    ·show Act.put _ (some 23) _ = _
     simp only [PS]
     rfl
    refine one_ (i := 3) (N := some 5) #[true, true, true, true, false] rfl rfl (by kernel_rfl) (by decide) (fun K hK => ?_)
    refine box_step ?hg (N := 5) ?hd (cs := #[.int .i64 0, .int .i64 0]) (t := 24) ?hr ?_; (case hd => rfl); (case hg => rfl); (case hr => first | (go_simp; done) | (go_simp; rfl))
    intro gb253 hg w45 hbox hb
    have BK253 := Aside0.mk (hbox)
    have GW253 := Aside0.mk ((by rw [hg]; exact (below_size HB.out) : w.heap.size ≤ gb253))
    have GE253 := Aside0.mk ((by rw [hg]; exact (below_size HB.out) : w.heap.size ≤ gb253))
    replace HB := Aside0.mk (below_step HB.out hb)
    have NB243_253 := Aside0.mk ((by rw [hg]; exact Nat.ne_of_lt (blk_lt BK243.out) : gb243 ≠ gb253))
    have NB253_243 := Aside0.mk ((by rw [hg]; exact Nat.ne_of_gt (blk_lt BK243.out) : gb253 ≠ gb243))
    replace BK243 := Aside0.mk (blk_below BK243.out hb)
    have NB244_253 := Aside0.mk ((by rw [hg]; exact Nat.ne_of_lt (blk_lt BK244.out) : gb244 ≠ gb253))
    have NB253_244 := Aside0.mk ((by rw [hg]; exact Nat.ne_of_gt (blk_lt BK244.out) : gb253 ≠ gb244))
    replace BK244 := Aside0.mk (blk_below BK244.out hb)
    clear hb hbox hg
    refine hK.out _ _ ⟨(blk_cell BK244.out 0).trans rfl, (blk_cell BK244.out 1).trans rfl⟩ (fun hHeld => ?_)
    clear hK K
    refine norm_ (a' := ?_) ?_ ?_; rotate_left
    ·show Act.put _ (some 5) _ = _
     simp only [PS]
     rfl
    exact norm_ (by simp only [putAll, Act.put, List.setIfInBounds_toArray, List.set_cons_zero, List.set_cons_succ]) (hCont (gb253) _ ⟨hHeld, BK243.out, BK244.out, BK253.out, GW253.out, GE253.out, NB243_253.out, NB253_243.out, NB244_253.out, NB253_244.out, HB.out⟩)
   ·skip
    refine box_step ?hg (N := 5) ?hd (cs := #[.int .i64 0, .int .i64 0]) (t := 24) ?hr ?_; (case hd => rfl); (case hg => rfl); (case hr => first | (go_simp; done) | (go_simp; rfl))
    intro gb253 hg w44 hbox hb
    have BK253 := Aside0.mk (hbox)
    have GW253 := Aside0.mk ((by rw [hg]; exact (below_size HB.out) : w.heap.size ≤ gb253))
    have GE253 := Aside0.mk ((by rw [hg]; exact (below_size HB.out) : w.heap.size ≤ gb253))
    replace HB := Aside0.mk (below_step HB.out hb)
    have NB243_253 := Aside0.mk ((by rw [hg]; exact Nat.ne_of_lt (blk_lt BK243.out) : gb243 ≠ gb253))
    have NB253_243 := Aside0.mk ((by rw [hg]; exact Nat.ne_of_gt (blk_lt BK243.out) : gb253 ≠ gb243))
    replace BK243 := Aside0.mk (blk_below BK243.out hb)
    have NB244_253 := Aside0.mk ((by rw [hg]; exact Nat.ne_of_lt (blk_lt BK244.out) : gb244 ≠ gb253))
    have NB253_244 := Aside0.mk ((by rw [hg]; exact Nat.ne_of_gt (blk_lt BK244.out) : gb253 ≠ gb244))
    replace BK244 := Aside0.mk (blk_below BK244.out hb)
    clear hb hbox hg
    refine hK.out _ _ ⟨(blk_cell BK244.out 0).trans rfl, (blk_cell BK244.out 1).trans rfl⟩ (fun hHeld => ?_)
    clear hK K
    refine norm_ (a' := ?_) ?_ ?_; rotate_left
    ·show Act.put _ (some 5) _ = _
     simp only [PS]
     rfl
    refine one_ (i := 2) (N := some 23) #[true, true, true, true, false] rfl rfl (by kernel_rfl) (by decide) (fun K hK => ?_)
    refine goes_ Try.func22 (by kernel_rfl) rfl #[.agg #[.int .i64 t245, .int .i64 t246, .int .i64 t247, .int .i64 t248, .int .i64 t249, .int .i64 t250], .agg #[.int .i64 t241, .int .i64 t242]] (by rfl) rfl rfl (by (try simp only [List.map_toArray, List.map_cons, List.map_nil]); first | done | rfl | (simp only [List.length_drop, List.length_take]; rfl)) ?_
    with_reducible refine (impl_Apply.calls t245 t246 t247 t248 t249 t250 t241 t242 t251 t252 _ A6.out).mono ?_
    rintro e w45 ⟨rfl, hb⟩
    refine ⟨_, rfl, ?_⟩
    replace BK243 := Aside0.mk (blk_below BK243.out hb)
    replace BK244 := Aside0.mk (blk_below BK244.out hb)
    replace BK253 := Aside0.mk (blk_below BK253.out hb)
    replace HB := Aside0.mk (below_step HB.out hb)
    (try clear hb)
    (try clear hb2)
    (try clear hk)
    (try clear hi)
    refine hK.out _ _ ⟨(blk_cell BK244.out 0).trans rfl, (blk_cell BK244.out 1).trans rfl⟩ (fun hHeld => ?_)
    clear hK K
    refine norm_ (a' := ?_) ?_ ?_; rotate_left
    ·show Act.put _ (some 23) _ = _
     simp only [PS]
     rfl
    exact norm_ (by simp only [putAll, Act.put, List.setIfInBounds_toArray, List.set_cons_zero, List.set_cons_succ]) (hCont (gb253) _ ⟨hHeld, BK243.out, BK244.out, BK253.out, GW253.out, GE253.out, NB243_253.out, NB253_243.out, NB244_253.out, NB253_244.out, HB.out⟩)
  ·skip
   refine box_step ?hg (N := 5) ?hd (cs := #[.int .i64 0, .int .i64 0]) (t := 24) ?hr ?_; (case hd => rfl); (case hg => rfl); (case hr => first | (go_simp; done) | (go_simp; rfl))
   intro gb253 hg w43 hbox hb
   have BK253 := Aside0.mk (hbox)
   have GW253 := Aside0.mk ((by rw [hg]; exact (below_size HB.out) : w.heap.size ≤ gb253))
   have GE253 := Aside0.mk ((by rw [hg]; exact (below_size HB.out) : w.heap.size ≤ gb253))
   replace HB := Aside0.mk (below_step HB.out hb)
   have NB243_253 := Aside0.mk ((by rw [hg]; exact Nat.ne_of_lt (blk_lt BK243.out) : gb243 ≠ gb253))
   have NB253_243 := Aside0.mk ((by rw [hg]; exact Nat.ne_of_gt (blk_lt BK243.out) : gb253 ≠ gb243))
   replace BK243 := Aside0.mk (blk_below BK243.out hb)
   have NB244_253 := Aside0.mk ((by rw [hg]; exact Nat.ne_of_lt (blk_lt BK244.out) : gb244 ≠ gb253))
   have NB253_244 := Aside0.mk ((by rw [hg]; exact Nat.ne_of_gt (blk_lt BK244.out) : gb253 ≠ gb244))
   replace BK244 := Aside0.mk (blk_below BK244.out hb)
   clear hb hbox hg
   refine hK.out _ _ ⟨(blk_cell BK244.out 0).trans rfl, (blk_cell BK244.out 1).trans rfl⟩ (fun hHeld => ?_)
   clear hK K
   refine norm_ (a' := ?_) ?_ ?_; rotate_left
   ·show Act.put _ (some 5) _ = _
    simp only [PS]
    rfl
   refine one_ (i := 0) (N := some 21) #[true, true, false, true, false] rfl rfl (by kernel_rfl) (by decide) (fun K hK => ?_)
   refine goes_ Try.func47 (by kernel_rfl) rfl #[.int .i64 70, .int .i64 (-30)] (by rfl) rfl rfl (by (try simp only [List.map_toArray, List.map_cons, List.map_nil]); first | done | rfl | (simp only [List.length_drop, List.length_take]; rfl)) ?_
   with_reducible refine (impl_Shift.calls 70 (-30) t245 t246 t247 t248 t249 t250 _ A5.out).mono ?_
   rintro e w44 ⟨rfl, hb⟩
   refine ⟨_, rfl, ?_⟩
   replace BK243 := Aside0.mk (blk_below BK243.out hb)
   replace BK244 := Aside0.mk (blk_below BK244.out hb)
   replace BK253 := Aside0.mk (blk_below BK253.out hb)
   replace HB := Aside0.mk (below_step HB.out hb)
   (try clear hb)
   (try clear hb2)
   (try clear hk)
   (try clear hi)
   refine hK.out _ _ ⟨(blk_cell BK244.out 0).trans rfl, (blk_cell BK244.out 1).trans rfl⟩ (fun hHeld => ?_)
   clear hK K
   refine norm_ (a' := ?_) ?_ ?_; rotate_left
   ·show Act.put _ (some 21) _ = _
    simp only [PS]
    rfl
   refine one_ (i := 2) (N := some 23) #[true, true, true, true, false] rfl rfl (by kernel_rfl) (by decide) (fun K hK => ?_)
   refine goes_ Try.func22 (by kernel_rfl) rfl #[.agg #[.int .i64 t245, .int .i64 t246, .int .i64 t247, .int .i64 t248, .int .i64 t249, .int .i64 t250], .agg #[.int .i64 t241, .int .i64 t242]] (by rfl) rfl rfl (by (try simp only [List.map_toArray, List.map_cons, List.map_nil]); first | done | rfl | (simp only [List.length_drop, List.length_take]; rfl)) ?_
   with_reducible refine (impl_Apply.calls t245 t246 t247 t248 t249 t250 t241 t242 t251 t252 _ A6.out).mono ?_
   rintro e w45 ⟨rfl, hb⟩
   refine ⟨_, rfl, ?_⟩
   replace BK243 := Aside0.mk (blk_below BK243.out hb)
   replace BK244 := Aside0.mk (blk_below BK244.out hb)
   replace BK253 := Aside0.mk (blk_below BK253.out hb)
   replace HB := Aside0.mk (below_step HB.out hb)
   (try clear hb)
   (try clear hb2)
   (try clear hk)
   (try clear hi)
   refine hK.out _ _ ⟨(blk_cell BK244.out 0).trans rfl, (blk_cell BK244.out 1).trans rfl⟩ (fun hHeld => ?_)
   clear hK K
   refine norm_ (a' := ?_) ?_ ?_; rotate_left
   ·show Act.put _ (some 23) _ = _
    simp only [PS]
    rfl
   exact norm_ (by simp only [putAll, Act.put, List.setIfInBounds_toArray, List.set_cons_zero, List.set_cons_succ]) (hCont (gb253) _ ⟨hHeld, BK243.out, BK244.out, BK253.out, GW253.out, GE253.out, NB243_253.out, NB253_243.out, NB244_253.out, NB253_244.out, HB.out⟩)
 rintro gb253 w46 ⟨hS_, h0_, h1_, h2_, h3_, h4_, h5_, h6_, h7_, h8_, h9_⟩
 have n0_ : Aside0 (w46.heap[gb243]? = some (.cells #[.int .i64 t235, .int .i64 t236, .int .i64 t237, .int .i64 t238, .int .i64 t239, .int .i64 t240] 34 (0, 0))) := ⟨h0_⟩
 have n1_ : Aside0 (w46.heap[gb244]? = some (.cells #[.int .i64 t241, .int .i64 t242] 24 (0, 0))) := ⟨h1_⟩
 have n2_ : Aside0 (w46.heap[gb253]? = some (.cells #[.int .i64 0, .int .i64 0] 24 (0, 0))) := ⟨h2_⟩
 have n3_ : Aside0 (w.heap.size ≤ gb253) := ⟨h3_⟩
 have n4_ : Aside0 (w.heap.size ≤ gb253) := ⟨h4_⟩
 have n5_ : Aside0 (gb243 ≠ gb253) := ⟨h5_⟩
 have n6_ : Aside0 (gb253 ≠ gb243) := ⟨h6_⟩
 have n7_ : Aside0 (gb244 ≠ gb253) := ⟨h7_⟩
 have n8_ : Aside0 (gb253 ≠ gb244) := ⟨h8_⟩
 have n9_ : Aside0 (Below w.heap.size w w46) := ⟨h9_⟩
 clear BK243
 clear BK244
 clear HB
 clear h0_ h1_ h2_ h3_ h4_ h5_ h6_ h7_ h8_ h9_
 have BK243 := n0_
 have BK244 := n1_
 have BK253 := n2_
 have GW253 := n3_
 have GE253 := n4_
 have NB243_253 := n5_
 have NB253_243 := n6_
 have NB244_253 := n7_
 have NB253_244 := n8_
 have HB := n9_
 clear n0_ n1_ n2_ n3_ n4_ n5_ n6_ n7_ n8_ n9_
 have hHeld : w46.cell? ⟨gb244, 0, none⟩ = some (.int .i64 t241) ∧ w46.cell? ⟨gb244, 1, none⟩ = some (.int .i64 t242) := hS_
 refine norm_ (a' := ?_) ?_ ?_; rotate_left
 ·simp only [putAll, Act.put, List.setIfInBounds_toArray, List.set_cons_zero, List.set_cons_succ]
  rfl
 refine one_ (i := 4) (N := none) #[true, true, true, true, true] rfl rfl (by kernel_rfl) (by decide) (fun K hK => ?_)
 have hs47 : w46.cell? ⟨gb253, 0, none⟩ = some (.int .i64 0) := (blk_cell BK253.out 0).trans rfl
 have hfs47 := blk_frozen BK253.out 0
 have hns47_0 := NB243_253.out
 have hns47_1 := NB244_253.out
 have hms47_0 := NB253_243.out
 have hms47_1 := NB253_244.out
 have hs48 : w46.cell? ⟨gb253, 1, none⟩ = some (.int .i64 0) := (blk_cell BK253.out 1).trans rfl
 have hfs48 := blk_frozen BK253.out 1
 have hns48_0 := NB243_253.out
 have hns48_1 := NB244_253.out
 have hms48_0 := NB253_243.out
 have hms48_1 := NB253_244.out
 refine skip_ (w1 := ?_) (by rfl) rfl ?_ ?_; rotate_left
 ·go_simp
  rfl
 refine hK.out _ _ ⟨((cell_far (p := ⟨gb253, _, none⟩) NB244_253.out _).trans (((cell_far (p := ⟨gb253, _, none⟩) NB244_253.out _).trans (hHeld.1)))), ((cell_far (p := ⟨gb253, _, none⟩) NB244_253.out _).trans (((cell_far (p := ⟨gb253, _, none⟩) NB244_253.out _).trans (hHeld.2))))⟩ (fun hHeld => ?_)
 clear hK K
 refine done_ (by kernel_rfl) ?_
 try go_wp2
 have n0_ : Aside0 (((w46.setCell ⟨gb253, 0, none⟩ (.int .i64 t251)).setCell ⟨gb253, 1, none⟩ (.int .i64 t252)).heap[gb243]? = some (.cells #[.int .i64 t235, .int .i64 t236, .int .i64 t237, .int .i64 t238, .int .i64 t239, .int .i64 t240] 34 (0, 0))) := ⟨by (with_reducible repeat (first | refine blk_drewN ?_ _ | refine blk_drew ?_ | refine blk_alloc ?_ _)); refine blk_far ?_ NB243_253.out _; (with_reducible repeat (first | refine blk_drewN ?_ _ | refine blk_drew ?_ | refine blk_alloc ?_ _)); refine blk_far ?_ NB243_253.out _; (with_reducible repeat (first | refine blk_drewN ?_ _ | refine blk_drew ?_ | refine blk_alloc ?_ _)); exact BK243.out⟩
 have n1_ : Aside0 (((w46.setCell ⟨gb253, 0, none⟩ (.int .i64 t251)).setCell ⟨gb253, 1, none⟩ (.int .i64 t252)).heap[gb244]? = some (.cells #[.int .i64 t241, .int .i64 t242] 24 (0, 0))) := ⟨by (with_reducible repeat (first | refine blk_drewN ?_ _ | refine blk_drew ?_ | refine blk_alloc ?_ _)); refine blk_far ?_ NB244_253.out _; (with_reducible repeat (first | refine blk_drewN ?_ _ | refine blk_drew ?_ | refine blk_alloc ?_ _)); refine blk_far ?_ NB244_253.out _; (with_reducible repeat (first | refine blk_drewN ?_ _ | refine blk_drew ?_ | refine blk_alloc ?_ _)); exact BK244.out⟩
 have n2_ : Aside0 (((w46.setCell ⟨gb253, 0, none⟩ (.int .i64 t251)).setCell ⟨gb253, 1, none⟩ (.int .i64 t252)).heap[gb253]? = some (.cells #[.int .i64 t251, .int .i64 t252] 24 (0, 0))) := ⟨by (with_reducible repeat (first | refine blk_drewN ?_ _ | refine blk_drew ?_ | refine blk_alloc ?_ _)); refine blk_put (cs := #[.int .i64 t251, .int .i64 0]) ?_ 1 _ rfl; (with_reducible repeat (first | refine blk_drewN ?_ _ | refine blk_drew ?_ | refine blk_alloc ?_ _)); refine blk_put (cs := #[.int .i64 0, .int .i64 0]) ?_ 0 _ rfl; (with_reducible repeat (first | refine blk_drewN ?_ _ | refine blk_drew ?_ | refine blk_alloc ?_ _)); exact BK253.out⟩
 have n3_ : Aside0 (Below w.heap.size w ((w46.setCell ⟨gb253, 0, none⟩ (.int .i64 t251)).setCell ⟨gb253, 1, none⟩ (.int .i64 t252))) := ⟨by repeat (first | (with_reducible first | exact HB.out | apply below_alloc | apply pw_below_drewN | apply below_drew1 | refine below_set ?_ GE243.out | refine below_set ?_ GE244.out | refine below_set ?_ GE253.out) | exact HB.out)⟩
 (try clear BK243)
 (try clear BK244)
 (try clear BK253)
 (try clear HB)
 generalize ((w46.setCell ⟨gb253, 0, none⟩ (.int .i64 t251)).setCell ⟨gb253, 1, none⟩ (.int .i64 t252)) = w49 at n0_ n1_ n2_ n3_ ⊢
 have BK243 := n0_
 have BK244 := n1_
 have BK253 := n2_
 have HB := n3_
 clear n0_ n1_ n2_ n3_
 replace BK243 := Aside0.mk (blk_drew BK243.out)
 replace BK244 := Aside0.mk (blk_drew BK244.out)
 replace BK253 := Aside0.mk (blk_drew BK253.out)
 replace HB := Aside0.mk (below_drew1 HB.out)
 refine start_ (n := 9) (S := fun w' => w'.cell? ⟨gb243, 0, none⟩ = some (.int .i64 t235) ∧ w'.cell? ⟨gb243, 1, none⟩ = some (.int .i64 t236) ∧ w'.cell? ⟨gb243, 2, none⟩ = some (.int .i64 t237) ∧ w'.cell? ⟨gb243, 3, none⟩ = some (.int .i64 t238) ∧ w'.cell? ⟨gb243, 4, none⟩ = some (.int .i64 t239) ∧ w'.cell? ⟨gb243, 5, none⟩ = some (.int .i64 t240)) (ds := []) #[false, false, false, false, false, false, false, false, false] (by kernel_rfl) rfl rfl ⟨(blk_cell BK243.out 0).trans rfl, (blk_cell BK243.out 1).trans rfl, (blk_cell BK243.out 2).trans rfl, (blk_cell BK243.out 3).trans rfl, (blk_cell BK243.out 4).trans rfl, (blk_cell BK243.out 5).trans rfl⟩ (fun hHeld => ?_); refine with_tabW laws_FnMoves.tab5 laws_FnMoves.bits5 (fun HT_ HW_ => ?_)
 generalize w49.drew = w50 at BK243 BK244 BK253 HB hHeld ⊢
 refine take_ (i := 0) (N := some 25) (v := ?_) (a' := ?_) #[true, false, false, false, false, false, false, false, false] rfl rfl (take_ofW HT_.out HW_.out (by kernel_rfl)) (fun _ _ _ h => h) (Or.inl ⟨by rfl, ?_⟩) hHeld ?_ ?_; rotate_left
 ·rintro w' ⟨s0, s1, s2, s3, s4, s5⟩; go_simp; with_reducible rfl
 rotate_left; (focus (simp only [PS]; rfl))
 refine join_ (σ := Nat) 2 #[true, true, true, true, true, true, true, false, false] (fun s_ => [(26, .agg #[.int .i64 t254, .int .i64 t255, .int .i64 t256, .int .i64 t257, .int .i64 t258, .int .i64 t259]), (27, .tuple #[.agg #[.int .i64 t260, .int .i64 t261, .int .i64 t262, .int .i64 t263, .int .i64 t264, .int .i64 t265], .bool true]), (6, .pointer (some ⟨s_, 0, none⟩)), (24, .tuple #[.agg #[.int .i64 t260, .int .i64 t261, .int .i64 t262, .int .i64 t263, .int .i64 t264, .int .i64 t265], .bool true]), (28, .agg #[.int .i64 t260, .int .i64 t261, .int .i64 t262, .int .i64 t263, .int .i64 t264, .int .i64 t265]), (29, .bool true)]) (fun s_ w' => (w'.cell? ⟨gb243, 0, none⟩ = some (.int .i64 t235) ∧ w'.cell? ⟨gb243, 1, none⟩ = some (.int .i64 t236) ∧ w'.cell? ⟨gb243, 2, none⟩ = some (.int .i64 t237) ∧ w'.cell? ⟨gb243, 3, none⟩ = some (.int .i64 t238) ∧ w'.cell? ⟨gb243, 4, none⟩ = some (.int .i64 t239) ∧ w'.cell? ⟨gb243, 5, none⟩ = some (.int .i64 t240)) ∧ (w'.heap[gb243]? = some (.cells #[.int .i64 t235, .int .i64 t236, .int .i64 t237, .int .i64 t238, .int .i64 t239, .int .i64 t240] 34 (0, 0))) ∧ (w'.heap[gb244]? = some (.cells #[.int .i64 t241, .int .i64 t242] 24 (0, 0))) ∧ (w'.heap[gb253]? = some (.cells #[.int .i64 t251, .int .i64 t252] 24 (0, 0))) ∧ (w'.heap[s_]? = some (.cells #[.int .i64 0, .int .i64 0, .int .i64 0, .int .i64 0, .int .i64 0, .int .i64 0] 34 (0, 0))) ∧ (w.heap.size ≤ s_) ∧ (w.heap.size ≤ s_) ∧ (gb243 ≠ s_) ∧ (s_ ≠ gb243) ∧ (gb244 ≠ s_) ∧ (s_ ≠ gb244) ∧ (gb253 ≠ s_) ∧ (s_ ≠ gb253) ∧ (Below w.heap.size w w')) ?_ ?_
 rotate_left
 ·intro hCont
  refine two_ (i := 1) (j := 6) (Ni := some 26) (Nj := some 6) #[true, true, false, false, false, false, false, false, false] #[true, false, false, false, false, false, true, false, false] rfl rfl rfl rfl (two_of HT_.out (by kernel_rfl)) (by decide) (by decide) (fun K hK => ?_) (fun K hK => ?_)
  ·skip
   refine goes_ Try.func49 (by kernel_rfl) rfl #[] (by rfl) rfl rfl (by (try simp only [List.map_toArray, List.map_cons, List.map_nil]); first | done | rfl | (simp only [List.length_drop, List.length_take]; rfl)) ?_
   with_reducible refine (impl_Still.calls  t254 t255 t256 t257 t258 t259 _ A7.out).mono ?_
   rintro e w51 ⟨rfl, hb⟩
   refine ⟨_, rfl, ?_⟩
   replace BK243 := Aside0.mk (blk_below BK243.out hb)
   replace BK244 := Aside0.mk (blk_below BK244.out hb)
   replace BK253 := Aside0.mk (blk_below BK253.out hb)
   replace HB := Aside0.mk (below_step HB.out hb)
   (try clear hb)
   (try clear hb2)
   (try clear hk)
   (try clear hi)
   refine hK.out _ _ ⟨(blk_cell BK243.out 0).trans rfl, (blk_cell BK243.out 1).trans rfl, (blk_cell BK243.out 2).trans rfl, (blk_cell BK243.out 3).trans rfl, (blk_cell BK243.out 4).trans rfl, (blk_cell BK243.out 5).trans rfl⟩ (fun hHeld => ?_)
   clear hK K
   refine norm_ (a' := ?_) ?_ ?_; rotate_left
   ·show Act.put _ (some 26) _ = _
    simp only [PS]
    rfl
   refine two_ (i := 2) (j := 6) (Ni := some 27) (Nj := some 6) #[true, true, true, false, false, false, false, false, false] #[true, true, false, false, false, false, true, false, false] rfl rfl rfl rfl (two_of HT_.out (by kernel_rfl)) (by decide) (by decide) (fun K hK => ?_) (fun K hK => ?_)
   ·skip
    refine goes_ Try.func48 (by kernel_rfl) rfl #[.agg #[.int .i64 t235, .int .i64 t236, .int .i64 t237, .int .i64 t238, .int .i64 t239, .int .i64 t240], .agg #[.int .i64 t254, .int .i64 t255, .int .i64 t256, .int .i64 t257, .int .i64 t258, .int .i64 t259]] (by rfl) rfl rfl (by (try simp only [List.map_toArray, List.map_cons, List.map_nil]); first | done | rfl | (simp only [List.length_drop, List.length_take]; rfl)) ?_
    with_reducible refine (impl_Compose.calls k t235 t236 t237 t238 t239 t240 t254 t255 t256 t257 t258 t259 t260 t261 t262 t263 t264 t265 true _ A8.out).mono ?_
    rintro e w52 ⟨rfl, hb⟩
    refine ⟨_, rfl, ?_⟩
    replace BK243 := Aside0.mk (blk_below BK243.out hb)
    replace BK244 := Aside0.mk (blk_below BK244.out hb)
    replace BK253 := Aside0.mk (blk_below BK253.out hb)
    replace HB := Aside0.mk (below_step HB.out hb)
    (try clear hb)
    (try clear hb2)
    (try clear hk)
    (try clear hi)
    refine hK.out _ _ ⟨(blk_cell BK243.out 0).trans rfl, (blk_cell BK243.out 1).trans rfl, (blk_cell BK243.out 2).trans rfl, (blk_cell BK243.out 3).trans rfl, (blk_cell BK243.out 4).trans rfl, (blk_cell BK243.out 5).trans rfl⟩ (fun hHeld => ?_)
    clear hK K
    refine norm_ (a' := ?_) ?_ ?_; rotate_left
    ·show Act.put _ (some 27) _ = _
     simp only [PS]
     rfl
    refine pure_ (i := 3) (N := some 24) (v := ?_) (a' := ?_) #[true, true, true, true, false, false, false, false, false] rfl rfl (any_of HT_.out (by kernel_rfl)) (fun _ _ _ h => h) (Or.inl ⟨by rfl, ?_⟩) ?_ ?_; rotate_left
    ·intro w'; go_simp; with_reducible rfl
    rotate_left; (focus (simp only [PS]; rfl))
    refine pure_ (i := 4) (N := some 28) (v := ?_) (a' := ?_) #[true, true, true, true, true, false, false, false, false] rfl rfl (any_of HT_.out (by kernel_rfl)) (fun _ _ _ h => h) (Or.inl ⟨by rfl, ?_⟩) ?_ ?_; rotate_left
    ·intro w'; go_simp; with_reducible rfl
    rotate_left; (focus (simp only [PS]; rfl))
    refine pure_ (i := 5) (N := some 29) (v := ?_) (a' := ?_) #[true, true, true, true, true, true, false, false, false] rfl rfl (any_of HT_.out (by kernel_rfl)) (fun _ _ _ h => h) (Or.inl ⟨by rfl, ?_⟩) ?_ ?_; rotate_left
    ·intro w'; go_simp; with_reducible rfl
    rotate_left; (focus (simp only [PS]; rfl))
    refine one_ (i := 6) (N := some 6) #[true, true, true, true, true, true, true, false, false] rfl rfl (one_of HT_.out (by kernel_rfl)) (by decide) (fun K hK => ?_)
    refine box_step ?hg (N := 6) ?hd (cs := #[.int .i64 0, .int .i64 0, .int .i64 0, .int .i64 0, .int .i64 0, .int .i64 0]) (t := 34) ?hr ?_; (case hd => rfl); (case hg => rfl); (case hr => first | (go_simp; done) | (go_simp; rfl))
    intro gb267 hg w53 hbox hb
    have BK267 := Aside0.mk (hbox)
    have GW267 := Aside0.mk ((by rw [hg]; exact (below_size HB.out) : w.heap.size ≤ gb267))
    have GE267 := Aside0.mk ((by rw [hg]; exact (below_size HB.out) : w.heap.size ≤ gb267))
    replace HB := Aside0.mk (below_step HB.out hb)
    have NB243_267 := Aside0.mk ((by rw [hg]; exact Nat.ne_of_lt (blk_lt BK243.out) : gb243 ≠ gb267))
    have NB267_243 := Aside0.mk ((by rw [hg]; exact Nat.ne_of_gt (blk_lt BK243.out) : gb267 ≠ gb243))
    replace BK243 := Aside0.mk (blk_below BK243.out hb)
    have NB244_267 := Aside0.mk ((by rw [hg]; exact Nat.ne_of_lt (blk_lt BK244.out) : gb244 ≠ gb267))
    have NB267_244 := Aside0.mk ((by rw [hg]; exact Nat.ne_of_gt (blk_lt BK244.out) : gb267 ≠ gb244))
    replace BK244 := Aside0.mk (blk_below BK244.out hb)
    have NB253_267 := Aside0.mk ((by rw [hg]; exact Nat.ne_of_lt (blk_lt BK253.out) : gb253 ≠ gb267))
    have NB267_253 := Aside0.mk ((by rw [hg]; exact Nat.ne_of_gt (blk_lt BK253.out) : gb267 ≠ gb253))
    replace BK253 := Aside0.mk (blk_below BK253.out hb)
    clear hb hbox hg
    refine hK.out _ _ ⟨(blk_cell BK243.out 0).trans rfl, (blk_cell BK243.out 1).trans rfl, (blk_cell BK243.out 2).trans rfl, (blk_cell BK243.out 3).trans rfl, (blk_cell BK243.out 4).trans rfl, (blk_cell BK243.out 5).trans rfl⟩ (fun hHeld => ?_)
    clear hK K
    refine norm_ (a' := ?_) ?_ ?_; rotate_left
    ·show Act.put _ (some 6) _ = _
     simp only [PS]
     rfl
    exact norm_ (by simp only [putAll, Act.put, List.setIfInBounds_toArray, List.set_cons_zero, List.set_cons_succ]) (hCont (gb267) _ ⟨hHeld, BK243.out, BK244.out, BK253.out, BK267.out, GW267.out, GE267.out, NB243_267.out, NB267_243.out, NB244_267.out, NB267_244.out, NB253_267.out, NB267_253.out, HB.out⟩)
   ·skip
    refine box_step ?hg (N := 6) ?hd (cs := #[.int .i64 0, .int .i64 0, .int .i64 0, .int .i64 0, .int .i64 0, .int .i64 0]) (t := 34) ?hr ?_; (case hd => rfl); (case hg => rfl); (case hr => first | (go_simp; done) | (go_simp; rfl))
    intro gb267 hg w52 hbox hb
    have BK267 := Aside0.mk (hbox)
    have GW267 := Aside0.mk ((by rw [hg]; exact (below_size HB.out) : w.heap.size ≤ gb267))
    have GE267 := Aside0.mk ((by rw [hg]; exact (below_size HB.out) : w.heap.size ≤ gb267))
    replace HB := Aside0.mk (below_step HB.out hb)
    have NB243_267 := Aside0.mk ((by rw [hg]; exact Nat.ne_of_lt (blk_lt BK243.out) : gb243 ≠ gb267))
    have NB267_243 := Aside0.mk ((by rw [hg]; exact Nat.ne_of_gt (blk_lt BK243.out) : gb267 ≠ gb243))
    replace BK243 := Aside0.mk (blk_below BK243.out hb)
    have NB244_267 := Aside0.mk ((by rw [hg]; exact Nat.ne_of_lt (blk_lt BK244.out) : gb244 ≠ gb267))
    have NB267_244 := Aside0.mk ((by rw [hg]; exact Nat.ne_of_gt (blk_lt BK244.out) : gb267 ≠ gb244))
    replace BK244 := Aside0.mk (blk_below BK244.out hb)
    have NB253_267 := Aside0.mk ((by rw [hg]; exact Nat.ne_of_lt (blk_lt BK253.out) : gb253 ≠ gb267))
    have NB267_253 := Aside0.mk ((by rw [hg]; exact Nat.ne_of_gt (blk_lt BK253.out) : gb267 ≠ gb253))
    replace BK253 := Aside0.mk (blk_below BK253.out hb)
    clear hb hbox hg
    refine hK.out _ _ ⟨(blk_cell BK243.out 0).trans rfl, (blk_cell BK243.out 1).trans rfl, (blk_cell BK243.out 2).trans rfl, (blk_cell BK243.out 3).trans rfl, (blk_cell BK243.out 4).trans rfl, (blk_cell BK243.out 5).trans rfl⟩ (fun hHeld => ?_)
    clear hK K
    refine norm_ (a' := ?_) ?_ ?_; rotate_left
    ·show Act.put _ (some 6) _ = _
     simp only [PS]
     rfl
    refine one_ (i := 2) (N := some 27) #[true, true, true, false, false, false, true, false, false] rfl rfl (one_of HT_.out (by kernel_rfl)) (by decide) (fun K hK => ?_)
    refine goes_ Try.func48 (by kernel_rfl) rfl #[.agg #[.int .i64 t235, .int .i64 t236, .int .i64 t237, .int .i64 t238, .int .i64 t239, .int .i64 t240], .agg #[.int .i64 t254, .int .i64 t255, .int .i64 t256, .int .i64 t257, .int .i64 t258, .int .i64 t259]] (by rfl) rfl rfl (by (try simp only [List.map_toArray, List.map_cons, List.map_nil]); first | done | rfl | (simp only [List.length_drop, List.length_take]; rfl)) ?_
    with_reducible refine (impl_Compose.calls k t235 t236 t237 t238 t239 t240 t254 t255 t256 t257 t258 t259 t260 t261 t262 t263 t264 t265 true _ A8.out).mono ?_
    rintro e w53 ⟨rfl, hb⟩
    refine ⟨_, rfl, ?_⟩
    replace BK243 := Aside0.mk (blk_below BK243.out hb)
    replace BK244 := Aside0.mk (blk_below BK244.out hb)
    replace BK253 := Aside0.mk (blk_below BK253.out hb)
    replace BK267 := Aside0.mk (blk_below BK267.out hb)
    replace HB := Aside0.mk (below_step HB.out hb)
    (try clear hb)
    (try clear hb2)
    (try clear hk)
    (try clear hi)
    refine hK.out _ _ ⟨(blk_cell BK243.out 0).trans rfl, (blk_cell BK243.out 1).trans rfl, (blk_cell BK243.out 2).trans rfl, (blk_cell BK243.out 3).trans rfl, (blk_cell BK243.out 4).trans rfl, (blk_cell BK243.out 5).trans rfl⟩ (fun hHeld => ?_)
    clear hK K
    refine norm_ (a' := ?_) ?_ ?_; rotate_left
    ·show Act.put _ (some 27) _ = _
     simp only [PS]
     rfl
    refine pure_ (i := 3) (N := some 24) (v := ?_) (a' := ?_) #[true, true, true, true, false, false, true, false, false] rfl rfl (any_of HT_.out (by kernel_rfl)) (fun _ _ _ h => h) (Or.inl ⟨by rfl, ?_⟩) ?_ ?_; rotate_left
    ·intro w'; go_simp; with_reducible rfl
    rotate_left; (focus (simp only [PS]; rfl))
    refine pure_ (i := 4) (N := some 28) (v := ?_) (a' := ?_) #[true, true, true, true, true, false, true, false, false] rfl rfl (any_of HT_.out (by kernel_rfl)) (fun _ _ _ h => h) (Or.inl ⟨by rfl, ?_⟩) ?_ ?_; rotate_left
    ·intro w'; go_simp; with_reducible rfl
    rotate_left; (focus (simp only [PS]; rfl))
    refine pure_ (i := 5) (N := some 29) (v := ?_) (a' := ?_) #[true, true, true, true, true, true, true, false, false] rfl rfl (any_of HT_.out (by kernel_rfl)) (fun _ _ _ h => h) (Or.inl ⟨by rfl, ?_⟩) ?_ ?_; rotate_left
    ·intro w'; go_simp; with_reducible rfl
    rotate_left; (focus (simp only [PS]; rfl))
    exact norm_ (by simp only [putAll, Act.put, List.setIfInBounds_toArray, List.set_cons_zero, List.set_cons_succ]) (hCont (gb267) _ ⟨hHeld, BK243.out, BK244.out, BK253.out, BK267.out, GW267.out, GE267.out, NB243_267.out, NB267_243.out, NB244_267.out, NB267_244.out, NB253_267.out, NB267_253.out, HB.out⟩)
  ·skip
   refine box_step ?hg (N := 6) ?hd (cs := #[.int .i64 0, .int .i64 0, .int .i64 0, .int .i64 0, .int .i64 0, .int .i64 0]) (t := 34) ?hr ?_; (case hd => rfl); (case hg => rfl); (case hr => first | (go_simp; done) | (go_simp; rfl))
   intro gb267 hg w51 hbox hb
   have BK267 := Aside0.mk (hbox)
   have GW267 := Aside0.mk ((by rw [hg]; exact (below_size HB.out) : w.heap.size ≤ gb267))
   have GE267 := Aside0.mk ((by rw [hg]; exact (below_size HB.out) : w.heap.size ≤ gb267))
   replace HB := Aside0.mk (below_step HB.out hb)
   have NB243_267 := Aside0.mk ((by rw [hg]; exact Nat.ne_of_lt (blk_lt BK243.out) : gb243 ≠ gb267))
   have NB267_243 := Aside0.mk ((by rw [hg]; exact Nat.ne_of_gt (blk_lt BK243.out) : gb267 ≠ gb243))
   replace BK243 := Aside0.mk (blk_below BK243.out hb)
   have NB244_267 := Aside0.mk ((by rw [hg]; exact Nat.ne_of_lt (blk_lt BK244.out) : gb244 ≠ gb267))
   have NB267_244 := Aside0.mk ((by rw [hg]; exact Nat.ne_of_gt (blk_lt BK244.out) : gb267 ≠ gb244))
   replace BK244 := Aside0.mk (blk_below BK244.out hb)
   have NB253_267 := Aside0.mk ((by rw [hg]; exact Nat.ne_of_lt (blk_lt BK253.out) : gb253 ≠ gb267))
   have NB267_253 := Aside0.mk ((by rw [hg]; exact Nat.ne_of_gt (blk_lt BK253.out) : gb267 ≠ gb253))
   replace BK253 := Aside0.mk (blk_below BK253.out hb)
   clear hb hbox hg
   refine hK.out _ _ ⟨(blk_cell BK243.out 0).trans rfl, (blk_cell BK243.out 1).trans rfl, (blk_cell BK243.out 2).trans rfl, (blk_cell BK243.out 3).trans rfl, (blk_cell BK243.out 4).trans rfl, (blk_cell BK243.out 5).trans rfl⟩ (fun hHeld => ?_)
   clear hK K
   refine norm_ (a' := ?_) ?_ ?_; rotate_left
   ·show Act.put _ (some 6) _ = _
    simp only [PS]
    rfl
   refine one_ (i := 1) (N := some 26) #[true, true, false, false, false, false, true, false, false] rfl rfl (one_of HT_.out (by kernel_rfl)) (by decide) (fun K hK => ?_)
   refine goes_ Try.func49 (by kernel_rfl) rfl #[] (by rfl) rfl rfl (by (try simp only [List.map_toArray, List.map_cons, List.map_nil]); first | done | rfl | (simp only [List.length_drop, List.length_take]; rfl)) ?_
   with_reducible refine (impl_Still.calls  t254 t255 t256 t257 t258 t259 _ A7.out).mono ?_
   rintro e w52 ⟨rfl, hb⟩
   refine ⟨_, rfl, ?_⟩
   replace BK243 := Aside0.mk (blk_below BK243.out hb)
   replace BK244 := Aside0.mk (blk_below BK244.out hb)
   replace BK253 := Aside0.mk (blk_below BK253.out hb)
   replace BK267 := Aside0.mk (blk_below BK267.out hb)
   replace HB := Aside0.mk (below_step HB.out hb)
   (try clear hb)
   (try clear hb2)
   (try clear hk)
   (try clear hi)
   refine hK.out _ _ ⟨(blk_cell BK243.out 0).trans rfl, (blk_cell BK243.out 1).trans rfl, (blk_cell BK243.out 2).trans rfl, (blk_cell BK243.out 3).trans rfl, (blk_cell BK243.out 4).trans rfl, (blk_cell BK243.out 5).trans rfl⟩ (fun hHeld => ?_)
   clear hK K
   refine norm_ (a' := ?_) ?_ ?_; rotate_left
   ·show Act.put _ (some 26) _ = _
    simp only [PS]
    rfl
   refine one_ (i := 2) (N := some 27) #[true, true, true, false, false, false, true, false, false] rfl rfl (one_of HT_.out (by kernel_rfl)) (by decide) (fun K hK => ?_)
   refine goes_ Try.func48 (by kernel_rfl) rfl #[.agg #[.int .i64 t235, .int .i64 t236, .int .i64 t237, .int .i64 t238, .int .i64 t239, .int .i64 t240], .agg #[.int .i64 t254, .int .i64 t255, .int .i64 t256, .int .i64 t257, .int .i64 t258, .int .i64 t259]] (by rfl) rfl rfl (by (try simp only [List.map_toArray, List.map_cons, List.map_nil]); first | done | rfl | (simp only [List.length_drop, List.length_take]; rfl)) ?_
   with_reducible refine (impl_Compose.calls k t235 t236 t237 t238 t239 t240 t254 t255 t256 t257 t258 t259 t260 t261 t262 t263 t264 t265 true _ A8.out).mono ?_
   rintro e w53 ⟨rfl, hb⟩
   refine ⟨_, rfl, ?_⟩
   replace BK243 := Aside0.mk (blk_below BK243.out hb)
   replace BK244 := Aside0.mk (blk_below BK244.out hb)
   replace BK253 := Aside0.mk (blk_below BK253.out hb)
   replace BK267 := Aside0.mk (blk_below BK267.out hb)
   replace HB := Aside0.mk (below_step HB.out hb)
   (try clear hb)
   (try clear hb2)
   (try clear hk)
   (try clear hi)
   refine hK.out _ _ ⟨(blk_cell BK243.out 0).trans rfl, (blk_cell BK243.out 1).trans rfl, (blk_cell BK243.out 2).trans rfl, (blk_cell BK243.out 3).trans rfl, (blk_cell BK243.out 4).trans rfl, (blk_cell BK243.out 5).trans rfl⟩ (fun hHeld => ?_)
   clear hK K
   refine norm_ (a' := ?_) ?_ ?_; rotate_left
   ·show Act.put _ (some 27) _ = _
    simp only [PS]
    rfl
   refine pure_ (i := 3) (N := some 24) (v := ?_) (a' := ?_) #[true, true, true, true, false, false, true, false, false] rfl rfl (any_of HT_.out (by kernel_rfl)) (fun _ _ _ h => h) (Or.inl ⟨by rfl, ?_⟩) ?_ ?_; rotate_left
   ·intro w'; go_simp; with_reducible rfl
   rotate_left; (focus (simp only [PS]; rfl))
   refine pure_ (i := 4) (N := some 28) (v := ?_) (a' := ?_) #[true, true, true, true, true, false, true, false, false] rfl rfl (any_of HT_.out (by kernel_rfl)) (fun _ _ _ h => h) (Or.inl ⟨by rfl, ?_⟩) ?_ ?_; rotate_left
   ·intro w'; go_simp; with_reducible rfl
   rotate_left; (focus (simp only [PS]; rfl))
   refine pure_ (i := 5) (N := some 29) (v := ?_) (a' := ?_) #[true, true, true, true, true, true, true, false, false] rfl rfl (any_of HT_.out (by kernel_rfl)) (fun _ _ _ h => h) (Or.inl ⟨by rfl, ?_⟩) ?_ ?_; rotate_left
   ·intro w'; go_simp; with_reducible rfl
   rotate_left; (focus (simp only [PS]; rfl))
   exact norm_ (by simp only [putAll, Act.put, List.setIfInBounds_toArray, List.set_cons_zero, List.set_cons_succ]) (hCont (gb267) _ ⟨hHeld, BK243.out, BK244.out, BK253.out, BK267.out, GW267.out, GE267.out, NB243_267.out, NB267_243.out, NB244_267.out, NB267_244.out, NB253_267.out, NB267_253.out, HB.out⟩)
 rintro gb267 w54 ⟨hS_, h0_, h1_, h2_, h3_, h4_, h5_, h6_, h7_, h8_, h9_, h10_, h11_, h12_⟩
 have n0_ : Aside0 (w54.heap[gb243]? = some (.cells #[.int .i64 t235, .int .i64 t236, .int .i64 t237, .int .i64 t238, .int .i64 t239, .int .i64 t240] 34 (0, 0))) := ⟨h0_⟩
 have n1_ : Aside0 (w54.heap[gb244]? = some (.cells #[.int .i64 t241, .int .i64 t242] 24 (0, 0))) := ⟨h1_⟩
 have n2_ : Aside0 (w54.heap[gb253]? = some (.cells #[.int .i64 t251, .int .i64 t252] 24 (0, 0))) := ⟨h2_⟩
 have n3_ : Aside0 (w54.heap[gb267]? = some (.cells #[.int .i64 0, .int .i64 0, .int .i64 0, .int .i64 0, .int .i64 0, .int .i64 0] 34 (0, 0))) := ⟨h3_⟩
 have n4_ : Aside0 (w.heap.size ≤ gb267) := ⟨h4_⟩
 have n5_ : Aside0 (w.heap.size ≤ gb267) := ⟨h5_⟩
 have n6_ : Aside0 (gb243 ≠ gb267) := ⟨h6_⟩
 have n7_ : Aside0 (gb267 ≠ gb243) := ⟨h7_⟩
 have n8_ : Aside0 (gb244 ≠ gb267) := ⟨h8_⟩
 have n9_ : Aside0 (gb267 ≠ gb244) := ⟨h9_⟩
 have n10_ : Aside0 (gb253 ≠ gb267) := ⟨h10_⟩
 have n11_ : Aside0 (gb267 ≠ gb253) := ⟨h11_⟩
 have n12_ : Aside0 (Below w.heap.size w w54) := ⟨h12_⟩
 clear BK243
 clear BK244
 clear BK253
 clear HB
 clear h0_ h1_ h2_ h3_ h4_ h5_ h6_ h7_ h8_ h9_ h10_ h11_ h12_
 have BK243 := n0_
 have BK244 := n1_
 have BK253 := n2_
 have BK267 := n3_
 have GW267 := n4_
 have GE267 := n5_
 have NB243_267 := n6_
 have NB267_243 := n7_
 have NB244_267 := n8_
 have NB267_244 := n9_
 have NB253_267 := n10_
 have NB267_253 := n11_
 have HB := n12_
 clear n0_ n1_ n2_ n3_ n4_ n5_ n6_ n7_ n8_ n9_ n10_ n11_ n12_
 have hHeld : w54.cell? ⟨gb243, 0, none⟩ = some (.int .i64 t235) ∧ w54.cell? ⟨gb243, 1, none⟩ = some (.int .i64 t236) ∧ w54.cell? ⟨gb243, 2, none⟩ = some (.int .i64 t237) ∧ w54.cell? ⟨gb243, 3, none⟩ = some (.int .i64 t238) ∧ w54.cell? ⟨gb243, 4, none⟩ = some (.int .i64 t239) ∧ w54.cell? ⟨gb243, 5, none⟩ = some (.int .i64 t240) := hS_
 refine norm_ (a' := ?_) ?_ ?_; rotate_left
 ·simp only [putAll, Act.put, List.setIfInBounds_toArray, List.set_cons_zero, List.set_cons_succ]
  rfl
 refine one_ (i := 7) (N := none) #[true, true, true, true, true, true, true, true, false] rfl rfl (one_of HT_.out (by kernel_rfl)) (by decide) (fun K hK => ?_)
 have hs55 : w54.cell? ⟨gb267, 0, none⟩ = some (.int .i64 0) := (blk_cell BK267.out 0).trans rfl
 have hfs55 := blk_frozen BK267.out 0
 have hns55_0 := NB243_267.out
 have hns55_1 := NB244_267.out
 have hns55_2 := NB253_267.out
 have hms55_0 := NB267_243.out
 have hms55_1 := NB267_244.out
 have hms55_2 := NB267_253.out
 have hs56 : w54.cell? ⟨gb267, 1, none⟩ = some (.int .i64 0) := (blk_cell BK267.out 1).trans rfl
 have hfs56 := blk_frozen BK267.out 1
 have hns56_0 := NB243_267.out
 have hns56_1 := NB244_267.out
 have hns56_2 := NB253_267.out
 have hms56_0 := NB267_243.out
 have hms56_1 := NB267_244.out
 have hms56_2 := NB267_253.out
 have hs57 : w54.cell? ⟨gb267, 2, none⟩ = some (.int .i64 0) := (blk_cell BK267.out 2).trans rfl
 have hfs57 := blk_frozen BK267.out 2
 have hns57_0 := NB243_267.out
 have hns57_1 := NB244_267.out
 have hns57_2 := NB253_267.out
 have hms57_0 := NB267_243.out
 have hms57_1 := NB267_244.out
 have hms57_2 := NB267_253.out
 have hs58 : w54.cell? ⟨gb267, 3, none⟩ = some (.int .i64 0) := (blk_cell BK267.out 3).trans rfl
 have hfs58 := blk_frozen BK267.out 3
 have hns58_0 := NB243_267.out
 have hns58_1 := NB244_267.out
 have hns58_2 := NB253_267.out
 have hms58_0 := NB267_243.out
 have hms58_1 := NB267_244.out
 have hms58_2 := NB267_253.out
 have hs59 : w54.cell? ⟨gb267, 4, none⟩ = some (.int .i64 0) := (blk_cell BK267.out 4).trans rfl
 have hfs59 := blk_frozen BK267.out 4
 have hns59_0 := NB243_267.out
 have hns59_1 := NB244_267.out
 have hns59_2 := NB253_267.out
 have hms59_0 := NB267_243.out
 have hms59_1 := NB267_244.out
 have hms59_2 := NB267_253.out
 have hs60 : w54.cell? ⟨gb267, 5, none⟩ = some (.int .i64 0) := (blk_cell BK267.out 5).trans rfl
 have hfs60 := blk_frozen BK267.out 5
 have hns60_0 := NB243_267.out
 have hns60_1 := NB244_267.out
 have hns60_2 := NB253_267.out
 have hms60_0 := NB267_243.out
 have hms60_1 := NB267_244.out
 have hms60_2 := NB267_253.out
 refine skip_ (w1 := ?_) (by rfl) rfl ?_ ?_; rotate_left
 ·go_simp
  rfl
 refine hK.out _ _ ⟨((cell_far (p := ⟨gb267, _, none⟩) NB243_267.out _).trans (((cell_far (p := ⟨gb267, _, none⟩) NB243_267.out _).trans (((cell_far (p := ⟨gb267, _, none⟩) NB243_267.out _).trans (((cell_far (p := ⟨gb267, _, none⟩) NB243_267.out _).trans (((cell_far (p := ⟨gb267, _, none⟩) NB243_267.out _).trans (((cell_far (p := ⟨gb267, _, none⟩) NB243_267.out _).trans (hHeld.1)))))))))))), ((cell_far (p := ⟨gb267, _, none⟩) NB243_267.out _).trans (((cell_far (p := ⟨gb267, _, none⟩) NB243_267.out _).trans (((cell_far (p := ⟨gb267, _, none⟩) NB243_267.out _).trans (((cell_far (p := ⟨gb267, _, none⟩) NB243_267.out _).trans (((cell_far (p := ⟨gb267, _, none⟩) NB243_267.out _).trans (((cell_far (p := ⟨gb267, _, none⟩) NB243_267.out _).trans (hHeld.2.1)))))))))))), ((cell_far (p := ⟨gb267, _, none⟩) NB243_267.out _).trans (((cell_far (p := ⟨gb267, _, none⟩) NB243_267.out _).trans (((cell_far (p := ⟨gb267, _, none⟩) NB243_267.out _).trans (((cell_far (p := ⟨gb267, _, none⟩) NB243_267.out _).trans (((cell_far (p := ⟨gb267, _, none⟩) NB243_267.out _).trans (((cell_far (p := ⟨gb267, _, none⟩) NB243_267.out _).trans (hHeld.2.2.1)))))))))))), ((cell_far (p := ⟨gb267, _, none⟩) NB243_267.out _).trans (((cell_far (p := ⟨gb267, _, none⟩) NB243_267.out _).trans (((cell_far (p := ⟨gb267, _, none⟩) NB243_267.out _).trans (((cell_far (p := ⟨gb267, _, none⟩) NB243_267.out _).trans (((cell_far (p := ⟨gb267, _, none⟩) NB243_267.out _).trans (((cell_far (p := ⟨gb267, _, none⟩) NB243_267.out _).trans (hHeld.2.2.2.1)))))))))))), ((cell_far (p := ⟨gb267, _, none⟩) NB243_267.out _).trans (((cell_far (p := ⟨gb267, _, none⟩) NB243_267.out _).trans (((cell_far (p := ⟨gb267, _, none⟩) NB243_267.out _).trans (((cell_far (p := ⟨gb267, _, none⟩) NB243_267.out _).trans (((cell_far (p := ⟨gb267, _, none⟩) NB243_267.out _).trans (((cell_far (p := ⟨gb267, _, none⟩) NB243_267.out _).trans (hHeld.2.2.2.2.1)))))))))))), ((cell_far (p := ⟨gb267, _, none⟩) NB243_267.out _).trans (((cell_far (p := ⟨gb267, _, none⟩) NB243_267.out _).trans (((cell_far (p := ⟨gb267, _, none⟩) NB243_267.out _).trans (((cell_far (p := ⟨gb267, _, none⟩) NB243_267.out _).trans (((cell_far (p := ⟨gb267, _, none⟩) NB243_267.out _).trans (((cell_far (p := ⟨gb267, _, none⟩) NB243_267.out _).trans (hHeld.2.2.2.2.2))))))))))))⟩ (fun hHeld => ?_)
 clear hK K
 refine pure_ (i := 8) (N := some 7) (v := ?_) (a' := ?_) #[true, true, true, true, true, true, true, true, true] rfl rfl (any_of HT_.out (by kernel_rfl)) (fun _ _ _ h => h) (Or.inl ⟨by rfl, ?_⟩) ?_ ?_; rotate_left
 ·intro w'; go_simp; with_reducible rfl
 rotate_left; (focus (simp only [PS]; rfl))
 refine done_ (done_of HT_.out (by kernel_rfl)) ?_
 try go_wp2
 have n0_ : Aside0 (((((((w54.setCell ⟨gb267, 0, none⟩ (.int .i64 t260)).setCell ⟨gb267, 1, none⟩ (.int .i64 t261)).setCell ⟨gb267, 2, none⟩ (.int .i64 t262)).setCell ⟨gb267, 3, none⟩ (.int .i64 t263)).setCell ⟨gb267, 4, none⟩ (.int .i64 t264)).setCell ⟨gb267, 5, none⟩ (.int .i64 t265)).heap[gb243]? = some (.cells #[.int .i64 t235, .int .i64 t236, .int .i64 t237, .int .i64 t238, .int .i64 t239, .int .i64 t240] 34 (0, 0))) := ⟨by (with_reducible repeat (first | refine blk_drewN ?_ _ | refine blk_drew ?_ | refine blk_alloc ?_ _)); refine blk_far ?_ NB243_267.out _; (with_reducible repeat (first | refine blk_drewN ?_ _ | refine blk_drew ?_ | refine blk_alloc ?_ _)); refine blk_far ?_ NB243_267.out _; (with_reducible repeat (first | refine blk_drewN ?_ _ | refine blk_drew ?_ | refine blk_alloc ?_ _)); refine blk_far ?_ NB243_267.out _; (with_reducible repeat (first | refine blk_drewN ?_ _ | refine blk_drew ?_ | refine blk_alloc ?_ _)); refine blk_far ?_ NB243_267.out _; (with_reducible repeat (first | refine blk_drewN ?_ _ | refine blk_drew ?_ | refine blk_alloc ?_ _)); refine blk_far ?_ NB243_267.out _; (with_reducible repeat (first | refine blk_drewN ?_ _ | refine blk_drew ?_ | refine blk_alloc ?_ _)); refine blk_far ?_ NB243_267.out _; (with_reducible repeat (first | refine blk_drewN ?_ _ | refine blk_drew ?_ | refine blk_alloc ?_ _)); exact BK243.out⟩
 have n1_ : Aside0 (((((((w54.setCell ⟨gb267, 0, none⟩ (.int .i64 t260)).setCell ⟨gb267, 1, none⟩ (.int .i64 t261)).setCell ⟨gb267, 2, none⟩ (.int .i64 t262)).setCell ⟨gb267, 3, none⟩ (.int .i64 t263)).setCell ⟨gb267, 4, none⟩ (.int .i64 t264)).setCell ⟨gb267, 5, none⟩ (.int .i64 t265)).heap[gb244]? = some (.cells #[.int .i64 t241, .int .i64 t242] 24 (0, 0))) := ⟨by (with_reducible repeat (first | refine blk_drewN ?_ _ | refine blk_drew ?_ | refine blk_alloc ?_ _)); refine blk_far ?_ NB244_267.out _; (with_reducible repeat (first | refine blk_drewN ?_ _ | refine blk_drew ?_ | refine blk_alloc ?_ _)); refine blk_far ?_ NB244_267.out _; (with_reducible repeat (first | refine blk_drewN ?_ _ | refine blk_drew ?_ | refine blk_alloc ?_ _)); refine blk_far ?_ NB244_267.out _; (with_reducible repeat (first | refine blk_drewN ?_ _ | refine blk_drew ?_ | refine blk_alloc ?_ _)); refine blk_far ?_ NB244_267.out _; (with_reducible repeat (first | refine blk_drewN ?_ _ | refine blk_drew ?_ | refine blk_alloc ?_ _)); refine blk_far ?_ NB244_267.out _; (with_reducible repeat (first | refine blk_drewN ?_ _ | refine blk_drew ?_ | refine blk_alloc ?_ _)); refine blk_far ?_ NB244_267.out _; (with_reducible repeat (first | refine blk_drewN ?_ _ | refine blk_drew ?_ | refine blk_alloc ?_ _)); exact BK244.out⟩
 have n2_ : Aside0 (((((((w54.setCell ⟨gb267, 0, none⟩ (.int .i64 t260)).setCell ⟨gb267, 1, none⟩ (.int .i64 t261)).setCell ⟨gb267, 2, none⟩ (.int .i64 t262)).setCell ⟨gb267, 3, none⟩ (.int .i64 t263)).setCell ⟨gb267, 4, none⟩ (.int .i64 t264)).setCell ⟨gb267, 5, none⟩ (.int .i64 t265)).heap[gb253]? = some (.cells #[.int .i64 t251, .int .i64 t252] 24 (0, 0))) := ⟨by (with_reducible repeat (first | refine blk_drewN ?_ _ | refine blk_drew ?_ | refine blk_alloc ?_ _)); refine blk_far ?_ NB253_267.out _; (with_reducible repeat (first | refine blk_drewN ?_ _ | refine blk_drew ?_ | refine blk_alloc ?_ _)); refine blk_far ?_ NB253_267.out _; (with_reducible repeat (first | refine blk_drewN ?_ _ | refine blk_drew ?_ | refine blk_alloc ?_ _)); refine blk_far ?_ NB253_267.out _; (with_reducible repeat (first | refine blk_drewN ?_ _ | refine blk_drew ?_ | refine blk_alloc ?_ _)); refine blk_far ?_ NB253_267.out _; (with_reducible repeat (first | refine blk_drewN ?_ _ | refine blk_drew ?_ | refine blk_alloc ?_ _)); refine blk_far ?_ NB253_267.out _; (with_reducible repeat (first | refine blk_drewN ?_ _ | refine blk_drew ?_ | refine blk_alloc ?_ _)); refine blk_far ?_ NB253_267.out _; (with_reducible repeat (first | refine blk_drewN ?_ _ | refine blk_drew ?_ | refine blk_alloc ?_ _)); exact BK253.out⟩
 have n3_ : Aside0 (((((((w54.setCell ⟨gb267, 0, none⟩ (.int .i64 t260)).setCell ⟨gb267, 1, none⟩ (.int .i64 t261)).setCell ⟨gb267, 2, none⟩ (.int .i64 t262)).setCell ⟨gb267, 3, none⟩ (.int .i64 t263)).setCell ⟨gb267, 4, none⟩ (.int .i64 t264)).setCell ⟨gb267, 5, none⟩ (.int .i64 t265)).heap[gb267]? = some (.cells #[.int .i64 t260, .int .i64 t261, .int .i64 t262, .int .i64 t263, .int .i64 t264, .int .i64 t265] 34 (0, 0))) := ⟨by (with_reducible repeat (first | refine blk_drewN ?_ _ | refine blk_drew ?_ | refine blk_alloc ?_ _)); refine blk_put (cs := #[.int .i64 t260, .int .i64 t261, .int .i64 t262, .int .i64 t263, .int .i64 t264, .int .i64 0]) ?_ 5 _ rfl; (with_reducible repeat (first | refine blk_drewN ?_ _ | refine blk_drew ?_ | refine blk_alloc ?_ _)); refine blk_put (cs := #[.int .i64 t260, .int .i64 t261, .int .i64 t262, .int .i64 t263, .int .i64 0, .int .i64 0]) ?_ 4 _ rfl; (with_reducible repeat (first | refine blk_drewN ?_ _ | refine blk_drew ?_ | refine blk_alloc ?_ _)); refine blk_put (cs := #[.int .i64 t260, .int .i64 t261, .int .i64 t262, .int .i64 0, .int .i64 0, .int .i64 0]) ?_ 3 _ rfl; (with_reducible repeat (first | refine blk_drewN ?_ _ | refine blk_drew ?_ | refine blk_alloc ?_ _)); refine blk_put (cs := #[.int .i64 t260, .int .i64 t261, .int .i64 0, .int .i64 0, .int .i64 0, .int .i64 0]) ?_ 2 _ rfl; (with_reducible repeat (first | refine blk_drewN ?_ _ | refine blk_drew ?_ | refine blk_alloc ?_ _)); refine blk_put (cs := #[.int .i64 t260, .int .i64 0, .int .i64 0, .int .i64 0, .int .i64 0, .int .i64 0]) ?_ 1 _ rfl; (with_reducible repeat (first | refine blk_drewN ?_ _ | refine blk_drew ?_ | refine blk_alloc ?_ _)); refine blk_put (cs := #[.int .i64 0, .int .i64 0, .int .i64 0, .int .i64 0, .int .i64 0, .int .i64 0]) ?_ 0 _ rfl; (with_reducible repeat (first | refine blk_drewN ?_ _ | refine blk_drew ?_ | refine blk_alloc ?_ _)); exact BK267.out⟩
 have n4_ : Aside0 (Below w.heap.size w ((((((w54.setCell ⟨gb267, 0, none⟩ (.int .i64 t260)).setCell ⟨gb267, 1, none⟩ (.int .i64 t261)).setCell ⟨gb267, 2, none⟩ (.int .i64 t262)).setCell ⟨gb267, 3, none⟩ (.int .i64 t263)).setCell ⟨gb267, 4, none⟩ (.int .i64 t264)).setCell ⟨gb267, 5, none⟩ (.int .i64 t265))) := ⟨by repeat (first | (with_reducible first | exact HB.out | apply below_alloc | apply pw_below_drewN | apply below_drew1 | refine below_set ?_ GE243.out | refine below_set ?_ GE244.out | refine below_set ?_ GE253.out | refine below_set ?_ GE267.out) | exact HB.out)⟩
 (try clear BK243)
 (try clear BK244)
 (try clear BK253)
 (try clear BK267)
 (try clear HB)
 generalize ((((((w54.setCell ⟨gb267, 0, none⟩ (.int .i64 t260)).setCell ⟨gb267, 1, none⟩ (.int .i64 t261)).setCell ⟨gb267, 2, none⟩ (.int .i64 t262)).setCell ⟨gb267, 3, none⟩ (.int .i64 t263)).setCell ⟨gb267, 4, none⟩ (.int .i64 t264)).setCell ⟨gb267, 5, none⟩ (.int .i64 t265)) = w61 at n0_ n1_ n2_ n3_ n4_ ⊢
 have BK243 := n0_
 have BK244 := n1_
 have BK253 := n2_
 have BK267 := n3_
 have HB := n4_
 clear n0_ n1_ n2_ n3_ n4_
 replace BK243 := Aside0.mk (blk_drew BK243.out)
 replace BK244 := Aside0.mk (blk_drew BK244.out)
 replace BK253 := Aside0.mk (blk_drew BK253.out)
 replace BK267 := Aside0.mk (blk_drew BK267.out)
 replace HB := Aside0.mk (below_drew1 HB.out)
 refine start_ (n := 9) (S := fun w' => w'.cell? ⟨gb243, 0, none⟩ = some (.int .i64 t235) ∧ w'.cell? ⟨gb243, 1, none⟩ = some (.int .i64 t236) ∧ w'.cell? ⟨gb243, 2, none⟩ = some (.int .i64 t237) ∧ w'.cell? ⟨gb243, 3, none⟩ = some (.int .i64 t238) ∧ w'.cell? ⟨gb243, 4, none⟩ = some (.int .i64 t239) ∧ w'.cell? ⟨gb243, 5, none⟩ = some (.int .i64 t240)) (ds := []) #[false, false, false, false, false, false, false, false, false] (by kernel_rfl) rfl rfl ⟨(blk_cell BK243.out 0).trans rfl, (blk_cell BK243.out 1).trans rfl, (blk_cell BK243.out 2).trans rfl, (blk_cell BK243.out 3).trans rfl, (blk_cell BK243.out 4).trans rfl, (blk_cell BK243.out 5).trans rfl⟩ (fun hHeld => ?_); refine with_tabW laws_FnMoves.tab6 laws_FnMoves.bits6 (fun HT_ HW_ => ?_)
 generalize w61.drew = w62 at BK243 BK244 BK253 BK267 HB hHeld ⊢
 refine take_ (i := 1) (N := some 32) (v := ?_) (a' := ?_) #[false, true, false, false, false, false, false, false, false] rfl rfl (take_ofW HT_.out HW_.out (by kernel_rfl)) (fun _ _ _ h => h) (Or.inl ⟨by rfl, ?_⟩) hHeld ?_ ?_; rotate_left
 ·rintro w' ⟨s0, s1, s2, s3, s4, s5⟩; go_simp; with_reducible rfl
 rotate_left; (focus (simp only [PS]; rfl))
 refine join_ (σ := Nat) 2 #[true, true, true, true, true, true, true, false, false] (fun s_ => [(31, .agg #[.int .i64 t268, .int .i64 t269, .int .i64 t270, .int .i64 t271, .int .i64 t272, .int .i64 t273]), (33, .tuple #[.agg #[.int .i64 t274, .int .i64 t275, .int .i64 t276, .int .i64 t277, .int .i64 t278, .int .i64 t279], .bool true]), (8, .pointer (some ⟨s_, 0, none⟩)), (30, .tuple #[.agg #[.int .i64 t274, .int .i64 t275, .int .i64 t276, .int .i64 t277, .int .i64 t278, .int .i64 t279], .bool true]), (34, .agg #[.int .i64 t274, .int .i64 t275, .int .i64 t276, .int .i64 t277, .int .i64 t278, .int .i64 t279]), (35, .bool true)]) (fun s_ w' => (w'.cell? ⟨gb243, 0, none⟩ = some (.int .i64 t235) ∧ w'.cell? ⟨gb243, 1, none⟩ = some (.int .i64 t236) ∧ w'.cell? ⟨gb243, 2, none⟩ = some (.int .i64 t237) ∧ w'.cell? ⟨gb243, 3, none⟩ = some (.int .i64 t238) ∧ w'.cell? ⟨gb243, 4, none⟩ = some (.int .i64 t239) ∧ w'.cell? ⟨gb243, 5, none⟩ = some (.int .i64 t240)) ∧ (w'.heap[gb243]? = some (.cells #[.int .i64 t235, .int .i64 t236, .int .i64 t237, .int .i64 t238, .int .i64 t239, .int .i64 t240] 34 (0, 0))) ∧ (w'.heap[gb244]? = some (.cells #[.int .i64 t241, .int .i64 t242] 24 (0, 0))) ∧ (w'.heap[gb253]? = some (.cells #[.int .i64 t251, .int .i64 t252] 24 (0, 0))) ∧ (w'.heap[gb267]? = some (.cells #[.int .i64 t260, .int .i64 t261, .int .i64 t262, .int .i64 t263, .int .i64 t264, .int .i64 t265] 34 (0, 0))) ∧ (w'.heap[s_]? = some (.cells #[.int .i64 0, .int .i64 0, .int .i64 0, .int .i64 0, .int .i64 0, .int .i64 0] 34 (0, 0))) ∧ (w.heap.size ≤ s_) ∧ (w.heap.size ≤ s_) ∧ (gb243 ≠ s_) ∧ (s_ ≠ gb243) ∧ (gb244 ≠ s_) ∧ (s_ ≠ gb244) ∧ (gb253 ≠ s_) ∧ (s_ ≠ gb253) ∧ (gb267 ≠ s_) ∧ (s_ ≠ gb267) ∧ (Below w.heap.size w w')) ?_ ?_
 rotate_left
 ·intro hCont
  refine two_ (i := 0) (j := 6) (Ni := some 31) (Nj := some 8) #[true, true, false, false, false, false, false, false, false] #[false, true, false, false, false, false, true, false, false] rfl rfl rfl rfl (two_of HT_.out (by kernel_rfl)) (by decide) (by decide) (fun K hK => ?_) (fun K hK => ?_)
  ·skip
   refine goes_ Try.func49 (by kernel_rfl) rfl #[] (by rfl) rfl rfl (by (try simp only [List.map_toArray, List.map_cons, List.map_nil]); first | done | rfl | (simp only [List.length_drop, List.length_take]; rfl)) ?_
   with_reducible refine (impl_Still.calls  t268 t269 t270 t271 t272 t273 _ A9.out).mono ?_
   rintro e w63 ⟨rfl, hb⟩
   refine ⟨_, rfl, ?_⟩
   replace BK243 := Aside0.mk (blk_below BK243.out hb)
   replace BK244 := Aside0.mk (blk_below BK244.out hb)
   replace BK253 := Aside0.mk (blk_below BK253.out hb)
   replace BK267 := Aside0.mk (blk_below BK267.out hb)
   replace HB := Aside0.mk (below_step HB.out hb)
   (try clear hb)
   (try clear hb2)
   (try clear hk)
   (try clear hi)
   refine hK.out _ _ ⟨(blk_cell BK243.out 0).trans rfl, (blk_cell BK243.out 1).trans rfl, (blk_cell BK243.out 2).trans rfl, (blk_cell BK243.out 3).trans rfl, (blk_cell BK243.out 4).trans rfl, (blk_cell BK243.out 5).trans rfl⟩ (fun hHeld => ?_)
   clear hK K
   refine norm_ (a' := ?_) ?_ ?_; rotate_left
   ·show Act.put _ (some 31) _ = _
    simp only [PS]
    rfl
   refine two_ (i := 2) (j := 6) (Ni := some 33) (Nj := some 8) #[true, true, true, false, false, false, false, false, false] #[true, true, false, false, false, false, true, false, false] rfl rfl rfl rfl (two_of HT_.out (by kernel_rfl)) (by decide) (by decide) (fun K hK => ?_) (fun K hK => ?_)
   ·skip
    refine goes_ Try.func48 (by kernel_rfl) rfl #[.agg #[.int .i64 t268, .int .i64 t269, .int .i64 t270, .int .i64 t271, .int .i64 t272, .int .i64 t273], .agg #[.int .i64 t235, .int .i64 t236, .int .i64 t237, .int .i64 t238, .int .i64 t239, .int .i64 t240]] (by rfl) rfl rfl (by (try simp only [List.map_toArray, List.map_cons, List.map_nil]); first | done | rfl | (simp only [List.length_drop, List.length_take]; rfl)) ?_
    with_reducible refine (impl_Compose.calls k t268 t269 t270 t271 t272 t273 t235 t236 t237 t238 t239 t240 t274 t275 t276 t277 t278 t279 true _ A10.out).mono ?_
    rintro e w64 ⟨rfl, hb⟩
    refine ⟨_, rfl, ?_⟩
    replace BK243 := Aside0.mk (blk_below BK243.out hb)
    replace BK244 := Aside0.mk (blk_below BK244.out hb)
    replace BK253 := Aside0.mk (blk_below BK253.out hb)
    replace BK267 := Aside0.mk (blk_below BK267.out hb)
    replace HB := Aside0.mk (below_step HB.out hb)
    (try clear hb)
    (try clear hb2)
    (try clear hk)
    (try clear hi)
    refine hK.out _ _ ⟨(blk_cell BK243.out 0).trans rfl, (blk_cell BK243.out 1).trans rfl, (blk_cell BK243.out 2).trans rfl, (blk_cell BK243.out 3).trans rfl, (blk_cell BK243.out 4).trans rfl, (blk_cell BK243.out 5).trans rfl⟩ (fun hHeld => ?_)
    clear hK K
    refine norm_ (a' := ?_) ?_ ?_; rotate_left
    ·show Act.put _ (some 33) _ = _
     simp only [PS]
     rfl
    refine pure_ (i := 3) (N := some 30) (v := ?_) (a' := ?_) #[true, true, true, true, false, false, false, false, false] rfl rfl (any_of HT_.out (by kernel_rfl)) (fun _ _ _ h => h) (Or.inl ⟨by rfl, ?_⟩) ?_ ?_; rotate_left
    ·intro w'; go_simp; with_reducible rfl
    rotate_left; (focus (simp only [PS]; rfl))
    refine pure_ (i := 4) (N := some 34) (v := ?_) (a' := ?_) #[true, true, true, true, true, false, false, false, false] rfl rfl (any_of HT_.out (by kernel_rfl)) (fun _ _ _ h => h) (Or.inl ⟨by rfl, ?_⟩) ?_ ?_; rotate_left
    ·intro w'; go_simp; with_reducible rfl
    rotate_left; (focus (simp only [PS]; rfl))
    refine pure_ (i := 5) (N := some 35) (v := ?_) (a' := ?_) #[true, true, true, true, true, true, false, false, false] rfl rfl (any_of HT_.out (by kernel_rfl)) (fun _ _ _ h => h) (Or.inl ⟨by rfl, ?_⟩) ?_ ?_; rotate_left
    ·intro w'; go_simp; with_reducible rfl
    rotate_left; (focus (simp only [PS]; rfl))
    refine one_ (i := 6) (N := some 8) #[true, true, true, true, true, true, true, false, false] rfl rfl (one_of HT_.out (by kernel_rfl)) (by decide) (fun K hK => ?_)
    refine box_step ?hg (N := 8) ?hd (cs := #[.int .i64 0, .int .i64 0, .int .i64 0, .int .i64 0, .int .i64 0, .int .i64 0]) (t := 34) ?hr ?_; (case hd => rfl); (case hg => rfl); (case hr => first | (go_simp; done) | (go_simp; rfl))
    intro gb281 hg w65 hbox hb
    have BK281 := Aside0.mk (hbox)
    have GW281 := Aside0.mk ((by rw [hg]; exact (below_size HB.out) : w.heap.size ≤ gb281))
    have GE281 := Aside0.mk ((by rw [hg]; exact (below_size HB.out) : w.heap.size ≤ gb281))
    replace HB := Aside0.mk (below_step HB.out hb)
    have NB243_281 := Aside0.mk ((by rw [hg]; exact Nat.ne_of_lt (blk_lt BK243.out) : gb243 ≠ gb281))
    have NB281_243 := Aside0.mk ((by rw [hg]; exact Nat.ne_of_gt (blk_lt BK243.out) : gb281 ≠ gb243))
    replace BK243 := Aside0.mk (blk_below BK243.out hb)
    have NB244_281 := Aside0.mk ((by rw [hg]; exact Nat.ne_of_lt (blk_lt BK244.out) : gb244 ≠ gb281))
    have NB281_244 := Aside0.mk ((by rw [hg]; exact Nat.ne_of_gt (blk_lt BK244.out) : gb281 ≠ gb244))
    replace BK244 := Aside0.mk (blk_below BK244.out hb)
    have NB253_281 := Aside0.mk ((by rw [hg]; exact Nat.ne_of_lt (blk_lt BK253.out) : gb253 ≠ gb281))
    have NB281_253 := Aside0.mk ((by rw [hg]; exact Nat.ne_of_gt (blk_lt BK253.out) : gb281 ≠ gb253))
    replace BK253 := Aside0.mk (blk_below BK253.out hb)
    have NB267_281 := Aside0.mk ((by rw [hg]; exact Nat.ne_of_lt (blk_lt BK267.out) : gb267 ≠ gb281))
    have NB281_267 := Aside0.mk ((by rw [hg]; exact Nat.ne_of_gt (blk_lt BK267.out) : gb281 ≠ gb267))
    replace BK267 := Aside0.mk (blk_below BK267.out hb)
    clear hb hbox hg
    refine hK.out _ _ ⟨(blk_cell BK243.out 0).trans rfl, (blk_cell BK243.out 1).trans rfl, (blk_cell BK243.out 2).trans rfl, (blk_cell BK243.out 3).trans rfl, (blk_cell BK243.out 4).trans rfl, (blk_cell BK243.out 5).trans rfl⟩ (fun hHeld => ?_)
    clear hK K
    refine norm_ (a' := ?_) ?_ ?_; rotate_left
    ·show Act.put _ (some 8) _ = _
     simp only [PS]
     rfl
    exact norm_ (by simp only [putAll, Act.put, List.setIfInBounds_toArray, List.set_cons_zero, List.set_cons_succ]) (hCont (gb281) _ ⟨hHeld, BK243.out, BK244.out, BK253.out, BK267.out, BK281.out, GW281.out, GE281.out, NB243_281.out, NB281_243.out, NB244_281.out, NB281_244.out, NB253_281.out, NB281_253.out, NB267_281.out, NB281_267.out, HB.out⟩)
   ·skip
    refine box_step ?hg (N := 8) ?hd (cs := #[.int .i64 0, .int .i64 0, .int .i64 0, .int .i64 0, .int .i64 0, .int .i64 0]) (t := 34) ?hr ?_; (case hd => rfl); (case hg => rfl); (case hr => first | (go_simp; done) | (go_simp; rfl))
    intro gb281 hg w64 hbox hb
    have BK281 := Aside0.mk (hbox)
    have GW281 := Aside0.mk ((by rw [hg]; exact (below_size HB.out) : w.heap.size ≤ gb281))
    have GE281 := Aside0.mk ((by rw [hg]; exact (below_size HB.out) : w.heap.size ≤ gb281))
    replace HB := Aside0.mk (below_step HB.out hb)
    have NB243_281 := Aside0.mk ((by rw [hg]; exact Nat.ne_of_lt (blk_lt BK243.out) : gb243 ≠ gb281))
    have NB281_243 := Aside0.mk ((by rw [hg]; exact Nat.ne_of_gt (blk_lt BK243.out) : gb281 ≠ gb243))
    replace BK243 := Aside0.mk (blk_below BK243.out hb)
    have NB244_281 := Aside0.mk ((by rw [hg]; exact Nat.ne_of_lt (blk_lt BK244.out) : gb244 ≠ gb281))
    have NB281_244 := Aside0.mk ((by rw [hg]; exact Nat.ne_of_gt (blk_lt BK244.out) : gb281 ≠ gb244))
    replace BK244 := Aside0.mk (blk_below BK244.out hb)
    have NB253_281 := Aside0.mk ((by rw [hg]; exact Nat.ne_of_lt (blk_lt BK253.out) : gb253 ≠ gb281))
    have NB281_253 := Aside0.mk ((by rw [hg]; exact Nat.ne_of_gt (blk_lt BK253.out) : gb281 ≠ gb253))
    replace BK253 := Aside0.mk (blk_below BK253.out hb)
    have NB267_281 := Aside0.mk ((by rw [hg]; exact Nat.ne_of_lt (blk_lt BK267.out) : gb267 ≠ gb281))
    have NB281_267 := Aside0.mk ((by rw [hg]; exact Nat.ne_of_gt (blk_lt BK267.out) : gb281 ≠ gb267))
    replace BK267 := Aside0.mk (blk_below BK267.out hb)
    clear hb hbox hg
    refine hK.out _ _ ⟨(blk_cell BK243.out 0).trans rfl, (blk_cell BK243.out 1).trans rfl, (blk_cell BK243.out 2).trans rfl, (blk_cell BK243.out 3).trans rfl, (blk_cell BK243.out 4).trans rfl, (blk_cell BK243.out 5).trans rfl⟩ (fun hHeld => ?_)
    clear hK K
    refine norm_ (a' := ?_) ?_ ?_; rotate_left
    ·show Act.put _ (some 8) _ = _
     simp only [PS]
     rfl
    refine one_ (i := 2) (N := some 33) #[true, true, true, false, false, false, true, false, false] rfl rfl (one_of HT_.out (by kernel_rfl)) (by decide) (fun K hK => ?_)
    refine goes_ Try.func48 (by kernel_rfl) rfl #[.agg #[.int .i64 t268, .int .i64 t269, .int .i64 t270, .int .i64 t271, .int .i64 t272, .int .i64 t273], .agg #[.int .i64 t235, .int .i64 t236, .int .i64 t237, .int .i64 t238, .int .i64 t239, .int .i64 t240]] (by rfl) rfl rfl (by (try simp only [List.map_toArray, List.map_cons, List.map_nil]); first | done | rfl | (simp only [List.length_drop, List.length_take]; rfl)) ?_
    with_reducible refine (impl_Compose.calls k t268 t269 t270 t271 t272 t273 t235 t236 t237 t238 t239 t240 t274 t275 t276 t277 t278 t279 true _ A10.out).mono ?_
    rintro e w65 ⟨rfl, hb⟩
    refine ⟨_, rfl, ?_⟩
    replace BK243 := Aside0.mk (blk_below BK243.out hb)
    replace BK244 := Aside0.mk (blk_below BK244.out hb)
    replace BK253 := Aside0.mk (blk_below BK253.out hb)
    replace BK267 := Aside0.mk (blk_below BK267.out hb)
    replace BK281 := Aside0.mk (blk_below BK281.out hb)
    replace HB := Aside0.mk (below_step HB.out hb)
    (try clear hb)
    (try clear hb2)
    (try clear hk)
    (try clear hi)
    refine hK.out _ _ ⟨(blk_cell BK243.out 0).trans rfl, (blk_cell BK243.out 1).trans rfl, (blk_cell BK243.out 2).trans rfl, (blk_cell BK243.out 3).trans rfl, (blk_cell BK243.out 4).trans rfl, (blk_cell BK243.out 5).trans rfl⟩ (fun hHeld => ?_)
    clear hK K
    refine norm_ (a' := ?_) ?_ ?_; rotate_left
    ·show Act.put _ (some 33) _ = _
     simp only [PS]
     rfl
    refine pure_ (i := 3) (N := some 30) (v := ?_) (a' := ?_) #[true, true, true, true, false, false, true, false, false] rfl rfl (any_of HT_.out (by kernel_rfl)) (fun _ _ _ h => h) (Or.inl ⟨by rfl, ?_⟩) ?_ ?_; rotate_left
    ·intro w'; go_simp; with_reducible rfl
    rotate_left; (focus (simp only [PS]; rfl))
    refine pure_ (i := 4) (N := some 34) (v := ?_) (a' := ?_) #[true, true, true, true, true, false, true, false, false] rfl rfl (any_of HT_.out (by kernel_rfl)) (fun _ _ _ h => h) (Or.inl ⟨by rfl, ?_⟩) ?_ ?_; rotate_left
    ·intro w'; go_simp; with_reducible rfl
    rotate_left; (focus (simp only [PS]; rfl))
    refine pure_ (i := 5) (N := some 35) (v := ?_) (a' := ?_) #[true, true, true, true, true, true, true, false, false] rfl rfl (any_of HT_.out (by kernel_rfl)) (fun _ _ _ h => h) (Or.inl ⟨by rfl, ?_⟩) ?_ ?_; rotate_left
    ·intro w'; go_simp; with_reducible rfl
    rotate_left; (focus (simp only [PS]; rfl))
    exact norm_ (by simp only [putAll, Act.put, List.setIfInBounds_toArray, List.set_cons_zero, List.set_cons_succ]) (hCont (gb281) _ ⟨hHeld, BK243.out, BK244.out, BK253.out, BK267.out, BK281.out, GW281.out, GE281.out, NB243_281.out, NB281_243.out, NB244_281.out, NB281_244.out, NB253_281.out, NB281_253.out, NB267_281.out, NB281_267.out, HB.out⟩)
  ·skip
   refine box_step ?hg (N := 8) ?hd (cs := #[.int .i64 0, .int .i64 0, .int .i64 0, .int .i64 0, .int .i64 0, .int .i64 0]) (t := 34) ?hr ?_; (case hd => rfl); (case hg => rfl); (case hr => first | (go_simp; done) | (go_simp; rfl))
   intro gb281 hg w63 hbox hb
   have BK281 := Aside0.mk (hbox)
   have GW281 := Aside0.mk ((by rw [hg]; exact (below_size HB.out) : w.heap.size ≤ gb281))
   have GE281 := Aside0.mk ((by rw [hg]; exact (below_size HB.out) : w.heap.size ≤ gb281))
   replace HB := Aside0.mk (below_step HB.out hb)
   have NB243_281 := Aside0.mk ((by rw [hg]; exact Nat.ne_of_lt (blk_lt BK243.out) : gb243 ≠ gb281))
   have NB281_243 := Aside0.mk ((by rw [hg]; exact Nat.ne_of_gt (blk_lt BK243.out) : gb281 ≠ gb243))
   replace BK243 := Aside0.mk (blk_below BK243.out hb)
   have NB244_281 := Aside0.mk ((by rw [hg]; exact Nat.ne_of_lt (blk_lt BK244.out) : gb244 ≠ gb281))
   have NB281_244 := Aside0.mk ((by rw [hg]; exact Nat.ne_of_gt (blk_lt BK244.out) : gb281 ≠ gb244))
   replace BK244 := Aside0.mk (blk_below BK244.out hb)
   have NB253_281 := Aside0.mk ((by rw [hg]; exact Nat.ne_of_lt (blk_lt BK253.out) : gb253 ≠ gb281))
   have NB281_253 := Aside0.mk ((by rw [hg]; exact Nat.ne_of_gt (blk_lt BK253.out) : gb281 ≠ gb253))
   replace BK253 := Aside0.mk (blk_below BK253.out hb)
   have NB267_281 := Aside0.mk ((by rw [hg]; exact Nat.ne_of_lt (blk_lt BK267.out) : gb267 ≠ gb281))
   have NB281_267 := Aside0.mk ((by rw [hg]; exact Nat.ne_of_gt (blk_lt BK267.out) : gb281 ≠ gb267))
   replace BK267 := Aside0.mk (blk_below BK267.out hb)
   clear hb hbox hg
   refine hK.out _ _ ⟨(blk_cell BK243.out 0).trans rfl, (blk_cell BK243.out 1).trans rfl, (blk_cell BK243.out 2).trans rfl, (blk_cell BK243.out 3).trans rfl, (blk_cell BK243.out 4).trans rfl, (blk_cell BK243.out 5).trans rfl⟩ (fun hHeld => ?_)
   clear hK K
   refine norm_ (a' := ?_) ?_ ?_; rotate_left
   ·show Act.put _ (some 8) _ = _
    simp only [PS]
    rfl
   refine one_ (i := 0) (N := some 31) #[true, true, false, false, false, false, true, false, false] rfl rfl (one_of HT_.out (by kernel_rfl)) (by decide) (fun K hK => ?_)
   refine goes_ Try.func49 (by kernel_rfl) rfl #[] (by rfl) rfl rfl (by (try simp only [List.map_toArray, List.map_cons, List.map_nil]); first | done | rfl | (simp only [List.length_drop, List.length_take]; rfl)) ?_
   with_reducible refine (impl_Still.calls  t268 t269 t270 t271 t272 t273 _ A9.out).mono ?_
   rintro e w64 ⟨rfl, hb⟩
   refine ⟨_, rfl, ?_⟩
   replace BK243 := Aside0.mk (blk_below BK243.out hb)
   replace BK244 := Aside0.mk (blk_below BK244.out hb)
   replace BK253 := Aside0.mk (blk_below BK253.out hb)
   replace BK267 := Aside0.mk (blk_below BK267.out hb)
   replace BK281 := Aside0.mk (blk_below BK281.out hb)
   replace HB := Aside0.mk (below_step HB.out hb)
   (try clear hb)
   (try clear hb2)
   (try clear hk)
   (try clear hi)
   refine hK.out _ _ ⟨(blk_cell BK243.out 0).trans rfl, (blk_cell BK243.out 1).trans rfl, (blk_cell BK243.out 2).trans rfl, (blk_cell BK243.out 3).trans rfl, (blk_cell BK243.out 4).trans rfl, (blk_cell BK243.out 5).trans rfl⟩ (fun hHeld => ?_)
   clear hK K
   refine norm_ (a' := ?_) ?_ ?_; rotate_left
   ·show Act.put _ (some 31) _ = _
    simp only [PS]
    rfl
   refine one_ (i := 2) (N := some 33) #[true, true, true, false, false, false, true, false, false] rfl rfl (one_of HT_.out (by kernel_rfl)) (by decide) (fun K hK => ?_)
   refine goes_ Try.func48 (by kernel_rfl) rfl #[.agg #[.int .i64 t268, .int .i64 t269, .int .i64 t270, .int .i64 t271, .int .i64 t272, .int .i64 t273], .agg #[.int .i64 t235, .int .i64 t236, .int .i64 t237, .int .i64 t238, .int .i64 t239, .int .i64 t240]] (by rfl) rfl rfl (by (try simp only [List.map_toArray, List.map_cons, List.map_nil]); first | done | rfl | (simp only [List.length_drop, List.length_take]; rfl)) ?_
   with_reducible refine (impl_Compose.calls k t268 t269 t270 t271 t272 t273 t235 t236 t237 t238 t239 t240 t274 t275 t276 t277 t278 t279 true _ A10.out).mono ?_
   rintro e w65 ⟨rfl, hb⟩
   refine ⟨_, rfl, ?_⟩
   replace BK243 := Aside0.mk (blk_below BK243.out hb)
   replace BK244 := Aside0.mk (blk_below BK244.out hb)
   replace BK253 := Aside0.mk (blk_below BK253.out hb)
   replace BK267 := Aside0.mk (blk_below BK267.out hb)
   replace BK281 := Aside0.mk (blk_below BK281.out hb)
   replace HB := Aside0.mk (below_step HB.out hb)
   (try clear hb)
   (try clear hb2)
   (try clear hk)
   (try clear hi)
   refine hK.out _ _ ⟨(blk_cell BK243.out 0).trans rfl, (blk_cell BK243.out 1).trans rfl, (blk_cell BK243.out 2).trans rfl, (blk_cell BK243.out 3).trans rfl, (blk_cell BK243.out 4).trans rfl, (blk_cell BK243.out 5).trans rfl⟩ (fun hHeld => ?_)
   clear hK K
   refine norm_ (a' := ?_) ?_ ?_; rotate_left
   ·show Act.put _ (some 33) _ = _
    simp only [PS]
    rfl
   refine pure_ (i := 3) (N := some 30) (v := ?_) (a' := ?_) #[true, true, true, true, false, false, true, false, false] rfl rfl (any_of HT_.out (by kernel_rfl)) (fun _ _ _ h => h) (Or.inl ⟨by rfl, ?_⟩) ?_ ?_; rotate_left
   ·intro w'; go_simp; with_reducible rfl
   rotate_left; (focus (simp only [PS]; rfl))
   refine pure_ (i := 4) (N := some 34) (v := ?_) (a' := ?_) #[true, true, true, true, true, false, true, false, false] rfl rfl (any_of HT_.out (by kernel_rfl)) (fun _ _ _ h => h) (Or.inl ⟨by rfl, ?_⟩) ?_ ?_; rotate_left
   ·intro w'; go_simp; with_reducible rfl
   rotate_left; (focus (simp only [PS]; rfl))
   refine pure_ (i := 5) (N := some 35) (v := ?_) (a' := ?_) #[true, true, true, true, true, true, true, false, false] rfl rfl (any_of HT_.out (by kernel_rfl)) (fun _ _ _ h => h) (Or.inl ⟨by rfl, ?_⟩) ?_ ?_; rotate_left
   ·intro w'; go_simp; with_reducible rfl
   rotate_left; (focus (simp only [PS]; rfl))
   exact norm_ (by simp only [putAll, Act.put, List.setIfInBounds_toArray, List.set_cons_zero, List.set_cons_succ]) (hCont (gb281) _ ⟨hHeld, BK243.out, BK244.out, BK253.out, BK267.out, BK281.out, GW281.out, GE281.out, NB243_281.out, NB281_243.out, NB244_281.out, NB281_244.out, NB253_281.out, NB281_253.out, NB267_281.out, NB281_267.out, HB.out⟩)
 rintro gb281 w66 ⟨hS_, h0_, h1_, h2_, h3_, h4_, h5_, h6_, h7_, h8_, h9_, h10_, h11_, h12_, h13_, h14_, h15_⟩
 have n0_ : Aside0 (w66.heap[gb243]? = some (.cells #[.int .i64 t235, .int .i64 t236, .int .i64 t237, .int .i64 t238, .int .i64 t239, .int .i64 t240] 34 (0, 0))) := ⟨h0_⟩
 have n1_ : Aside0 (w66.heap[gb244]? = some (.cells #[.int .i64 t241, .int .i64 t242] 24 (0, 0))) := ⟨h1_⟩
 have n2_ : Aside0 (w66.heap[gb253]? = some (.cells #[.int .i64 t251, .int .i64 t252] 24 (0, 0))) := ⟨h2_⟩
 have n3_ : Aside0 (w66.heap[gb267]? = some (.cells #[.int .i64 t260, .int .i64 t261, .int .i64 t262, .int .i64 t263, .int .i64 t264, .int .i64 t265] 34 (0, 0))) := ⟨h3_⟩
 have n4_ : Aside0 (w66.heap[gb281]? = some (.cells #[.int .i64 0, .int .i64 0, .int .i64 0, .int .i64 0, .int .i64 0, .int .i64 0] 34 (0, 0))) := ⟨h4_⟩
 have n5_ : Aside0 (w.heap.size ≤ gb281) := ⟨h5_⟩
 have n6_ : Aside0 (w.heap.size ≤ gb281) := ⟨h6_⟩
 have n7_ : Aside0 (gb243 ≠ gb281) := ⟨h7_⟩
 have n8_ : Aside0 (gb281 ≠ gb243) := ⟨h8_⟩
 have n9_ : Aside0 (gb244 ≠ gb281) := ⟨h9_⟩
 have n10_ : Aside0 (gb281 ≠ gb244) := ⟨h10_⟩
 have n11_ : Aside0 (gb253 ≠ gb281) := ⟨h11_⟩
 have n12_ : Aside0 (gb281 ≠ gb253) := ⟨h12_⟩
 have n13_ : Aside0 (gb267 ≠ gb281) := ⟨h13_⟩
 have n14_ : Aside0 (gb281 ≠ gb267) := ⟨h14_⟩
 have n15_ : Aside0 (Below w.heap.size w w66) := ⟨h15_⟩
 clear BK243
 clear BK244
 clear BK253
 clear BK267
 clear HB
 clear h0_ h1_ h2_ h3_ h4_ h5_ h6_ h7_ h8_ h9_ h10_ h11_ h12_ h13_ h14_ h15_
 have BK243 := n0_
 have BK244 := n1_
 have BK253 := n2_
 have BK267 := n3_
 have BK281 := n4_
 have GW281 := n5_
 have GE281 := n6_
 have NB243_281 := n7_
 have NB281_243 := n8_
 have NB244_281 := n9_
 have NB281_244 := n10_
 have NB253_281 := n11_
 have NB281_253 := n12_
 have NB267_281 := n13_
 have NB281_267 := n14_
 have HB := n15_
 clear n0_ n1_ n2_ n3_ n4_ n5_ n6_ n7_ n8_ n9_ n10_ n11_ n12_ n13_ n14_ n15_
 have hHeld : w66.cell? ⟨gb243, 0, none⟩ = some (.int .i64 t235) ∧ w66.cell? ⟨gb243, 1, none⟩ = some (.int .i64 t236) ∧ w66.cell? ⟨gb243, 2, none⟩ = some (.int .i64 t237) ∧ w66.cell? ⟨gb243, 3, none⟩ = some (.int .i64 t238) ∧ w66.cell? ⟨gb243, 4, none⟩ = some (.int .i64 t239) ∧ w66.cell? ⟨gb243, 5, none⟩ = some (.int .i64 t240) := hS_
 refine norm_ (a' := ?_) ?_ ?_; rotate_left
 ·simp only [putAll, Act.put, List.setIfInBounds_toArray, List.set_cons_zero, List.set_cons_succ]
  rfl
 refine one_ (i := 7) (N := none) #[true, true, true, true, true, true, true, true, false] rfl rfl (one_of HT_.out (by kernel_rfl)) (by decide) (fun K hK => ?_)
 have hs67 : w66.cell? ⟨gb281, 0, none⟩ = some (.int .i64 0) := (blk_cell BK281.out 0).trans rfl
 have hfs67 := blk_frozen BK281.out 0
 have hns67_0 := NB243_281.out
 have hns67_1 := NB244_281.out
 have hns67_2 := NB253_281.out
 have hns67_3 := NB267_281.out
 have hms67_0 := NB281_243.out
 have hms67_1 := NB281_244.out
 have hms67_2 := NB281_253.out
 have hms67_3 := NB281_267.out
 have hs68 : w66.cell? ⟨gb281, 1, none⟩ = some (.int .i64 0) := (blk_cell BK281.out 1).trans rfl
 have hfs68 := blk_frozen BK281.out 1
 have hns68_0 := NB243_281.out
 have hns68_1 := NB244_281.out
 have hns68_2 := NB253_281.out
 have hns68_3 := NB267_281.out
 have hms68_0 := NB281_243.out
 have hms68_1 := NB281_244.out
 have hms68_2 := NB281_253.out
 have hms68_3 := NB281_267.out
 have hs69 : w66.cell? ⟨gb281, 2, none⟩ = some (.int .i64 0) := (blk_cell BK281.out 2).trans rfl
 have hfs69 := blk_frozen BK281.out 2
 have hns69_0 := NB243_281.out
 have hns69_1 := NB244_281.out
 have hns69_2 := NB253_281.out
 have hns69_3 := NB267_281.out
 have hms69_0 := NB281_243.out
 have hms69_1 := NB281_244.out
 have hms69_2 := NB281_253.out
 have hms69_3 := NB281_267.out
 have hs70 : w66.cell? ⟨gb281, 3, none⟩ = some (.int .i64 0) := (blk_cell BK281.out 3).trans rfl
 have hfs70 := blk_frozen BK281.out 3
 have hns70_0 := NB243_281.out
 have hns70_1 := NB244_281.out
 have hns70_2 := NB253_281.out
 have hns70_3 := NB267_281.out
 have hms70_0 := NB281_243.out
 have hms70_1 := NB281_244.out
 have hms70_2 := NB281_253.out
 have hms70_3 := NB281_267.out
 have hs71 : w66.cell? ⟨gb281, 4, none⟩ = some (.int .i64 0) := (blk_cell BK281.out 4).trans rfl
 have hfs71 := blk_frozen BK281.out 4
 have hns71_0 := NB243_281.out
 have hns71_1 := NB244_281.out
 have hns71_2 := NB253_281.out
 have hns71_3 := NB267_281.out
 have hms71_0 := NB281_243.out
 have hms71_1 := NB281_244.out
 have hms71_2 := NB281_253.out
 have hms71_3 := NB281_267.out
 have hs72 : w66.cell? ⟨gb281, 5, none⟩ = some (.int .i64 0) := (blk_cell BK281.out 5).trans rfl
 have hfs72 := blk_frozen BK281.out 5
 have hns72_0 := NB243_281.out
 have hns72_1 := NB244_281.out
 have hns72_2 := NB253_281.out
 have hns72_3 := NB267_281.out
 have hms72_0 := NB281_243.out
 have hms72_1 := NB281_244.out
 have hms72_2 := NB281_253.out
 have hms72_3 := NB281_267.out
 refine skip_ (w1 := ?_) (by rfl) rfl ?_ ?_; rotate_left
 ·go_simp
  rfl
 refine hK.out _ _ ⟨((cell_far (p := ⟨gb281, _, none⟩) NB243_281.out _).trans (((cell_far (p := ⟨gb281, _, none⟩) NB243_281.out _).trans (((cell_far (p := ⟨gb281, _, none⟩) NB243_281.out _).trans (((cell_far (p := ⟨gb281, _, none⟩) NB243_281.out _).trans (((cell_far (p := ⟨gb281, _, none⟩) NB243_281.out _).trans (((cell_far (p := ⟨gb281, _, none⟩) NB243_281.out _).trans (hHeld.1)))))))))))), ((cell_far (p := ⟨gb281, _, none⟩) NB243_281.out _).trans (((cell_far (p := ⟨gb281, _, none⟩) NB243_281.out _).trans (((cell_far (p := ⟨gb281, _, none⟩) NB243_281.out _).trans (((cell_far (p := ⟨gb281, _, none⟩) NB243_281.out _).trans (((cell_far (p := ⟨gb281, _, none⟩) NB243_281.out _).trans (((cell_far (p := ⟨gb281, _, none⟩) NB243_281.out _).trans (hHeld.2.1)))))))))))), ((cell_far (p := ⟨gb281, _, none⟩) NB243_281.out _).trans (((cell_far (p := ⟨gb281, _, none⟩) NB243_281.out _).trans (((cell_far (p := ⟨gb281, _, none⟩) NB243_281.out _).trans (((cell_far (p := ⟨gb281, _, none⟩) NB243_281.out _).trans (((cell_far (p := ⟨gb281, _, none⟩) NB243_281.out _).trans (((cell_far (p := ⟨gb281, _, none⟩) NB243_281.out _).trans (hHeld.2.2.1)))))))))))), ((cell_far (p := ⟨gb281, _, none⟩) NB243_281.out _).trans (((cell_far (p := ⟨gb281, _, none⟩) NB243_281.out _).trans (((cell_far (p := ⟨gb281, _, none⟩) NB243_281.out _).trans (((cell_far (p := ⟨gb281, _, none⟩) NB243_281.out _).trans (((cell_far (p := ⟨gb281, _, none⟩) NB243_281.out _).trans (((cell_far (p := ⟨gb281, _, none⟩) NB243_281.out _).trans (hHeld.2.2.2.1)))))))))))), ((cell_far (p := ⟨gb281, _, none⟩) NB243_281.out _).trans (((cell_far (p := ⟨gb281, _, none⟩) NB243_281.out _).trans (((cell_far (p := ⟨gb281, _, none⟩) NB243_281.out _).trans (((cell_far (p := ⟨gb281, _, none⟩) NB243_281.out _).trans (((cell_far (p := ⟨gb281, _, none⟩) NB243_281.out _).trans (((cell_far (p := ⟨gb281, _, none⟩) NB243_281.out _).trans (hHeld.2.2.2.2.1)))))))))))), ((cell_far (p := ⟨gb281, _, none⟩) NB243_281.out _).trans (((cell_far (p := ⟨gb281, _, none⟩) NB243_281.out _).trans (((cell_far (p := ⟨gb281, _, none⟩) NB243_281.out _).trans (((cell_far (p := ⟨gb281, _, none⟩) NB243_281.out _).trans (((cell_far (p := ⟨gb281, _, none⟩) NB243_281.out _).trans (((cell_far (p := ⟨gb281, _, none⟩) NB243_281.out _).trans (hHeld.2.2.2.2.2))))))))))))⟩ (fun hHeld => ?_)
 clear hK K
 refine pure_ (i := 8) (N := some 9) (v := ?_) (a' := ?_) #[true, true, true, true, true, true, true, true, true] rfl rfl (any_of HT_.out (by kernel_rfl)) (fun _ _ _ h => h) (Or.inl ⟨by rfl, ?_⟩) ?_ ?_; rotate_left
 ·intro w'; go_simp; with_reducible rfl
 rotate_left; (focus (simp only [PS]; rfl))
 refine done_ (done_of HT_.out (by kernel_rfl)) ?_
 try go_wp2
 have n0_ : Aside0 (((((((w66.setCell ⟨gb281, 0, none⟩ (.int .i64 t274)).setCell ⟨gb281, 1, none⟩ (.int .i64 t275)).setCell ⟨gb281, 2, none⟩ (.int .i64 t276)).setCell ⟨gb281, 3, none⟩ (.int .i64 t277)).setCell ⟨gb281, 4, none⟩ (.int .i64 t278)).setCell ⟨gb281, 5, none⟩ (.int .i64 t279)).heap[gb243]? = some (.cells #[.int .i64 t235, .int .i64 t236, .int .i64 t237, .int .i64 t238, .int .i64 t239, .int .i64 t240] 34 (0, 0))) := ⟨by (with_reducible repeat (first | refine blk_drewN ?_ _ | refine blk_drew ?_ | refine blk_alloc ?_ _)); refine blk_far ?_ NB243_281.out _; (with_reducible repeat (first | refine blk_drewN ?_ _ | refine blk_drew ?_ | refine blk_alloc ?_ _)); refine blk_far ?_ NB243_281.out _; (with_reducible repeat (first | refine blk_drewN ?_ _ | refine blk_drew ?_ | refine blk_alloc ?_ _)); refine blk_far ?_ NB243_281.out _; (with_reducible repeat (first | refine blk_drewN ?_ _ | refine blk_drew ?_ | refine blk_alloc ?_ _)); refine blk_far ?_ NB243_281.out _; (with_reducible repeat (first | refine blk_drewN ?_ _ | refine blk_drew ?_ | refine blk_alloc ?_ _)); refine blk_far ?_ NB243_281.out _; (with_reducible repeat (first | refine blk_drewN ?_ _ | refine blk_drew ?_ | refine blk_alloc ?_ _)); refine blk_far ?_ NB243_281.out _; (with_reducible repeat (first | refine blk_drewN ?_ _ | refine blk_drew ?_ | refine blk_alloc ?_ _)); exact BK243.out⟩
 have n1_ : Aside0 (((((((w66.setCell ⟨gb281, 0, none⟩ (.int .i64 t274)).setCell ⟨gb281, 1, none⟩ (.int .i64 t275)).setCell ⟨gb281, 2, none⟩ (.int .i64 t276)).setCell ⟨gb281, 3, none⟩ (.int .i64 t277)).setCell ⟨gb281, 4, none⟩ (.int .i64 t278)).setCell ⟨gb281, 5, none⟩ (.int .i64 t279)).heap[gb244]? = some (.cells #[.int .i64 t241, .int .i64 t242] 24 (0, 0))) := ⟨by (with_reducible repeat (first | refine blk_drewN ?_ _ | refine blk_drew ?_ | refine blk_alloc ?_ _)); refine blk_far ?_ NB244_281.out _; (with_reducible repeat (first | refine blk_drewN ?_ _ | refine blk_drew ?_ | refine blk_alloc ?_ _)); refine blk_far ?_ NB244_281.out _; (with_reducible repeat (first | refine blk_drewN ?_ _ | refine blk_drew ?_ | refine blk_alloc ?_ _)); refine blk_far ?_ NB244_281.out _; (with_reducible repeat (first | refine blk_drewN ?_ _ | refine blk_drew ?_ | refine blk_alloc ?_ _)); refine blk_far ?_ NB244_281.out _; (with_reducible repeat (first | refine blk_drewN ?_ _ | refine blk_drew ?_ | refine blk_alloc ?_ _)); refine blk_far ?_ NB244_281.out _; (with_reducible repeat (first | refine blk_drewN ?_ _ | refine blk_drew ?_ | refine blk_alloc ?_ _)); refine blk_far ?_ NB244_281.out _; (with_reducible repeat (first | refine blk_drewN ?_ _ | refine blk_drew ?_ | refine blk_alloc ?_ _)); exact BK244.out⟩
 have n2_ : Aside0 (((((((w66.setCell ⟨gb281, 0, none⟩ (.int .i64 t274)).setCell ⟨gb281, 1, none⟩ (.int .i64 t275)).setCell ⟨gb281, 2, none⟩ (.int .i64 t276)).setCell ⟨gb281, 3, none⟩ (.int .i64 t277)).setCell ⟨gb281, 4, none⟩ (.int .i64 t278)).setCell ⟨gb281, 5, none⟩ (.int .i64 t279)).heap[gb253]? = some (.cells #[.int .i64 t251, .int .i64 t252] 24 (0, 0))) := ⟨by (with_reducible repeat (first | refine blk_drewN ?_ _ | refine blk_drew ?_ | refine blk_alloc ?_ _)); refine blk_far ?_ NB253_281.out _; (with_reducible repeat (first | refine blk_drewN ?_ _ | refine blk_drew ?_ | refine blk_alloc ?_ _)); refine blk_far ?_ NB253_281.out _; (with_reducible repeat (first | refine blk_drewN ?_ _ | refine blk_drew ?_ | refine blk_alloc ?_ _)); refine blk_far ?_ NB253_281.out _; (with_reducible repeat (first | refine blk_drewN ?_ _ | refine blk_drew ?_ | refine blk_alloc ?_ _)); refine blk_far ?_ NB253_281.out _; (with_reducible repeat (first | refine blk_drewN ?_ _ | refine blk_drew ?_ | refine blk_alloc ?_ _)); refine blk_far ?_ NB253_281.out _; (with_reducible repeat (first | refine blk_drewN ?_ _ | refine blk_drew ?_ | refine blk_alloc ?_ _)); refine blk_far ?_ NB253_281.out _; (with_reducible repeat (first | refine blk_drewN ?_ _ | refine blk_drew ?_ | refine blk_alloc ?_ _)); exact BK253.out⟩
 have n3_ : Aside0 (((((((w66.setCell ⟨gb281, 0, none⟩ (.int .i64 t274)).setCell ⟨gb281, 1, none⟩ (.int .i64 t275)).setCell ⟨gb281, 2, none⟩ (.int .i64 t276)).setCell ⟨gb281, 3, none⟩ (.int .i64 t277)).setCell ⟨gb281, 4, none⟩ (.int .i64 t278)).setCell ⟨gb281, 5, none⟩ (.int .i64 t279)).heap[gb267]? = some (.cells #[.int .i64 t260, .int .i64 t261, .int .i64 t262, .int .i64 t263, .int .i64 t264, .int .i64 t265] 34 (0, 0))) := ⟨by (with_reducible repeat (first | refine blk_drewN ?_ _ | refine blk_drew ?_ | refine blk_alloc ?_ _)); refine blk_far ?_ NB267_281.out _; (with_reducible repeat (first | refine blk_drewN ?_ _ | refine blk_drew ?_ | refine blk_alloc ?_ _)); refine blk_far ?_ NB267_281.out _; (with_reducible repeat (first | refine blk_drewN ?_ _ | refine blk_drew ?_ | refine blk_alloc ?_ _)); refine blk_far ?_ NB267_281.out _; (with_reducible repeat (first | refine blk_drewN ?_ _ | refine blk_drew ?_ | refine blk_alloc ?_ _)); refine blk_far ?_ NB267_281.out _; (with_reducible repeat (first | refine blk_drewN ?_ _ | refine blk_drew ?_ | refine blk_alloc ?_ _)); refine blk_far ?_ NB267_281.out _; (with_reducible repeat (first | refine blk_drewN ?_ _ | refine blk_drew ?_ | refine blk_alloc ?_ _)); refine blk_far ?_ NB267_281.out _; (with_reducible repeat (first | refine blk_drewN ?_ _ | refine blk_drew ?_ | refine blk_alloc ?_ _)); exact BK267.out⟩
 have n4_ : Aside0 (((((((w66.setCell ⟨gb281, 0, none⟩ (.int .i64 t274)).setCell ⟨gb281, 1, none⟩ (.int .i64 t275)).setCell ⟨gb281, 2, none⟩ (.int .i64 t276)).setCell ⟨gb281, 3, none⟩ (.int .i64 t277)).setCell ⟨gb281, 4, none⟩ (.int .i64 t278)).setCell ⟨gb281, 5, none⟩ (.int .i64 t279)).heap[gb281]? = some (.cells #[.int .i64 t274, .int .i64 t275, .int .i64 t276, .int .i64 t277, .int .i64 t278, .int .i64 t279] 34 (0, 0))) := ⟨by (with_reducible repeat (first | refine blk_drewN ?_ _ | refine blk_drew ?_ | refine blk_alloc ?_ _)); refine blk_put (cs := #[.int .i64 t274, .int .i64 t275, .int .i64 t276, .int .i64 t277, .int .i64 t278, .int .i64 0]) ?_ 5 _ rfl; (with_reducible repeat (first | refine blk_drewN ?_ _ | refine blk_drew ?_ | refine blk_alloc ?_ _)); refine blk_put (cs := #[.int .i64 t274, .int .i64 t275, .int .i64 t276, .int .i64 t277, .int .i64 0, .int .i64 0]) ?_ 4 _ rfl; (with_reducible repeat (first | refine blk_drewN ?_ _ | refine blk_drew ?_ | refine blk_alloc ?_ _)); refine blk_put (cs := #[.int .i64 t274, .int .i64 t275, .int .i64 t276, .int .i64 0, .int .i64 0, .int .i64 0]) ?_ 3 _ rfl; (with_reducible repeat (first | refine blk_drewN ?_ _ | refine blk_drew ?_ | refine blk_alloc ?_ _)); refine blk_put (cs := #[.int .i64 t274, .int .i64 t275, .int .i64 0, .int .i64 0, .int .i64 0, .int .i64 0]) ?_ 2 _ rfl; (with_reducible repeat (first | refine blk_drewN ?_ _ | refine blk_drew ?_ | refine blk_alloc ?_ _)); refine blk_put (cs := #[.int .i64 t274, .int .i64 0, .int .i64 0, .int .i64 0, .int .i64 0, .int .i64 0]) ?_ 1 _ rfl; (with_reducible repeat (first | refine blk_drewN ?_ _ | refine blk_drew ?_ | refine blk_alloc ?_ _)); refine blk_put (cs := #[.int .i64 0, .int .i64 0, .int .i64 0, .int .i64 0, .int .i64 0, .int .i64 0]) ?_ 0 _ rfl; (with_reducible repeat (first | refine blk_drewN ?_ _ | refine blk_drew ?_ | refine blk_alloc ?_ _)); exact BK281.out⟩
 have n5_ : Aside0 (Below w.heap.size w ((((((w66.setCell ⟨gb281, 0, none⟩ (.int .i64 t274)).setCell ⟨gb281, 1, none⟩ (.int .i64 t275)).setCell ⟨gb281, 2, none⟩ (.int .i64 t276)).setCell ⟨gb281, 3, none⟩ (.int .i64 t277)).setCell ⟨gb281, 4, none⟩ (.int .i64 t278)).setCell ⟨gb281, 5, none⟩ (.int .i64 t279))) := ⟨by repeat (first | (with_reducible first | exact HB.out | apply below_alloc | apply pw_below_drewN | apply below_drew1 | refine below_set ?_ GE243.out | refine below_set ?_ GE244.out | refine below_set ?_ GE253.out | refine below_set ?_ GE267.out | refine below_set ?_ GE281.out) | exact HB.out)⟩
 (try clear BK243)
 (try clear BK244)
 (try clear BK253)
 (try clear BK267)
 (try clear BK281)
 (try clear HB)
 generalize ((((((w66.setCell ⟨gb281, 0, none⟩ (.int .i64 t274)).setCell ⟨gb281, 1, none⟩ (.int .i64 t275)).setCell ⟨gb281, 2, none⟩ (.int .i64 t276)).setCell ⟨gb281, 3, none⟩ (.int .i64 t277)).setCell ⟨gb281, 4, none⟩ (.int .i64 t278)).setCell ⟨gb281, 5, none⟩ (.int .i64 t279)) = w73 at n0_ n1_ n2_ n3_ n4_ n5_ ⊢
 have BK243 := n0_
 have BK244 := n1_
 have BK253 := n2_
 have BK267 := n3_
 have BK281 := n4_
 have HB := n5_
 clear n0_ n1_ n2_ n3_ n4_ n5_
 replace BK243 := Aside0.mk (blk_drew BK243.out)
 replace BK244 := Aside0.mk (blk_drew BK244.out)
 replace BK253 := Aside0.mk (blk_drew BK253.out)
 replace BK267 := Aside0.mk (blk_drew BK267.out)
 replace BK281 := Aside0.mk (blk_drew BK281.out)
 replace HB := Aside0.mk (below_drew1 HB.out)
 refine start_ (n := 9) (S := fun w' => w'.cell? ⟨gb243, 0, none⟩ = some (.int .i64 t235) ∧ w'.cell? ⟨gb243, 1, none⟩ = some (.int .i64 t236) ∧ w'.cell? ⟨gb243, 2, none⟩ = some (.int .i64 t237) ∧ w'.cell? ⟨gb243, 3, none⟩ = some (.int .i64 t238) ∧ w'.cell? ⟨gb243, 4, none⟩ = some (.int .i64 t239) ∧ w'.cell? ⟨gb243, 5, none⟩ = some (.int .i64 t240)) (ds := []) #[false, false, false, false, false, false, false, false, false] (by kernel_rfl) rfl rfl ⟨(blk_cell BK243.out 0).trans rfl, (blk_cell BK243.out 1).trans rfl, (blk_cell BK243.out 2).trans rfl, (blk_cell BK243.out 3).trans rfl, (blk_cell BK243.out 4).trans rfl, (blk_cell BK243.out 5).trans rfl⟩ (fun hHeld => ?_); refine with_tabW laws_FnMoves.tab7 laws_FnMoves.bits7 (fun HT_ HW_ => ?_)
 generalize w73.drew = w74 at BK243 BK244 BK253 BK267 BK281 HB hHeld ⊢
 refine take_ (i := 1) (N := some 38) (v := ?_) (a' := ?_) #[false, true, false, false, false, false, false, false, false] rfl rfl (take_ofW HT_.out HW_.out (by kernel_rfl)) (fun _ _ _ h => h) (Or.inl ⟨by rfl, ?_⟩) hHeld ?_ ?_; rotate_left
 ·rintro w' ⟨s0, s1, s2, s3, s4, s5⟩; go_simp; with_reducible rfl
 rotate_left; (focus (simp only [PS]; rfl))
 refine join_ (σ := Nat) 2 #[true, true, true, true, true, true, true, false, false] (fun s_ => [(37, .agg #[.int .i64 t282, .int .i64 t283, .int .i64 t284, .int .i64 t285, .int .i64 t286, .int .i64 t287]), (39, .tuple #[.agg #[.int .i64 t288, .int .i64 t289, .int .i64 t290, .int .i64 t291, .int .i64 t292, .int .i64 t293], .bool true]), (10, .pointer (some ⟨s_, 0, none⟩)), (36, .tuple #[.agg #[.int .i64 t288, .int .i64 t289, .int .i64 t290, .int .i64 t291, .int .i64 t292, .int .i64 t293], .bool true]), (40, .agg #[.int .i64 t288, .int .i64 t289, .int .i64 t290, .int .i64 t291, .int .i64 t292, .int .i64 t293]), (41, .bool true)]) (fun s_ w' => (w'.cell? ⟨gb243, 0, none⟩ = some (.int .i64 t235) ∧ w'.cell? ⟨gb243, 1, none⟩ = some (.int .i64 t236) ∧ w'.cell? ⟨gb243, 2, none⟩ = some (.int .i64 t237) ∧ w'.cell? ⟨gb243, 3, none⟩ = some (.int .i64 t238) ∧ w'.cell? ⟨gb243, 4, none⟩ = some (.int .i64 t239) ∧ w'.cell? ⟨gb243, 5, none⟩ = some (.int .i64 t240)) ∧ (w'.heap[gb243]? = some (.cells #[.int .i64 t235, .int .i64 t236, .int .i64 t237, .int .i64 t238, .int .i64 t239, .int .i64 t240] 34 (0, 0))) ∧ (w'.heap[gb244]? = some (.cells #[.int .i64 t241, .int .i64 t242] 24 (0, 0))) ∧ (w'.heap[gb253]? = some (.cells #[.int .i64 t251, .int .i64 t252] 24 (0, 0))) ∧ (w'.heap[gb267]? = some (.cells #[.int .i64 t260, .int .i64 t261, .int .i64 t262, .int .i64 t263, .int .i64 t264, .int .i64 t265] 34 (0, 0))) ∧ (w'.heap[gb281]? = some (.cells #[.int .i64 t274, .int .i64 t275, .int .i64 t276, .int .i64 t277, .int .i64 t278, .int .i64 t279] 34 (0, 0))) ∧ (w'.heap[s_]? = some (.cells #[.int .i64 0, .int .i64 0, .int .i64 0, .int .i64 0, .int .i64 0, .int .i64 0] 34 (0, 0))) ∧ (w.heap.size ≤ s_) ∧ (w.heap.size ≤ s_) ∧ (gb243 ≠ s_) ∧ (s_ ≠ gb243) ∧ (gb244 ≠ s_) ∧ (s_ ≠ gb244) ∧ (gb253 ≠ s_) ∧ (s_ ≠ gb253) ∧ (gb267 ≠ s_) ∧ (s_ ≠ gb267) ∧ (gb281 ≠ s_) ∧ (s_ ≠ gb281) ∧ (Below w.heap.size w w')) ?_ ?_
 rotate_left
 ·intro hCont
  refine two_ (i := 0) (j := 6) (Ni := some 37) (Nj := some 10) #[true, true, false, false, false, false, false, false, false] #[false, true, false, false, false, false, true, false, false] rfl rfl rfl rfl (two_of HT_.out (by kernel_rfl)) (by decide) (by decide) (fun K hK => ?_) (fun K hK => ?_)
  ·skip
   refine goes_ Try.func47 (by kernel_rfl) rfl #[.int .i64 5, .int .i64 9] (by rfl) rfl rfl (by (try simp only [List.map_toArray, List.map_cons, List.map_nil]); first | done | rfl | (simp only [List.length_drop, List.length_take]; rfl)) ?_
   with_reducible refine (impl_Shift.calls 5 9 t282 t283 t284 t285 t286 t287 _ A11.out).mono ?_
   rintro e w75 ⟨rfl, hb⟩
   refine ⟨_, rfl, ?_⟩
   replace BK243 := Aside0.mk (blk_below BK243.out hb)
   replace BK244 := Aside0.mk (blk_below BK244.out hb)
   replace BK253 := Aside0.mk (blk_below BK253.out hb)
   replace BK267 := Aside0.mk (blk_below BK267.out hb)
   replace BK281 := Aside0.mk (blk_below BK281.out hb)
   replace HB := Aside0.mk (below_step HB.out hb)
   (try clear hb)
   (try clear hb2)
   (try clear hk)
   (try clear hi)
   refine hK.out _ _ ⟨(blk_cell BK243.out 0).trans rfl, (blk_cell BK243.out 1).trans rfl, (blk_cell BK243.out 2).trans rfl, (blk_cell BK243.out 3).trans rfl, (blk_cell BK243.out 4).trans rfl, (blk_cell BK243.out 5).trans rfl⟩ (fun hHeld => ?_)
   clear hK K
   refine norm_ (a' := ?_) ?_ ?_; rotate_left
   ·show Act.put _ (some 37) _ = _
    simp only [PS]
    rfl
   refine two_ (i := 2) (j := 6) (Ni := some 39) (Nj := some 10) #[true, true, true, false, false, false, false, false, false] #[true, true, false, false, false, false, true, false, false] rfl rfl rfl rfl (two_of HT_.out (by kernel_rfl)) (by decide) (by decide) (fun K hK => ?_) (fun K hK => ?_)
   ·skip
    refine goes_ Try.func48 (by kernel_rfl) rfl #[.agg #[.int .i64 t282, .int .i64 t283, .int .i64 t284, .int .i64 t285, .int .i64 t286, .int .i64 t287], .agg #[.int .i64 t235, .int .i64 t236, .int .i64 t237, .int .i64 t238, .int .i64 t239, .int .i64 t240]] (by rfl) rfl rfl (by (try simp only [List.map_toArray, List.map_cons, List.map_nil]); first | done | rfl | (simp only [List.length_drop, List.length_take]; rfl)) ?_
    with_reducible refine (impl_Compose.calls k t282 t283 t284 t285 t286 t287 t235 t236 t237 t238 t239 t240 t288 t289 t290 t291 t292 t293 true _ A12.out).mono ?_
    rintro e w76 ⟨rfl, hb⟩
    refine ⟨_, rfl, ?_⟩
    replace BK243 := Aside0.mk (blk_below BK243.out hb)
    replace BK244 := Aside0.mk (blk_below BK244.out hb)
    replace BK253 := Aside0.mk (blk_below BK253.out hb)
    replace BK267 := Aside0.mk (blk_below BK267.out hb)
    replace BK281 := Aside0.mk (blk_below BK281.out hb)
    replace HB := Aside0.mk (below_step HB.out hb)
    (try clear hb)
    (try clear hb2)
    (try clear hk)
    (try clear hi)
    refine hK.out _ _ ⟨(blk_cell BK243.out 0).trans rfl, (blk_cell BK243.out 1).trans rfl, (blk_cell BK243.out 2).trans rfl, (blk_cell BK243.out 3).trans rfl, (blk_cell BK243.out 4).trans rfl, (blk_cell BK243.out 5).trans rfl⟩ (fun hHeld => ?_)
    clear hK K
    refine norm_ (a' := ?_) ?_ ?_; rotate_left
    ·show Act.put _ (some 39) _ = _
     simp only [PS]
     rfl
    refine pure_ (i := 3) (N := some 36) (v := ?_) (a' := ?_) #[true, true, true, true, false, false, false, false, false] rfl rfl (any_of HT_.out (by kernel_rfl)) (fun _ _ _ h => h) (Or.inl ⟨by rfl, ?_⟩) ?_ ?_; rotate_left
    ·intro w'; go_simp; with_reducible rfl
    rotate_left; (focus (simp only [PS]; rfl))
    refine pure_ (i := 4) (N := some 40) (v := ?_) (a' := ?_) #[true, true, true, true, true, false, false, false, false] rfl rfl (any_of HT_.out (by kernel_rfl)) (fun _ _ _ h => h) (Or.inl ⟨by rfl, ?_⟩) ?_ ?_; rotate_left
    ·intro w'; go_simp; with_reducible rfl
    rotate_left; (focus (simp only [PS]; rfl))
    refine pure_ (i := 5) (N := some 41) (v := ?_) (a' := ?_) #[true, true, true, true, true, true, false, false, false] rfl rfl (any_of HT_.out (by kernel_rfl)) (fun _ _ _ h => h) (Or.inl ⟨by rfl, ?_⟩) ?_ ?_; rotate_left
    ·intro w'; go_simp; with_reducible rfl
    rotate_left; (focus (simp only [PS]; rfl))
    refine one_ (i := 6) (N := some 10) #[true, true, true, true, true, true, true, false, false] rfl rfl (one_of HT_.out (by kernel_rfl)) (by decide) (fun K hK => ?_)
    refine box_step ?hg (N := 10) ?hd (cs := #[.int .i64 0, .int .i64 0, .int .i64 0, .int .i64 0, .int .i64 0, .int .i64 0]) (t := 34) ?hr ?_; (case hd => rfl); (case hg => rfl); (case hr => first | (go_simp; done) | (go_simp; rfl))
    intro gb295 hg w77 hbox hb
    have BK295 := Aside0.mk (hbox)
    have GW295 := Aside0.mk ((by rw [hg]; exact (below_size HB.out) : w.heap.size ≤ gb295))
    have GE295 := Aside0.mk ((by rw [hg]; exact (below_size HB.out) : w.heap.size ≤ gb295))
    replace HB := Aside0.mk (below_step HB.out hb)
    have NB243_295 := Aside0.mk ((by rw [hg]; exact Nat.ne_of_lt (blk_lt BK243.out) : gb243 ≠ gb295))
    have NB295_243 := Aside0.mk ((by rw [hg]; exact Nat.ne_of_gt (blk_lt BK243.out) : gb295 ≠ gb243))
    replace BK243 := Aside0.mk (blk_below BK243.out hb)
    have NB244_295 := Aside0.mk ((by rw [hg]; exact Nat.ne_of_lt (blk_lt BK244.out) : gb244 ≠ gb295))
    have NB295_244 := Aside0.mk ((by rw [hg]; exact Nat.ne_of_gt (blk_lt BK244.out) : gb295 ≠ gb244))
    replace BK244 := Aside0.mk (blk_below BK244.out hb)
    have NB253_295 := Aside0.mk ((by rw [hg]; exact Nat.ne_of_lt (blk_lt BK253.out) : gb253 ≠ gb295))
    have NB295_253 := Aside0.mk ((by rw [hg]; exact Nat.ne_of_gt (blk_lt BK253.out) : gb295 ≠ gb253))
    replace BK253 := Aside0.mk (blk_below BK253.out hb)
    have NB267_295 := Aside0.mk ((by rw [hg]; exact Nat.ne_of_lt (blk_lt BK267.out) : gb267 ≠ gb295))
    have NB295_267 := Aside0.mk ((by rw [hg]; exact Nat.ne_of_gt (blk_lt BK267.out) : gb295 ≠ gb267))
    replace BK267 := Aside0.mk (blk_below BK267.out hb)
    have NB281_295 := Aside0.mk ((by rw [hg]; exact Nat.ne_of_lt (blk_lt BK281.out) : gb281 ≠ gb295))
    have NB295_281 := Aside0.mk ((by rw [hg]; exact Nat.ne_of_gt (blk_lt BK281.out) : gb295 ≠ gb281))
    replace BK281 := Aside0.mk (blk_below BK281.out hb)
    clear hb hbox hg
    refine hK.out _ _ ⟨(blk_cell BK243.out 0).trans rfl, (blk_cell BK243.out 1).trans rfl, (blk_cell BK243.out 2).trans rfl, (blk_cell BK243.out 3).trans rfl, (blk_cell BK243.out 4).trans rfl, (blk_cell BK243.out 5).trans rfl⟩ (fun hHeld => ?_)
    clear hK K
    refine norm_ (a' := ?_) ?_ ?_; rotate_left
    ·show Act.put _ (some 10) _ = _
     simp only [PS]
     rfl
    exact norm_ (by simp only [putAll, Act.put, List.setIfInBounds_toArray, List.set_cons_zero, List.set_cons_succ]) (hCont (gb295) _ ⟨hHeld, BK243.out, BK244.out, BK253.out, BK267.out, BK281.out, BK295.out, GW295.out, GE295.out, NB243_295.out, NB295_243.out, NB244_295.out, NB295_244.out, NB253_295.out, NB295_253.out, NB267_295.out, NB295_267.out, NB281_295.out, NB295_281.out, HB.out⟩)
   ·skip
    refine box_step ?hg (N := 10) ?hd (cs := #[.int .i64 0, .int .i64 0, .int .i64 0, .int .i64 0, .int .i64 0, .int .i64 0]) (t := 34) ?hr ?_; (case hd => rfl); (case hg => rfl); (case hr => first | (go_simp; done) | (go_simp; rfl))
    intro gb295 hg w76 hbox hb
    have BK295 := Aside0.mk (hbox)
    have GW295 := Aside0.mk ((by rw [hg]; exact (below_size HB.out) : w.heap.size ≤ gb295))
    have GE295 := Aside0.mk ((by rw [hg]; exact (below_size HB.out) : w.heap.size ≤ gb295))
    replace HB := Aside0.mk (below_step HB.out hb)
    have NB243_295 := Aside0.mk ((by rw [hg]; exact Nat.ne_of_lt (blk_lt BK243.out) : gb243 ≠ gb295))
    have NB295_243 := Aside0.mk ((by rw [hg]; exact Nat.ne_of_gt (blk_lt BK243.out) : gb295 ≠ gb243))
    replace BK243 := Aside0.mk (blk_below BK243.out hb)
    have NB244_295 := Aside0.mk ((by rw [hg]; exact Nat.ne_of_lt (blk_lt BK244.out) : gb244 ≠ gb295))
    have NB295_244 := Aside0.mk ((by rw [hg]; exact Nat.ne_of_gt (blk_lt BK244.out) : gb295 ≠ gb244))
    replace BK244 := Aside0.mk (blk_below BK244.out hb)
    have NB253_295 := Aside0.mk ((by rw [hg]; exact Nat.ne_of_lt (blk_lt BK253.out) : gb253 ≠ gb295))
    have NB295_253 := Aside0.mk ((by rw [hg]; exact Nat.ne_of_gt (blk_lt BK253.out) : gb295 ≠ gb253))
    replace BK253 := Aside0.mk (blk_below BK253.out hb)
    have NB267_295 := Aside0.mk ((by rw [hg]; exact Nat.ne_of_lt (blk_lt BK267.out) : gb267 ≠ gb295))
    have NB295_267 := Aside0.mk ((by rw [hg]; exact Nat.ne_of_gt (blk_lt BK267.out) : gb295 ≠ gb267))
    replace BK267 := Aside0.mk (blk_below BK267.out hb)
    have NB281_295 := Aside0.mk ((by rw [hg]; exact Nat.ne_of_lt (blk_lt BK281.out) : gb281 ≠ gb295))
    have NB295_281 := Aside0.mk ((by rw [hg]; exact Nat.ne_of_gt (blk_lt BK281.out) : gb295 ≠ gb281))
    replace BK281 := Aside0.mk (blk_below BK281.out hb)
    clear hb hbox hg
    refine hK.out _ _ ⟨(blk_cell BK243.out 0).trans rfl, (blk_cell BK243.out 1).trans rfl, (blk_cell BK243.out 2).trans rfl, (blk_cell BK243.out 3).trans rfl, (blk_cell BK243.out 4).trans rfl, (blk_cell BK243.out 5).trans rfl⟩ (fun hHeld => ?_)
    clear hK K
    refine norm_ (a' := ?_) ?_ ?_; rotate_left
    ·show Act.put _ (some 10) _ = _
     simp only [PS]
     rfl
    refine one_ (i := 2) (N := some 39) #[true, true, true, false, false, false, true, false, false] rfl rfl (one_of HT_.out (by kernel_rfl)) (by decide) (fun K hK => ?_)
    refine goes_ Try.func48 (by kernel_rfl) rfl #[.agg #[.int .i64 t282, .int .i64 t283, .int .i64 t284, .int .i64 t285, .int .i64 t286, .int .i64 t287], .agg #[.int .i64 t235, .int .i64 t236, .int .i64 t237, .int .i64 t238, .int .i64 t239, .int .i64 t240]] (by rfl) rfl rfl (by (try simp only [List.map_toArray, List.map_cons, List.map_nil]); first | done | rfl | (simp only [List.length_drop, List.length_take]; rfl)) ?_
    with_reducible refine (impl_Compose.calls k t282 t283 t284 t285 t286 t287 t235 t236 t237 t238 t239 t240 t288 t289 t290 t291 t292 t293 true _ A12.out).mono ?_
    rintro e w77 ⟨rfl, hb⟩
    refine ⟨_, rfl, ?_⟩
    replace BK243 := Aside0.mk (blk_below BK243.out hb)
    replace BK244 := Aside0.mk (blk_below BK244.out hb)
    replace BK253 := Aside0.mk (blk_below BK253.out hb)
    replace BK267 := Aside0.mk (blk_below BK267.out hb)
    replace BK281 := Aside0.mk (blk_below BK281.out hb)
    replace BK295 := Aside0.mk (blk_below BK295.out hb)
    replace HB := Aside0.mk (below_step HB.out hb)
    (try clear hb)
    (try clear hb2)
    (try clear hk)
    (try clear hi)
    refine hK.out _ _ ⟨(blk_cell BK243.out 0).trans rfl, (blk_cell BK243.out 1).trans rfl, (blk_cell BK243.out 2).trans rfl, (blk_cell BK243.out 3).trans rfl, (blk_cell BK243.out 4).trans rfl, (blk_cell BK243.out 5).trans rfl⟩ (fun hHeld => ?_)
    clear hK K
    refine norm_ (a' := ?_) ?_ ?_; rotate_left
    ·show Act.put _ (some 39) _ = _
     simp only [PS]
     rfl
    refine pure_ (i := 3) (N := some 36) (v := ?_) (a' := ?_) #[true, true, true, true, false, false, true, false, false] rfl rfl (any_of HT_.out (by kernel_rfl)) (fun _ _ _ h => h) (Or.inl ⟨by rfl, ?_⟩) ?_ ?_; rotate_left
    ·intro w'; go_simp; with_reducible rfl
    rotate_left; (focus (simp only [PS]; rfl))
    refine pure_ (i := 4) (N := some 40) (v := ?_) (a' := ?_) #[true, true, true, true, true, false, true, false, false] rfl rfl (any_of HT_.out (by kernel_rfl)) (fun _ _ _ h => h) (Or.inl ⟨by rfl, ?_⟩) ?_ ?_; rotate_left
    ·intro w'; go_simp; with_reducible rfl
    rotate_left; (focus (simp only [PS]; rfl))
    refine pure_ (i := 5) (N := some 41) (v := ?_) (a' := ?_) #[true, true, true, true, true, true, true, false, false] rfl rfl (any_of HT_.out (by kernel_rfl)) (fun _ _ _ h => h) (Or.inl ⟨by rfl, ?_⟩) ?_ ?_; rotate_left
    ·intro w'; go_simp; with_reducible rfl
    rotate_left; (focus (simp only [PS]; rfl))
    exact norm_ (by simp only [putAll, Act.put, List.setIfInBounds_toArray, List.set_cons_zero, List.set_cons_succ]) (hCont (gb295) _ ⟨hHeld, BK243.out, BK244.out, BK253.out, BK267.out, BK281.out, BK295.out, GW295.out, GE295.out, NB243_295.out, NB295_243.out, NB244_295.out, NB295_244.out, NB253_295.out, NB295_253.out, NB267_295.out, NB295_267.out, NB281_295.out, NB295_281.out, HB.out⟩)
  ·skip
   refine box_step ?hg (N := 10) ?hd (cs := #[.int .i64 0, .int .i64 0, .int .i64 0, .int .i64 0, .int .i64 0, .int .i64 0]) (t := 34) ?hr ?_; (case hd => rfl); (case hg => rfl); (case hr => first | (go_simp; done) | (go_simp; rfl))
   intro gb295 hg w75 hbox hb
   have BK295 := Aside0.mk (hbox)
   have GW295 := Aside0.mk ((by rw [hg]; exact (below_size HB.out) : w.heap.size ≤ gb295))
   have GE295 := Aside0.mk ((by rw [hg]; exact (below_size HB.out) : w.heap.size ≤ gb295))
   replace HB := Aside0.mk (below_step HB.out hb)
   have NB243_295 := Aside0.mk ((by rw [hg]; exact Nat.ne_of_lt (blk_lt BK243.out) : gb243 ≠ gb295))
   have NB295_243 := Aside0.mk ((by rw [hg]; exact Nat.ne_of_gt (blk_lt BK243.out) : gb295 ≠ gb243))
   replace BK243 := Aside0.mk (blk_below BK243.out hb)
   have NB244_295 := Aside0.mk ((by rw [hg]; exact Nat.ne_of_lt (blk_lt BK244.out) : gb244 ≠ gb295))
   have NB295_244 := Aside0.mk ((by rw [hg]; exact Nat.ne_of_gt (blk_lt BK244.out) : gb295 ≠ gb244))
   replace BK244 := Aside0.mk (blk_below BK244.out hb)
   have NB253_295 := Aside0.mk ((by rw [hg]; exact Nat.ne_of_lt (blk_lt BK253.out) : gb253 ≠ gb295))
   have NB295_253 := Aside0.mk ((by rw [hg]; exact Nat.ne_of_gt (blk_lt BK253.out) : gb295 ≠ gb253))
   replace BK253 := Aside0.mk (blk_below BK253.out hb)
   have NB267_295 := Aside0.mk ((by rw [hg]; exact Nat.ne_of_lt (blk_lt BK267.out) : gb267 ≠ gb295))
   have NB295_267 := Aside0.mk ((by rw [hg]; exact Nat.ne_of_gt (blk_lt BK267.out) : gb295 ≠ gb267))
   replace BK267 := Aside0.mk (blk_below BK267.out hb)
   have NB281_295 := Aside0.mk ((by rw [hg]; exact Nat.ne_of_lt (blk_lt BK281.out) : gb281 ≠ gb295))
   have NB295_281 := Aside0.mk ((by rw [hg]; exact Nat.ne_of_gt (blk_lt BK281.out) : gb295 ≠ gb281))
   replace BK281 := Aside0.mk (blk_below BK281.out hb)
   clear hb hbox hg
   refine hK.out _ _ ⟨(blk_cell BK243.out 0).trans rfl, (blk_cell BK243.out 1).trans rfl, (blk_cell BK243.out 2).trans rfl, (blk_cell BK243.out 3).trans rfl, (blk_cell BK243.out 4).trans rfl, (blk_cell BK243.out 5).trans rfl⟩ (fun hHeld => ?_)
   clear hK K
   refine norm_ (a' := ?_) ?_ ?_; rotate_left
   ·show Act.put _ (some 10) _ = _
    simp only [PS]
    rfl
   refine one_ (i := 0) (N := some 37) #[true, true, false, false, false, false, true, false, false] rfl rfl (one_of HT_.out (by kernel_rfl)) (by decide) (fun K hK => ?_)
   refine goes_ Try.func47 (by kernel_rfl) rfl #[.int .i64 5, .int .i64 9] (by rfl) rfl rfl (by (try simp only [List.map_toArray, List.map_cons, List.map_nil]); first | done | rfl | (simp only [List.length_drop, List.length_take]; rfl)) ?_
   with_reducible refine (impl_Shift.calls 5 9 t282 t283 t284 t285 t286 t287 _ A11.out).mono ?_
   rintro e w76 ⟨rfl, hb⟩
   refine ⟨_, rfl, ?_⟩
   replace BK243 := Aside0.mk (blk_below BK243.out hb)
   replace BK244 := Aside0.mk (blk_below BK244.out hb)
   replace BK253 := Aside0.mk (blk_below BK253.out hb)
   replace BK267 := Aside0.mk (blk_below BK267.out hb)
   replace BK281 := Aside0.mk (blk_below BK281.out hb)
   replace BK295 := Aside0.mk (blk_below BK295.out hb)
   replace HB := Aside0.mk (below_step HB.out hb)
   (try clear hb)
   (try clear hb2)
   (try clear hk)
   (try clear hi)
   refine hK.out _ _ ⟨(blk_cell BK243.out 0).trans rfl, (blk_cell BK243.out 1).trans rfl, (blk_cell BK243.out 2).trans rfl, (blk_cell BK243.out 3).trans rfl, (blk_cell BK243.out 4).trans rfl, (blk_cell BK243.out 5).trans rfl⟩ (fun hHeld => ?_)
   clear hK K
   refine norm_ (a' := ?_) ?_ ?_; rotate_left
   ·show Act.put _ (some 37) _ = _
    simp only [PS]
    rfl
   refine one_ (i := 2) (N := some 39) #[true, true, true, false, false, false, true, false, false] rfl rfl (one_of HT_.out (by kernel_rfl)) (by decide) (fun K hK => ?_)
   refine goes_ Try.func48 (by kernel_rfl) rfl #[.agg #[.int .i64 t282, .int .i64 t283, .int .i64 t284, .int .i64 t285, .int .i64 t286, .int .i64 t287], .agg #[.int .i64 t235, .int .i64 t236, .int .i64 t237, .int .i64 t238, .int .i64 t239, .int .i64 t240]] (by rfl) rfl rfl (by (try simp only [List.map_toArray, List.map_cons, List.map_nil]); first | done | rfl | (simp only [List.length_drop, List.length_take]; rfl)) ?_
   with_reducible refine (impl_Compose.calls k t282 t283 t284 t285 t286 t287 t235 t236 t237 t238 t239 t240 t288 t289 t290 t291 t292 t293 true _ A12.out).mono ?_
   rintro e w77 ⟨rfl, hb⟩
   refine ⟨_, rfl, ?_⟩
   replace BK243 := Aside0.mk (blk_below BK243.out hb)
   replace BK244 := Aside0.mk (blk_below BK244.out hb)
   replace BK253 := Aside0.mk (blk_below BK253.out hb)
   replace BK267 := Aside0.mk (blk_below BK267.out hb)
   replace BK281 := Aside0.mk (blk_below BK281.out hb)
   replace BK295 := Aside0.mk (blk_below BK295.out hb)
   replace HB := Aside0.mk (below_step HB.out hb)
   (try clear hb)
   (try clear hb2)
   (try clear hk)
   (try clear hi)
   refine hK.out _ _ ⟨(blk_cell BK243.out 0).trans rfl, (blk_cell BK243.out 1).trans rfl, (blk_cell BK243.out 2).trans rfl, (blk_cell BK243.out 3).trans rfl, (blk_cell BK243.out 4).trans rfl, (blk_cell BK243.out 5).trans rfl⟩ (fun hHeld => ?_)
   clear hK K
   refine norm_ (a' := ?_) ?_ ?_; rotate_left
   ·show Act.put _ (some 39) _ = _
    simp only [PS]
    rfl
   refine pure_ (i := 3) (N := some 36) (v := ?_) (a' := ?_) #[true, true, true, true, false, false, true, false, false] rfl rfl (any_of HT_.out (by kernel_rfl)) (fun _ _ _ h => h) (Or.inl ⟨by rfl, ?_⟩) ?_ ?_; rotate_left
   ·intro w'; go_simp; with_reducible rfl
   rotate_left; (focus (simp only [PS]; rfl))
   refine pure_ (i := 4) (N := some 40) (v := ?_) (a' := ?_) #[true, true, true, true, true, false, true, false, false] rfl rfl (any_of HT_.out (by kernel_rfl)) (fun _ _ _ h => h) (Or.inl ⟨by rfl, ?_⟩) ?_ ?_; rotate_left
   ·intro w'; go_simp; with_reducible rfl
   rotate_left; (focus (simp only [PS]; rfl))
   refine pure_ (i := 5) (N := some 41) (v := ?_) (a' := ?_) #[true, true, true, true, true, true, true, false, false] rfl rfl (any_of HT_.out (by kernel_rfl)) (fun _ _ _ h => h) (Or.inl ⟨by rfl, ?_⟩) ?_ ?_; rotate_left
   ·intro w'; go_simp; with_reducible rfl
   rotate_left; (focus (simp only [PS]; rfl))
   exact norm_ (by simp only [putAll, Act.put, List.setIfInBounds_toArray, List.set_cons_zero, List.set_cons_succ]) (hCont (gb295) _ ⟨hHeld, BK243.out, BK244.out, BK253.out, BK267.out, BK281.out, BK295.out, GW295.out, GE295.out, NB243_295.out, NB295_243.out, NB244_295.out, NB295_244.out, NB253_295.out, NB295_253.out, NB267_295.out, NB295_267.out, NB281_295.out, NB295_281.out, HB.out⟩)
 rintro gb295 w78 ⟨hS_, h0_, h1_, h2_, h3_, h4_, h5_, h6_, h7_, h8_, h9_, h10_, h11_, h12_, h13_, h14_, h15_, h16_, h17_, h18_⟩
 have n0_ : Aside0 (w78.heap[gb243]? = some (.cells #[.int .i64 t235, .int .i64 t236, .int .i64 t237, .int .i64 t238, .int .i64 t239, .int .i64 t240] 34 (0, 0))) := ⟨h0_⟩
 have n1_ : Aside0 (w78.heap[gb244]? = some (.cells #[.int .i64 t241, .int .i64 t242] 24 (0, 0))) := ⟨h1_⟩
 have n2_ : Aside0 (w78.heap[gb253]? = some (.cells #[.int .i64 t251, .int .i64 t252] 24 (0, 0))) := ⟨h2_⟩
 have n3_ : Aside0 (w78.heap[gb267]? = some (.cells #[.int .i64 t260, .int .i64 t261, .int .i64 t262, .int .i64 t263, .int .i64 t264, .int .i64 t265] 34 (0, 0))) := ⟨h3_⟩
 have n4_ : Aside0 (w78.heap[gb281]? = some (.cells #[.int .i64 t274, .int .i64 t275, .int .i64 t276, .int .i64 t277, .int .i64 t278, .int .i64 t279] 34 (0, 0))) := ⟨h4_⟩
 have n5_ : Aside0 (w78.heap[gb295]? = some (.cells #[.int .i64 0, .int .i64 0, .int .i64 0, .int .i64 0, .int .i64 0, .int .i64 0] 34 (0, 0))) := ⟨h5_⟩
 have n6_ : Aside0 (w.heap.size ≤ gb295) := ⟨h6_⟩
 have n7_ : Aside0 (w.heap.size ≤ gb295) := ⟨h7_⟩
 have n8_ : Aside0 (gb243 ≠ gb295) := ⟨h8_⟩
 have n9_ : Aside0 (gb295 ≠ gb243) := ⟨h9_⟩
 have n10_ : Aside0 (gb244 ≠ gb295) := ⟨h10_⟩
 have n11_ : Aside0 (gb295 ≠ gb244) := ⟨h11_⟩
 have n12_ : Aside0 (gb253 ≠ gb295) := ⟨h12_⟩
 have n13_ : Aside0 (gb295 ≠ gb253) := ⟨h13_⟩
 have n14_ : Aside0 (gb267 ≠ gb295) := ⟨h14_⟩
 have n15_ : Aside0 (gb295 ≠ gb267) := ⟨h15_⟩
 have n16_ : Aside0 (gb281 ≠ gb295) := ⟨h16_⟩
 have n17_ : Aside0 (gb295 ≠ gb281) := ⟨h17_⟩
 have n18_ : Aside0 (Below w.heap.size w w78) := ⟨h18_⟩
 clear BK243
 clear BK244
 clear BK253
 clear BK267
 clear BK281
 clear HB
 clear h0_ h1_ h2_ h3_ h4_ h5_ h6_ h7_ h8_ h9_ h10_ h11_ h12_ h13_ h14_ h15_ h16_ h17_ h18_
 have BK243 := n0_
 have BK244 := n1_
 have BK253 := n2_
 have BK267 := n3_
 have BK281 := n4_
 have BK295 := n5_
 have GW295 := n6_
 have GE295 := n7_
 have NB243_295 := n8_
 have NB295_243 := n9_
 have NB244_295 := n10_
 have NB295_244 := n11_
 have NB253_295 := n12_
 have NB295_253 := n13_
 have NB267_295 := n14_
 have NB295_267 := n15_
 have NB281_295 := n16_
 have NB295_281 := n17_
 have HB := n18_
 clear n0_ n1_ n2_ n3_ n4_ n5_ n6_ n7_ n8_ n9_ n10_ n11_ n12_ n13_ n14_ n15_ n16_ n17_ n18_
 have hHeld : w78.cell? ⟨gb243, 0, none⟩ = some (.int .i64 t235) ∧ w78.cell? ⟨gb243, 1, none⟩ = some (.int .i64 t236) ∧ w78.cell? ⟨gb243, 2, none⟩ = some (.int .i64 t237) ∧ w78.cell? ⟨gb243, 3, none⟩ = some (.int .i64 t238) ∧ w78.cell? ⟨gb243, 4, none⟩ = some (.int .i64 t239) ∧ w78.cell? ⟨gb243, 5, none⟩ = some (.int .i64 t240) := hS_
 refine norm_ (a' := ?_) ?_ ?_; rotate_left
 ·simp only [putAll, Act.put, List.setIfInBounds_toArray, List.set_cons_zero, List.set_cons_succ]
  rfl
 refine one_ (i := 7) (N := none) #[true, true, true, true, true, true, true, true, false] rfl rfl (one_of HT_.out (by kernel_rfl)) (by decide) (fun K hK => ?_)
 have hs79 : w78.cell? ⟨gb295, 0, none⟩ = some (.int .i64 0) := (blk_cell BK295.out 0).trans rfl
 have hfs79 := blk_frozen BK295.out 0
 have hns79_0 := NB243_295.out
 have hns79_1 := NB244_295.out
 have hns79_2 := NB253_295.out
 have hns79_3 := NB267_295.out
 have hns79_4 := NB281_295.out
 have hms79_0 := NB295_243.out
 have hms79_1 := NB295_244.out
 have hms79_2 := NB295_253.out
 have hms79_3 := NB295_267.out
 have hms79_4 := NB295_281.out
 have hs80 : w78.cell? ⟨gb295, 1, none⟩ = some (.int .i64 0) := (blk_cell BK295.out 1).trans rfl
 have hfs80 := blk_frozen BK295.out 1
 have hns80_0 := NB243_295.out
 have hns80_1 := NB244_295.out
 have hns80_2 := NB253_295.out
 have hns80_3 := NB267_295.out
 have hns80_4 := NB281_295.out
 have hms80_0 := NB295_243.out
 have hms80_1 := NB295_244.out
 have hms80_2 := NB295_253.out
 have hms80_3 := NB295_267.out
 have hms80_4 := NB295_281.out
 have hs81 : w78.cell? ⟨gb295, 2, none⟩ = some (.int .i64 0) := (blk_cell BK295.out 2).trans rfl
 have hfs81 := blk_frozen BK295.out 2
 have hns81_0 := NB243_295.out
 have hns81_1 := NB244_295.out
 have hns81_2 := NB253_295.out
 have hns81_3 := NB267_295.out
 have hns81_4 := NB281_295.out
 have hms81_0 := NB295_243.out
 have hms81_1 := NB295_244.out
 have hms81_2 := NB295_253.out
 have hms81_3 := NB295_267.out
 have hms81_4 := NB295_281.out
 have hs82 : w78.cell? ⟨gb295, 3, none⟩ = some (.int .i64 0) := (blk_cell BK295.out 3).trans rfl
 have hfs82 := blk_frozen BK295.out 3
 have hns82_0 := NB243_295.out
 have hns82_1 := NB244_295.out
 have hns82_2 := NB253_295.out
 have hns82_3 := NB267_295.out
 have hns82_4 := NB281_295.out
 have hms82_0 := NB295_243.out
 have hms82_1 := NB295_244.out
 have hms82_2 := NB295_253.out
 have hms82_3 := NB295_267.out
 have hms82_4 := NB295_281.out
 have hs83 : w78.cell? ⟨gb295, 4, none⟩ = some (.int .i64 0) := (blk_cell BK295.out 4).trans rfl
 have hfs83 := blk_frozen BK295.out 4
 have hns83_0 := NB243_295.out
 have hns83_1 := NB244_295.out
 have hns83_2 := NB253_295.out
 have hns83_3 := NB267_295.out
 have hns83_4 := NB281_295.out
 have hms83_0 := NB295_243.out
 have hms83_1 := NB295_244.out
 have hms83_2 := NB295_253.out
 have hms83_3 := NB295_267.out
 have hms83_4 := NB295_281.out
 have hs84 : w78.cell? ⟨gb295, 5, none⟩ = some (.int .i64 0) := (blk_cell BK295.out 5).trans rfl
 have hfs84 := blk_frozen BK295.out 5
 have hns84_0 := NB243_295.out
 have hns84_1 := NB244_295.out
 have hns84_2 := NB253_295.out
 have hns84_3 := NB267_295.out
 have hns84_4 := NB281_295.out
 have hms84_0 := NB295_243.out
 have hms84_1 := NB295_244.out
 have hms84_2 := NB295_253.out
 have hms84_3 := NB295_267.out
 have hms84_4 := NB295_281.out
 refine skip_ (w1 := ?_) (by rfl) rfl ?_ ?_; rotate_left
 ·go_simp
  rfl
 refine hK.out _ _ ⟨((cell_far (p := ⟨gb295, _, none⟩) NB243_295.out _).trans (((cell_far (p := ⟨gb295, _, none⟩) NB243_295.out _).trans (((cell_far (p := ⟨gb295, _, none⟩) NB243_295.out _).trans (((cell_far (p := ⟨gb295, _, none⟩) NB243_295.out _).trans (((cell_far (p := ⟨gb295, _, none⟩) NB243_295.out _).trans (((cell_far (p := ⟨gb295, _, none⟩) NB243_295.out _).trans (hHeld.1)))))))))))), ((cell_far (p := ⟨gb295, _, none⟩) NB243_295.out _).trans (((cell_far (p := ⟨gb295, _, none⟩) NB243_295.out _).trans (((cell_far (p := ⟨gb295, _, none⟩) NB243_295.out _).trans (((cell_far (p := ⟨gb295, _, none⟩) NB243_295.out _).trans (((cell_far (p := ⟨gb295, _, none⟩) NB243_295.out _).trans (((cell_far (p := ⟨gb295, _, none⟩) NB243_295.out _).trans (hHeld.2.1)))))))))))), ((cell_far (p := ⟨gb295, _, none⟩) NB243_295.out _).trans (((cell_far (p := ⟨gb295, _, none⟩) NB243_295.out _).trans (((cell_far (p := ⟨gb295, _, none⟩) NB243_295.out _).trans (((cell_far (p := ⟨gb295, _, none⟩) NB243_295.out _).trans (((cell_far (p := ⟨gb295, _, none⟩) NB243_295.out _).trans (((cell_far (p := ⟨gb295, _, none⟩) NB243_295.out _).trans (hHeld.2.2.1)))))))))))), ((cell_far (p := ⟨gb295, _, none⟩) NB243_295.out _).trans (((cell_far (p := ⟨gb295, _, none⟩) NB243_295.out _).trans (((cell_far (p := ⟨gb295, _, none⟩) NB243_295.out _).trans (((cell_far (p := ⟨gb295, _, none⟩) NB243_295.out _).trans (((cell_far (p := ⟨gb295, _, none⟩) NB243_295.out _).trans (((cell_far (p := ⟨gb295, _, none⟩) NB243_295.out _).trans (hHeld.2.2.2.1)))))))))))), ((cell_far (p := ⟨gb295, _, none⟩) NB243_295.out _).trans (((cell_far (p := ⟨gb295, _, none⟩) NB243_295.out _).trans (((cell_far (p := ⟨gb295, _, none⟩) NB243_295.out _).trans (((cell_far (p := ⟨gb295, _, none⟩) NB243_295.out _).trans (((cell_far (p := ⟨gb295, _, none⟩) NB243_295.out _).trans (((cell_far (p := ⟨gb295, _, none⟩) NB243_295.out _).trans (hHeld.2.2.2.2.1)))))))))))), ((cell_far (p := ⟨gb295, _, none⟩) NB243_295.out _).trans (((cell_far (p := ⟨gb295, _, none⟩) NB243_295.out _).trans (((cell_far (p := ⟨gb295, _, none⟩) NB243_295.out _).trans (((cell_far (p := ⟨gb295, _, none⟩) NB243_295.out _).trans (((cell_far (p := ⟨gb295, _, none⟩) NB243_295.out _).trans (((cell_far (p := ⟨gb295, _, none⟩) NB243_295.out _).trans (hHeld.2.2.2.2.2))))))))))))⟩ (fun hHeld => ?_)
 clear hK K
 refine pure_ (i := 8) (N := some 11) (v := ?_) (a' := ?_) #[true, true, true, true, true, true, true, true, true] rfl rfl (any_of HT_.out (by kernel_rfl)) (fun _ _ _ h => h) (Or.inl ⟨by rfl, ?_⟩) ?_ ?_; rotate_left
 ·intro w'; go_simp; with_reducible rfl
 rotate_left; (focus (simp only [PS]; rfl))
 refine done_ (done_of HT_.out (by kernel_rfl)) ?_
 have hnb85 := NB243_253.out
 have hnc85 := NB253_243.out
 have hnb86 := NB243_267.out
 have hnc86 := NB267_243.out
 have hnb87 := NB243_281.out
 have hnc87 := NB281_243.out
 have hnb88 := NB243_295.out
 have hnc88 := NB295_243.out
 have hcz89_0 : w78.cell? ⟨gb243, 0, none⟩ = some (.int .i64 t235) := (blk_cell BK243.out 0).trans rfl
 have hcz89_1 : w78.cell? ⟨gb243, 1, none⟩ = some (.int .i64 t236) := (blk_cell BK243.out 1).trans rfl
 have hcz89_2 : w78.cell? ⟨gb243, 2, none⟩ = some (.int .i64 t237) := (blk_cell BK243.out 2).trans rfl
 have hcz89_3 : w78.cell? ⟨gb243, 3, none⟩ = some (.int .i64 t238) := (blk_cell BK243.out 3).trans rfl
 have hcz89_4 : w78.cell? ⟨gb243, 4, none⟩ = some (.int .i64 t239) := (blk_cell BK243.out 4).trans rfl
 have hcz89_5 : w78.cell? ⟨gb243, 5, none⟩ = some (.int .i64 t240) := (blk_cell BK243.out 5).trans rfl
 have hfz89_0 := blk_frozen BK243.out 0
 have hfz89_1 := blk_frozen BK243.out 1
 have hfz89_2 := blk_frozen BK243.out 2
 have hfz89_3 := blk_frozen BK243.out 3
 have hfz89_4 := blk_frozen BK243.out 4
 have hfz89_5 := blk_frozen BK243.out 5
 have hnb90 := NB244_253.out
 have hnc90 := NB253_244.out
 have hnb91 := NB244_267.out
 have hnc91 := NB267_244.out
 have hnb92 := NB244_281.out
 have hnc92 := NB281_244.out
 have hnb93 := NB244_295.out
 have hnc93 := NB295_244.out
 have hcz94_0 : w78.cell? ⟨gb244, 0, none⟩ = some (.int .i64 t241) := (blk_cell BK244.out 0).trans rfl
 have hcz94_1 : w78.cell? ⟨gb244, 1, none⟩ = some (.int .i64 t242) := (blk_cell BK244.out 1).trans rfl
 have hfz94_0 := blk_frozen BK244.out 0
 have hfz94_1 := blk_frozen BK244.out 1
 try go_wp2_with (first | ((with_reducible refine gate_callee (f := 22) rfl ?_); refine goesL_ (some 44) rfl rfl Try.func22 (by kernel_rfl) rfl #[.agg #[.int .i64 t235, .int .i64 t236, .int .i64 t237, .int .i64 t238, .int .i64 t239, .int .i64 t240], .agg #[.int .i64 t241, .int .i64 t242]] rfl (by (try simp only [List.map_toArray, List.map_cons, List.map_nil]); first | done | rfl | (simp only [List.length_drop, List.length_take]; rfl)) ?_; (with_reducible refine (impl_Apply.calls t235 t236 t237 t238 t239 t240 t241 t242 t296 t297 _ A13.out).mono ?_); rintro e w95 ⟨rfl, hb⟩; refine ⟨_, rfl, ?_⟩; have n0_ := Aside0.mk (blk_below (g := gb243) (o := .cells #[.int .i64 t235, .int .i64 t236, .int .i64 t237, .int .i64 t238, .int .i64 t239, .int .i64 t240] 34 (0, 0)) (by (with_reducible repeat (first | refine blk_drewN ?_ _ | refine blk_drew ?_ | refine blk_alloc ?_ _)); refine blk_far ?_ NB243_295.out _; (with_reducible repeat (first | refine blk_drewN ?_ _ | refine blk_drew ?_ | refine blk_alloc ?_ _)); refine blk_far ?_ NB243_295.out _; (with_reducible repeat (first | refine blk_drewN ?_ _ | refine blk_drew ?_ | refine blk_alloc ?_ _)); refine blk_far ?_ NB243_295.out _; (with_reducible repeat (first | refine blk_drewN ?_ _ | refine blk_drew ?_ | refine blk_alloc ?_ _)); refine blk_far ?_ NB243_295.out _; (with_reducible repeat (first | refine blk_drewN ?_ _ | refine blk_drew ?_ | refine blk_alloc ?_ _)); refine blk_far ?_ NB243_295.out _; (with_reducible repeat (first | refine blk_drewN ?_ _ | refine blk_drew ?_ | refine blk_alloc ?_ _)); refine blk_far ?_ NB243_295.out _; (with_reducible repeat (first | refine blk_drewN ?_ _ | refine blk_drew ?_ | refine blk_alloc ?_ _)); exact BK243.out) hb); have n1_ := Aside0.mk (blk_below (g := gb244) (o := .cells #[.int .i64 t241, .int .i64 t242] 24 (0, 0)) (by (with_reducible repeat (first | refine blk_drewN ?_ _ | refine blk_drew ?_ | refine blk_alloc ?_ _)); refine blk_far ?_ NB244_295.out _; (with_reducible repeat (first | refine blk_drewN ?_ _ | refine blk_drew ?_ | refine blk_alloc ?_ _)); refine blk_far ?_ NB244_295.out _; (with_reducible repeat (first | refine blk_drewN ?_ _ | refine blk_drew ?_ | refine blk_alloc ?_ _)); refine blk_far ?_ NB244_295.out _; (with_reducible repeat (first | refine blk_drewN ?_ _ | refine blk_drew ?_ | refine blk_alloc ?_ _)); refine blk_far ?_ NB244_295.out _; (with_reducible repeat (first | refine blk_drewN ?_ _ | refine blk_drew ?_ | refine blk_alloc ?_ _)); refine blk_far ?_ NB244_295.out _; (with_reducible repeat (first | refine blk_drewN ?_ _ | refine blk_drew ?_ | refine blk_alloc ?_ _)); refine blk_far ?_ NB244_295.out _; (with_reducible repeat (first | refine blk_drewN ?_ _ | refine blk_drew ?_ | refine blk_alloc ?_ _)); exact BK244.out) hb); have n2_ := Aside0.mk (blk_below (g := gb253) (o := .cells #[.int .i64 t251, .int .i64 t252] 24 (0, 0)) (by (with_reducible repeat (first | refine blk_drewN ?_ _ | refine blk_drew ?_ | refine blk_alloc ?_ _)); refine blk_far ?_ NB253_295.out _; (with_reducible repeat (first | refine blk_drewN ?_ _ | refine blk_drew ?_ | refine blk_alloc ?_ _)); refine blk_far ?_ NB253_295.out _; (with_reducible repeat (first | refine blk_drewN ?_ _ | refine blk_drew ?_ | refine blk_alloc ?_ _)); refine blk_far ?_ NB253_295.out _; (with_reducible repeat (first | refine blk_drewN ?_ _ | refine blk_drew ?_ | refine blk_alloc ?_ _)); refine blk_far ?_ NB253_295.out _; (with_reducible repeat (first | refine blk_drewN ?_ _ | refine blk_drew ?_ | refine blk_alloc ?_ _)); refine blk_far ?_ NB253_295.out _; (with_reducible repeat (first | refine blk_drewN ?_ _ | refine blk_drew ?_ | refine blk_alloc ?_ _)); refine blk_far ?_ NB253_295.out _; (with_reducible repeat (first | refine blk_drewN ?_ _ | refine blk_drew ?_ | refine blk_alloc ?_ _)); exact BK253.out) hb); have n3_ := Aside0.mk (blk_below (g := gb267) (o := .cells #[.int .i64 t260, .int .i64 t261, .int .i64 t262, .int .i64 t263, .int .i64 t264, .int .i64 t265] 34 (0, 0)) (by (with_reducible repeat (first | refine blk_drewN ?_ _ | refine blk_drew ?_ | refine blk_alloc ?_ _)); refine blk_far ?_ NB267_295.out _; (with_reducible repeat (first | refine blk_drewN ?_ _ | refine blk_drew ?_ | refine blk_alloc ?_ _)); refine blk_far ?_ NB267_295.out _; (with_reducible repeat (first | refine blk_drewN ?_ _ | refine blk_drew ?_ | refine blk_alloc ?_ _)); refine blk_far ?_ NB267_295.out _; (with_reducible repeat (first | refine blk_drewN ?_ _ | refine blk_drew ?_ | refine blk_alloc ?_ _)); refine blk_far ?_ NB267_295.out _; (with_reducible repeat (first | refine blk_drewN ?_ _ | refine blk_drew ?_ | refine blk_alloc ?_ _)); refine blk_far ?_ NB267_295.out _; (with_reducible repeat (first | refine blk_drewN ?_ _ | refine blk_drew ?_ | refine blk_alloc ?_ _)); refine blk_far ?_ NB267_295.out _; (with_reducible repeat (first | refine blk_drewN ?_ _ | refine blk_drew ?_ | refine blk_alloc ?_ _)); exact BK267.out) hb); have n4_ := Aside0.mk (blk_below (g := gb281) (o := .cells #[.int .i64 t274, .int .i64 t275, .int .i64 t276, .int .i64 t277, .int .i64 t278, .int .i64 t279] 34 (0, 0)) (by (with_reducible repeat (first | refine blk_drewN ?_ _ | refine blk_drew ?_ | refine blk_alloc ?_ _)); refine blk_far ?_ NB281_295.out _; (with_reducible repeat (first | refine blk_drewN ?_ _ | refine blk_drew ?_ | refine blk_alloc ?_ _)); refine blk_far ?_ NB281_295.out _; (with_reducible repeat (first | refine blk_drewN ?_ _ | refine blk_drew ?_ | refine blk_alloc ?_ _)); refine blk_far ?_ NB281_295.out _; (with_reducible repeat (first | refine blk_drewN ?_ _ | refine blk_drew ?_ | refine blk_alloc ?_ _)); refine blk_far ?_ NB281_295.out _; (with_reducible repeat (first | refine blk_drewN ?_ _ | refine blk_drew ?_ | refine blk_alloc ?_ _)); refine blk_far ?_ NB281_295.out _; (with_reducible repeat (first | refine blk_drewN ?_ _ | refine blk_drew ?_ | refine blk_alloc ?_ _)); refine blk_far ?_ NB281_295.out _; (with_reducible repeat (first | refine blk_drewN ?_ _ | refine blk_drew ?_ | refine blk_alloc ?_ _)); exact BK281.out) hb); have n5_ := Aside0.mk (blk_below (g := gb295) (o := .cells #[.int .i64 t288, .int .i64 t289, .int .i64 t290, .int .i64 t291, .int .i64 t292, .int .i64 t293] 34 (0, 0)) (by (with_reducible repeat (first | refine blk_drewN ?_ _ | refine blk_drew ?_ | refine blk_alloc ?_ _)); refine blk_put (cs := #[.int .i64 t288, .int .i64 t289, .int .i64 t290, .int .i64 t291, .int .i64 t292, .int .i64 0]) ?_ 5 _ rfl; (with_reducible repeat (first | refine blk_drewN ?_ _ | refine blk_drew ?_ | refine blk_alloc ?_ _)); refine blk_put (cs := #[.int .i64 t288, .int .i64 t289, .int .i64 t290, .int .i64 t291, .int .i64 0, .int .i64 0]) ?_ 4 _ rfl; (with_reducible repeat (first | refine blk_drewN ?_ _ | refine blk_drew ?_ | refine blk_alloc ?_ _)); refine blk_put (cs := #[.int .i64 t288, .int .i64 t289, .int .i64 t290, .int .i64 0, .int .i64 0, .int .i64 0]) ?_ 3 _ rfl; (with_reducible repeat (first | refine blk_drewN ?_ _ | refine blk_drew ?_ | refine blk_alloc ?_ _)); refine blk_put (cs := #[.int .i64 t288, .int .i64 t289, .int .i64 0, .int .i64 0, .int .i64 0, .int .i64 0]) ?_ 2 _ rfl; (with_reducible repeat (first | refine blk_drewN ?_ _ | refine blk_drew ?_ | refine blk_alloc ?_ _)); refine blk_put (cs := #[.int .i64 t288, .int .i64 0, .int .i64 0, .int .i64 0, .int .i64 0, .int .i64 0]) ?_ 1 _ rfl; (with_reducible repeat (first | refine blk_drewN ?_ _ | refine blk_drew ?_ | refine blk_alloc ?_ _)); refine blk_put (cs := #[.int .i64 0, .int .i64 0, .int .i64 0, .int .i64 0, .int .i64 0, .int .i64 0]) ?_ 0 _ rfl; (with_reducible repeat (first | refine blk_drewN ?_ _ | refine blk_drew ?_ | refine blk_alloc ?_ _)); exact BK295.out) hb); have n6_ := Aside0.mk (below_step (by repeat (first | (with_reducible first | exact HB.out | apply below_alloc | apply pw_below_drewN | apply below_drew1 | refine below_set ?_ GE243.out | refine below_set ?_ GE244.out | refine below_set ?_ GE253.out | refine below_set ?_ GE267.out | refine below_set ?_ GE281.out | refine below_set ?_ GE295.out) | exact HB.out)) hb); clear BK243; clear BK244; clear BK253; clear BK267; clear BK281; clear BK295; clear HB; have BK243 := n0_; have BK244 := n1_; have BK253 := n2_; have BK267 := n3_; have BK281 := n4_; have BK295 := n5_; have HB := n6_; clear n0_ n1_ n2_ n3_ n4_ n5_ n6_; (try clear hb); (try clear hb2); (try clear hk); (try clear hi)) | ((with_reducible refine gate_dst (N := 12) rfl ?_); refine box_event ?hg (N := 12) ?hd (cs := #[.int .i64 0, .int .i64 0]) (t := 24) ?hr ?_; (case hd => rfl); (case hg => rfl); (case hr => first | (go_simp; done) | (go_simp; rfl)); intro gb298 hg w96 hbox hb; have n0_ := Aside0.mk (blk_below BK243.out hb); have n1_ := Aside0.mk (blk_below BK244.out hb); have n2_ := Aside0.mk (blk_below BK253.out hb); have n3_ := Aside0.mk (blk_below BK267.out hb); have n4_ := Aside0.mk (blk_below BK281.out hb); have n5_ := Aside0.mk (blk_below BK295.out hb); have n6_ := Aside0.mk (below_step (by repeat (first | (with_reducible first | exact HB.out | apply below_alloc | apply pw_below_drewN | apply below_drew1 | refine below_set ?_ GE243.out | refine below_set ?_ GE244.out | refine below_set ?_ GE253.out | refine below_set ?_ GE267.out | refine below_set ?_ GE281.out | refine below_set ?_ GE295.out) | exact HB.out)) hb); have n7_ := Aside0.mk (hbox); have n8_ := Aside0.mk ((by rw [hg]; exact (below_size (by repeat (first | (with_reducible first | exact HB.out | apply below_alloc | apply pw_below_drewN | apply below_drew1 | refine below_set ?_ GE243.out | refine below_set ?_ GE244.out | refine below_set ?_ GE253.out | refine below_set ?_ GE267.out | refine below_set ?_ GE281.out | refine below_set ?_ GE295.out) | exact HB.out))) : w.heap.size ≤ gb298)); have n9_ := Aside0.mk ((by rw [hg]; exact (below_size (by repeat (first | (with_reducible first | exact HB.out | apply below_alloc | apply pw_below_drewN | apply below_drew1 | refine below_set ?_ GE243.out | refine below_set ?_ GE244.out | refine below_set ?_ GE253.out | refine below_set ?_ GE267.out | refine below_set ?_ GE281.out | refine below_set ?_ GE295.out) | exact HB.out))) : w.heap.size ≤ gb298)); have n10_ := Aside0.mk ((by rw [hg]; exact Nat.ne_of_lt (blk_lt BK243.out) : gb243 ≠ gb298)); have n11_ := Aside0.mk ((by rw [hg]; exact Nat.ne_of_gt (blk_lt BK243.out) : gb298 ≠ gb243)); have n12_ := Aside0.mk ((by rw [hg]; exact Nat.ne_of_lt (blk_lt BK244.out) : gb244 ≠ gb298)); have n13_ := Aside0.mk ((by rw [hg]; exact Nat.ne_of_gt (blk_lt BK244.out) : gb298 ≠ gb244)); have n14_ := Aside0.mk ((by rw [hg]; exact Nat.ne_of_lt (blk_lt BK253.out) : gb253 ≠ gb298)); have n15_ := Aside0.mk ((by rw [hg]; exact Nat.ne_of_gt (blk_lt BK253.out) : gb298 ≠ gb253)); have n16_ := Aside0.mk ((by rw [hg]; exact Nat.ne_of_lt (blk_lt BK267.out) : gb267 ≠ gb298)); have n17_ := Aside0.mk ((by rw [hg]; exact Nat.ne_of_gt (blk_lt BK267.out) : gb298 ≠ gb267)); have n18_ := Aside0.mk ((by rw [hg]; exact Nat.ne_of_lt (blk_lt BK281.out) : gb281 ≠ gb298)); have n19_ := Aside0.mk ((by rw [hg]; exact Nat.ne_of_gt (blk_lt BK281.out) : gb298 ≠ gb281)); have n20_ := Aside0.mk ((by rw [hg]; exact Nat.ne_of_lt (blk_lt BK295.out) : gb295 ≠ gb298)); have n21_ := Aside0.mk ((by rw [hg]; exact Nat.ne_of_gt (blk_lt BK295.out) : gb298 ≠ gb295)); clear BK243; clear BK244; clear BK253; clear BK267; clear BK281; clear BK295; clear HB; have BK243 := n0_; have BK244 := n1_; have BK253 := n2_; have BK267 := n3_; have BK281 := n4_; have BK295 := n5_; have HB := n6_; have BK298 := n7_; have GW298 := n8_; have GE298 := n9_; have NB243_298 := n10_; have NB298_243 := n11_; have NB244_298 := n12_; have NB298_244 := n13_; have NB253_298 := n14_; have NB298_253 := n15_; have NB267_298 := n16_; have NB298_267 := n17_; have NB281_298 := n18_; have NB298_281 := n19_; have NB295_298 := n20_; have NB298_295 := n21_; clear n0_ n1_ n2_ n3_ n4_ n5_ n6_ n7_ n8_ n9_ n10_ n11_ n12_ n13_ n14_ n15_ n16_ n17_ n18_ n19_ n20_ n21_; clear hb hbox hg; have hnb97 := NB298_243.out; have hnc97 := NB243_298.out; have hnb98 := NB298_244.out; have hnc98 := NB244_298.out; have hnb99 := NB298_253.out; have hnc99 := NB253_298.out; have hnb100 := NB298_267.out; have hnc100 := NB267_298.out; have hnb101 := NB298_281.out; have hnc101 := NB281_298.out; have hnb102 := NB298_295.out; have hnc102 := NB295_298.out; have hcz103_0 : w96.cell? ⟨gb298, 0, none⟩ = some (.int .i64 0) := (blk_cell BK298.out 0).trans rfl; have hcz103_1 : w96.cell? ⟨gb298, 1, none⟩ = some (.int .i64 0) := (blk_cell BK298.out 1).trans rfl; have hfz103_0 := blk_frozen BK298.out 0; have hfz103_1 := blk_frozen BK298.out 1; have hnb104 := NB295_253.out; have hnc104 := NB253_295.out; have hnb105 := NB295_267.out; have hnc105 := NB267_295.out; have hnb106 := NB295_281.out; have hnc106 := NB281_295.out; have hcz107_0 : w96.cell? ⟨gb295, 0, none⟩ = some (.int .i64 t288) := (blk_cell BK295.out 0).trans rfl; have hcz107_1 : w96.cell? ⟨gb295, 1, none⟩ = some (.int .i64 t289) := (blk_cell BK295.out 1).trans rfl; have hcz107_2 : w96.cell? ⟨gb295, 2, none⟩ = some (.int .i64 t290) := (blk_cell BK295.out 2).trans rfl; have hcz107_3 : w96.cell? ⟨gb295, 3, none⟩ = some (.int .i64 t291) := (blk_cell BK295.out 3).trans rfl; have hcz107_4 : w96.cell? ⟨gb295, 4, none⟩ = some (.int .i64 t292) := (blk_cell BK295.out 4).trans rfl; have hcz107_5 : w96.cell? ⟨gb295, 5, none⟩ = some (.int .i64 t293) := (blk_cell BK295.out 5).trans rfl; have hfz107_0 := blk_frozen BK295.out 0; have hfz107_1 := blk_frozen BK295.out 1; have hfz107_2 := blk_frozen BK295.out 2; have hfz107_3 := blk_frozen BK295.out 3; have hfz107_4 := blk_frozen BK295.out 4; have hfz107_5 := blk_frozen BK295.out 5; have hcz108_0 : w96.cell? ⟨gb244, 0, none⟩ = some (.int .i64 t241) := (blk_cell BK244.out 0).trans rfl; have hcz108_1 : w96.cell? ⟨gb244, 1, none⟩ = some (.int .i64 t242) := (blk_cell BK244.out 1).trans rfl; have hfz108_0 := blk_frozen BK244.out 0; have hfz108_1 := blk_frozen BK244.out 1) | ((with_reducible refine gate_callee (f := 22) rfl ?_); refine goesL_ (some 47) rfl rfl Try.func22 (by kernel_rfl) rfl #[.agg #[.int .i64 t288, .int .i64 t289, .int .i64 t290, .int .i64 t291, .int .i64 t292, .int .i64 t293], .agg #[.int .i64 t241, .int .i64 t242]] rfl (by (try simp only [List.map_toArray, List.map_cons, List.map_nil]); first | done | rfl | (simp only [List.length_drop, List.length_take]; rfl)) ?_; (with_reducible refine (impl_Apply.calls t288 t289 t290 t291 t292 t293 t241 t242 t299 t300 _ A14.out).mono ?_); rintro e w109 ⟨rfl, hb⟩; refine ⟨_, rfl, ?_⟩; have n0_ := Aside0.mk (blk_below (g := gb243) (o := .cells #[.int .i64 t235, .int .i64 t236, .int .i64 t237, .int .i64 t238, .int .i64 t239, .int .i64 t240] 34 (0, 0)) (by (with_reducible repeat (first | refine blk_drewN ?_ _ | refine blk_drew ?_ | refine blk_alloc ?_ _)); refine blk_far ?_ NB243_298.out _; (with_reducible repeat (first | refine blk_drewN ?_ _ | refine blk_drew ?_ | refine blk_alloc ?_ _)); refine blk_far ?_ NB243_298.out _; (with_reducible repeat (first | refine blk_drewN ?_ _ | refine blk_drew ?_ | refine blk_alloc ?_ _)); exact BK243.out) hb); have n1_ := Aside0.mk (blk_below (g := gb244) (o := .cells #[.int .i64 t241, .int .i64 t242] 24 (0, 0)) (by (with_reducible repeat (first | refine blk_drewN ?_ _ | refine blk_drew ?_ | refine blk_alloc ?_ _)); refine blk_far ?_ NB244_298.out _; (with_reducible repeat (first | refine blk_drewN ?_ _ | refine blk_drew ?_ | refine blk_alloc ?_ _)); refine blk_far ?_ NB244_298.out _; (with_reducible repeat (first | refine blk_drewN ?_ _ | refine blk_drew ?_ | refine blk_alloc ?_ _)); exact BK244.out) hb); have n2_ := Aside0.mk (blk_below (g := gb253) (o := .cells #[.int .i64 t251, .int .i64 t252] 24 (0, 0)) (by (with_reducible repeat (first | refine blk_drewN ?_ _ | refine blk_drew ?_ | refine blk_alloc ?_ _)); refine blk_far ?_ NB253_298.out _; (with_reducible repeat (first | refine blk_drewN ?_ _ | refine blk_drew ?_ | refine blk_alloc ?_ _)); refine blk_far ?_ NB253_298.out _; (with_reducible repeat (first | refine blk_drewN ?_ _ | refine blk_drew ?_ | refine blk_alloc ?_ _)); exact BK253.out) hb); have n3_ := Aside0.mk (blk_below (g := gb267) (o := .cells #[.int .i64 t260, .int .i64 t261, .int .i64 t262, .int .i64 t263, .int .i64 t264, .int .i64 t265] 34 (0, 0)) (by (with_reducible repeat (first | refine blk_drewN ?_ _ | refine blk_drew ?_ | refine blk_alloc ?_ _)); refine blk_far ?_ NB267_298.out _; (with_reducible repeat (first | refine blk_drewN ?_ _ | refine blk_drew ?_ | refine blk_alloc ?_ _)); refine blk_far ?_ NB267_298.out _; (with_reducible repeat (first | refine blk_drewN ?_ _ | refine blk_drew ?_ | refine blk_alloc ?_ _)); exact BK267.out) hb); have n4_ := Aside0.mk (blk_below (g := gb281) (o := .cells #[.int .i64 t274, .int .i64 t275, .int .i64 t276, .int .i64 t277, .int .i64 t278, .int .i64 t279] 34 (0, 0)) (by (with_reducible repeat (first | refine blk_drewN ?_ _ | refine blk_drew ?_ | refine blk_alloc ?_ _)); refine blk_far ?_ NB281_298.out _; (with_reducible repeat (first | refine blk_drewN ?_ _ | refine blk_drew ?_ | refine blk_alloc ?_ _)); refine blk_far ?_ NB281_298.out _; (with_reducible repeat (first | refine blk_drewN ?_ _ | refine blk_drew ?_ | refine blk_alloc ?_ _)); exact BK281.out) hb); have n5_ := Aside0.mk (blk_below (g := gb295) (o := .cells #[.int .i64 t288, .int .i64 t289, .int .i64 t290, .int .i64 t291, .int .i64 t292, .int .i64 t293] 34 (0, 0)) (by (with_reducible repeat (first | refine blk_drewN ?_ _ | refine blk_drew ?_ | refine blk_alloc ?_ _)); refine blk_far ?_ NB295_298.out _; (with_reducible repeat (first | refine blk_drewN ?_ _ | refine blk_drew ?_ | refine blk_alloc ?_ _)); refine blk_far ?_ NB295_298.out _; (with_reducible repeat (first | refine blk_drewN ?_ _ | refine blk_drew ?_ | refine blk_alloc ?_ _)); exact BK295.out) hb); have n6_ := Aside0.mk (blk_below (g := gb298) (o := .cells #[.int .i64 t296, .int .i64 t297] 24 (0, 0)) (by (with_reducible repeat (first | refine blk_drewN ?_ _ | refine blk_drew ?_ | refine blk_alloc ?_ _)); refine blk_put (cs := #[.int .i64 t296, .int .i64 0]) ?_ 1 _ rfl; (with_reducible repeat (first | refine blk_drewN ?_ _ | refine blk_drew ?_ | refine blk_alloc ?_ _)); refine blk_put (cs := #[.int .i64 0, .int .i64 0]) ?_ 0 _ rfl; (with_reducible repeat (first | refine blk_drewN ?_ _ | refine blk_drew ?_ | refine blk_alloc ?_ _)); exact BK298.out) hb); have n7_ := Aside0.mk (below_step (by repeat (first | (with_reducible first | exact HB.out | apply below_alloc | apply pw_below_drewN | apply below_drew1 | refine below_set ?_ GE243.out | refine below_set ?_ GE244.out | refine below_set ?_ GE253.out | refine below_set ?_ GE267.out | refine below_set ?_ GE281.out | refine below_set ?_ GE295.out | refine below_set ?_ GE298.out) | exact HB.out)) hb); clear BK243; clear BK244; clear BK253; clear BK267; clear BK281; clear BK295; clear BK298; clear HB; have BK243 := n0_; have BK244 := n1_; have BK253 := n2_; have BK267 := n3_; have BK281 := n4_; have BK295 := n5_; have BK298 := n6_; have HB := n7_; clear n0_ n1_ n2_ n3_ n4_ n5_ n6_ n7_; (try clear hb); (try clear hb2); (try clear hk); (try clear hi)) | ((with_reducible refine gate_dst (N := 13) rfl ?_); refine box_event ?hg (N := 13) ?hd (cs := #[.int .i64 0, .int .i64 0]) (t := 24) ?hr ?_; (case hd => rfl); (case hg => rfl); (case hr => first | (go_simp; done) | (go_simp; rfl)); intro gb301 hg w110 hbox hb; have n0_ := Aside0.mk (blk_below BK243.out hb); have n1_ := Aside0.mk (blk_below BK244.out hb); have n2_ := Aside0.mk (blk_below BK253.out hb); have n3_ := Aside0.mk (blk_below BK267.out hb); have n4_ := Aside0.mk (blk_below BK281.out hb); have n5_ := Aside0.mk (blk_below BK295.out hb); have n6_ := Aside0.mk (blk_below BK298.out hb); have n7_ := Aside0.mk (below_step (by repeat (first | (with_reducible first | exact HB.out | apply below_alloc | apply pw_below_drewN | apply below_drew1 | refine below_set ?_ GE243.out | refine below_set ?_ GE244.out | refine below_set ?_ GE253.out | refine below_set ?_ GE267.out | refine below_set ?_ GE281.out | refine below_set ?_ GE295.out | refine below_set ?_ GE298.out) | exact HB.out)) hb); have n8_ := Aside0.mk (hbox); have n9_ := Aside0.mk ((by rw [hg]; exact (below_size (by repeat (first | (with_reducible first | exact HB.out | apply below_alloc | apply pw_below_drewN | apply below_drew1 | refine below_set ?_ GE243.out | refine below_set ?_ GE244.out | refine below_set ?_ GE253.out | refine below_set ?_ GE267.out | refine below_set ?_ GE281.out | refine below_set ?_ GE295.out | refine below_set ?_ GE298.out) | exact HB.out))) : w.heap.size ≤ gb301)); have n10_ := Aside0.mk ((by rw [hg]; exact (below_size (by repeat (first | (with_reducible first | exact HB.out | apply below_alloc | apply pw_below_drewN | apply below_drew1 | refine below_set ?_ GE243.out | refine below_set ?_ GE244.out | refine below_set ?_ GE253.out | refine below_set ?_ GE267.out | refine below_set ?_ GE281.out | refine below_set ?_ GE295.out | refine below_set ?_ GE298.out) | exact HB.out))) : w.heap.size ≤ gb301)); have n11_ := Aside0.mk ((by rw [hg]; exact Nat.ne_of_lt (blk_lt BK243.out) : gb243 ≠ gb301)); have n12_ := Aside0.mk ((by rw [hg]; exact Nat.ne_of_gt (blk_lt BK243.out) : gb301 ≠ gb243)); have n13_ := Aside0.mk ((by rw [hg]; exact Nat.ne_of_lt (blk_lt BK244.out) : gb244 ≠ gb301)); have n14_ := Aside0.mk ((by rw [hg]; exact Nat.ne_of_gt (blk_lt BK244.out) : gb301 ≠ gb244)); have n15_ := Aside0.mk ((by rw [hg]; exact Nat.ne_of_lt (blk_lt BK253.out) : gb253 ≠ gb301)); have n16_ := Aside0.mk ((by rw [hg]; exact Nat.ne_of_gt (blk_lt BK253.out) : gb301 ≠ gb253)); have n17_ := Aside0.mk ((by rw [hg]; exact Nat.ne_of_lt (blk_lt BK267.out) : gb267 ≠ gb301)); have n18_ := Aside0.mk ((by rw [hg]; exact Nat.ne_of_gt (blk_lt BK267.out) : gb301 ≠ gb267)); have n19_ := Aside0.mk ((by rw [hg]; exact Nat.ne_of_lt (blk_lt BK281.out) : gb281 ≠ gb301)); have n20_ := Aside0.mk ((by rw [hg]; exact Nat.ne_of_gt (blk_lt BK281.out) : gb301 ≠ gb281)); have n21_ := Aside0.mk ((by rw [hg]; exact Nat.ne_of_lt (blk_lt BK295.out) : gb295 ≠ gb301)); have n22_ := Aside0.mk ((by rw [hg]; exact Nat.ne_of_gt (blk_lt BK295.out) : gb301 ≠ gb295)); have n23_ := Aside0.mk ((by rw [hg]; exact Nat.ne_of_lt (blk_lt BK298.out) : gb298 ≠ gb301)); have n24_ := Aside0.mk ((by rw [hg]; exact Nat.ne_of_gt (blk_lt BK298.out) : gb301 ≠ gb298)); clear BK243; clear BK244; clear BK253; clear BK267; clear BK281; clear BK295; clear BK298; clear HB; have BK243 := n0_; have BK244 := n1_; have BK253 := n2_; have BK267 := n3_; have BK281 := n4_; have BK295 := n5_; have BK298 := n6_; have HB := n7_; have BK301 := n8_; have GW301 := n9_; have GE301 := n10_; have NB243_301 := n11_; have NB301_243 := n12_; have NB244_301 := n13_; have NB301_244 := n14_; have NB253_301 := n15_; have NB301_253 := n16_; have NB267_301 := n17_; have NB301_267 := n18_; have NB281_301 := n19_; have NB301_281 := n20_; have NB295_301 := n21_; have NB301_295 := n22_; have NB298_301 := n23_; have NB301_298 := n24_; clear n0_ n1_ n2_ n3_ n4_ n5_ n6_ n7_ n8_ n9_ n10_ n11_ n12_ n13_ n14_ n15_ n16_ n17_ n18_ n19_ n20_ n21_ n22_ n23_ n24_; clear hb hbox hg; have hnb111 := NB301_243.out; have hnc111 := NB243_301.out; have hnb112 := NB301_244.out; have hnc112 := NB244_301.out; have hnb113 := NB301_253.out; have hnc113 := NB253_301.out; have hnb114 := NB301_267.out; have hnc114 := NB267_301.out; have hnb115 := NB301_281.out; have hnc115 := NB281_301.out; have hnb116 := NB301_295.out; have hnc116 := NB295_301.out; have hnb117 := NB301_298.out; have hnc117 := NB298_301.out; have hcz118_0 : w110.cell? ⟨gb301, 0, none⟩ = some (.int .i64 0) := (blk_cell BK301.out 0).trans rfl; have hcz118_1 : w110.cell? ⟨gb301, 1, none⟩ = some (.int .i64 0) := (blk_cell BK301.out 1).trans rfl; have hfz118_0 := blk_frozen BK301.out 0; have hfz118_1 := blk_frozen BK301.out 1))
 have n0_ : Aside0 (((w110.setCell ⟨gb301, 0, none⟩ (.int .i64 t299)).setCell ⟨gb301, 1, none⟩ (.int .i64 t300)).heap[gb243]? = some (.cells #[.int .i64 t235, .int .i64 t236, .int .i64 t237, .int .i64 t238, .int .i64 t239, .int .i64 t240] 34 (0, 0))) := ⟨by (with_reducible repeat (first | refine blk_drewN ?_ _ | refine blk_drew ?_ | refine blk_alloc ?_ _)); refine blk_far ?_ NB243_301.out _; (with_reducible repeat (first | refine blk_drewN ?_ _ | refine blk_drew ?_ | refine blk_alloc ?_ _)); refine blk_far ?_ NB243_301.out _; (with_reducible repeat (first | refine blk_drewN ?_ _ | refine blk_drew ?_ | refine blk_alloc ?_ _)); exact BK243.out⟩
 have n1_ : Aside0 (((w110.setCell ⟨gb301, 0, none⟩ (.int .i64 t299)).setCell ⟨gb301, 1, none⟩ (.int .i64 t300)).heap[gb244]? = some (.cells #[.int .i64 t241, .int .i64 t242] 24 (0, 0))) := ⟨by (with_reducible repeat (first | refine blk_drewN ?_ _ | refine blk_drew ?_ | refine blk_alloc ?_ _)); refine blk_far ?_ NB244_301.out _; (with_reducible repeat (first | refine blk_drewN ?_ _ | refine blk_drew ?_ | refine blk_alloc ?_ _)); refine blk_far ?_ NB244_301.out _; (with_reducible repeat (first | refine blk_drewN ?_ _ | refine blk_drew ?_ | refine blk_alloc ?_ _)); exact BK244.out⟩
 have n2_ : Aside0 (((w110.setCell ⟨gb301, 0, none⟩ (.int .i64 t299)).setCell ⟨gb301, 1, none⟩ (.int .i64 t300)).heap[gb253]? = some (.cells #[.int .i64 t251, .int .i64 t252] 24 (0, 0))) := ⟨by (with_reducible repeat (first | refine blk_drewN ?_ _ | refine blk_drew ?_ | refine blk_alloc ?_ _)); refine blk_far ?_ NB253_301.out _; (with_reducible repeat (first | refine blk_drewN ?_ _ | refine blk_drew ?_ | refine blk_alloc ?_ _)); refine blk_far ?_ NB253_301.out _; (with_reducible repeat (first | refine blk_drewN ?_ _ | refine blk_drew ?_ | refine blk_alloc ?_ _)); exact BK253.out⟩
 have n3_ : Aside0 (((w110.setCell ⟨gb301, 0, none⟩ (.int .i64 t299)).setCell ⟨gb301, 1, none⟩ (.int .i64 t300)).heap[gb267]? = some (.cells #[.int .i64 t260, .int .i64 t261, .int .i64 t262, .int .i64 t263, .int .i64 t264, .int .i64 t265] 34 (0, 0))) := ⟨by (with_reducible repeat (first | refine blk_drewN ?_ _ | refine blk_drew ?_ | refine blk_alloc ?_ _)); refine blk_far ?_ NB267_301.out _; (with_reducible repeat (first | refine blk_drewN ?_ _ | refine blk_drew ?_ | refine blk_alloc ?_ _)); refine blk_far ?_ NB267_301.out _; (with_reducible repeat (first | refine blk_drewN ?_ _ | refine blk_drew ?_ | refine blk_alloc ?_ _)); exact BK267.out⟩
 have n4_ : Aside0 (((w110.setCell ⟨gb301, 0, none⟩ (.int .i64 t299)).setCell ⟨gb301, 1, none⟩ (.int .i64 t300)).heap[gb281]? = some (.cells #[.int .i64 t274, .int .i64 t275, .int .i64 t276, .int .i64 t277, .int .i64 t278, .int .i64 t279] 34 (0, 0))) := ⟨by (with_reducible repeat (first | refine blk_drewN ?_ _ | refine blk_drew ?_ | refine blk_alloc ?_ _)); refine blk_far ?_ NB281_301.out _; (with_reducible repeat (first | refine blk_drewN ?_ _ | refine blk_drew ?_ | refine blk_alloc ?_ _)); refine blk_far ?_ NB281_301.out _; (with_reducible repeat (first | refine blk_drewN ?_ _ | refine blk_drew ?_ | refine blk_alloc ?_ _)); exact BK281.out⟩
 have n5_ : Aside0 (((w110.setCell ⟨gb301, 0, none⟩ (.int .i64 t299)).setCell ⟨gb301, 1, none⟩ (.int .i64 t300)).heap[gb295]? = some (.cells #[.int .i64 t288, .int .i64 t289, .int .i64 t290, .int .i64 t291, .int .i64 t292, .int .i64 t293] 34 (0, 0))) := ⟨by (with_reducible repeat (first | refine blk_drewN ?_ _ | refine blk_drew ?_ | refine blk_alloc ?_ _)); refine blk_far ?_ NB295_301.out _; (with_reducible repeat (first | refine blk_drewN ?_ _ | refine blk_drew ?_ | refine blk_alloc ?_ _)); refine blk_far ?_ NB295_301.out _; (with_reducible repeat (first | refine blk_drewN ?_ _ | refine blk_drew ?_ | refine blk_alloc ?_ _)); exact BK295.out⟩
 have n6_ : Aside0 (((w110.setCell ⟨gb301, 0, none⟩ (.int .i64 t299)).setCell ⟨gb301, 1, none⟩ (.int .i64 t300)).heap[gb298]? = some (.cells #[.int .i64 t296, .int .i64 t297] 24 (0, 0))) := ⟨by (with_reducible repeat (first | refine blk_drewN ?_ _ | refine blk_drew ?_ | refine blk_alloc ?_ _)); refine blk_far ?_ NB298_301.out _; (with_reducible repeat (first | refine blk_drewN ?_ _ | refine blk_drew ?_ | refine blk_alloc ?_ _)); refine blk_far ?_ NB298_301.out _; (with_reducible repeat (first | refine blk_drewN ?_ _ | refine blk_drew ?_ | refine blk_alloc ?_ _)); exact BK298.out⟩
 have n7_ : Aside0 (((w110.setCell ⟨gb301, 0, none⟩ (.int .i64 t299)).setCell ⟨gb301, 1, none⟩ (.int .i64 t300)).heap[gb301]? = some (.cells #[.int .i64 t299, .int .i64 t300] 24 (0, 0))) := ⟨by (with_reducible repeat (first | refine blk_drewN ?_ _ | refine blk_drew ?_ | refine blk_alloc ?_ _)); refine blk_put (cs := #[.int .i64 t299, .int .i64 0]) ?_ 1 _ rfl; (with_reducible repeat (first | refine blk_drewN ?_ _ | refine blk_drew ?_ | refine blk_alloc ?_ _)); refine blk_put (cs := #[.int .i64 0, .int .i64 0]) ?_ 0 _ rfl; (with_reducible repeat (first | refine blk_drewN ?_ _ | refine blk_drew ?_ | refine blk_alloc ?_ _)); exact BK301.out⟩
 have n8_ : Aside0 (Below w.heap.size w ((w110.setCell ⟨gb301, 0, none⟩ (.int .i64 t299)).setCell ⟨gb301, 1, none⟩ (.int .i64 t300))) := ⟨by repeat (first | (with_reducible first | exact HB.out | apply below_alloc | apply pw_below_drewN | apply below_drew1 | refine below_set ?_ GE243.out | refine below_set ?_ GE244.out | refine below_set ?_ GE253.out | refine below_set ?_ GE267.out | refine below_set ?_ GE281.out | refine below_set ?_ GE295.out | refine below_set ?_ GE298.out | refine below_set ?_ GE301.out) | exact HB.out)⟩
 (try clear BK243)
 (try clear BK244)
 (try clear BK253)
 (try clear BK267)
 (try clear BK281)
 (try clear BK295)
 (try clear BK298)
 (try clear BK301)
 (try clear HB)
 generalize ((w110.setCell ⟨gb301, 0, none⟩ (.int .i64 t299)).setCell ⟨gb301, 1, none⟩ (.int .i64 t300)) = w119 at n0_ n1_ n2_ n3_ n4_ n5_ n6_ n7_ n8_ ⊢
 have BK243 := n0_
 have BK244 := n1_
 have BK253 := n2_
 have BK267 := n3_
 have BK281 := n4_
 have BK295 := n5_
 have BK298 := n6_
 have BK301 := n7_
 have HB := n8_
 clear n0_ n1_ n2_ n3_ n4_ n5_ n6_ n7_ n8_
 replace BK243 := Aside0.mk (blk_drew BK243.out)
 replace BK244 := Aside0.mk (blk_drew BK244.out)
 replace BK253 := Aside0.mk (blk_drew BK253.out)
 replace BK267 := Aside0.mk (blk_drew BK267.out)
 replace BK281 := Aside0.mk (blk_drew BK281.out)
 replace BK295 := Aside0.mk (blk_drew BK295.out)
 replace BK298 := Aside0.mk (blk_drew BK298.out)
 replace BK301 := Aside0.mk (blk_drew BK301.out)
 replace HB := Aside0.mk (below_drew1 HB.out)
 refine start_ (n := 79) (S := fun w' => w'.cell? ⟨gb244, 0, none⟩ = some (.int .i64 t241) ∧ w'.cell? ⟨gb244, 1, none⟩ = some (.int .i64 t242) ∧ w'.cell? ⟨gb253, 0, none⟩ = some (.int .i64 t251) ∧ w'.cell? ⟨gb253, 1, none⟩ = some (.int .i64 t252) ∧ w'.cell? ⟨gb267, 0, none⟩ = some (.int .i64 t260) ∧ w'.cell? ⟨gb267, 1, none⟩ = some (.int .i64 t261) ∧ w'.cell? ⟨gb267, 2, none⟩ = some (.int .i64 t262) ∧ w'.cell? ⟨gb267, 3, none⟩ = some (.int .i64 t263) ∧ w'.cell? ⟨gb267, 4, none⟩ = some (.int .i64 t264) ∧ w'.cell? ⟨gb267, 5, none⟩ = some (.int .i64 t265) ∧ w'.cell? ⟨gb243, 0, none⟩ = some (.int .i64 t235) ∧ w'.cell? ⟨gb243, 1, none⟩ = some (.int .i64 t236) ∧ w'.cell? ⟨gb243, 2, none⟩ = some (.int .i64 t237) ∧ w'.cell? ⟨gb243, 3, none⟩ = some (.int .i64 t238) ∧ w'.cell? ⟨gb243, 4, none⟩ = some (.int .i64 t239) ∧ w'.cell? ⟨gb243, 5, none⟩ = some (.int .i64 t240) ∧ w'.cell? ⟨gb281, 0, none⟩ = some (.int .i64 t274) ∧ w'.cell? ⟨gb281, 1, none⟩ = some (.int .i64 t275) ∧ w'.cell? ⟨gb281, 2, none⟩ = some (.int .i64 t276) ∧ w'.cell? ⟨gb281, 3, none⟩ = some (.int .i64 t277) ∧ w'.cell? ⟨gb281, 4, none⟩ = some (.int .i64 t278) ∧ w'.cell? ⟨gb281, 5, none⟩ = some (.int .i64 t279) ∧ w'.cell? ⟨gb301, 0, none⟩ = some (.int .i64 t299) ∧ w'.cell? ⟨gb301, 1, none⟩ = some (.int .i64 t300) ∧ w'.cell? ⟨gb298, 0, none⟩ = some (.int .i64 t296) ∧ w'.cell? ⟨gb298, 1, none⟩ = some (.int .i64 t297)) (ds := []) #[F,F,F,F,F,F,F,F,F,F,F,F,F,F,F,F,F,F,F,F,F,F,F,F,F,F,F,F,F,F,F,F,F,F,F,F,F,F,F,F,F,F,F,F,F,F,F,F,F,F,F,F,F,F,F,F,F,F,F,F,F,F,F,F,F,F,F,F,F,F,F,F,F,F,F,F,F,F,F] (by kernel_rfl) rfl rfl ⟨(blk_cell BK244.out 0).trans rfl, (blk_cell BK244.out 1).trans rfl, (blk_cell BK253.out 0).trans rfl, (blk_cell BK253.out 1).trans rfl, (blk_cell BK267.out 0).trans rfl, (blk_cell BK267.out 1).trans rfl, (blk_cell BK267.out 2).trans rfl, (blk_cell BK267.out 3).trans rfl, (blk_cell BK267.out 4).trans rfl, (blk_cell BK267.out 5).trans rfl, (blk_cell BK243.out 0).trans rfl, (blk_cell BK243.out 1).trans rfl, (blk_cell BK243.out 2).trans rfl, (blk_cell BK243.out 3).trans rfl, (blk_cell BK243.out 4).trans rfl, (blk_cell BK243.out 5).trans rfl, (blk_cell BK281.out 0).trans rfl, (blk_cell BK281.out 1).trans rfl, (blk_cell BK281.out 2).trans rfl, (blk_cell BK281.out 3).trans rfl, (blk_cell BK281.out 4).trans rfl, (blk_cell BK281.out 5).trans rfl, (blk_cell BK301.out 0).trans rfl, (blk_cell BK301.out 1).trans rfl, (blk_cell BK298.out 0).trans rfl, (blk_cell BK298.out 1).trans rfl⟩ (fun hHeld => ?_); refine with_tabW laws_FnMoves.tab10 laws_FnMoves.bits10 (fun HT_ HW_ => ?_)
 generalize w119.drew = w120 at BK243 BK244 BK253 BK267 BK281 BK295 BK298 BK301 HB hHeld ⊢
 refine take_ (i := 1) (N := some 49) (v := ?_) (a' := ?_) #[F,T,F,F,F,F,F,F,F,F,F,F,F,F,F,F,F,F,F,F,F,F,F,F,F,F,F,F,F,F,F,F,F,F,F,F,F,F,F,F,F,F,F,F,F,F,F,F,F,F,F,F,F,F,F,F,F,F,F,F,F,F,F,F,F,F,F,F,F,F,F,F,F,F,F,F,F,F,F] rfl rfl (take_ofW HT_.out HW_.out (by kernel_rfl)) (fun _ _ _ h => h) (Or.inl ⟨by rfl, ?_⟩) hHeld ?_ ?_; rotate_left
 ·rintro w' ⟨s0, s1, s2, s3, s4, s5, s6, s7, s8, s9, s10, s11, s12, s13, s14, s15, s16, s17, s18, s19, s20, s21, s22, s23, s24, s25⟩; go_simp; with_reducible rfl
 rotate_left; (focus (simp only [PS]; rfl))
 refine take_ (i := 3) (N := some 51) (v := ?_) (a' := ?_) #[F,T,F,T,F,F,F,F,F,F,F,F,F,F,F,F,F,F,F,F,F,F,F,F,F,F,F,F,F,F,F,F,F,F,F,F,F,F,F,F,F,F,F,F,F,F,F,F,F,F,F,F,F,F,F,F,F,F,F,F,F,F,F,F,F,F,F,F,F,F,F,F,F,F,F,F,F,F,F] rfl rfl (take_ofW HT_.out HW_.out (by kernel_rfl)) (fun _ _ _ h => h) (Or.inl ⟨by rfl, ?_⟩) hHeld ?_ ?_; rotate_left
 ·rintro w' ⟨s0, s1, s2, s3, s4, s5, s6, s7, s8, s9, s10, s11, s12, s13, s14, s15, s16, s17, s18, s19, s20, s21, s22, s23, s24, s25⟩; go_simp; with_reducible rfl
 rotate_left; (focus (simp only [PS]; rfl))
 refine one_ (i := 0) (N := some 48) #[T,T,F,T,F,F,F,F,F,F,F,F,F,F,F,F,F,F,F,F,F,F,F,F,F,F,F,F,F,F,F,F,F,F,F,F,F,F,F,F,F,F,F,F,F,F,F,F,F,F,F,F,F,F,F,F,F,F,F,F,F,F,F,F,F,F,F,F,F,F,F,F,F,F,F,F,F,F,F] rfl rfl (one_of HT_.out (by kernel_rfl)) (by decide) (fun K hK => ?_)
 refine goes_ Try.func49 (by kernel_rfl) rfl #[] (by rfl) rfl rfl (by (try simp only [List.map_toArray, List.map_cons, List.map_nil]); first | done | rfl | (simp only [List.length_drop, List.length_take]; rfl)) ?_
 with_reducible refine (impl_Still.calls  t302 t303 t304 t305 t306 t307 _ A15.out).mono ?_
 rintro e w121 ⟨rfl, hb⟩
 refine ⟨_, rfl, ?_⟩
 replace BK243 := Aside0.mk (blk_below BK243.out hb)
 replace BK244 := Aside0.mk (blk_below BK244.out hb)
 replace BK253 := Aside0.mk (blk_below BK253.out hb)
 replace BK267 := Aside0.mk (blk_below BK267.out hb)
 replace BK281 := Aside0.mk (blk_below BK281.out hb)
 replace BK295 := Aside0.mk (blk_below BK295.out hb)
 replace BK298 := Aside0.mk (blk_below BK298.out hb)
 replace BK301 := Aside0.mk (blk_below BK301.out hb)
 replace HB := Aside0.mk (below_step HB.out hb)
 (try clear hb)
 (try clear hb2)
 (try clear hk)
 (try clear hi)
 refine hK.out _ _ ⟨(blk_cell BK244.out 0).trans rfl, (blk_cell BK244.out 1).trans rfl, (blk_cell BK253.out 0).trans rfl, (blk_cell BK253.out 1).trans rfl, (blk_cell BK267.out 0).trans rfl, (blk_cell BK267.out 1).trans rfl, (blk_cell BK267.out 2).trans rfl, (blk_cell BK267.out 3).trans rfl, (blk_cell BK267.out 4).trans rfl, (blk_cell BK267.out 5).trans rfl, (blk_cell BK243.out 0).trans rfl, (blk_cell BK243.out 1).trans rfl, (blk_cell BK243.out 2).trans rfl, (blk_cell BK243.out 3).trans rfl, (blk_cell BK243.out 4).trans rfl, (blk_cell BK243.out 5).trans rfl, (blk_cell BK281.out 0).trans rfl, (blk_cell BK281.out 1).trans rfl, (blk_cell BK281.out 2).trans rfl, (blk_cell BK281.out 3).trans rfl, (blk_cell BK281.out 4).trans rfl, (blk_cell BK281.out 5).trans rfl, (blk_cell BK301.out 0).trans rfl, (blk_cell BK301.out 1).trans rfl, (blk_cell BK298.out 0).trans rfl, (blk_cell BK298.out 1).trans rfl⟩ (fun hHeld => ?_)
 clear hK K
 refine norm_ (a' := ?_) ?_ ?_; rotate_left
 ·show Act.put _ (some 48) _ = _
  simp only [PS]
  rfl
 refine one_ (i := 2) (N := some 50) #[T,T,T,T,F,F,F,F,F,F,F,F,F,F,F,F,F,F,F,F,F,F,F,F,F,F,F,F,F,F,F,F,F,F,F,F,F,F,F,F,F,F,F,F,F,F,F,F,F,F,F,F,F,F,F,F,F,F,F,F,F,F,F,F,F,F,F,F,F,F,F,F,F,F,F,F,F,F,F] rfl rfl (one_of HT_.out (by kernel_rfl)) (by decide) (fun K hK => ?_)
 refine goes_ Try.func22 (by kernel_rfl) rfl #[.agg #[.int .i64 t302, .int .i64 t303, .int .i64 t304, .int .i64 t305, .int .i64 t306, .int .i64 t307], .agg #[.int .i64 t241, .int .i64 t242]] (by rfl) rfl rfl (by (try simp only [List.map_toArray, List.map_cons, List.map_nil]); first | done | rfl | (simp only [List.length_drop, List.length_take]; rfl)) ?_
 with_reducible refine (impl_Apply.calls t302 t303 t304 t305 t306 t307 t241 t242 t308 t309 _ A16.out).mono ?_
 rintro e w122 ⟨rfl, hb⟩
 refine ⟨_, rfl, ?_⟩
 replace BK243 := Aside0.mk (blk_below BK243.out hb)
 replace BK244 := Aside0.mk (blk_below BK244.out hb)
 replace BK253 := Aside0.mk (blk_below BK253.out hb)
 replace BK267 := Aside0.mk (blk_below BK267.out hb)
 replace BK281 := Aside0.mk (blk_below BK281.out hb)
 replace BK295 := Aside0.mk (blk_below BK295.out hb)
 replace BK298 := Aside0.mk (blk_below BK298.out hb)
 replace BK301 := Aside0.mk (blk_below BK301.out hb)
 replace HB := Aside0.mk (below_step HB.out hb)
 (try clear hb)
 (try clear hb2)
 (try clear hk)
 (try clear hi)
 refine hK.out _ _ ⟨(blk_cell BK244.out 0).trans rfl, (blk_cell BK244.out 1).trans rfl, (blk_cell BK253.out 0).trans rfl, (blk_cell BK253.out 1).trans rfl, (blk_cell BK267.out 0).trans rfl, (blk_cell BK267.out 1).trans rfl, (blk_cell BK267.out 2).trans rfl, (blk_cell BK267.out 3).trans rfl, (blk_cell BK267.out 4).trans rfl, (blk_cell BK267.out 5).trans rfl, (blk_cell BK243.out 0).trans rfl, (blk_cell BK243.out 1).trans rfl, (blk_cell BK243.out 2).trans rfl, (blk_cell BK243.out 3).trans rfl, (blk_cell BK243.out 4).trans rfl, (blk_cell BK243.out 5).trans rfl, (blk_cell BK281.out 0).trans rfl, (blk_cell BK281.out 1).trans rfl, (blk_cell BK281.out 2).trans rfl, (blk_cell BK281.out 3).trans rfl, (blk_cell BK281.out 4).trans rfl, (blk_cell BK281.out 5).trans rfl, (blk_cell BK301.out 0).trans rfl, (blk_cell BK301.out 1).trans rfl, (blk_cell BK298.out 0).trans rfl, (blk_cell BK298.out 1).trans rfl⟩ (fun hHeld => ?_)
 clear hK K
 refine norm_ (a' := ?_) ?_ ?_; rotate_left
 ·show Act.put _ (some 50) _ = _
  simp only [PS]
  rfl
 refine pure_ (i := 4) (N := some 52) (v := ?_) (a' := ?_) #[T,T,T,T,T,F,F,F,F,F,F,F,F,F,F,F,F,F,F,F,F,F,F,F,F,F,F,F,F,F,F,F,F,F,F,F,F,F,F,F,F,F,F,F,F,F,F,F,F,F,F,F,F,F,F,F,F,F,F,F,F,F,F,F,F,F,F,F,F,F,F,F,F,F,F,F,F,F,F] rfl rfl (any_of HT_.out (by kernel_rfl)) (fun _ _ _ h => h) (Or.inl ⟨by rfl, ?_⟩) ?_ ?_; rotate_left
 ·intro w'; go_simp; with_reducible rfl
 rotate_left; (focus (simp only [PS]; rfl))
 refine pure_ (i := 5) (N := some 53) (v := ?_) (a' := ?_) #[T,T,T,T,T,T,F,F,F,F,F,F,F,F,F,F,F,F,F,F,F,F,F,F,F,F,F,F,F,F,F,F,F,F,F,F,F,F,F,F,F,F,F,F,F,F,F,F,F,F,F,F,F,F,F,F,F,F,F,F,F,F,F,F,F,F,F,F,F,F,F,F,F,F,F,F,F,F,F] rfl rfl (any_of HT_.out (by kernel_rfl)) (fun _ _ _ h => h) (Or.inl ⟨by rfl, ?_⟩) ?_ ?_; rotate_left
 ·intro w'; go_simp; with_reducible rfl
 rotate_left; (focus (simp only [PS]; rfl))
 refine pure_ (i := 6) (N := some 54) (v := ?_) (a' := ?_) #[T,T,T,T,T,T,T,F,F,F,F,F,F,F,F,F,F,F,F,F,F,F,F,F,F,F,F,F,F,F,F,F,F,F,F,F,F,F,F,F,F,F,F,F,F,F,F,F,F,F,F,F,F,F,F,F,F,F,F,F,F,F,F,F,F,F,F,F,F,F,F,F,F,F,F,F,F,F,F] rfl rfl (any_of HT_.out (by kernel_rfl)) (fun _ _ _ h => h) (Or.inl ⟨by rfl, ?_⟩) ?_ ?_; rotate_left
 ·intro w'; go_simp; with_reducible rfl
 rotate_left; (focus (simp only [PS]; rfl))
 refine pure_ (i := 8) (N := some 56) (v := ?_) (a' := ?_) #[T,T,T,T,T,T,T,F,T,F,F,F,F,F,F,F,F,F,F,F,F,F,F,F,F,F,F,F,F,F,F,F,F,F,F,F,F,F,F,F,F,F,F,F,F,F,F,F,F,F,F,F,F,F,F,F,F,F,F,F,F,F,F,F,F,F,F,F,F,F,F,F,F,F,F,F,F,F,F] rfl rfl (any_of HT_.out (by kernel_rfl)) (fun _ _ _ h => h) (Or.inl ⟨by rfl, ?_⟩) ?_ ?_; rotate_left
 ·intro w'; go_simp; with_reducible rfl
 rotate_left; (focus (simp only [PS]; rfl))
 refine take_ (i := 7) (N := some 55) (v := ?_) (a' := ?_) #[T,T,T,T,T,T,T,T,T,F,F,F,F,F,F,F,F,F,F,F,F,F,F,F,F,F,F,F,F,F,F,F,F,F,F,F,F,F,F,F,F,F,F,F,F,F,F,F,F,F,F,F,F,F,F,F,F,F,F,F,F,F,F,F,F,F,F,F,F,F,F,F,F,F,F,F,F,F,F] rfl rfl (take_ofW HT_.out HW_.out (by kernel_rfl)) (fun _ _ _ h => h) (Or.inl ⟨by rfl, ?_⟩) hHeld ?_ ?_; rotate_left
 ·rintro w' ⟨s0, s1, s2, s3, s4, s5, s6, s7, s8, s9, s10, s11, s12, s13, s14, s15, s16, s17, s18, s19, s20, s21, s22, s23, s24, s25⟩; go_simp; with_reducible rfl
 rotate_left; (focus (simp only [PS]; rfl))
 refine take_ (i := 9) (N := some 57) (v := ?_) (a' := ?_) #[T,T,T,T,T,T,T,T,T,T,F,F,F,F,F,F,F,F,F,F,F,F,F,F,F,F,F,F,F,F,F,F,F,F,F,F,F,F,F,F,F,F,F,F,F,F,F,F,F,F,F,F,F,F,F,F,F,F,F,F,F,F,F,F,F,F,F,F,F,F,F,F,F,F,F,F,F,F,F] rfl rfl (take_ofW HT_.out HW_.out (by kernel_rfl)) (fun _ _ _ h => h) (Or.inl ⟨by rfl, ?_⟩) hHeld ?_ ?_; rotate_left
 ·rintro w' ⟨s0, s1, s2, s3, s4, s5, s6, s7, s8, s9, s10, s11, s12, s13, s14, s15, s16, s17, s18, s19, s20, s21, s22, s23, s24, s25⟩; go_simp; with_reducible rfl
 rotate_left; (focus (simp only [PS]; rfl))
 refine pure_ (i := 10) (N := some 58) (v := ?_) (a' := ?_) #[T,T,T,T,T,T,T,T,T,T,T,F,F,F,F,F,F,F,F,F,F,F,F,F,F,F,F,F,F,F,F,F,F,F,F,F,F,F,F,F,F,F,F,F,F,F,F,F,F,F,F,F,F,F,F,F,F,F,F,F,F,F,F,F,F,F,F,F,F,F,F,F,F,F,F,F,F,F,F] rfl rfl (any_of HT_.out (by kernel_rfl)) (fun _ _ _ h => h) (Or.inl ⟨by rfl, ?_⟩) ?_ ?_; rotate_left
 ·intro w'; go_simp; with_reducible rfl
 rotate_left; (focus (simp only [PS]; rfl))
 refine pure_ (i := 11) (N := some 59) (v := ?_) (a' := ?_) #[T,T,T,T,T,T,T,T,T,T,T,T,F,F,F,F,F,F,F,F,F,F,F,F,F,F,F,F,F,F,F,F,F,F,F,F,F,F,F,F,F,F,F,F,F,F,F,F,F,F,F,F,F,F,F,F,F,F,F,F,F,F,F,F,F,F,F,F,F,F,F,F,F,F,F,F,F,F,F] rfl rfl (any_of HT_.out (by kernel_rfl)) (fun _ _ _ h => h) (Or.inl ⟨by rfl, ?_⟩) ?_ ?_; rotate_left
 ·intro w'; go_simp; with_reducible rfl
 rotate_left; (focus (simp only [PS]; rfl))
 refine pure_ (i := 12) (N := some 60) (v := ?_) (a' := ?_) #[T,T,T,T,T,T,T,T,T,T,T,T,T,F,F,F,F,F,F,F,F,F,F,F,F,F,F,F,F,F,F,F,F,F,F,F,F,F,F,F,F,F,F,F,F,F,F,F,F,F,F,F,F,F,F,F,F,F,F,F,F,F,F,F,F,F,F,F,F,F,F,F,F,F,F,F,F,F,F] rfl rfl (any_of HT_.out (by kernel_rfl)) (fun _ _ _ h => h) (Or.inl ⟨by rfl, ?_⟩) ?_ ?_; rotate_left
 ·intro w'; go_simp; with_reducible rfl
 rotate_left; (focus (simp only [PS]; rfl))
 refine pure_ (i := 13) (N := some 61) (v := ?_) (a' := ?_) #[T,T,T,T,T,T,T,T,T,T,T,T,T,T,F,F,F,F,F,F,F,F,F,F,F,F,F,F,F,F,F,F,F,F,F,F,F,F,F,F,F,F,F,F,F,F,F,F,F,F,F,F,F,F,F,F,F,F,F,F,F,F,F,F,F,F,F,F,F,F,F,F,F,F,F,F,F,F,F] rfl rfl (any_of HT_.out (by kernel_rfl)) (fun _ _ _ h => h) (Or.inl ⟨by rfl, ?_⟩) ?_ ?_; rotate_left
 ·intro w'; go_simp; with_reducible rfl
 rotate_left; (focus (simp only [PS]; rfl))
 refine pure_ (i := 14) (N := some 62) (v := ?_) (a' := ?_) #[T,T,T,T,T,T,T,T,T,T,T,T,T,T,T,F,F,F,F,F,F,F,F,F,F,F,F,F,F,F,F,F,F,F,F,F,F,F,F,F,F,F,F,F,F,F,F,F,F,F,F,F,F,F,F,F,F,F,F,F,F,F,F,F,F,F,F,F,F,F,F,F,F,F,F,F,F,F,F] rfl rfl (any_of HT_.out (by kernel_rfl)) (fun _ _ _ h => h) (Or.inl ⟨by rfl, ?_⟩) ?_ ?_; rotate_left
 ·intro w'; go_simp; with_reducible rfl
 rotate_left; (focus (simp only [PS]; rfl))
 refine pure_ (i := 16) (N := some 64) (v := ?_) (a' := ?_) #[T,T,T,T,T,T,T,T,T,T,T,T,T,T,T,F,T,F,F,F,F,F,F,F,F,F,F,F,F,F,F,F,F,F,F,F,F,F,F,F,F,F,F,F,F,F,F,F,F,F,F,F,F,F,F,F,F,F,F,F,F,F,F,F,F,F,F,F,F,F,F,F,F,F,F,F,F,F,F] rfl rfl (any_of HT_.out (by kernel_rfl)) (fun _ _ _ h => h) (Or.inl ⟨by rfl, ?_⟩) ?_ ?_; rotate_left
 ·intro w'; go_simp; with_reducible rfl
 rotate_left; (focus (simp only [PS]; rfl))
 refine take_ (i := 15) (N := some 63) (v := ?_) (a' := ?_) #[T,T,T,T,T,T,T,T,T,T,T,T,T,T,T,T,T,F,F,F,F,F,F,F,F,F,F,F,F,F,F,F,F,F,F,F,F,F,F,F,F,F,F,F,F,F,F,F,F,F,F,F,F,F,F,F,F,F,F,F,F,F,F,F,F,F,F,F,F,F,F,F,F,F,F,F,F,F,F] rfl rfl (take_ofW HT_.out HW_.out (by kernel_rfl)) (fun _ _ _ h => h) (Or.inl ⟨by rfl, ?_⟩) hHeld ?_ ?_; rotate_left
 ·rintro w' ⟨s0, s1, s2, s3, s4, s5, s6, s7, s8, s9, s10, s11, s12, s13, s14, s15, s16, s17, s18, s19, s20, s21, s22, s23, s24, s25⟩; go_simp; with_reducible rfl
 rotate_left; (focus (simp only [PS]; rfl))
 refine take_ (i := 17) (N := some 65) (v := ?_) (a' := ?_) #[T,T,T,T,T,T,T,T,T,T,T,T,T,T,T,T,T,T,F,F,F,F,F,F,F,F,F,F,F,F,F,F,F,F,F,F,F,F,F,F,F,F,F,F,F,F,F,F,F,F,F,F,F,F,F,F,F,F,F,F,F,F,F,F,F,F,F,F,F,F,F,F,F,F,F,F,F,F,F] rfl rfl (take_ofW HT_.out HW_.out (by kernel_rfl)) (fun _ _ _ h => h) (Or.inl ⟨by rfl, ?_⟩) hHeld ?_ ?_; rotate_left
 ·rintro w' ⟨s0, s1, s2, s3, s4, s5, s6, s7, s8, s9, s10, s11, s12, s13, s14, s15, s16, s17, s18, s19, s20, s21, s22, s23, s24, s25⟩; go_simp; with_reducible rfl
 rotate_left; (focus (simp only [PS]; rfl))
 refine pure_ (i := 18) (N := some 66) (v := ?_) (a' := ?_) #[T,T,T,T,T,T,T,T,T,T,T,T,T,T,T,T,T,T,T,F,F,F,F,F,F,F,F,F,F,F,F,F,F,F,F,F,F,F,F,F,F,F,F,F,F,F,F,F,F,F,F,F,F,F,F,F,F,F,F,F,F,F,F,F,F,F,F,F,F,F,F,F,F,F,F,F,F,F,F] rfl rfl (any_of HT_.out (by kernel_rfl)) (fun _ _ _ h => h) (Or.inl ⟨by rfl, ?_⟩) ?_ ?_; rotate_left
 ·intro w'; go_simp; with_reducible rfl
 rotate_left; (focus (simp only [PS]; rfl))
 refine pure_ (i := 19) (N := some 67) (v := ?_) (a' := ?_) #[T,T,T,T,T,T,T,T,T,T,T,T,T,T,T,T,T,T,T,T,F,F,F,F,F,F,F,F,F,F,F,F,F,F,F,F,F,F,F,F,F,F,F,F,F,F,F,F,F,F,F,F,F,F,F,F,F,F,F,F,F,F,F,F,F,F,F,F,F,F,F,F,F,F,F,F,F,F,F] rfl rfl (any_of HT_.out (by kernel_rfl)) (fun _ _ _ h => h) (Or.inl ⟨by rfl, ?_⟩) ?_ ?_; rotate_left
 ·intro w'; go_simp; with_reducible rfl
 rotate_left; (focus (simp only [PS]; rfl))
 refine pure_ (i := 20) (N := some 68) (v := ?_) (a' := ?_) #[T,T,T,T,T,T,T,T,T,T,T,T,T,T,T,T,T,T,T,T,T,F,F,F,F,F,F,F,F,F,F,F,F,F,F,F,F,F,F,F,F,F,F,F,F,F,F,F,F,F,F,F,F,F,F,F,F,F,F,F,F,F,F,F,F,F,F,F,F,F,F,F,F,F,F,F,F,F,F] rfl rfl (any_of HT_.out (by kernel_rfl)) (fun _ _ _ h => h) (Or.inl ⟨by rfl, ?_⟩) ?_ ?_; rotate_left
 ·intro w'; go_simp; with_reducible rfl
 rotate_left; (focus (simp only [PS]; rfl))
 refine pure_ (i := 21) (N := some 69) (v := ?_) (a' := ?_) #[T,T,T,T,T,T,T,T,T,T,T,T,T,T,T,T,T,T,T,T,T,T,F,F,F,F,F,F,F,F,F,F,F,F,F,F,F,F,F,F,F,F,F,F,F,F,F,F,F,F,F,F,F,F,F,F,F,F,F,F,F,F,F,F,F,F,F,F,F,F,F,F,F,F,F,F,F,F,F] rfl rfl (any_of HT_.out (by kernel_rfl)) (fun _ _ _ h => h) (Or.inl ⟨by rfl, ?_⟩) ?_ ?_; rotate_left
 ·intro w'; go_simp; with_reducible rfl
 rotate_left; (focus (simp only [PS]; rfl))
 refine take_ (i := 23) (N := some 71) (v := ?_) (a' := ?_) #[T,T,T,T,T,T,T,T,T,T,T,T,T,T,T,T,T,T,T,T,T,T,F,T,F,F,F,F,F,F,F,F,F,F,F,F,F,F,F,F,F,F,F,F,F,F,F,F,F,F,F,F,F,F,F,F,F,F,F,F,F,F,F,F,F,F,F,F,F,F,F,F,F,F,F,F,F,F,F] rfl rfl (take_ofW HT_.out HW_.out (by kernel_rfl)) (fun _ _ _ h => h) (Or.inl ⟨by rfl, ?_⟩) hHeld ?_ ?_; rotate_left
 ·rintro w' ⟨s0, s1, s2, s3, s4, s5, s6, s7, s8, s9, s10, s11, s12, s13, s14, s15, s16, s17, s18, s19, s20, s21, s22, s23, s24, s25⟩; go_simp; with_reducible rfl
 rotate_left; (focus (simp only [PS]; rfl))
 refine take_ (i := 25) (N := some 73) (v := ?_) (a' := ?_) #[T,T,T,T,T,T,T,T,T,T,T,T,T,T,T,T,T,T,T,T,T,T,F,T,F,T,F,F,F,F,F,F,F,F,F,F,F,F,F,F,F,F,F,F,F,F,F,F,F,F,F,F,F,F,F,F,F,F,F,F,F,F,F,F,F,F,F,F,F,F,F,F,F,F,F,F,F,F,F] rfl rfl (take_ofW HT_.out HW_.out (by kernel_rfl)) (fun _ _ _ h => h) (Or.inl ⟨by rfl, ?_⟩) hHeld ?_ ?_; rotate_left
 ·rintro w' ⟨s0, s1, s2, s3, s4, s5, s6, s7, s8, s9, s10, s11, s12, s13, s14, s15, s16, s17, s18, s19, s20, s21, s22, s23, s24, s25⟩; go_simp; with_reducible rfl
 rotate_left; (focus (simp only [PS]; rfl))
 refine one_ (i := 22) (N := some 70) #[T,T,T,T,T,T,T,T,T,T,T,T,T,T,T,T,T,T,T,T,T,T,T,T,F,T,F,F,F,F,F,F,F,F,F,F,F,F,F,F,F,F,F,F,F,F,F,F,F,F,F,F,F,F,F,F,F,F,F,F,F,F,F,F,F,F,F,F,F,F,F,F,F,F,F,F,F,F,F] rfl rfl (one_of HT_.out (by kernel_rfl)) (by decide) (fun K hK => ?_)
 refine goes_ Try.func47 (by kernel_rfl) rfl #[.int .i64 (-70), .int .i64 30] (by rfl) rfl rfl (by (try simp only [List.map_toArray, List.map_cons, List.map_nil]); first | done | rfl | (simp only [List.length_drop, List.length_take]; rfl)) ?_
 with_reducible refine (impl_Shift.calls (-70) 30 t310 t311 t312 t313 t314 t315 _ A20.out).mono ?_
 rintro e w123 ⟨rfl, hb⟩
 refine ⟨_, rfl, ?_⟩
 replace BK243 := Aside0.mk (blk_below BK243.out hb)
 replace BK244 := Aside0.mk (blk_below BK244.out hb)
 replace BK253 := Aside0.mk (blk_below BK253.out hb)
 replace BK267 := Aside0.mk (blk_below BK267.out hb)
 replace BK281 := Aside0.mk (blk_below BK281.out hb)
 replace BK295 := Aside0.mk (blk_below BK295.out hb)
 replace BK298 := Aside0.mk (blk_below BK298.out hb)
 replace BK301 := Aside0.mk (blk_below BK301.out hb)
 replace HB := Aside0.mk (below_step HB.out hb)
 (try clear hb)
 (try clear hb2)
 (try clear hk)
 (try clear hi)
 refine hK.out _ _ ⟨(blk_cell BK244.out 0).trans rfl, (blk_cell BK244.out 1).trans rfl, (blk_cell BK253.out 0).trans rfl, (blk_cell BK253.out 1).trans rfl, (blk_cell BK267.out 0).trans rfl, (blk_cell BK267.out 1).trans rfl, (blk_cell BK267.out 2).trans rfl, (blk_cell BK267.out 3).trans rfl, (blk_cell BK267.out 4).trans rfl, (blk_cell BK267.out 5).trans rfl, (blk_cell BK243.out 0).trans rfl, (blk_cell BK243.out 1).trans rfl, (blk_cell BK243.out 2).trans rfl, (blk_cell BK243.out 3).trans rfl, (blk_cell BK243.out 4).trans rfl, (blk_cell BK243.out 5).trans rfl, (blk_cell BK281.out 0).trans rfl, (blk_cell BK281.out 1).trans rfl, (blk_cell BK281.out 2).trans rfl, (blk_cell BK281.out 3).trans rfl, (blk_cell BK281.out 4).trans rfl, (blk_cell BK281.out 5).trans rfl, (blk_cell BK301.out 0).trans rfl, (blk_cell BK301.out 1).trans rfl, (blk_cell BK298.out 0).trans rfl, (blk_cell BK298.out 1).trans rfl⟩ (fun hHeld => ?_)
 clear hK K
 refine norm_ (a' := ?_) ?_ ?_; rotate_left
 ·show Act.put _ (some 70) _ = _
  simp only [PS]
  rfl
 refine one_ (i := 24) (N := some 72) #[T,T,T,T,T,T,T,T,T,T,T,T,T,T,T,T,T,T,T,T,T,T,T,T,T,T,F,F,F,F,F,F,F,F,F,F,F,F,F,F,F,F,F,F,F,F,F,F,F,F,F,F,F,F,F,F,F,F,F,F,F,F,F,F,F,F,F,F,F,F,F,F,F,F,F,F,F,F,F] rfl rfl (one_of HT_.out (by kernel_rfl)) (by decide) (fun K hK => ?_)
 refine goes_ Try.func22 (by kernel_rfl) rfl #[.agg #[.int .i64 t310, .int .i64 t311, .int .i64 t312, .int .i64 t313, .int .i64 t314, .int .i64 t315], .agg #[.int .i64 t251, .int .i64 t252]] (by rfl) rfl rfl (by (try simp only [List.map_toArray, List.map_cons, List.map_nil]); first | done | rfl | (simp only [List.length_drop, List.length_take]; rfl)) ?_
 with_reducible refine (impl_Apply.calls t310 t311 t312 t313 t314 t315 t251 t252 t316 t317 _ A21.out).mono ?_
 rintro e w124 ⟨rfl, hb⟩
 refine ⟨_, rfl, ?_⟩
 replace BK243 := Aside0.mk (blk_below BK243.out hb)
 replace BK244 := Aside0.mk (blk_below BK244.out hb)
 replace BK253 := Aside0.mk (blk_below BK253.out hb)
 replace BK267 := Aside0.mk (blk_below BK267.out hb)
 replace BK281 := Aside0.mk (blk_below BK281.out hb)
 replace BK295 := Aside0.mk (blk_below BK295.out hb)
 replace BK298 := Aside0.mk (blk_below BK298.out hb)
 replace BK301 := Aside0.mk (blk_below BK301.out hb)
 replace HB := Aside0.mk (below_step HB.out hb)
 (try clear hb)
 (try clear hb2)
 (try clear hk)
 (try clear hi)
 refine hK.out _ _ ⟨(blk_cell BK244.out 0).trans rfl, (blk_cell BK244.out 1).trans rfl, (blk_cell BK253.out 0).trans rfl, (blk_cell BK253.out 1).trans rfl, (blk_cell BK267.out 0).trans rfl, (blk_cell BK267.out 1).trans rfl, (blk_cell BK267.out 2).trans rfl, (blk_cell BK267.out 3).trans rfl, (blk_cell BK267.out 4).trans rfl, (blk_cell BK267.out 5).trans rfl, (blk_cell BK243.out 0).trans rfl, (blk_cell BK243.out 1).trans rfl, (blk_cell BK243.out 2).trans rfl, (blk_cell BK243.out 3).trans rfl, (blk_cell BK243.out 4).trans rfl, (blk_cell BK243.out 5).trans rfl, (blk_cell BK281.out 0).trans rfl, (blk_cell BK281.out 1).trans rfl, (blk_cell BK281.out 2).trans rfl, (blk_cell BK281.out 3).trans rfl, (blk_cell BK281.out 4).trans rfl, (blk_cell BK281.out 5).trans rfl, (blk_cell BK301.out 0).trans rfl, (blk_cell BK301.out 1).trans rfl, (blk_cell BK298.out 0).trans rfl, (blk_cell BK298.out 1).trans rfl⟩ (fun hHeld => ?_)
 clear hK K
 refine norm_ (a' := ?_) ?_ ?_; rotate_left
 ·show Act.put _ (some 72) _ = _
  simp only [PS]
  rfl
 refine pure_ (i := 26) (N := some 74) (v := ?_) (a' := ?_) #[T,T,T,T,T,T,T,T,T,T,T,T,T,T,T,T,T,T,T,T,T,T,T,T,T,T,T,F,F,F,F,F,F,F,F,F,F,F,F,F,F,F,F,F,F,F,F,F,F,F,F,F,F,F,F,F,F,F,F,F,F,F,F,F,F,F,F,F,F,F,F,F,F,F,F,F,F,F,F] rfl rfl (any_of HT_.out (by kernel_rfl)) (fun _ _ _ h => h) (Or.inl ⟨by rfl, ?_⟩) ?_ ?_; rotate_left
 ·intro w'; go_simp; with_reducible rfl
 rotate_left; (focus (simp only [PS]; rfl))
 refine pure_ (i := 27) (N := some 75) (v := ?_) (a' := ?_) #[T,T,T,T,T,T,T,T,T,T,T,T,T,T,T,T,T,T,T,T,T,T,T,T,T,T,T,T,F,F,F,F,F,F,F,F,F,F,F,F,F,F,F,F,F,F,F,F,F,F,F,F,F,F,F,F,F,F,F,F,F,F,F,F,F,F,F,F,F,F,F,F,F,F,F,F,F,F,F] rfl rfl (any_of HT_.out (by kernel_rfl)) (fun _ _ _ h => h) (Or.inl ⟨by rfl, ?_⟩) ?_ ?_; rotate_left
 ·intro w'; go_simp; with_reducible rfl
 rotate_left; (focus (simp only [PS]; rfl))
 refine pure_ (i := 28) (N := some 76) (v := ?_) (a' := ?_) #[T,T,T,T,T,T,T,T,T,T,T,T,T,T,T,T,T,T,T,T,T,T,T,T,T,T,T,T,T,F,F,F,F,F,F,F,F,F,F,F,F,F,F,F,F,F,F,F,F,F,F,F,F,F,F,F,F,F,F,F,F,F,F,F,F,F,F,F,F,F,F,F,F,F,F,F,F,F,F] rfl rfl (any_of HT_.out (by kernel_rfl)) (fun _ _ _ h => h) (Or.inl ⟨by rfl, ?_⟩) ?_ ?_; rotate_left
 ·intro w'; go_simp; with_reducible rfl
 rotate_left; (focus (simp only [PS]; rfl))
 refine pure_ (i := 29) (N := some 77) (v := ?_) (a' := ?_) #[T,T,T,T,T,T,T,T,T,T,T,T,T,T,T,T,T,T,T,T,T,T,T,T,T,T,T,T,T,T,F,F,F,F,F,F,F,F,F,F,F,F,F,F,F,F,F,F,F,F,F,F,F,F,F,F,F,F,F,F,F,F,F,F,F,F,F,F,F,F,F,F,F,F,F,F,F,F,F] rfl rfl (any_of HT_.out (by kernel_rfl)) (fun _ _ _ h => h) (Or.inl ⟨by rfl, ?_⟩) ?_ ?_; rotate_left
 ·intro w'; go_simp; with_reducible rfl
 rotate_left; (focus (simp only [PS]; rfl))
 refine pure_ (i := 30) (N := some 78) (v := ?_) (a' := ?_) #[T,T,T,T,T,T,T,T,T,T,T,T,T,T,T,T,T,T,T,T,T,T,T,T,T,T,T,T,T,T,T,F,F,F,F,F,F,F,F,F,F,F,F,F,F,F,F,F,F,F,F,F,F,F,F,F,F,F,F,F,F,F,F,F,F,F,F,F,F,F,F,F,F,F,F,F,F,F,F] rfl rfl (any_of HT_.out (by kernel_rfl)) (fun _ _ _ h => h) (Or.inl ⟨by rfl, ?_⟩) ?_ ?_; rotate_left
 ·intro w'; go_simp; with_reducible rfl
 rotate_left; (focus (simp only [PS]; rfl))
 refine pure_ (i := 31) (N := some 79) (v := ?_) (a' := ?_) #[T,T,T,T,T,T,T,T,T,T,T,T,T,T,T,T,T,T,T,T,T,T,T,T,T,T,T,T,T,T,T,T,F,F,F,F,F,F,F,F,F,F,F,F,F,F,F,F,F,F,F,F,F,F,F,F,F,F,F,F,F,F,F,F,F,F,F,F,F,F,F,F,F,F,F,F,F,F,F] rfl rfl (any_of HT_.out (by kernel_rfl)) (fun _ _ _ h => h) (Or.inl ⟨by rfl, ?_⟩) ?_ ?_; rotate_left
 ·intro w'; go_simp; with_reducible rfl
 rotate_left; (focus (simp only [PS]; rfl))
 refine pure_ (i := 32) (N := some 80) (v := ?_) (a' := ?_) #[T,T,T,T,T,T,T,T,T,T,T,T,T,T,T,T,T,T,T,T,T,T,T,T,T,T,T,T,T,T,T,T,T,F,F,F,F,F,F,F,F,F,F,F,F,F,F,F,F,F,F,F,F,F,F,F,F,F,F,F,F,F,F,F,F,F,F,F,F,F,F,F,F,F,F,F,F,F,F] rfl rfl (any_of HT_.out (by kernel_rfl)) (fun _ _ _ h => h) (Or.inl ⟨by rfl, ?_⟩) ?_ ?_; rotate_left
 ·intro w'; go_simp; with_reducible rfl
 rotate_left; (focus (simp only [PS]; rfl))
 refine pure_ (i := 33) (N := some 81) (v := ?_) (a' := ?_) #[T,T,T,T,T,T,T,T,T,T,T,T,T,T,T,T,T,T,T,T,T,T,T,T,T,T,T,T,T,T,T,T,T,T,F,F,F,F,F,F,F,F,F,F,F,F,F,F,F,F,F,F,F,F,F,F,F,F,F,F,F,F,F,F,F,F,F,F,F,F,F,F,F,F,F,F,F,F,F] rfl rfl (any_of HT_.out (by kernel_rfl)) (fun _ _ _ h => h) (Or.inl ⟨by rfl, ?_⟩) ?_ ?_; rotate_left
 ·intro w'; go_simp; with_reducible rfl
 rotate_left; (focus (simp only [PS]; rfl))
 refine pure_ (i := 34) (N := some 82) (v := ?_) (a' := ?_) #[T,T,T,T,T,T,T,T,T,T,T,T,T,T,T,T,T,T,T,T,T,T,T,T,T,T,T,T,T,T,T,T,T,T,T,F,F,F,F,F,F,F,F,F,F,F,F,F,F,F,F,F,F,F,F,F,F,F,F,F,F,F,F,F,F,F,F,F,F,F,F,F,F,F,F,F,F,F,F] rfl rfl (any_of HT_.out (by kernel_rfl)) (fun _ _ _ h => h) (Or.inl ⟨by rfl, ?_⟩) ?_ ?_; rotate_left
 ·intro w'; go_simp; with_reducible rfl
 rotate_left; (focus (simp only [PS]; rfl))
 refine take_ (i := 35) (N := some 83) (v := ?_) (a' := ?_) #[T,T,T,T,T,T,T,T,T,T,T,T,T,T,T,T,T,T,T,T,T,T,T,T,T,T,T,T,T,T,T,T,T,T,T,T,F,F,F,F,F,F,F,F,F,F,F,F,F,F,F,F,F,F,F,F,F,F,F,F,F,F,F,F,F,F,F,F,F,F,F,F,F,F,F,F,F,F,F] rfl rfl (take_ofW HT_.out HW_.out (by kernel_rfl)) (fun _ _ _ h => h) (Or.inl ⟨by rfl, ?_⟩) hHeld ?_ ?_; rotate_left
 ·rintro w' ⟨s0, s1, s2, s3, s4, s5, s6, s7, s8, s9, s10, s11, s12, s13, s14, s15, s16, s17, s18, s19, s20, s21, s22, s23, s24, s25⟩; go_simp; with_reducible rfl
 rotate_left; (focus (simp only [PS]; rfl))
 refine take_ (i := 36) (N := some 84) (v := ?_) (a' := ?_) #[T,T,T,T,T,T,T,T,T,T,T,T,T,T,T,T,T,T,T,T,T,T,T,T,T,T,T,T,T,T,T,T,T,T,T,T,T,F,F,F,F,F,F,F,F,F,F,F,F,F,F,F,F,F,F,F,F,F,F,F,F,F,F,F,F,F,F,F,F,F,F,F,F,F,F,F,F,F,F] rfl rfl (take_ofW HT_.out HW_.out (by kernel_rfl)) (fun _ _ _ h => h) (Or.inl ⟨by rfl, ?_⟩) hHeld ?_ ?_; rotate_left
 ·rintro w' ⟨s0, s1, s2, s3, s4, s5, s6, s7, s8, s9, s10, s11, s12, s13, s14, s15, s16, s17, s18, s19, s20, s21, s22, s23, s24, s25⟩; go_simp; with_reducible rfl
 rotate_left; (focus (simp only [PS]; rfl))
 refine pure_ (i := 37) (N := some 85) (v := ?_) (a' := ?_) #[T,T,T,T,T,T,T,T,T,T,T,T,T,T,T,T,T,T,T,T,T,T,T,T,T,T,T,T,T,T,T,T,T,T,T,T,T,T,F,F,F,F,F,F,F,F,F,F,F,F,F,F,F,F,F,F,F,F,F,F,F,F,F,F,F,F,F,F,F,F,F,F,F,F,F,F,F,F,F] rfl rfl (any_of HT_.out (by kernel_rfl)) (fun _ _ _ h => h) (Or.inl ⟨by rfl, ?_⟩) ?_ ?_; rotate_left
 ·intro w'; go_simp; with_reducible rfl
 rotate_left; (focus (simp only [PS]; rfl))
 refine pure_ (i := 38) (N := some 86) (v := ?_) (a' := ?_) #[T,T,T,T,T,T,T,T,T,T,T,T,T,T,T,T,T,T,T,T,T,T,T,T,T,T,T,T,T,T,T,T,T,T,T,T,T,T,T,F,F,F,F,F,F,F,F,F,F,F,F,F,F,F,F,F,F,F,F,F,F,F,F,F,F,F,F,F,F,F,F,F,F,F,F,F,F,F,F] rfl rfl (any_of HT_.out (by kernel_rfl)) (fun _ _ _ h => h) (Or.inl ⟨by rfl, ?_⟩) ?_ ?_; rotate_left
 ·intro w'; go_simp; with_reducible rfl
 rotate_left; (focus (simp only [PS]; rfl))
 refine pure_ (i := 39) (N := some 87) (v := ?_) (a' := ?_) #[T,T,T,T,T,T,T,T,T,T,T,T,T,T,T,T,T,T,T,T,T,T,T,T,T,T,T,T,T,T,T,T,T,T,T,T,T,T,T,T,F,F,F,F,F,F,F,F,F,F,F,F,F,F,F,F,F,F,F,F,F,F,F,F,F,F,F,F,F,F,F,F,F,F,F,F,F,F,F] rfl rfl (any_of HT_.out (by kernel_rfl)) (fun _ _ _ h => h) (Or.inl ⟨by rfl, ?_⟩) ?_ ?_; rotate_left
 ·intro w'; go_simp; with_reducible rfl
 rotate_left; (focus (simp only [PS]; rfl))
 refine take_ (i := 40) (N := some 88) (v := ?_) (a' := ?_) #[T,T,T,T,T,T,T,T,T,T,T,T,T,T,T,T,T,T,T,T,T,T,T,T,T,T,T,T,T,T,T,T,T,T,T,T,T,T,T,T,T,F,F,F,F,F,F,F,F,F,F,F,F,F,F,F,F,F,F,F,F,F,F,F,F,F,F,F,F,F,F,F,F,F,F,F,F,F,F] rfl rfl (take_ofW HT_.out HW_.out (by kernel_rfl)) (fun _ _ _ h => h) (Or.inl ⟨by rfl, ?_⟩) hHeld ?_ ?_; rotate_left
 ·rintro w' ⟨s0, s1, s2, s3, s4, s5, s6, s7, s8, s9, s10, s11, s12, s13, s14, s15, s16, s17, s18, s19, s20, s21, s22, s23, s24, s25⟩; go_simp; with_reducible rfl
 rotate_left; (focus (simp only [PS]; rfl))
 refine take_ (i := 41) (N := some 89) (v := ?_) (a' := ?_) #[T,T,T,T,T,T,T,T,T,T,T,T,T,T,T,T,T,T,T,T,T,T,T,T,T,T,T,T,T,T,T,T,T,T,T,T,T,T,T,T,T,T,F,F,F,F,F,F,F,F,F,F,F,F,F,F,F,F,F,F,F,F,F,F,F,F,F,F,F,F,F,F,F,F,F,F,F,F,F] rfl rfl (take_ofW HT_.out HW_.out (by kernel_rfl)) (fun _ _ _ h => h) (Or.inl ⟨by rfl, ?_⟩) hHeld ?_ ?_; rotate_left
 ·rintro w' ⟨s0, s1, s2, s3, s4, s5, s6, s7, s8, s9, s10, s11, s12, s13, s14, s15, s16, s17, s18, s19, s20, s21, s22, s23, s24, s25⟩; go_simp; with_reducible rfl
 rotate_left; (focus (simp only [PS]; rfl))
 refine pure_ (i := 42) (N := some 90) (v := ?_) (a' := ?_) #[T,T,T,T,T,T,T,T,T,T,T,T,T,T,T,T,T,T,T,T,T,T,T,T,T,T,T,T,T,T,T,T,T,T,T,T,T,T,T,T,T,T,T,F,F,F,F,F,F,F,F,F,F,F,F,F,F,F,F,F,F,F,F,F,F,F,F,F,F,F,F,F,F,F,F,F,F,F,F] rfl rfl (any_of HT_.out (by kernel_rfl)) (fun _ _ _ h => h) (Or.inl ⟨by rfl, ?_⟩) ?_ ?_; rotate_left
 ·intro w'; go_simp; with_reducible rfl
 rotate_left; (focus (simp only [PS]; rfl))
 refine pure_ (i := 43) (N := some 91) (v := ?_) (a' := ?_) #[T,T,T,T,T,T,T,T,T,T,T,T,T,T,T,T,T,T,T,T,T,T,T,T,T,T,T,T,T,T,T,T,T,T,T,T,T,T,T,T,T,T,T,T,F,F,F,F,F,F,F,F,F,F,F,F,F,F,F,F,F,F,F,F,F,F,F,F,F,F,F,F,F,F,F,F,F,F,F] rfl rfl (any_of HT_.out (by kernel_rfl)) (fun _ _ _ h => h) (Or.inl ⟨by rfl, ?_⟩) ?_ ?_; rotate_left
 ·intro w'; go_simp; with_reducible rfl
 rotate_left; (focus (simp only [PS]; rfl))
 refine pure_ (i := 44) (N := some 92) (v := ?_) (a' := ?_) #[T,T,T,T,T,T,T,T,T,T,T,T,T,T,T,T,T,T,T,T,T,T,T,T,T,T,T,T,T,T,T,T,T,T,T,T,T,T,T,T,T,T,T,T,T,F,F,F,F,F,F,F,F,F,F,F,F,F,F,F,F,F,F,F,F,F,F,F,F,F,F,F,F,F,F,F,F,F,F] rfl rfl (any_of HT_.out (by kernel_rfl)) (fun _ _ _ h => h) (Or.inl ⟨by rfl, ?_⟩) ?_ ?_; rotate_left
 ·intro w'; go_simp; with_reducible rfl
 rotate_left; (focus (simp only [PS]; rfl))
 refine pure_ (i := 45) (N := some 93) (v := ?_) (a' := ?_) #[T,T,T,T,T,T,T,T,T,T,T,T,T,T,T,T,T,T,T,T,T,T,T,T,T,T,T,T,T,T,T,T,T,T,T,T,T,T,T,T,T,T,T,T,T,T,F,F,F,F,F,F,F,F,F,F,F,F,F,F,F,F,F,F,F,F,F,F,F,F,F,F,F,F,F,F,F,F,F] rfl rfl (any_of HT_.out (by kernel_rfl)) (fun _ _ _ h => h) (Or.inl ⟨by rfl, ?_⟩) ?_ ?_; rotate_left
 ·intro w'; go_simp; with_reducible rfl
 rotate_left; (focus (simp only [PS]; rfl))
 refine pure_ (i := 46) (N := some 94) (v := ?_) (a' := ?_) #[T,T,T,T,T,T,T,T,T,T,T,T,T,T,T,T,T,T,T,T,T,T,T,T,T,T,T,T,T,T,T,T,T,T,T,T,T,T,T,T,T,T,T,T,T,T,T,F,F,F,F,F,F,F,F,F,F,F,F,F,F,F,F,F,F,F,F,F,F,F,F,F,F,F,F,F,F,F,F] rfl rfl (any_of HT_.out (by kernel_rfl)) (fun _ _ _ h => h) (Or.inl ⟨by rfl, ?_⟩) ?_ ?_; rotate_left
 ·intro w'; go_simp; with_reducible rfl
 rotate_left; (focus (simp only [PS]; rfl))
 refine pure_ (i := 47) (N := some 95) (v := ?_) (a' := ?_) #[T,T,T,T,T,T,T,T,T,T,T,T,T,T,T,T,T,T,T,T,T,T,T,T,T,T,T,T,T,T,T,T,T,T,T,T,T,T,T,T,T,T,T,T,T,T,T,T,F,F,F,F,F,F,F,F,F,F,F,F,F,F,F,F,F,F,F,F,F,F,F,F,F,F,F,F,F,F,F] rfl rfl (any_of HT_.out (by kernel_rfl)) (fun _ _ _ h => h) (Or.inl ⟨by rfl, ?_⟩) ?_ ?_; rotate_left
 ·intro w'; go_simp; with_reducible rfl
 rotate_left; (focus (simp only [PS]; rfl))
 refine pure_ (i := 48) (N := some 96) (v := ?_) (a' := ?_) #[T,T,T,T,T,T,T,T,T,T,T,T,T,T,T,T,T,T,T,T,T,T,T,T,T,T,T,T,T,T,T,T,T,T,T,T,T,T,T,T,T,T,T,T,T,T,T,T,T,F,F,F,F,F,F,F,F,F,F,F,F,F,F,F,F,F,F,F,F,F,F,F,F,F,F,F,F,F,F] rfl rfl (any_of HT_.out (by kernel_rfl)) (fun _ _ _ h => h) (Or.inl ⟨by rfl, ?_⟩) ?_ ?_; rotate_left
 ·intro w'; go_simp; with_reducible rfl
 rotate_left; (focus (simp only [PS]; rfl))
 refine pure_ (i := 50) (N := some 98) (v := ?_) (a' := ?_) #[T,T,T,T,T,T,T,T,T,T,T,T,T,T,T,T,T,T,T,T,T,T,T,T,T,T,T,T,T,T,T,T,T,T,T,T,T,T,T,T,T,T,T,T,T,T,T,T,T,F,T,F,F,F,F,F,F,F,F,F,F,F,F,F,F,F,F,F,F,F,F,F,F,F,F,F,F,F,F] rfl rfl (any_of HT_.out (by kernel_rfl)) (fun _ _ _ h => h) (Or.inl ⟨by rfl, ?_⟩) ?_ ?_; rotate_left
 ·intro w'; go_simp; with_reducible rfl
 rotate_left; (focus (simp only [PS]; rfl))
 refine take_ (i := 49) (N := some 97) (v := ?_) (a' := ?_) #[T,T,T,T,T,T,T,T,T,T,T,T,T,T,T,T,T,T,T,T,T,T,T,T,T,T,T,T,T,T,T,T,T,T,T,T,T,T,T,T,T,T,T,T,T,T,T,T,T,T,T,F,F,F,F,F,F,F,F,F,F,F,F,F,F,F,F,F,F,F,F,F,F,F,F,F,F,F,F] rfl rfl (take_ofW HT_.out HW_.out (by kernel_rfl)) (fun _ _ _ h => h) (Or.inl ⟨by rfl, ?_⟩) hHeld ?_ ?_; rotate_left
 ·rintro w' ⟨s0, s1, s2, s3, s4, s5, s6, s7, s8, s9, s10, s11, s12, s13, s14, s15, s16, s17, s18, s19, s20, s21, s22, s23, s24, s25⟩; go_simp; with_reducible rfl
 rotate_left; (focus (simp only [PS]; rfl))
 refine take_ (i := 51) (N := some 99) (v := ?_) (a' := ?_) #[T,T,T,T,T,T,T,T,T,T,T,T,T,T,T,T,T,T,T,T,T,T,T,T,T,T,T,T,T,T,T,T,T,T,T,T,T,T,T,T,T,T,T,T,T,T,T,T,T,T,T,T,F,F,F,F,F,F,F,F,F,F,F,F,F,F,F,F,F,F,F,F,F,F,F,F,F,F,F] rfl rfl (take_ofW HT_.out HW_.out (by kernel_rfl)) (fun _ _ _ h => h) (Or.inl ⟨by rfl, ?_⟩) hHeld ?_ ?_; rotate_left
 ·rintro w' ⟨s0, s1, s2, s3, s4, s5, s6, s7, s8, s9, s10, s11, s12, s13, s14, s15, s16, s17, s18, s19, s20, s21, s22, s23, s24, s25⟩; go_simp; with_reducible rfl
 rotate_left; (focus (simp only [PS]; rfl))
 refine pure_ (i := 52) (N := some 100) (v := ?_) (a' := ?_) #[T,T,T,T,T,T,T,T,T,T,T,T,T,T,T,T,T,T,T,T,T,T,T,T,T,T,T,T,T,T,T,T,T,T,T,T,T,T,T,T,T,T,T,T,T,T,T,T,T,T,T,T,T,F,F,F,F,F,F,F,F,F,F,F,F,F,F,F,F,F,F,F,F,F,F,F,F,F,F] rfl rfl (any_of HT_.out (by kernel_rfl)) (fun _ _ _ h => h) (Or.inl ⟨by rfl, ?_⟩) ?_ ?_; rotate_left
 ·intro w'; go_simp; with_reducible rfl
 rotate_left; (focus (simp only [PS]; rfl))
 refine pure_ (i := 53) (N := some 101) (v := ?_) (a' := ?_) #[T,T,T,T,T,T,T,T,T,T,T,T,T,T,T,T,T,T,T,T,T,T,T,T,T,T,T,T,T,T,T,T,T,T,T,T,T,T,T,T,T,T,T,T,T,T,T,T,T,T,T,T,T,T,F,F,F,F,F,F,F,F,F,F,F,F,F,F,F,F,F,F,F,F,F,F,F,F,F] rfl rfl (any_of HT_.out (by kernel_rfl)) (fun _ _ _ h => h) (Or.inl ⟨by rfl, ?_⟩) ?_ ?_; rotate_left
 ·intro w'; go_simp; with_reducible rfl
 rotate_left; (focus (simp only [PS]; rfl))
 refine pure_ (i := 54) (N := some 102) (v := ?_) (a' := ?_) #[T,T,T,T,T,T,T,T,T,T,T,T,T,T,T,T,T,T,T,T,T,T,T,T,T,T,T,T,T,T,T,T,T,T,T,T,T,T,T,T,T,T,T,T,T,T,T,T,T,T,T,T,T,T,T,F,F,F,F,F,F,F,F,F,F,F,F,F,F,F,F,F,F,F,F,F,F,F,F] rfl rfl (any_of HT_.out (by kernel_rfl)) (fun _ _ _ h => h) (Or.inl ⟨by rfl, ?_⟩) ?_ ?_; rotate_left
 ·intro w'; go_simp; with_reducible rfl
 rotate_left; (focus (simp only [PS]; rfl))
 refine pure_ (i := 55) (N := some 103) (v := ?_) (a' := ?_) #[T,T,T,T,T,T,T,T,T,T,T,T,T,T,T,T,T,T,T,T,T,T,T,T,T,T,T,T,T,T,T,T,T,T,T,T,T,T,T,T,T,T,T,T,T,T,T,T,T,T,T,T,T,T,T,T,F,F,F,F,F,F,F,F,F,F,F,F,F,F,F,F,F,F,F,F,F,F,F] rfl rfl (any_of HT_.out (by kernel_rfl)) (fun _ _ _ h => h) (Or.inl ⟨by rfl, ?_⟩) ?_ ?_; rotate_left
 ·intro w'; go_simp; with_reducible rfl
 rotate_left; (focus (simp only [PS]; rfl))
 refine pure_ (i := 56) (N := some 104) (v := ?_) (a' := ?_) #[T,T,T,T,T,T,T,T,T,T,T,T,T,T,T,T,T,T,T,T,T,T,T,T,T,T,T,T,T,T,T,T,T,T,T,T,T,T,T,T,T,T,T,T,T,T,T,T,T,T,T,T,T,T,T,T,T,F,F,F,F,F,F,F,F,F,F,F,F,F,F,F,F,F,F,F,F,F,F] rfl rfl (any_of HT_.out (by kernel_rfl)) (fun _ _ _ h => h) (Or.inl ⟨by rfl, ?_⟩) ?_ ?_; rotate_left
 ·intro w'; go_simp; with_reducible rfl
 rotate_left; (focus (simp only [PS]; rfl))
 refine pure_ (i := 58) (N := some 106) (v := ?_) (a' := ?_) #[T,T,T,T,T,T,T,T,T,T,T,T,T,T,T,T,T,T,T,T,T,T,T,T,T,T,T,T,T,T,T,T,T,T,T,T,T,T,T,T,T,T,T,T,T,T,T,T,T,T,T,T,T,T,T,T,T,F,T,F,F,F,F,F,F,F,F,F,F,F,F,F,F,F,F,F,F,F,F] rfl rfl (any_of HT_.out (by kernel_rfl)) (fun _ _ _ h => h) (Or.inl ⟨by rfl, ?_⟩) ?_ ?_; rotate_left
 ·intro w'; go_simp; with_reducible rfl
 rotate_left; (focus (simp only [PS]; rfl))
 refine take_ (i := 57) (N := some 105) (v := ?_) (a' := ?_) #[T,T,T,T,T,T,T,T,T,T,T,T,T,T,T,T,T,T,T,T,T,T,T,T,T,T,T,T,T,T,T,T,T,T,T,T,T,T,T,T,T,T,T,T,T,T,T,T,T,T,T,T,T,T,T,T,T,T,T,F,F,F,F,F,F,F,F,F,F,F,F,F,F,F,F,F,F,F,F] rfl rfl (take_ofW HT_.out HW_.out (by kernel_rfl)) (fun _ _ _ h => h) (Or.inl ⟨by rfl, ?_⟩) hHeld ?_ ?_; rotate_left
 ·rintro w' ⟨s0, s1, s2, s3, s4, s5, s6, s7, s8, s9, s10, s11, s12, s13, s14, s15, s16, s17, s18, s19, s20, s21, s22, s23, s24, s25⟩; go_simp; with_reducible rfl
 rotate_left; (focus (simp only [PS]; rfl))
 refine take_ (i := 59) (N := some 107) (v := ?_) (a' := ?_) #[T,T,T,T,T,T,T,T,T,T,T,T,T,T,T,T,T,T,T,T,T,T,T,T,T,T,T,T,T,T,T,T,T,T,T,T,T,T,T,T,T,T,T,T,T,T,T,T,T,T,T,T,T,T,T,T,T,T,T,T,F,F,F,F,F,F,F,F,F,F,F,F,F,F,F,F,F,F,F] rfl rfl (take_ofW HT_.out HW_.out (by kernel_rfl)) (fun _ _ _ h => h) (Or.inl ⟨by rfl, ?_⟩) hHeld ?_ ?_; rotate_left
 ·rintro w' ⟨s0, s1, s2, s3, s4, s5, s6, s7, s8, s9, s10, s11, s12, s13, s14, s15, s16, s17, s18, s19, s20, s21, s22, s23, s24, s25⟩; go_simp; with_reducible rfl
 rotate_left; (focus (simp only [PS]; rfl))
 refine pure_ (i := 60) (N := some 108) (v := ?_) (a' := ?_) #[T,T,T,T,T,T,T,T,T,T,T,T,T,T,T,T,T,T,T,T,T,T,T,T,T,T,T,T,T,T,T,T,T,T,T,T,T,T,T,T,T,T,T,T,T,T,T,T,T,T,T,T,T,T,T,T,T,T,T,T,T,F,F,F,F,F,F,F,F,F,F,F,F,F,F,F,F,F,F] rfl rfl (any_of HT_.out (by kernel_rfl)) (fun _ _ _ h => h) (Or.inl ⟨by rfl, ?_⟩) ?_ ?_; rotate_left
 ·intro w'; go_simp; with_reducible rfl
 rotate_left; (focus (simp only [PS]; rfl))
 refine pure_ (i := 61) (N := some 109) (v := ?_) (a' := ?_) #[T,T,T,T,T,T,T,T,T,T,T,T,T,T,T,T,T,T,T,T,T,T,T,T,T,T,T,T,T,T,T,T,T,T,T,T,T,T,T,T,T,T,T,T,T,T,T,T,T,T,T,T,T,T,T,T,T,T,T,T,T,T,F,F,F,F,F,F,F,F,F,F,F,F,F,F,F,F,F] rfl rfl (any_of HT_.out (by kernel_rfl)) (fun _ _ _ h => h) (Or.inl ⟨by rfl, ?_⟩) ?_ ?_; rotate_left
 ·intro w'; go_simp; with_reducible rfl
 rotate_left; (focus (simp only [PS]; rfl))
 refine pure_ (i := 62) (N := some 110) (v := ?_) (a' := ?_) #[T,T,T,T,T,T,T,T,T,T,T,T,T,T,T,T,T,T,T,T,T,T,T,T,T,T,T,T,T,T,T,T,T,T,T,T,T,T,T,T,T,T,T,T,T,T,T,T,T,T,T,T,T,T,T,T,T,T,T,T,T,T,T,F,F,F,F,F,F,F,F,F,F,F,F,F,F,F,F] rfl rfl (any_of HT_.out (by kernel_rfl)) (fun _ _ _ h => h) (Or.inl ⟨by rfl, ?_⟩) ?_ ?_; rotate_left
 ·intro w'; go_simp; with_reducible rfl
 rotate_left; (focus (simp only [PS]; rfl))
 refine pure_ (i := 63) (N := some 111) (v := ?_) (a' := ?_) #[T,T,T,T,T,T,T,T,T,T,T,T,T,T,T,T,T,T,T,T,T,T,T,T,T,T,T,T,T,T,T,T,T,T,T,T,T,T,T,T,T,T,T,T,T,T,T,T,T,T,T,T,T,T,T,T,T,T,T,T,T,T,T,T,F,F,F,F,F,F,F,F,F,F,F,F,F,F,F] rfl rfl (any_of HT_.out (by kernel_rfl)) (fun _ _ _ h => h) (Or.inl ⟨by rfl, ?_⟩) ?_ ?_; rotate_left
 ·intro w'; go_simp; with_reducible rfl
 rotate_left; (focus (simp only [PS]; rfl))
 refine take_ (i := 64) (N := some 112) (v := ?_) (a' := ?_) #[T,T,T,T,T,T,T,T,T,T,T,T,T,T,T,T,T,T,T,T,T,T,T,T,T,T,T,T,T,T,T,T,T,T,T,T,T,T,T,T,T,T,T,T,T,T,T,T,T,T,T,T,T,T,T,T,T,T,T,T,T,T,T,T,T,F,F,F,F,F,F,F,F,F,F,F,F,F,F] rfl rfl (take_ofW HT_.out HW_.out (by kernel_rfl)) (fun _ _ _ h => h) (Or.inl ⟨by rfl, ?_⟩) hHeld ?_ ?_; rotate_left
 ·rintro w' ⟨s0, s1, s2, s3, s4, s5, s6, s7, s8, s9, s10, s11, s12, s13, s14, s15, s16, s17, s18, s19, s20, s21, s22, s23, s24, s25⟩; go_simp; with_reducible rfl
 rotate_left; (focus (simp only [PS]; rfl))
 refine take_ (i := 65) (N := some 113) (v := ?_) (a' := ?_) #[T,T,T,T,T,T,T,T,T,T,T,T,T,T,T,T,T,T,T,T,T,T,T,T,T,T,T,T,T,T,T,T,T,T,T,T,T,T,T,T,T,T,T,T,T,T,T,T,T,T,T,T,T,T,T,T,T,T,T,T,T,T,T,T,T,T,F,F,F,F,F,F,F,F,F,F,F,F,F] rfl rfl (take_ofW HT_.out HW_.out (by kernel_rfl)) (fun _ _ _ h => h) (Or.inl ⟨by rfl, ?_⟩) hHeld ?_ ?_; rotate_left
 ·rintro w' ⟨s0, s1, s2, s3, s4, s5, s6, s7, s8, s9, s10, s11, s12, s13, s14, s15, s16, s17, s18, s19, s20, s21, s22, s23, s24, s25⟩; go_simp; with_reducible rfl
 rotate_left; (focus (simp only [PS]; rfl))
 refine take_ (i := 66) (N := some 114) (v := ?_) (a' := ?_) #[T,T,T,T,T,T,T,T,T,T,T,T,T,T,T,T,T,T,T,T,T,T,T,T,T,T,T,T,T,T,T,T,T,T,T,T,T,T,T,T,T,T,T,T,T,T,T,T,T,T,T,T,T,T,T,T,T,T,T,T,T,T,T,T,T,T,T,F,F,F,F,F,F,F,F,F,F,F,F] rfl rfl (take_ofW HT_.out HW_.out (by kernel_rfl)) (fun _ _ _ h => h) (Or.inl ⟨by rfl, ?_⟩) hHeld ?_ ?_; rotate_left
 ·rintro w' ⟨s0, s1, s2, s3, s4, s5, s6, s7, s8, s9, s10, s11, s12, s13, s14, s15, s16, s17, s18, s19, s20, s21, s22, s23, s24, s25⟩; go_simp; with_reducible rfl
 rotate_left; (focus (simp only [PS]; rfl))
 refine one_ (i := 67) (N := some 115) #[T,T,T,T,T,T,T,T,T,T,T,T,T,T,T,T,T,T,T,T,T,T,T,T,T,T,T,T,T,T,T,T,T,T,T,T,T,T,T,T,T,T,T,T,T,T,T,T,T,T,T,T,T,T,T,T,T,T,T,T,T,T,T,T,T,T,T,T,F,F,F,F,F,F,F,F,F,F,F] rfl rfl (one_of HT_.out (by kernel_rfl)) (by decide) (fun K hK => ?_)
 refine goes_ Try.func20 (by kernel_rfl) rfl #[.agg #[.int .i64 t235, .int .i64 t236, .int .i64 t237, .int .i64 t238, .int .i64 t239, .int .i64 t240], .agg #[.int .i64 t241, .int .i64 t242]] (by rfl) rfl rfl (by (try simp only [List.map_toArray, List.map_cons, List.map_nil]); first | done | rfl | (simp only [List.length_drop, List.length_take]; rfl)) ?_
 with_reducible refine (spec_Apply.calls k t235 t236 t237 t238 t239 t240 t241 t242 t318 t319 _ A30.out).mono ?_
 rintro e w125 ⟨rfl, hb⟩
 refine ⟨_, rfl, ?_⟩
 replace BK243 := Aside0.mk (blk_below BK243.out hb)
 replace BK244 := Aside0.mk (blk_below BK244.out hb)
 replace BK253 := Aside0.mk (blk_below BK253.out hb)
 replace BK267 := Aside0.mk (blk_below BK267.out hb)
 replace BK281 := Aside0.mk (blk_below BK281.out hb)
 replace BK295 := Aside0.mk (blk_below BK295.out hb)
 replace BK298 := Aside0.mk (blk_below BK298.out hb)
 replace BK301 := Aside0.mk (blk_below BK301.out hb)
 replace HB := Aside0.mk (below_step HB.out hb)
 (try clear hb)
 (try clear hb2)
 (try clear hk)
 (try clear hi)
 refine hK.out _ _ ⟨(blk_cell BK244.out 0).trans rfl, (blk_cell BK244.out 1).trans rfl, (blk_cell BK253.out 0).trans rfl, (blk_cell BK253.out 1).trans rfl, (blk_cell BK267.out 0).trans rfl, (blk_cell BK267.out 1).trans rfl, (blk_cell BK267.out 2).trans rfl, (blk_cell BK267.out 3).trans rfl, (blk_cell BK267.out 4).trans rfl, (blk_cell BK267.out 5).trans rfl, (blk_cell BK243.out 0).trans rfl, (blk_cell BK243.out 1).trans rfl, (blk_cell BK243.out 2).trans rfl, (blk_cell BK243.out 3).trans rfl, (blk_cell BK243.out 4).trans rfl, (blk_cell BK243.out 5).trans rfl, (blk_cell BK281.out 0).trans rfl, (blk_cell BK281.out 1).trans rfl, (blk_cell BK281.out 2).trans rfl, (blk_cell BK281.out 3).trans rfl, (blk_cell BK281.out 4).trans rfl, (blk_cell BK281.out 5).trans rfl, (blk_cell BK301.out 0).trans rfl, (blk_cell BK301.out 1).trans rfl, (blk_cell BK298.out 0).trans rfl, (blk_cell BK298.out 1).trans rfl⟩ (fun hHeld => ?_)
 clear hK K
 refine norm_ (a' := ?_) ?_ ?_; rotate_left
 ·show Act.put _ (some 115) _ = _
  simp only [PS]
  rfl
 refine pure_ (i := 68) (N := some 116) (v := ?_) (a' := ?_) #[T,T,T,T,T,T,T,T,T,T,T,T,T,T,T,T,T,T,T,T,T,T,T,T,T,T,T,T,T,T,T,T,T,T,T,T,T,T,T,T,T,T,T,T,T,T,T,T,T,T,T,T,T,T,T,T,T,T,T,T,T,T,T,T,T,T,T,T,T,F,F,F,F,F,F,F,F,F,F] rfl rfl (any_of HT_.out (by kernel_rfl)) (fun _ _ _ h => h) (Or.inl ⟨by rfl, ?_⟩) ?_ ?_; rotate_left
 ·intro w'; go_simp; with_reducible rfl
 rotate_left; (focus (simp only [PS]; rfl))
 refine pure_ (i := 69) (N := some 117) (v := ?_) (a' := ?_) #[T,T,T,T,T,T,T,T,T,T,T,T,T,T,T,T,T,T,T,T,T,T,T,T,T,T,T,T,T,T,T,T,T,T,T,T,T,T,T,T,T,T,T,T,T,T,T,T,T,T,T,T,T,T,T,T,T,T,T,T,T,T,T,T,T,T,T,T,T,T,F,F,F,F,F,F,F,F,F] rfl rfl (any_of HT_.out (by kernel_rfl)) (fun _ _ _ h => h) (Or.inl ⟨by rfl, ?_⟩) ?_ ?_; rotate_left
 ·intro w'; go_simp; with_reducible rfl
 rotate_left; (focus (simp only [PS]; rfl))
 refine pure_ (i := 70) (N := some 118) (v := ?_) (a' := ?_) #[T,T,T,T,T,T,T,T,T,T,T,T,T,T,T,T,T,T,T,T,T,T,T,T,T,T,T,T,T,T,T,T,T,T,T,T,T,T,T,T,T,T,T,T,T,T,T,T,T,T,T,T,T,T,T,T,T,T,T,T,T,T,T,T,T,T,T,T,T,T,T,F,F,F,F,F,F,F,F] rfl rfl (any_of HT_.out (by kernel_rfl)) (fun _ _ _ h => h) (Or.inl ⟨by rfl, ?_⟩) ?_ ?_; rotate_left
 ·intro w'; go_simp; with_reducible rfl
 rotate_left; (focus (simp only [PS]; rfl))
 refine take_ (i := 71) (N := some 119) (v := ?_) (a' := ?_) #[T,T,T,T,T,T,T,T,T,T,T,T,T,T,T,T,T,T,T,T,T,T,T,T,T,T,T,T,T,T,T,T,T,T,T,T,T,T,T,T,T,T,T,T,T,T,T,T,T,T,T,T,T,T,T,T,T,T,T,T,T,T,T,T,T,T,T,T,T,T,T,T,F,F,F,F,F,F,F] rfl rfl (take_ofW HT_.out HW_.out (by kernel_rfl)) (fun _ _ _ h => h) (Or.inl ⟨by rfl, ?_⟩) hHeld ?_ ?_; rotate_left
 ·rintro w' ⟨s0, s1, s2, s3, s4, s5, s6, s7, s8, s9, s10, s11, s12, s13, s14, s15, s16, s17, s18, s19, s20, s21, s22, s23, s24, s25⟩; go_simp; with_reducible rfl
 rotate_left; (focus (simp only [PS]; rfl))
 refine one_ (i := 72) (N := some 120) #[T,T,T,T,T,T,T,T,T,T,T,T,T,T,T,T,T,T,T,T,T,T,T,T,T,T,T,T,T,T,T,T,T,T,T,T,T,T,T,T,T,T,T,T,T,T,T,T,T,T,T,T,T,T,T,T,T,T,T,T,T,T,T,T,T,T,T,T,T,T,T,T,T,F,F,F,F,F,F] rfl rfl (one_of HT_.out (by kernel_rfl)) (by decide) (fun K hK => ?_)
 refine goes_ Try.func50 (by kernel_rfl) rfl #[.agg #[.int .i64 t235, .int .i64 t236, .int .i64 t237, .int .i64 t238, .int .i64 t239, .int .i64 t240]] (by rfl) rfl rfl (by (try simp only [List.map_toArray, List.map_cons, List.map_nil]); first | done | rfl | (simp only [List.length_drop, List.length_take]; rfl)) ?_
 with_reducible refine (impl_MatOk.calls t235 t236 t237 t238 t239 t240 true _ A32.out).mono ?_
 rintro e w126 ⟨rfl, hb⟩
 refine ⟨_, rfl, ?_⟩
 replace BK243 := Aside0.mk (blk_below BK243.out hb)
 replace BK244 := Aside0.mk (blk_below BK244.out hb)
 replace BK253 := Aside0.mk (blk_below BK253.out hb)
 replace BK267 := Aside0.mk (blk_below BK267.out hb)
 replace BK281 := Aside0.mk (blk_below BK281.out hb)
 replace BK295 := Aside0.mk (blk_below BK295.out hb)
 replace BK298 := Aside0.mk (blk_below BK298.out hb)
 replace BK301 := Aside0.mk (blk_below BK301.out hb)
 replace HB := Aside0.mk (below_step HB.out hb)
 (try clear hb)
 (try clear hb2)
 (try clear hk)
 (try clear hi)
 refine hK.out _ _ ⟨(blk_cell BK244.out 0).trans rfl, (blk_cell BK244.out 1).trans rfl, (blk_cell BK253.out 0).trans rfl, (blk_cell BK253.out 1).trans rfl, (blk_cell BK267.out 0).trans rfl, (blk_cell BK267.out 1).trans rfl, (blk_cell BK267.out 2).trans rfl, (blk_cell BK267.out 3).trans rfl, (blk_cell BK267.out 4).trans rfl, (blk_cell BK267.out 5).trans rfl, (blk_cell BK243.out 0).trans rfl, (blk_cell BK243.out 1).trans rfl, (blk_cell BK243.out 2).trans rfl, (blk_cell BK243.out 3).trans rfl, (blk_cell BK243.out 4).trans rfl, (blk_cell BK243.out 5).trans rfl, (blk_cell BK281.out 0).trans rfl, (blk_cell BK281.out 1).trans rfl, (blk_cell BK281.out 2).trans rfl, (blk_cell BK281.out 3).trans rfl, (blk_cell BK281.out 4).trans rfl, (blk_cell BK281.out 5).trans rfl, (blk_cell BK301.out 0).trans rfl, (blk_cell BK301.out 1).trans rfl, (blk_cell BK298.out 0).trans rfl, (blk_cell BK298.out 1).trans rfl⟩ (fun hHeld => ?_)
 clear hK K
 refine norm_ (a' := ?_) ?_ ?_; rotate_left
 ·show Act.put _ (some 120) _ = _
  simp only [PS]
  rfl
 refine pure_ (i := 73) (N := some 121) (v := ?_) (a' := ?_) #[T,T,T,T,T,T,T,T,T,T,T,T,T,T,T,T,T,T,T,T,T,T,T,T,T,T,T,T,T,T,T,T,T,T,T,T,T,T,T,T,T,T,T,T,T,T,T,T,T,T,T,T,T,T,T,T,T,T,T,T,T,T,T,T,T,T,T,T,T,T,T,T,T,T,F,F,F,F,F] rfl rfl (any_of HT_.out (by kernel_rfl)) (fun _ _ _ h => h) (Or.inl ⟨by rfl, ?_⟩) ?_ ?_; rotate_left
 ·intro w'; go_simp; with_reducible rfl
 rotate_left; (focus (simp only [PS]; rfl))
 refine pure_ (i := 74) (N := some 122) (v := ?_) (a' := ?_) #[T,T,T,T,T,T,T,T,T,T,T,T,T,T,T,T,T,T,T,T,T,T,T,T,T,T,T,T,T,T,T,T,T,T,T,T,T,T,T,T,T,T,T,T,T,T,T,T,T,T,T,T,T,T,T,T,T,T,T,T,T,T,T,T,T,T,T,T,T,T,T,T,T,T,T,F,F,F,F] rfl rfl (any_of HT_.out (by kernel_rfl)) (fun _ _ _ h => h) (Or.inl ⟨by rfl, ?_⟩) ?_ ?_; rotate_left
 ·intro w'; go_simp; with_reducible rfl
 rotate_left; (focus (simp only [PS]; rfl))
 refine take_ (i := 75) (N := some 123) (v := ?_) (a' := ?_) #[T,T,T,T,T,T,T,T,T,T,T,T,T,T,T,T,T,T,T,T,T,T,T,T,T,T,T,T,T,T,T,T,T,T,T,T,T,T,T,T,T,T,T,T,T,T,T,T,T,T,T,T,T,T,T,T,T,T,T,T,T,T,T,T,T,T,T,T,T,T,T,T,T,T,T,T,F,F,F] rfl rfl (take_ofW HT_.out HW_.out (by kernel_rfl)) (fun _ _ _ h => h) (Or.inl ⟨by rfl, ?_⟩) hHeld ?_ ?_; rotate_left
 ·rintro w' ⟨s0, s1, s2, s3, s4, s5, s6, s7, s8, s9, s10, s11, s12, s13, s14, s15, s16, s17, s18, s19, s20, s21, s22, s23, s24, s25⟩; go_simp; with_reducible rfl
 rotate_left; (focus (simp only [PS]; rfl))
 refine one_ (i := 76) (N := some 124) #[T,T,T,T,T,T,T,T,T,T,T,T,T,T,T,T,T,T,T,T,T,T,T,T,T,T,T,T,T,T,T,T,T,T,T,T,T,T,T,T,T,T,T,T,T,T,T,T,T,T,T,T,T,T,T,T,T,T,T,T,T,T,T,T,T,T,T,T,T,T,T,T,T,T,T,T,T,F,F] rfl rfl (one_of HT_.out (by kernel_rfl)) (by decide) (fun K hK => ?_)
 refine goes_ Try.func51 (by kernel_rfl) rfl #[.agg #[.int .i64 t241, .int .i64 t242]] (by rfl) rfl rfl (by (try simp only [List.map_toArray, List.map_cons, List.map_nil]); first | done | rfl | (simp only [List.length_drop, List.length_take]; rfl)) ?_
 with_reducible refine (impl_PointOk.calls t241 t242 t321 _ A34.out).mono ?_
 rintro e w127 ⟨rfl, hb⟩
 refine ⟨_, rfl, ?_⟩
 replace BK243 := Aside0.mk (blk_below BK243.out hb)
 replace BK244 := Aside0.mk (blk_below BK244.out hb)
 replace BK253 := Aside0.mk (blk_below BK253.out hb)
 replace BK267 := Aside0.mk (blk_below BK267.out hb)
 replace BK281 := Aside0.mk (blk_below BK281.out hb)
 replace BK295 := Aside0.mk (blk_below BK295.out hb)
 replace BK298 := Aside0.mk (blk_below BK298.out hb)
 replace BK301 := Aside0.mk (blk_below BK301.out hb)
 replace HB := Aside0.mk (below_step HB.out hb)
 (try clear hb)
 (try clear hb2)
 (try clear hk)
 (try clear hi)
 refine hK.out _ _ ⟨(blk_cell BK244.out 0).trans rfl, (blk_cell BK244.out 1).trans rfl, (blk_cell BK253.out 0).trans rfl, (blk_cell BK253.out 1).trans rfl, (blk_cell BK267.out 0).trans rfl, (blk_cell BK267.out 1).trans rfl, (blk_cell BK267.out 2).trans rfl, (blk_cell BK267.out 3).trans rfl, (blk_cell BK267.out 4).trans rfl, (blk_cell BK267.out 5).trans rfl, (blk_cell BK243.out 0).trans rfl, (blk_cell BK243.out 1).trans rfl, (blk_cell BK243.out 2).trans rfl, (blk_cell BK243.out 3).trans rfl, (blk_cell BK243.out 4).trans rfl, (blk_cell BK243.out 5).trans rfl, (blk_cell BK281.out 0).trans rfl, (blk_cell BK281.out 1).trans rfl, (blk_cell BK281.out 2).trans rfl, (blk_cell BK281.out 3).trans rfl, (blk_cell BK281.out 4).trans rfl, (blk_cell BK281.out 5).trans rfl, (blk_cell BK301.out 0).trans rfl, (blk_cell BK301.out 1).trans rfl, (blk_cell BK298.out 0).trans rfl, (blk_cell BK298.out 1).trans rfl⟩ (fun hHeld => ?_)
 clear hK K
 refine norm_ (a' := ?_) ?_ ?_; rotate_left
 ·show Act.put _ (some 124) _ = _
  simp only [PS]
  rfl
 refine pure_ (i := 77) (N := some 125) (v := ?_) (a' := ?_) #[T,T,T,T,T,T,T,T,T,T,T,T,T,T,T,T,T,T,T,T,T,T,T,T,T,T,T,T,T,T,T,T,T,T,T,T,T,T,T,T,T,T,T,T,T,T,T,T,T,T,T,T,T,T,T,T,T,T,T,T,T,T,T,T,T,T,T,T,T,T,T,T,T,T,T,T,T,T,F] rfl rfl (any_of HT_.out (by kernel_rfl)) (fun _ _ _ h => h) (Or.inl ⟨by rfl, ?_⟩) ?_ ?_; rotate_left
 ·intro w'; go_simp; with_reducible rfl
 rotate_left; (focus (simp only [PS]; rfl))
 refine pure_ (i := 78) (N := some 2) (v := ?_) (a' := ?_) #[T,T,T,T,T,T,T,T,T,T,T,T,T,T,T,T,T,T,T,T,T,T,T,T,T,T,T,T,T,T,T,T,T,T,T,T,T,T,T,T,T,T,T,T,T,T,T,T,T,T,T,T,T,T,T,T,T,T,T,T,T,T,T,T,T,T,T,T,T,T,T,T,T,T,T,T,T,T,T] rfl rfl (any_of HT_.out (by kernel_rfl)) (fun _ _ _ h => h) (Or.inl ⟨by rfl, ?_⟩) ?_ ?_; rotate_left
 ·intro w'; go_simp; with_reducible rfl
 rotate_left; (focus (simp only [PS]; rfl))
 refine done_ (done_of HT_.out (by kernel_rfl)) ?_
 try go_wp2
 all_goals (go_ret; exact ⟨by first | rfl | (simp [errW_none, errW_some] <;> rfl) | (simp [*, errW_none, errW_some] <;> rfl), by repeat (first | (with_reducible first | exact HB.out | apply below_alloc | apply pw_below_drewN | apply below_drew1 | refine below_set ?_ GE243.out | refine below_set ?_ GE244.out | refine below_set ?_ GE253.out | refine below_set ?_ GE267.out | refine below_set ?_ GE281.out | refine below_set ?_ GE295.out | refine below_set ?_ GE298.out | refine below_set ?_ GE301.out) | exact HB.out)⟩)




/-- THE ONE PURE STATEMENT of laws_FnMoves: yours. -/
def laws_FnMoves.Pure : Prop := ∀ (l0 : List Int), l0.length ≤ maxLen → l0.length * 1 ≤ 140737488351232 → (∀ x ∈ l0, (Lit.int .u8 x).wf = true) → ∃ k, laws_FnMoves.f k l0 = some true
theorem laws_FnMoves.walk (P : laws_FnMoves.Pure) (a0 : Option Addr) (len0 cap0 : Nat) (z0 : List Int) (w : World) (w0 : (a0 = none ∧ len0 = 0 ∧ cap0 = 0 ∧ z0 = []) ∨ ∃ x, a0 = some x ∧ len0 ≤ cap0 ∧ cap0 ≤ maxLen ∧ z0.length = cap0 ∧ (∀ i, i < z0.length → w.cell? (x.add i) = some (.int .u8 (z0.getD i 0))) ∧ ∀ n ∈ z0, (Lit.int .u8 n).wf = true) (y0 : len0 * 1 ≤ 140737488351232) :
    Calls Try.prog 10 #[.slice a0 len0 cap0] w fun e w' => e = .returned (.bool true) ∧ Below w.heap.size w w' := by
  obtain ⟨l0, rfl, hr0, hm0, hw0, hc0⟩ := ReadsInt.ofRowC w0
  obtain ⟨k, h⟩ := P l0 hm0 y0 hw0
  refine (laws_FnMoves.calls k _ _ l0 true rfl w (Kd.C_of_reads (d := (0 : Int)) (h1 := fun _ => rfl) hr0) hc0 h).mono ?_
  rintro e w' ⟨rfl, hd⟩
  exact ⟨rfl, hd⟩

end Go.Proofs.Ytdlocaecdlgnjaa.PFnMoves
