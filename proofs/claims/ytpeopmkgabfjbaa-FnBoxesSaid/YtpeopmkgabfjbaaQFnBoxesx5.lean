/- The walks of FnBoxes, part 5: what the print wrote, with some proofs of the session's own. -/
import Derived.Test.YtpeopmkgabfjbaaName
import Derived.Test.YtpeopmkgabfjbaaQFnBoxesx0
import Derived.Test.YtpeopmkgabfjbaaQFnBoxesx1
import Derived.Test.YtpeopmkgabfjbaaQFnBoxesx2
import Derived.Test.YtpeopmkgabfjbaaQFnBoxesx3
import Derived.Test.YtpeopmkgabfjbaaQFnBoxesx4
namespace Go.Proofs.Ytpeopmkgabfjbaa.PFnBoxes
open Go.RowKit Go.Proofs.YtpeopmkgabfjbaaW.PrintWords Go.Proofs.YtpeopmkgabfjbaaW.PrintLast Go.Proofs.YtpeopmkgabfjbaaW.PrintMore
attribute [local go_sem] max2_int min2_int max_two min_two max_three min_three max_four min_four   -- for this text's walks alone
set_option linter.unusedVariables false
set_option linter.unusedSimpArgs false

attribute [local go_sem high] eqA34
/-! ### laws_FnBoxes: function 6 -/
mutual
def laws_FnBoxes.j0 : Nat → Bool → Int → Int → Int → Int → Int → Int → Int → Int → Int → Int → Int → Int → Int → Int → Int → Int → Option (Bool)
  | 0, _, _, _, _, _, _, _, _, _, _, _, _, _, _, _, _, _ => none
  | k + 1, x69, x205000, x205001, x205002, x205003, x206000, x206001, x206002, x206003, x217000, x217001, x217002, x217003, x222000, x222001, x222002, x222003 => if x69 = true then (some false) else ((impl_Empty.f x205000 x205001 x205002 x205003).bind fun t231 => (if t231 = true then ((impl_JoinBox.f k x205000 x205001 x205002 x205003 x206000 x206001 x206002 x206003).bind fun bt232 => ((impl_JoinBox.f k x206000 x206001 x206002 x206003 x205000 x205001 x205002 x205003).bind fun bt236 => (if (!(bt232.1 == bt236.1) || (!(bt232.2.1 == bt236.2.1) || (!(bt232.2.2.1 == bt236.2.2.1) || (!(bt232.2.2.2 == bt236.2.2.2))))) = true then (laws_FnBoxes.j1 k true x205000 x205001 x205002 x205003 x206000 x206001 x206002 x206003 x217000 x217001 x217002 x217003) else ((impl_Empty.f x222000 x222001 x222002 x222003).bind fun t240 => (laws_FnBoxes.j1 k (!t240) x205000 x205001 x205002 x205003 x206000 x206001 x206002 x206003 x217000 x217001 x217002 x217003))))) else (laws_FnBoxes.j1 k false x205000 x205001 x205002 x205003 x206000 x206001 x206002 x206003 x217000 x217001 x217002 x217003)))
def laws_FnBoxes.j1 : Nat → Bool → Int → Int → Int → Int → Int → Int → Int → Int → Int → Int → Int → Int → Option (Bool)
  | 0, _, _, _, _, _, _, _, _, _, _, _, _, _ => none
  | k + 1, x85, x205000, x205001, x205002, x205003, x206000, x206001, x206002, x206003, x217000, x217001, x217002, x217003 => if x85 = true then (some false) else ((impl_JoinBox.f k x205000 x205001 x205002 x205003 x206000 x206001 x206002 x206003).bind fun bt241 => ((impl_JoinBox.f k x206000 x206001 x206002 x206003 x205000 x205001 x205002 x205003).bind fun bt245 => (if (bt241.1 == bt245.1 && (bt241.2.1 == bt245.2.1 && (bt241.2.2.1 == bt245.2.2.1 && (bt241.2.2.2 == bt245.2.2.2)))) = true then ((impl_MeetBox.f x205000 x205001 x205002 x205003 x206000 x206001 x206002 x206003).bind fun bt249 => ((impl_MeetBox.f x206000 x206001 x206002 x206003 x205000 x205001 x205002 x205003).bind fun bt253 => (if (bt249.1 == bt253.1 && (bt249.2.1 == bt253.2.1 && (bt249.2.2.1 == bt253.2.2.1 && (bt249.2.2.2 == bt253.2.2.2)))) = true then ((impl_Empty.f x205000 x205001 x205002 x205003).bind fun t257 => (if x205000 ≥ x205002 then (if (t257 == true) = true then ((impl_Empty.f x217000 x217001 x217002 x217003).bind fun t258 => (if t258 = true then (some true) else ((impl_JoinBox.f k x217000 x217001 x217002 x217003 x205000 x205001 x205002 x205003).bind fun bt259 => (some (bt259.1 == x205000 && (bt259.2.1 == x205001 && (bt259.2.2.1 == x205002 && (bt259.2.2.2 == x205003)))))))) else (some false)) else (if (t257 == (decide (x205001 ≥ x205003))) = true then ((impl_Empty.f x217000 x217001 x217002 x217003).bind fun t263 => (if t263 = true then (some true) else ((impl_JoinBox.f k x217000 x217001 x217002 x217003 x205000 x205001 x205002 x205003).bind fun bt264 => (some (bt264.1 == x205000 && (bt264.2.1 == x205001 && (bt264.2.2.1 == x205002 && (bt264.2.2.2 == x205003)))))))) else (some false)))) else (some false)))) else (some false))))
end
def laws_FnBoxes.f (k : Nat) (l0 : List Int) : Option (Bool) := (laws_big.f l0).bind fun t193 => (if t193 = true then (some true) else ((spec_DrawBoxes.f k l0).bind fun bt194 => ((impl_JoinBox.f k bt194.1 bt194.2.1 bt194.2.2.1 bt194.2.2.2.1 bt194.2.2.2.2.1 bt194.2.2.2.2.2.1 bt194.2.2.2.2.2.2.1 bt194.2.2.2.2.2.2.2.1).bind fun bt207 => ((impl_MeetBox.f bt194.1 bt194.2.1 bt194.2.2.1 bt194.2.2.2.1 bt194.2.2.2.2.1 bt194.2.2.2.2.2.1 bt194.2.2.2.2.2.2.1 bt194.2.2.2.2.2.2.2.1).bind fun bt212 => ((impl_GrowBox.f bt194.1 bt194.2.1 bt194.2.2.1 bt194.2.2.2.1 2).bind fun bt217 => ((impl_InBox.f bt194.1 bt194.2.1 bt194.2.2.1 bt194.2.2.2.1 bt194.2.2.2.2.2.2.2.2.1 bt194.2.2.2.2.2.2.2.2.2).bind fun t222 => ((impl_InBox.f bt194.2.2.2.2.1 bt194.2.2.2.2.2.1 bt194.2.2.2.2.2.2.1 bt194.2.2.2.2.2.2.2.1 bt194.2.2.2.2.2.2.2.2.1 bt194.2.2.2.2.2.2.2.2.2).bind fun t223 => (if t222 = true then ((impl_InBox.f bt207.1 bt207.2.1 bt207.2.2.1 bt207.2.2.2 bt194.2.2.2.2.2.2.2.2.1 bt194.2.2.2.2.2.2.2.2.2).bind fun t225 => (if t225 = true then ((impl_InBox.f bt212.1 bt212.2.1 bt212.2.2.1 bt212.2.2.2 bt194.2.2.2.2.2.2.2.2.1 bt194.2.2.2.2.2.2.2.2.2).bind fun t226 => (if (t226 != t223) = true then (laws_FnBoxes.j0 k true bt194.1 bt194.2.1 bt194.2.2.1 bt194.2.2.2.1 bt194.2.2.2.2.1 bt194.2.2.2.2.2.1 bt194.2.2.2.2.2.2.1 bt194.2.2.2.2.2.2.2.1 bt212.1 bt212.2.1 bt212.2.2.1 bt212.2.2.2 bt217.1 bt217.2.1 bt217.2.2.1 bt217.2.2.2) else ((impl_InBox.f bt217.1 bt217.2.1 bt217.2.2.1 bt217.2.2.2 (wrap64 (bt194.2.2.2.2.2.2.2.2.1 + 2)) (wrap64 (bt194.2.2.2.2.2.2.2.2.2 - 1))).bind fun t227 => (laws_FnBoxes.j0 k (!t227) bt194.1 bt194.2.1 bt194.2.2.1 bt194.2.2.2.1 bt194.2.2.2.2.1 bt194.2.2.2.2.2.1 bt194.2.2.2.2.2.2.1 bt194.2.2.2.2.2.2.2.1 bt212.1 bt212.2.1 bt212.2.2.1 bt212.2.2.2 bt217.1 bt217.2.1 bt217.2.2.1 bt217.2.2.2)))) else (laws_FnBoxes.j0 k true bt194.1 bt194.2.1 bt194.2.2.1 bt194.2.2.2.1 bt194.2.2.2.2.1 bt194.2.2.2.2.2.1 bt194.2.2.2.2.2.2.1 bt194.2.2.2.2.2.2.2.1 bt212.1 bt212.2.1 bt212.2.2.1 bt212.2.2.2 bt217.1 bt217.2.1 bt217.2.2.1 bt217.2.2.2))) else (if t223 = true then ((impl_InBox.f bt207.1 bt207.2.1 bt207.2.2.1 bt207.2.2.2 bt194.2.2.2.2.2.2.2.2.1 bt194.2.2.2.2.2.2.2.2.2).bind fun t228 => (if t228 = true then ((impl_InBox.f bt212.1 bt212.2.1 bt212.2.2.1 bt212.2.2.2 bt194.2.2.2.2.2.2.2.2.1 bt194.2.2.2.2.2.2.2.2.2).bind fun t229 => (if (t229 != false) = true then (laws_FnBoxes.j0 k true bt194.1 bt194.2.1 bt194.2.2.1 bt194.2.2.2.1 bt194.2.2.2.2.1 bt194.2.2.2.2.2.1 bt194.2.2.2.2.2.2.1 bt194.2.2.2.2.2.2.2.1 bt212.1 bt212.2.1 bt212.2.2.1 bt212.2.2.2 bt217.1 bt217.2.1 bt217.2.2.1 bt217.2.2.2) else (laws_FnBoxes.j0 k false bt194.1 bt194.2.1 bt194.2.2.1 bt194.2.2.2.1 bt194.2.2.2.2.1 bt194.2.2.2.2.2.1 bt194.2.2.2.2.2.2.1 bt194.2.2.2.2.2.2.2.1 bt212.1 bt212.2.1 bt212.2.2.1 bt212.2.2.2 bt217.1 bt217.2.1 bt217.2.2.1 bt217.2.2.2))) else (laws_FnBoxes.j0 k true bt194.1 bt194.2.1 bt194.2.2.1 bt194.2.2.2.1 bt194.2.2.2.2.1 bt194.2.2.2.2.2.1 bt194.2.2.2.2.2.2.1 bt194.2.2.2.2.2.2.2.1 bt212.1 bt212.2.1 bt212.2.2.1 bt212.2.2.2 bt217.1 bt217.2.1 bt217.2.2.1 bt217.2.2.2))) else ((impl_InBox.f bt212.1 bt212.2.1 bt212.2.2.1 bt212.2.2.2 bt194.2.2.2.2.2.2.2.2.1 bt194.2.2.2.2.2.2.2.2.2).bind fun t230 => (if (t230 != false) = true then (laws_FnBoxes.j0 k true bt194.1 bt194.2.1 bt194.2.2.1 bt194.2.2.2.1 bt194.2.2.2.2.1 bt194.2.2.2.2.2.1 bt194.2.2.2.2.2.2.1 bt194.2.2.2.2.2.2.2.1 bt212.1 bt212.2.1 bt212.2.2.1 bt212.2.2.2 bt217.1 bt217.2.1 bt217.2.2.1 bt217.2.2.2) else (laws_FnBoxes.j0 k false bt194.1 bt194.2.1 bt194.2.2.1 bt194.2.2.2.1 bt194.2.2.2.2.1 bt194.2.2.2.2.2.1 bt194.2.2.2.2.2.2.1 bt194.2.2.2.2.2.2.2.1 bt212.1 bt212.2.1 bt212.2.2.1 bt212.2.2.2 bt217.1 bt217.2.1 bt217.2.2.1 bt217.2.2.2))))))))))))
def laws_FnBoxes.T12 : Bool × List (List Nat × List Nat) := (true, [([], []), ([0], [0]), ([1, 1], [1]), ([2], [2]), ([2], [2]), ([3, 4, 2, 2], [2, 3, 4]), ([2], [2]), ([2], [2]), ([6, 7, 5, 2], [2, 6, 7]), ([5, 8, 2], [2, 5, 8]), ([9, 8, 2], [2, 9]), ([10], [10]), ([11, 10, 10], [10, 11]), ([12, 10], [10, 12]), ([10, 13, 2], [2, 10, 13]), ([2, 14], [2, 14])])
def laws_FnBoxes.B12 : List Nat := [0, 1, 3, 7, 7, 31, 7, 7, 255, 511, 1023, 2047, 4095, 8191, 16383, 32767]
theorem laws_FnBoxes.tab12 : rtab .any (opsOf Try.f6 12) = laws_FnBoxes.T12 := by kernel_rfl
theorem laws_FnBoxes.bits12 : waitsOk laws_FnBoxes.T12.2 laws_FnBoxes.B12 = true := by kernel_rfl
def laws_FnBoxes.T14 : Bool × List (List Nat × List Nat) := (true, [([], []), ([], []), ([0, 1], [0, 1]), ([], []), ([], []), ([3, 4, 2], [3, 4]), ([2, 5], [2, 5]), ([6, 5], [6]), ([7], [7]), ([7], [7]), ([8, 9, 7, 7], [7, 8, 9]), ([7], [7]), ([7], [7]), ([11, 12, 10, 7], [7, 11, 12]), ([10, 13, 7], [7, 10, 13]), ([7, 14], [7, 14]), ([15, 13], [15]), ([16], [16]), ([17, 16, 16], [16, 17]), ([16], [16]), ([19, 16], [16, 19]), ([16], [16]), ([21, 16], [16, 21]), ([20, 22, 16], [16, 20, 22]), ([23, 18, 16], [16, 23]), ([24], [24]), ([25, 24], [24, 25]), ([24], [24]), ([27, 24], [24, 27]), ([26, 28, 24], [24, 26, 28]), ([24, 29, 16], [16, 24, 29]), ([18, 30, 16], [16, 18, 30]), ([16, 31], [16, 31]), ([32, 24], [32]), ([33], [33]), ([34, 33, 33], [33, 34]), ([35, 35, 33], [33, 35]), ([36], [36]), ([36], [36]), ([37, 38, 36, 36], [36, 37, 38]), ([36], [36]), ([39, 40, 36], [36, 39, 40]), ([36, 41, 33], [33, 36, 41]), ([33, 42], [33, 42]), ([43, 39, 0, 1, 2, 3, 4, 5, 6, 7, 8, 9, 10, 11, 12, 13, 14, 15, 16, 17, 18, 19, 20, 21, 22, 23, 24, 25, 26, 27, 28, 29, 30, 31, 32, 33, 34, 35, 36, 37, 38, 39, 40, 41, 42, 43], [43])])
def laws_FnBoxes.B14 : List Nat := [0, 0, 3, 0, 0, 31, 63, 127, 255, 255, 1023, 255, 255, 8191, 16383, 32767, 65535, 131071, 262143, 131071, 655359, 131071, 2228223, 7995391, 16777215, 33554431, 67108863, 33554431, 167772159, 536870911, 1073741823, 2147483647, 4294967295, 8589934591, 17179869183, 34359738367, 68719476735, 137438953471, 137438953471, 549755813887, 137438953471, 2199023255551, 4398046511103, 8796093022207, 17592186044415]
theorem laws_FnBoxes.tab14 : rtab .any (opsOf Try.f6 14) = laws_FnBoxes.T14 := by kernel_rfl
theorem laws_FnBoxes.bits14 : waitsOk laws_FnBoxes.T14.2 laws_FnBoxes.B14 = true := by kernel_rfl
theorem laws_FnBoxes.j0_never {k : Nat} {y0 : Int} {y1 : Int} {y2 : Int} {y3 : Int} {y4 : Int} {y5 : Int} {y6 : Int} {y7 : Int} {y8 : Int} {y9 : Int} {y10 : Int} {y11 : Int} {y12 : Int} {y13 : Int} {y14 : Int} {y15 : Int} (h : laws_FnBoxes.j0 k true y0 y1 y2 y3 y4 y5 y6 y7 y8 y9 y10 y11 y12 y13 y14 y15 = some true) : False := by
  cases k <;> simp [laws_FnBoxes.j0] at h
theorem laws_FnBoxes.j1_never {k : Nat} {y0 : Int} {y1 : Int} {y2 : Int} {y3 : Int} {y4 : Int} {y5 : Int} {y6 : Int} {y7 : Int} {y8 : Int} {y9 : Int} {y10 : Int} {y11 : Int} (h : laws_FnBoxes.j1 k true y0 y1 y2 y3 y4 y5 y6 y7 y8 y9 y10 y11 = some true) : False := by
  cases k <;> simp [laws_FnBoxes.j1] at h
abbrev T : Bool := true
abbrev F : Bool := false
theorem PS : (∀ (a : Act) (n : Tmp) (v : Value), a.put (some n) v = { a with tmps := a.tmps.setIfInBounds n v }) ∧ (∀ (a : Act) (v : Value), a.put none v = a) ∧ (∀ (l : List Value) (i : Nat) (x : Value), l.toArray.setIfInBounds i x = (l.set i x).toArray) ∧
    (∀ (x y : Value) (l : List Value), (x :: l).set 0 y = y :: l) ∧ (∀ (x y : Value) (l : List Value) (n : Nat), (x :: l).set (n + 1) y = x :: l.set n y) ∧ (∀ n : Int, IntKind.i64.wrap n = wrap64 n) ∧ (∀ n : Int, IntKind.i32.wrap n = wrap32 n) :=
  ⟨fun _ _ _ => rfl, fun _ _ => rfl, fun l i x => List.setIfInBounds_toArray .., fun _ _ _ => rfl, fun _ _ _ _ => rfl, i64_w, i32_w⟩
theorem PQ : (∀ (a : Act) (n : Tmp) (v : Value), a.put (some n) v = { a with tmps := a.tmps.setIfInBounds n v }) ∧ (∀ (a : Act) (v : Value), a.put none v = a) ∧ (∀ (l : List Value) (i : Nat) (x : Value), l.toArray.setIfInBounds i x = (l.set i x).toArray) ∧
    (∀ (x y : Value) (l : List Value), (x :: l).set 0 y = y :: l) ∧ (∀ (x y : Value) (l : List Value) (n : Nat), (x :: l).set (n + 1) y = x :: l.set n y) :=
  ⟨fun _ _ _ => rfl, fun _ _ => rfl, fun l i x => List.setIfInBounds_toArray .., fun _ _ _ => rfl, fun _ _ _ _ => rfl⟩
set_option maxHeartbeats 8000000 in
set_option maxRecDepth 100000 in
theorem laws_FnBoxes.calls (k : Nat) (A0 : Option Addr) (c0 : Nat) (l0 : List Int) (r : Bool) (hr_ : r = true) (w : World) (hr0 : Kd.C (Kd.int .u8) w A0 l0.length l0) (hc0 : l0.length ≤ c0) (h : laws_FnBoxes.f k l0 = some r) :
    Calls Try.prog 6 #[.slice A0 l0.length c0] w fun e w' => e = .returned (.bool r) ∧ Below w.heap.size w w' := by
 have hu34 := Try.underlying34
 have hu36 := Try.underlying36
 have HR0 := Aside0.mk hr0
 have HC0 := Aside0.mk hc0
 clear hr0 hc0
 have HB := Aside0.mk (Below.refl w.heap.size w)
 have H : ((laws_big.f l0).bind fun t193 => (if t193 = true then (some true) else ((spec_DrawBoxes.f k l0).bind fun bt194 => ((impl_JoinBox.f k bt194.1 bt194.2.1 bt194.2.2.1 bt194.2.2.2.1 bt194.2.2.2.2.1 bt194.2.2.2.2.2.1 bt194.2.2.2.2.2.2.1 bt194.2.2.2.2.2.2.2.1).bind fun bt207 => ((impl_MeetBox.f bt194.1 bt194.2.1 bt194.2.2.1 bt194.2.2.2.1 bt194.2.2.2.2.1 bt194.2.2.2.2.2.1 bt194.2.2.2.2.2.2.1 bt194.2.2.2.2.2.2.2.1).bind fun bt212 => ((impl_GrowBox.f bt194.1 bt194.2.1 bt194.2.2.1 bt194.2.2.2.1 2).bind fun bt217 => ((impl_InBox.f bt194.1 bt194.2.1 bt194.2.2.1 bt194.2.2.2.1 bt194.2.2.2.2.2.2.2.2.1 bt194.2.2.2.2.2.2.2.2.2).bind fun t222 => ((impl_InBox.f bt194.2.2.2.2.1 bt194.2.2.2.2.2.1 bt194.2.2.2.2.2.2.1 bt194.2.2.2.2.2.2.2.1 bt194.2.2.2.2.2.2.2.2.1 bt194.2.2.2.2.2.2.2.2.2).bind fun t223 => (if t222 = true then ((impl_InBox.f bt207.1 bt207.2.1 bt207.2.2.1 bt207.2.2.2 bt194.2.2.2.2.2.2.2.2.1 bt194.2.2.2.2.2.2.2.2.2).bind fun t225 => (if t225 = true then ((impl_InBox.f bt212.1 bt212.2.1 bt212.2.2.1 bt212.2.2.2 bt194.2.2.2.2.2.2.2.2.1 bt194.2.2.2.2.2.2.2.2.2).bind fun t226 => (if (t226 != t223) = true then (laws_FnBoxes.j0 k true bt194.1 bt194.2.1 bt194.2.2.1 bt194.2.2.2.1 bt194.2.2.2.2.1 bt194.2.2.2.2.2.1 bt194.2.2.2.2.2.2.1 bt194.2.2.2.2.2.2.2.1 bt212.1 bt212.2.1 bt212.2.2.1 bt212.2.2.2 bt217.1 bt217.2.1 bt217.2.2.1 bt217.2.2.2) else ((impl_InBox.f bt217.1 bt217.2.1 bt217.2.2.1 bt217.2.2.2 (wrap64 (bt194.2.2.2.2.2.2.2.2.1 + 2)) (wrap64 (bt194.2.2.2.2.2.2.2.2.2 - 1))).bind fun t227 => (laws_FnBoxes.j0 k (!t227) bt194.1 bt194.2.1 bt194.2.2.1 bt194.2.2.2.1 bt194.2.2.2.2.1 bt194.2.2.2.2.2.1 bt194.2.2.2.2.2.2.1 bt194.2.2.2.2.2.2.2.1 bt212.1 bt212.2.1 bt212.2.2.1 bt212.2.2.2 bt217.1 bt217.2.1 bt217.2.2.1 bt217.2.2.2)))) else (laws_FnBoxes.j0 k true bt194.1 bt194.2.1 bt194.2.2.1 bt194.2.2.2.1 bt194.2.2.2.2.1 bt194.2.2.2.2.2.1 bt194.2.2.2.2.2.2.1 bt194.2.2.2.2.2.2.2.1 bt212.1 bt212.2.1 bt212.2.2.1 bt212.2.2.2 bt217.1 bt217.2.1 bt217.2.2.1 bt217.2.2.2))) else (if t223 = true then ((impl_InBox.f bt207.1 bt207.2.1 bt207.2.2.1 bt207.2.2.2 bt194.2.2.2.2.2.2.2.2.1 bt194.2.2.2.2.2.2.2.2.2).bind fun t228 => (if t228 = true then ((impl_InBox.f bt212.1 bt212.2.1 bt212.2.2.1 bt212.2.2.2 bt194.2.2.2.2.2.2.2.2.1 bt194.2.2.2.2.2.2.2.2.2).bind fun t229 => (if (t229 != false) = true then (laws_FnBoxes.j0 k true bt194.1 bt194.2.1 bt194.2.2.1 bt194.2.2.2.1 bt194.2.2.2.2.1 bt194.2.2.2.2.2.1 bt194.2.2.2.2.2.2.1 bt194.2.2.2.2.2.2.2.1 bt212.1 bt212.2.1 bt212.2.2.1 bt212.2.2.2 bt217.1 bt217.2.1 bt217.2.2.1 bt217.2.2.2) else (laws_FnBoxes.j0 k false bt194.1 bt194.2.1 bt194.2.2.1 bt194.2.2.2.1 bt194.2.2.2.2.1 bt194.2.2.2.2.2.1 bt194.2.2.2.2.2.2.1 bt194.2.2.2.2.2.2.2.1 bt212.1 bt212.2.1 bt212.2.2.1 bt212.2.2.2 bt217.1 bt217.2.1 bt217.2.2.1 bt217.2.2.2))) else (laws_FnBoxes.j0 k true bt194.1 bt194.2.1 bt194.2.2.1 bt194.2.2.2.1 bt194.2.2.2.2.1 bt194.2.2.2.2.2.1 bt194.2.2.2.2.2.2.1 bt194.2.2.2.2.2.2.2.1 bt212.1 bt212.2.1 bt212.2.2.1 bt212.2.2.2 bt217.1 bt217.2.1 bt217.2.2.1 bt217.2.2.2))) else ((impl_InBox.f bt212.1 bt212.2.1 bt212.2.2.1 bt212.2.2.2 bt194.2.2.2.2.2.2.2.2.1 bt194.2.2.2.2.2.2.2.2.2).bind fun t230 => (if (t230 != false) = true then (laws_FnBoxes.j0 k true bt194.1 bt194.2.1 bt194.2.2.1 bt194.2.2.2.1 bt194.2.2.2.2.1 bt194.2.2.2.2.2.1 bt194.2.2.2.2.2.2.1 bt194.2.2.2.2.2.2.2.1 bt212.1 bt212.2.1 bt212.2.2.1 bt212.2.2.2 bt217.1 bt217.2.1 bt217.2.2.1 bt217.2.2.2) else (laws_FnBoxes.j0 k false bt194.1 bt194.2.1 bt194.2.2.1 bt194.2.2.2.1 bt194.2.2.2.2.1 bt194.2.2.2.2.2.1 bt194.2.2.2.2.2.2.1 bt194.2.2.2.2.2.2.2.1 bt212.1 bt212.2.1 bt212.2.2.1 bt212.2.2.2 bt217.1 bt217.2.1 bt217.2.2.1 bt217.2.2.2))))))))))))) = some r := h
 clear h
 replace H := Option.bind_eq_some_iff.mp H
 obtain ⟨t193, A20, H⟩ := H
 replace H : (if t193 = true then (some true) else ((spec_DrawBoxes.f k l0).bind fun bt194 => ((impl_JoinBox.f k bt194.1 bt194.2.1 bt194.2.2.1 bt194.2.2.2.1 bt194.2.2.2.2.1 bt194.2.2.2.2.2.1 bt194.2.2.2.2.2.2.1 bt194.2.2.2.2.2.2.2.1).bind fun bt207 => ((impl_MeetBox.f bt194.1 bt194.2.1 bt194.2.2.1 bt194.2.2.2.1 bt194.2.2.2.2.1 bt194.2.2.2.2.2.1 bt194.2.2.2.2.2.2.1 bt194.2.2.2.2.2.2.2.1).bind fun bt212 => ((impl_GrowBox.f bt194.1 bt194.2.1 bt194.2.2.1 bt194.2.2.2.1 2).bind fun bt217 => ((impl_InBox.f bt194.1 bt194.2.1 bt194.2.2.1 bt194.2.2.2.1 bt194.2.2.2.2.2.2.2.2.1 bt194.2.2.2.2.2.2.2.2.2).bind fun t222 => ((impl_InBox.f bt194.2.2.2.2.1 bt194.2.2.2.2.2.1 bt194.2.2.2.2.2.2.1 bt194.2.2.2.2.2.2.2.1 bt194.2.2.2.2.2.2.2.2.1 bt194.2.2.2.2.2.2.2.2.2).bind fun t223 => (if t222 = true then ((impl_InBox.f bt207.1 bt207.2.1 bt207.2.2.1 bt207.2.2.2 bt194.2.2.2.2.2.2.2.2.1 bt194.2.2.2.2.2.2.2.2.2).bind fun t225 => (if t225 = true then ((impl_InBox.f bt212.1 bt212.2.1 bt212.2.2.1 bt212.2.2.2 bt194.2.2.2.2.2.2.2.2.1 bt194.2.2.2.2.2.2.2.2.2).bind fun t226 => (if (t226 != t223) = true then (laws_FnBoxes.j0 k true bt194.1 bt194.2.1 bt194.2.2.1 bt194.2.2.2.1 bt194.2.2.2.2.1 bt194.2.2.2.2.2.1 bt194.2.2.2.2.2.2.1 bt194.2.2.2.2.2.2.2.1 bt212.1 bt212.2.1 bt212.2.2.1 bt212.2.2.2 bt217.1 bt217.2.1 bt217.2.2.1 bt217.2.2.2) else ((impl_InBox.f bt217.1 bt217.2.1 bt217.2.2.1 bt217.2.2.2 (wrap64 (bt194.2.2.2.2.2.2.2.2.1 + 2)) (wrap64 (bt194.2.2.2.2.2.2.2.2.2 - 1))).bind fun t227 => (laws_FnBoxes.j0 k (!t227) bt194.1 bt194.2.1 bt194.2.2.1 bt194.2.2.2.1 bt194.2.2.2.2.1 bt194.2.2.2.2.2.1 bt194.2.2.2.2.2.2.1 bt194.2.2.2.2.2.2.2.1 bt212.1 bt212.2.1 bt212.2.2.1 bt212.2.2.2 bt217.1 bt217.2.1 bt217.2.2.1 bt217.2.2.2)))) else (laws_FnBoxes.j0 k true bt194.1 bt194.2.1 bt194.2.2.1 bt194.2.2.2.1 bt194.2.2.2.2.1 bt194.2.2.2.2.2.1 bt194.2.2.2.2.2.2.1 bt194.2.2.2.2.2.2.2.1 bt212.1 bt212.2.1 bt212.2.2.1 bt212.2.2.2 bt217.1 bt217.2.1 bt217.2.2.1 bt217.2.2.2))) else (if t223 = true then ((impl_InBox.f bt207.1 bt207.2.1 bt207.2.2.1 bt207.2.2.2 bt194.2.2.2.2.2.2.2.2.1 bt194.2.2.2.2.2.2.2.2.2).bind fun t228 => (if t228 = true then ((impl_InBox.f bt212.1 bt212.2.1 bt212.2.2.1 bt212.2.2.2 bt194.2.2.2.2.2.2.2.2.1 bt194.2.2.2.2.2.2.2.2.2).bind fun t229 => (if (t229 != false) = true then (laws_FnBoxes.j0 k true bt194.1 bt194.2.1 bt194.2.2.1 bt194.2.2.2.1 bt194.2.2.2.2.1 bt194.2.2.2.2.2.1 bt194.2.2.2.2.2.2.1 bt194.2.2.2.2.2.2.2.1 bt212.1 bt212.2.1 bt212.2.2.1 bt212.2.2.2 bt217.1 bt217.2.1 bt217.2.2.1 bt217.2.2.2) else (laws_FnBoxes.j0 k false bt194.1 bt194.2.1 bt194.2.2.1 bt194.2.2.2.1 bt194.2.2.2.2.1 bt194.2.2.2.2.2.1 bt194.2.2.2.2.2.2.1 bt194.2.2.2.2.2.2.2.1 bt212.1 bt212.2.1 bt212.2.2.1 bt212.2.2.2 bt217.1 bt217.2.1 bt217.2.2.1 bt217.2.2.2))) else (laws_FnBoxes.j0 k true bt194.1 bt194.2.1 bt194.2.2.1 bt194.2.2.2.1 bt194.2.2.2.2.1 bt194.2.2.2.2.2.1 bt194.2.2.2.2.2.2.1 bt194.2.2.2.2.2.2.2.1 bt212.1 bt212.2.1 bt212.2.2.1 bt212.2.2.2 bt217.1 bt217.2.1 bt217.2.2.1 bt217.2.2.2))) else ((impl_InBox.f bt212.1 bt212.2.1 bt212.2.2.1 bt212.2.2.2 bt194.2.2.2.2.2.2.2.2.1 bt194.2.2.2.2.2.2.2.2.2).bind fun t230 => (if (t230 != false) = true then (laws_FnBoxes.j0 k true bt194.1 bt194.2.1 bt194.2.2.1 bt194.2.2.2.1 bt194.2.2.2.2.1 bt194.2.2.2.2.2.1 bt194.2.2.2.2.2.2.1 bt194.2.2.2.2.2.2.2.1 bt212.1 bt212.2.1 bt212.2.2.1 bt212.2.2.2 bt217.1 bt217.2.1 bt217.2.2.1 bt217.2.2.2) else (laws_FnBoxes.j0 k false bt194.1 bt194.2.1 bt194.2.2.1 bt194.2.2.2.1 bt194.2.2.2.2.1 bt194.2.2.2.2.2.1 bt194.2.2.2.2.2.2.1 bt194.2.2.2.2.2.2.2.1 bt212.1 bt212.2.1 bt212.2.2.1 bt212.2.2.2 bt217.1 bt217.2.1 bt217.2.2.1 bt217.2.2.2)))))))))))) = some r := H
 have A2 := Aside0.mk A20
 clear A20
 by_cases c3 : t193 = true
 ·subst c3
  have H1 : (some true) = some r := by rw [if_pos rfl] at H; exact H
  clear H
  have H := H1
  clear H1
  obtain rfl := Option.some.inj H
  go_enter Try.func6, Try.ntmps6
  go_wp2_with (first | ((with_reducible refine gate_callee (f := 11) rfl ?_); refine goesL_ (some 13) rfl rfl Try.func11 (by kernel_rfl) rfl #[.slice A0 l0.length c0] rfl (by (try simp only [List.map_toArray, List.map_cons, List.map_nil]); first | done | rfl | (simp only [List.length_drop, List.length_take]; rfl)) ?_; (with_reducible refine (laws_big.calls _ _ l0 true _ ?side1 ?side2 A2.out).mono ?_); (case side1 => repeat (first | exact HR0.out | (with_reducible refine Kd.C_alloc ?_ _) | (with_reducible refine Kd.C_drewN ?_ _) | (with_reducible refine Kd.C_drew ?_))); (case side2 => exact HC0.out); rintro e w' ⟨rfl, ⟨nd, rfl⟩⟩; refine ⟨_, rfl, ?_⟩))
  all_goals (go_ret; exact ⟨by first | rfl | (simp [errW_none, errW_some] <;> rfl) | (simp [*, errW_none, errW_some] <;> rfl), by repeat (first | (with_reducible first | exact HB.out | apply below_alloc | apply pw_below_drewN | apply below_drew1) | exact HB.out)⟩)
 replace c3 := Bool.eq_false_iff.mpr c3
 subst c3
 have H1 : ((spec_DrawBoxes.f k l0).bind fun bt194 => ((impl_JoinBox.f k bt194.1 bt194.2.1 bt194.2.2.1 bt194.2.2.2.1 bt194.2.2.2.2.1 bt194.2.2.2.2.2.1 bt194.2.2.2.2.2.2.1 bt194.2.2.2.2.2.2.2.1).bind fun bt207 => ((impl_MeetBox.f bt194.1 bt194.2.1 bt194.2.2.1 bt194.2.2.2.1 bt194.2.2.2.2.1 bt194.2.2.2.2.2.1 bt194.2.2.2.2.2.2.1 bt194.2.2.2.2.2.2.2.1).bind fun bt212 => ((impl_GrowBox.f bt194.1 bt194.2.1 bt194.2.2.1 bt194.2.2.2.1 2).bind fun bt217 => ((impl_InBox.f bt194.1 bt194.2.1 bt194.2.2.1 bt194.2.2.2.1 bt194.2.2.2.2.2.2.2.2.1 bt194.2.2.2.2.2.2.2.2.2).bind fun t222 => ((impl_InBox.f bt194.2.2.2.2.1 bt194.2.2.2.2.2.1 bt194.2.2.2.2.2.2.1 bt194.2.2.2.2.2.2.2.1 bt194.2.2.2.2.2.2.2.2.1 bt194.2.2.2.2.2.2.2.2.2).bind fun t223 => (if t222 = true then ((impl_InBox.f bt207.1 bt207.2.1 bt207.2.2.1 bt207.2.2.2 bt194.2.2.2.2.2.2.2.2.1 bt194.2.2.2.2.2.2.2.2.2).bind fun t225 => (if t225 = true then ((impl_InBox.f bt212.1 bt212.2.1 bt212.2.2.1 bt212.2.2.2 bt194.2.2.2.2.2.2.2.2.1 bt194.2.2.2.2.2.2.2.2.2).bind fun t226 => (if (t226 != t223) = true then (laws_FnBoxes.j0 k true bt194.1 bt194.2.1 bt194.2.2.1 bt194.2.2.2.1 bt194.2.2.2.2.1 bt194.2.2.2.2.2.1 bt194.2.2.2.2.2.2.1 bt194.2.2.2.2.2.2.2.1 bt212.1 bt212.2.1 bt212.2.2.1 bt212.2.2.2 bt217.1 bt217.2.1 bt217.2.2.1 bt217.2.2.2) else ((impl_InBox.f bt217.1 bt217.2.1 bt217.2.2.1 bt217.2.2.2 (wrap64 (bt194.2.2.2.2.2.2.2.2.1 + 2)) (wrap64 (bt194.2.2.2.2.2.2.2.2.2 - 1))).bind fun t227 => (laws_FnBoxes.j0 k (!t227) bt194.1 bt194.2.1 bt194.2.2.1 bt194.2.2.2.1 bt194.2.2.2.2.1 bt194.2.2.2.2.2.1 bt194.2.2.2.2.2.2.1 bt194.2.2.2.2.2.2.2.1 bt212.1 bt212.2.1 bt212.2.2.1 bt212.2.2.2 bt217.1 bt217.2.1 bt217.2.2.1 bt217.2.2.2)))) else (laws_FnBoxes.j0 k true bt194.1 bt194.2.1 bt194.2.2.1 bt194.2.2.2.1 bt194.2.2.2.2.1 bt194.2.2.2.2.2.1 bt194.2.2.2.2.2.2.1 bt194.2.2.2.2.2.2.2.1 bt212.1 bt212.2.1 bt212.2.2.1 bt212.2.2.2 bt217.1 bt217.2.1 bt217.2.2.1 bt217.2.2.2))) else (if t223 = true then ((impl_InBox.f bt207.1 bt207.2.1 bt207.2.2.1 bt207.2.2.2 bt194.2.2.2.2.2.2.2.2.1 bt194.2.2.2.2.2.2.2.2.2).bind fun t228 => (if t228 = true then ((impl_InBox.f bt212.1 bt212.2.1 bt212.2.2.1 bt212.2.2.2 bt194.2.2.2.2.2.2.2.2.1 bt194.2.2.2.2.2.2.2.2.2).bind fun t229 => (if (t229 != false) = true then (laws_FnBoxes.j0 k true bt194.1 bt194.2.1 bt194.2.2.1 bt194.2.2.2.1 bt194.2.2.2.2.1 bt194.2.2.2.2.2.1 bt194.2.2.2.2.2.2.1 bt194.2.2.2.2.2.2.2.1 bt212.1 bt212.2.1 bt212.2.2.1 bt212.2.2.2 bt217.1 bt217.2.1 bt217.2.2.1 bt217.2.2.2) else (laws_FnBoxes.j0 k false bt194.1 bt194.2.1 bt194.2.2.1 bt194.2.2.2.1 bt194.2.2.2.2.1 bt194.2.2.2.2.2.1 bt194.2.2.2.2.2.2.1 bt194.2.2.2.2.2.2.2.1 bt212.1 bt212.2.1 bt212.2.2.1 bt212.2.2.2 bt217.1 bt217.2.1 bt217.2.2.1 bt217.2.2.2))) else (laws_FnBoxes.j0 k true bt194.1 bt194.2.1 bt194.2.2.1 bt194.2.2.2.1 bt194.2.2.2.2.1 bt194.2.2.2.2.2.1 bt194.2.2.2.2.2.2.1 bt194.2.2.2.2.2.2.2.1 bt212.1 bt212.2.1 bt212.2.2.1 bt212.2.2.2 bt217.1 bt217.2.1 bt217.2.2.1 bt217.2.2.2))) else ((impl_InBox.f bt212.1 bt212.2.1 bt212.2.2.1 bt212.2.2.2 bt194.2.2.2.2.2.2.2.2.1 bt194.2.2.2.2.2.2.2.2.2).bind fun t230 => (if (t230 != false) = true then (laws_FnBoxes.j0 k true bt194.1 bt194.2.1 bt194.2.2.1 bt194.2.2.2.1 bt194.2.2.2.2.1 bt194.2.2.2.2.2.1 bt194.2.2.2.2.2.2.1 bt194.2.2.2.2.2.2.2.1 bt212.1 bt212.2.1 bt212.2.2.1 bt212.2.2.2 bt217.1 bt217.2.1 bt217.2.2.1 bt217.2.2.2) else (laws_FnBoxes.j0 k false bt194.1 bt194.2.1 bt194.2.2.1 bt194.2.2.2.1 bt194.2.2.2.2.1 bt194.2.2.2.2.2.1 bt194.2.2.2.2.2.2.1 bt194.2.2.2.2.2.2.2.1 bt212.1 bt212.2.1 bt212.2.2.1 bt212.2.2.2 bt217.1 bt217.2.1 bt217.2.2.1 bt217.2.2.2))))))))))) = some r := by rw [if_neg (show ¬ (false = true) by decide)] at H; exact H
 clear H
 have H := H1
 clear H1
 replace H := Option.bind_eq_some_iff.mp H
 obtain ⟨⟨t194, t195, t196, t197, t198, t199, t200, t201, t202, t203⟩, A40, H⟩ := H
 replace H : ((impl_JoinBox.f k t194 t195 t196 t197 t198 t199 t200 t201).bind fun bt207 => ((impl_MeetBox.f t194 t195 t196 t197 t198 t199 t200 t201).bind fun bt212 => ((impl_GrowBox.f t194 t195 t196 t197 2).bind fun bt217 => ((impl_InBox.f t194 t195 t196 t197 t202 t203).bind fun t222 => ((impl_InBox.f t198 t199 t200 t201 t202 t203).bind fun t223 => (if t222 = true then ((impl_InBox.f bt207.1 bt207.2.1 bt207.2.2.1 bt207.2.2.2 t202 t203).bind fun t225 => (if t225 = true then ((impl_InBox.f bt212.1 bt212.2.1 bt212.2.2.1 bt212.2.2.2 t202 t203).bind fun t226 => (if (t226 != t223) = true then (laws_FnBoxes.j0 k true t194 t195 t196 t197 t198 t199 t200 t201 bt212.1 bt212.2.1 bt212.2.2.1 bt212.2.2.2 bt217.1 bt217.2.1 bt217.2.2.1 bt217.2.2.2) else ((impl_InBox.f bt217.1 bt217.2.1 bt217.2.2.1 bt217.2.2.2 (wrap64 (t202 + 2)) (wrap64 (t203 - 1))).bind fun t227 => (laws_FnBoxes.j0 k (!t227) t194 t195 t196 t197 t198 t199 t200 t201 bt212.1 bt212.2.1 bt212.2.2.1 bt212.2.2.2 bt217.1 bt217.2.1 bt217.2.2.1 bt217.2.2.2)))) else (laws_FnBoxes.j0 k true t194 t195 t196 t197 t198 t199 t200 t201 bt212.1 bt212.2.1 bt212.2.2.1 bt212.2.2.2 bt217.1 bt217.2.1 bt217.2.2.1 bt217.2.2.2))) else (if t223 = true then ((impl_InBox.f bt207.1 bt207.2.1 bt207.2.2.1 bt207.2.2.2 t202 t203).bind fun t228 => (if t228 = true then ((impl_InBox.f bt212.1 bt212.2.1 bt212.2.2.1 bt212.2.2.2 t202 t203).bind fun t229 => (if (t229 != false) = true then (laws_FnBoxes.j0 k true t194 t195 t196 t197 t198 t199 t200 t201 bt212.1 bt212.2.1 bt212.2.2.1 bt212.2.2.2 bt217.1 bt217.2.1 bt217.2.2.1 bt217.2.2.2) else (laws_FnBoxes.j0 k false t194 t195 t196 t197 t198 t199 t200 t201 bt212.1 bt212.2.1 bt212.2.2.1 bt212.2.2.2 bt217.1 bt217.2.1 bt217.2.2.1 bt217.2.2.2))) else (laws_FnBoxes.j0 k true t194 t195 t196 t197 t198 t199 t200 t201 bt212.1 bt212.2.1 bt212.2.2.1 bt212.2.2.2 bt217.1 bt217.2.1 bt217.2.2.1 bt217.2.2.2))) else ((impl_InBox.f bt212.1 bt212.2.1 bt212.2.2.1 bt212.2.2.2 t202 t203).bind fun t230 => (if (t230 != false) = true then (laws_FnBoxes.j0 k true t194 t195 t196 t197 t198 t199 t200 t201 bt212.1 bt212.2.1 bt212.2.2.1 bt212.2.2.2 bt217.1 bt217.2.1 bt217.2.2.1 bt217.2.2.2) else (laws_FnBoxes.j0 k false t194 t195 t196 t197 t198 t199 t200 t201 bt212.1 bt212.2.1 bt212.2.2.1 bt212.2.2.2 bt217.1 bt217.2.1 bt217.2.2.1 bt217.2.2.2)))))))))) = some r := H
 have A4 := Aside0.mk A40
 clear A40
 replace H := Option.bind_eq_some_iff.mp H
 obtain ⟨⟨t207, t208, t209, t210⟩, A50, H⟩ := H
 replace H : ((impl_MeetBox.f t194 t195 t196 t197 t198 t199 t200 t201).bind fun bt212 => ((impl_GrowBox.f t194 t195 t196 t197 2).bind fun bt217 => ((impl_InBox.f t194 t195 t196 t197 t202 t203).bind fun t222 => ((impl_InBox.f t198 t199 t200 t201 t202 t203).bind fun t223 => (if t222 = true then ((impl_InBox.f t207 t208 t209 t210 t202 t203).bind fun t225 => (if t225 = true then ((impl_InBox.f bt212.1 bt212.2.1 bt212.2.2.1 bt212.2.2.2 t202 t203).bind fun t226 => (if (t226 != t223) = true then (laws_FnBoxes.j0 k true t194 t195 t196 t197 t198 t199 t200 t201 bt212.1 bt212.2.1 bt212.2.2.1 bt212.2.2.2 bt217.1 bt217.2.1 bt217.2.2.1 bt217.2.2.2) else ((impl_InBox.f bt217.1 bt217.2.1 bt217.2.2.1 bt217.2.2.2 (wrap64 (t202 + 2)) (wrap64 (t203 - 1))).bind fun t227 => (laws_FnBoxes.j0 k (!t227) t194 t195 t196 t197 t198 t199 t200 t201 bt212.1 bt212.2.1 bt212.2.2.1 bt212.2.2.2 bt217.1 bt217.2.1 bt217.2.2.1 bt217.2.2.2)))) else (laws_FnBoxes.j0 k true t194 t195 t196 t197 t198 t199 t200 t201 bt212.1 bt212.2.1 bt212.2.2.1 bt212.2.2.2 bt217.1 bt217.2.1 bt217.2.2.1 bt217.2.2.2))) else (if t223 = true then ((impl_InBox.f t207 t208 t209 t210 t202 t203).bind fun t228 => (if t228 = true then ((impl_InBox.f bt212.1 bt212.2.1 bt212.2.2.1 bt212.2.2.2 t202 t203).bind fun t229 => (if (t229 != false) = true then (laws_FnBoxes.j0 k true t194 t195 t196 t197 t198 t199 t200 t201 bt212.1 bt212.2.1 bt212.2.2.1 bt212.2.2.2 bt217.1 bt217.2.1 bt217.2.2.1 bt217.2.2.2) else (laws_FnBoxes.j0 k false t194 t195 t196 t197 t198 t199 t200 t201 bt212.1 bt212.2.1 bt212.2.2.1 bt212.2.2.2 bt217.1 bt217.2.1 bt217.2.2.1 bt217.2.2.2))) else (laws_FnBoxes.j0 k true t194 t195 t196 t197 t198 t199 t200 t201 bt212.1 bt212.2.1 bt212.2.2.1 bt212.2.2.2 bt217.1 bt217.2.1 bt217.2.2.1 bt217.2.2.2))) else ((impl_InBox.f bt212.1 bt212.2.1 bt212.2.2.1 bt212.2.2.2 t202 t203).bind fun t230 => (if (t230 != false) = true then (laws_FnBoxes.j0 k true t194 t195 t196 t197 t198 t199 t200 t201 bt212.1 bt212.2.1 bt212.2.2.1 bt212.2.2.2 bt217.1 bt217.2.1 bt217.2.2.1 bt217.2.2.2) else (laws_FnBoxes.j0 k false t194 t195 t196 t197 t198 t199 t200 t201 bt212.1 bt212.2.1 bt212.2.2.1 bt212.2.2.2 bt217.1 bt217.2.1 bt217.2.2.1 bt217.2.2.2))))))))) = some r := H
 have A5 := Aside0.mk A50
 clear A50
 replace H := Option.bind_eq_some_iff.mp H
 obtain ⟨⟨t212, t213, t214, t215⟩, A60, H⟩ := H
 replace H : ((impl_GrowBox.f t194 t195 t196 t197 2).bind fun bt217 => ((impl_InBox.f t194 t195 t196 t197 t202 t203).bind fun t222 => ((impl_InBox.f t198 t199 t200 t201 t202 t203).bind fun t223 => (if t222 = true then ((impl_InBox.f t207 t208 t209 t210 t202 t203).bind fun t225 => (if t225 = true then ((impl_InBox.f t212 t213 t214 t215 t202 t203).bind fun t226 => (if (t226 != t223) = true then (laws_FnBoxes.j0 k true t194 t195 t196 t197 t198 t199 t200 t201 t212 t213 t214 t215 bt217.1 bt217.2.1 bt217.2.2.1 bt217.2.2.2) else ((impl_InBox.f bt217.1 bt217.2.1 bt217.2.2.1 bt217.2.2.2 (wrap64 (t202 + 2)) (wrap64 (t203 - 1))).bind fun t227 => (laws_FnBoxes.j0 k (!t227) t194 t195 t196 t197 t198 t199 t200 t201 t212 t213 t214 t215 bt217.1 bt217.2.1 bt217.2.2.1 bt217.2.2.2)))) else (laws_FnBoxes.j0 k true t194 t195 t196 t197 t198 t199 t200 t201 t212 t213 t214 t215 bt217.1 bt217.2.1 bt217.2.2.1 bt217.2.2.2))) else (if t223 = true then ((impl_InBox.f t207 t208 t209 t210 t202 t203).bind fun t228 => (if t228 = true then ((impl_InBox.f t212 t213 t214 t215 t202 t203).bind fun t229 => (if (t229 != false) = true then (laws_FnBoxes.j0 k true t194 t195 t196 t197 t198 t199 t200 t201 t212 t213 t214 t215 bt217.1 bt217.2.1 bt217.2.2.1 bt217.2.2.2) else (laws_FnBoxes.j0 k false t194 t195 t196 t197 t198 t199 t200 t201 t212 t213 t214 t215 bt217.1 bt217.2.1 bt217.2.2.1 bt217.2.2.2))) else (laws_FnBoxes.j0 k true t194 t195 t196 t197 t198 t199 t200 t201 t212 t213 t214 t215 bt217.1 bt217.2.1 bt217.2.2.1 bt217.2.2.2))) else ((impl_InBox.f t212 t213 t214 t215 t202 t203).bind fun t230 => (if (t230 != false) = true then (laws_FnBoxes.j0 k true t194 t195 t196 t197 t198 t199 t200 t201 t212 t213 t214 t215 bt217.1 bt217.2.1 bt217.2.2.1 bt217.2.2.2) else (laws_FnBoxes.j0 k false t194 t195 t196 t197 t198 t199 t200 t201 t212 t213 t214 t215 bt217.1 bt217.2.1 bt217.2.2.1 bt217.2.2.2)))))))) = some r := H
 have A6 := Aside0.mk A60
 clear A60
 replace H := Option.bind_eq_some_iff.mp H
 obtain ⟨⟨t217, t218, t219, t220⟩, A70, H⟩ := H
 replace H : ((impl_InBox.f t194 t195 t196 t197 t202 t203).bind fun t222 => ((impl_InBox.f t198 t199 t200 t201 t202 t203).bind fun t223 => (if t222 = true then ((impl_InBox.f t207 t208 t209 t210 t202 t203).bind fun t225 => (if t225 = true then ((impl_InBox.f t212 t213 t214 t215 t202 t203).bind fun t226 => (if (t226 != t223) = true then (laws_FnBoxes.j0 k true t194 t195 t196 t197 t198 t199 t200 t201 t212 t213 t214 t215 t217 t218 t219 t220) else ((impl_InBox.f t217 t218 t219 t220 (wrap64 (t202 + 2)) (wrap64 (t203 - 1))).bind fun t227 => (laws_FnBoxes.j0 k (!t227) t194 t195 t196 t197 t198 t199 t200 t201 t212 t213 t214 t215 t217 t218 t219 t220)))) else (laws_FnBoxes.j0 k true t194 t195 t196 t197 t198 t199 t200 t201 t212 t213 t214 t215 t217 t218 t219 t220))) else (if t223 = true then ((impl_InBox.f t207 t208 t209 t210 t202 t203).bind fun t228 => (if t228 = true then ((impl_InBox.f t212 t213 t214 t215 t202 t203).bind fun t229 => (if (t229 != false) = true then (laws_FnBoxes.j0 k true t194 t195 t196 t197 t198 t199 t200 t201 t212 t213 t214 t215 t217 t218 t219 t220) else (laws_FnBoxes.j0 k false t194 t195 t196 t197 t198 t199 t200 t201 t212 t213 t214 t215 t217 t218 t219 t220))) else (laws_FnBoxes.j0 k true t194 t195 t196 t197 t198 t199 t200 t201 t212 t213 t214 t215 t217 t218 t219 t220))) else ((impl_InBox.f t212 t213 t214 t215 t202 t203).bind fun t230 => (if (t230 != false) = true then (laws_FnBoxes.j0 k true t194 t195 t196 t197 t198 t199 t200 t201 t212 t213 t214 t215 t217 t218 t219 t220) else (laws_FnBoxes.j0 k false t194 t195 t196 t197 t198 t199 t200 t201 t212 t213 t214 t215 t217 t218 t219 t220))))))) = some r := H
 have A7 := Aside0.mk A70
 clear A70
 replace H := Option.bind_eq_some_iff.mp H
 obtain ⟨t222, A80, H⟩ := H
 replace H : ((impl_InBox.f t198 t199 t200 t201 t202 t203).bind fun t223 => (if t222 = true then ((impl_InBox.f t207 t208 t209 t210 t202 t203).bind fun t225 => (if t225 = true then ((impl_InBox.f t212 t213 t214 t215 t202 t203).bind fun t226 => (if (t226 != t223) = true then (laws_FnBoxes.j0 k true t194 t195 t196 t197 t198 t199 t200 t201 t212 t213 t214 t215 t217 t218 t219 t220) else ((impl_InBox.f t217 t218 t219 t220 (wrap64 (t202 + 2)) (wrap64 (t203 - 1))).bind fun t227 => (laws_FnBoxes.j0 k (!t227) t194 t195 t196 t197 t198 t199 t200 t201 t212 t213 t214 t215 t217 t218 t219 t220)))) else (laws_FnBoxes.j0 k true t194 t195 t196 t197 t198 t199 t200 t201 t212 t213 t214 t215 t217 t218 t219 t220))) else (if t223 = true then ((impl_InBox.f t207 t208 t209 t210 t202 t203).bind fun t228 => (if t228 = true then ((impl_InBox.f t212 t213 t214 t215 t202 t203).bind fun t229 => (if (t229 != false) = true then (laws_FnBoxes.j0 k true t194 t195 t196 t197 t198 t199 t200 t201 t212 t213 t214 t215 t217 t218 t219 t220) else (laws_FnBoxes.j0 k false t194 t195 t196 t197 t198 t199 t200 t201 t212 t213 t214 t215 t217 t218 t219 t220))) else (laws_FnBoxes.j0 k true t194 t195 t196 t197 t198 t199 t200 t201 t212 t213 t214 t215 t217 t218 t219 t220))) else ((impl_InBox.f t212 t213 t214 t215 t202 t203).bind fun t230 => (if (t230 != false) = true then (laws_FnBoxes.j0 k true t194 t195 t196 t197 t198 t199 t200 t201 t212 t213 t214 t215 t217 t218 t219 t220) else (laws_FnBoxes.j0 k false t194 t195 t196 t197 t198 t199 t200 t201 t212 t213 t214 t215 t217 t218 t219 t220)))))) = some r := H
 have A8 := Aside0.mk A80
 clear A80
 replace H := Option.bind_eq_some_iff.mp H
 obtain ⟨t223, A90, H⟩ := H
 replace H : (if t222 = true then ((impl_InBox.f t207 t208 t209 t210 t202 t203).bind fun t225 => (if t225 = true then ((impl_InBox.f t212 t213 t214 t215 t202 t203).bind fun t226 => (if (t226 != t223) = true then (laws_FnBoxes.j0 k true t194 t195 t196 t197 t198 t199 t200 t201 t212 t213 t214 t215 t217 t218 t219 t220) else ((impl_InBox.f t217 t218 t219 t220 (wrap64 (t202 + 2)) (wrap64 (t203 - 1))).bind fun t227 => (laws_FnBoxes.j0 k (!t227) t194 t195 t196 t197 t198 t199 t200 t201 t212 t213 t214 t215 t217 t218 t219 t220)))) else (laws_FnBoxes.j0 k true t194 t195 t196 t197 t198 t199 t200 t201 t212 t213 t214 t215 t217 t218 t219 t220))) else (if t223 = true then ((impl_InBox.f t207 t208 t209 t210 t202 t203).bind fun t228 => (if t228 = true then ((impl_InBox.f t212 t213 t214 t215 t202 t203).bind fun t229 => (if (t229 != false) = true then (laws_FnBoxes.j0 k true t194 t195 t196 t197 t198 t199 t200 t201 t212 t213 t214 t215 t217 t218 t219 t220) else (laws_FnBoxes.j0 k false t194 t195 t196 t197 t198 t199 t200 t201 t212 t213 t214 t215 t217 t218 t219 t220))) else (laws_FnBoxes.j0 k true t194 t195 t196 t197 t198 t199 t200 t201 t212 t213 t214 t215 t217 t218 t219 t220))) else ((impl_InBox.f t212 t213 t214 t215 t202 t203).bind fun t230 => (if (t230 != false) = true then (laws_FnBoxes.j0 k true t194 t195 t196 t197 t198 t199 t200 t201 t212 t213 t214 t215 t217 t218 t219 t220) else (laws_FnBoxes.j0 k false t194 t195 t196 t197 t198 t199 t200 t201 t212 t213 t214 t215 t217 t218 t219 t220))))) = some r := H
 have A9 := Aside0.mk A90
 clear A90
 have HC10 := Aside0.mk H
 clear H
 go_enter Try.func6, Try.ntmps6
 go_upto_region 10 with (first | ((with_reducible refine gate_callee (f := 11) rfl ?_); refine goesL_ (some 13) rfl rfl Try.func11 (by kernel_rfl) rfl #[.slice A0 l0.length c0] rfl (by (try simp only [List.map_toArray, List.map_cons, List.map_nil]); first | done | rfl | (simp only [List.length_drop, List.length_take]; rfl)) ?_; (with_reducible refine (laws_big.calls _ _ l0 false _ ?side1 ?side2 A2.out).mono ?_); (case side1 => repeat (first | exact HR0.out | (with_reducible refine Kd.C_alloc ?_ _) | (with_reducible refine Kd.C_drewN ?_ _) | (with_reducible refine Kd.C_drew ?_))); (case side2 => exact HC0.out); rintro e w' ⟨rfl, ⟨nd, rfl⟩⟩; refine ⟨_, rfl, ?_⟩) | ((with_reducible refine gate_callee (f := 18) rfl ?_); refine goesL_ (some 16) rfl rfl Try.func18 (by kernel_rfl) rfl #[.slice A0 l0.length c0] rfl (by (try simp only [List.map_toArray, List.map_cons, List.map_nil]); first | done | rfl | (simp only [List.length_drop, List.length_take]; rfl)) ?_; (with_reducible refine (spec_DrawBoxes.calls k _ _ l0 t194 t195 t196 t197 t198 t199 t200 t201 t202 t203 _ ?side1 ?side2 A4.out).mono ?_); (case side1 => repeat (first | exact HR0.out | (with_reducible refine Kd.C_alloc ?_ _) | (with_reducible refine Kd.C_drewN ?_ _) | (with_reducible refine Kd.C_drew ?_))); (case side2 => exact HC0.out); rintro e w11 ⟨rfl, hb⟩; refine ⟨_, rfl, ?_⟩; have n0_ := Aside0.mk (below_step (by repeat (first | (with_reducible first | exact HB.out | apply below_alloc | apply pw_below_drewN | apply below_drew1) | exact HB.out)) hb); clear HB; have HB := n0_; clear n0_; (try clear hb); (try clear hb2); (try clear hk); (try clear hi)) | ((with_reducible refine gate_dst (N := 3) rfl ?_); refine box_event ?hg (N := 3) ?hd (cs := #[.int .i64 0, .int .i64 0, .int .i64 0, .int .i64 0]) (t := 34) ?hr ?_; (case hd => rfl); (case hg => rfl); (case hr => first | (go_simp; done) | (go_simp; rfl)); intro gb204 hg w12 hbox hb; have n0_ := Aside0.mk (below_step (by repeat (first | (with_reducible first | exact HB.out | apply below_alloc | apply pw_below_drewN | apply below_drew1) | exact HB.out)) hb); have n1_ := Aside0.mk (hbox); have n2_ := Aside0.mk ((by rw [hg]; exact (below_size (by repeat (first | (with_reducible first | exact HB.out | apply below_alloc | apply pw_below_drewN | apply below_drew1) | exact HB.out))) : w.heap.size ≤ gb204)); have n3_ := Aside0.mk ((by rw [hg]; exact (below_size (by repeat (first | (with_reducible first | exact HB.out | apply below_alloc | apply pw_below_drewN | apply below_drew1) | exact HB.out))) : w.heap.size ≤ gb204)); clear HB; have HB := n0_; have BK204 := n1_; have GW204 := n2_; have GE204 := n3_; clear n0_ n1_ n2_ n3_; clear hb hbox hg) | ((with_reducible refine gate_dst (N := 4) rfl ?_); refine box_event ?hg (N := 4) ?hd (cs := #[.int .i64 0, .int .i64 0, .int .i64 0, .int .i64 0]) (t := 34) ?hr ?_; (case hd => rfl); (case hg => rfl); (case hr => first | (go_simp; done) | (go_simp; rfl)); intro gb205 hg w13 hbox hb; have n0_ := Aside0.mk (blk_below BK204.out hb); have n1_ := Aside0.mk (below_step (by repeat (first | (with_reducible first | exact HB.out | apply below_alloc | apply pw_below_drewN | apply below_drew1 | refine below_set ?_ GE204.out) | exact HB.out)) hb); have n2_ := Aside0.mk (hbox); have n3_ := Aside0.mk ((by rw [hg]; exact (below_size (by repeat (first | (with_reducible first | exact HB.out | apply below_alloc | apply pw_below_drewN | apply below_drew1 | refine below_set ?_ GE204.out) | exact HB.out))) : w.heap.size ≤ gb205)); have n4_ := Aside0.mk ((by rw [hg]; exact (below_size (by repeat (first | (with_reducible first | exact HB.out | apply below_alloc | apply pw_below_drewN | apply below_drew1 | refine below_set ?_ GE204.out) | exact HB.out))) : w.heap.size ≤ gb205)); have n5_ := Aside0.mk ((by rw [hg]; exact Nat.ne_of_lt (blk_lt BK204.out) : gb204 ≠ gb205)); have n6_ := Aside0.mk ((by rw [hg]; exact Nat.ne_of_gt (blk_lt BK204.out) : gb205 ≠ gb204)); clear BK204; clear HB; have BK204 := n0_; have HB := n1_; have BK205 := n2_; have GW205 := n3_; have GE205 := n4_; have NB204_205 := n5_; have NB205_204 := n6_; clear n0_ n1_ n2_ n3_ n4_ n5_ n6_; clear hb hbox hg) | ((with_reducible refine gate_dst (N := 5) rfl ?_); refine box_event ?hg (N := 5) ?hd (cs := #[.int .i64 0, .int .i64 0]) (t := 36) ?hr ?_; (case hd => rfl); (case hg => rfl); (case hr => first | (go_simp; done) | (go_simp; rfl)); intro gb206 hg w14 hbox hb; have n0_ := Aside0.mk (blk_below BK204.out hb); have n1_ := Aside0.mk (blk_below BK205.out hb); have n2_ := Aside0.mk (below_step (by repeat (first | (with_reducible first | exact HB.out | apply below_alloc | apply pw_below_drewN | apply below_drew1 | refine below_set ?_ GE204.out | refine below_set ?_ GE205.out) | exact HB.out)) hb); have n3_ := Aside0.mk (hbox); have n4_ := Aside0.mk ((by rw [hg]; exact (below_size (by repeat (first | (with_reducible first | exact HB.out | apply below_alloc | apply pw_below_drewN | apply below_drew1 | refine below_set ?_ GE204.out | refine below_set ?_ GE205.out) | exact HB.out))) : w.heap.size ≤ gb206)); have n5_ := Aside0.mk ((by rw [hg]; exact (below_size (by repeat (first | (with_reducible first | exact HB.out | apply below_alloc | apply pw_below_drewN | apply below_drew1 | refine below_set ?_ GE204.out | refine below_set ?_ GE205.out) | exact HB.out))) : w.heap.size ≤ gb206)); have n6_ := Aside0.mk ((by rw [hg]; exact Nat.ne_of_lt (blk_lt BK204.out) : gb204 ≠ gb206)); have n7_ := Aside0.mk ((by rw [hg]; exact Nat.ne_of_gt (blk_lt BK204.out) : gb206 ≠ gb204)); have n8_ := Aside0.mk ((by rw [hg]; exact Nat.ne_of_lt (blk_lt BK205.out) : gb205 ≠ gb206)); have n9_ := Aside0.mk ((by rw [hg]; exact Nat.ne_of_gt (blk_lt BK205.out) : gb206 ≠ gb205)); clear BK204; clear BK205; clear HB; have BK204 := n0_; have BK205 := n1_; have HB := n2_; have BK206 := n3_; have GW206 := n4_; have GE206 := n5_; have NB204_206 := n6_; have NB206_204 := n7_; have NB205_206 := n8_; have NB206_205 := n9_; clear n0_ n1_ n2_ n3_ n4_ n5_ n6_ n7_ n8_ n9_; clear hb hbox hg; have hnb15 := NB204_205.out; have hnc15 := NB205_204.out; have hnb16 := NB204_206.out; have hnc16 := NB206_204.out; have hcz17_0 : w14.cell? ⟨gb204, 0, none⟩ = some (.int .i64 0) := (blk_cell BK204.out 0).trans rfl; have hcz17_1 : w14.cell? ⟨gb204, 1, none⟩ = some (.int .i64 0) := (blk_cell BK204.out 1).trans rfl; have hcz17_2 : w14.cell? ⟨gb204, 2, none⟩ = some (.int .i64 0) := (blk_cell BK204.out 2).trans rfl; have hcz17_3 : w14.cell? ⟨gb204, 3, none⟩ = some (.int .i64 0) := (blk_cell BK204.out 3).trans rfl; have hfz17_0 := blk_frozen BK204.out 0; have hfz17_1 := blk_frozen BK204.out 1; have hfz17_2 := blk_frozen BK204.out 2; have hfz17_3 := blk_frozen BK204.out 3; have hnb18 := NB205_206.out; have hnc18 := NB206_205.out; have hcz19_0 : w14.cell? ⟨gb205, 0, none⟩ = some (.int .i64 0) := (blk_cell BK205.out 0).trans rfl; have hcz19_1 : w14.cell? ⟨gb205, 1, none⟩ = some (.int .i64 0) := (blk_cell BK205.out 1).trans rfl; have hcz19_2 : w14.cell? ⟨gb205, 2, none⟩ = some (.int .i64 0) := (blk_cell BK205.out 2).trans rfl; have hcz19_3 : w14.cell? ⟨gb205, 3, none⟩ = some (.int .i64 0) := (blk_cell BK205.out 3).trans rfl; have hfz19_0 := blk_frozen BK205.out 0; have hfz19_1 := blk_frozen BK205.out 1; have hfz19_2 := blk_frozen BK205.out 2; have hfz19_3 := blk_frozen BK205.out 3; have hcz20_0 : w14.cell? ⟨gb206, 0, none⟩ = some (.int .i64 0) := (blk_cell BK206.out 0).trans rfl; have hcz20_1 : w14.cell? ⟨gb206, 1, none⟩ = some (.int .i64 0) := (blk_cell BK206.out 1).trans rfl; have hfz20_0 := blk_frozen BK206.out 0; have hfz20_1 := blk_frozen BK206.out 1) | ((with_reducible refine gate_callee (f := 19) rfl ?_); refine goesL_ (some 22) rfl rfl Try.func19 (by kernel_rfl) rfl #[.agg #[.int .i64 t194, .int .i64 t195, .int .i64 t196, .int .i64 t197], .agg #[.int .i64 t198, .int .i64 t199, .int .i64 t200, .int .i64 t201]] rfl (by (try simp only [List.map_toArray, List.map_cons, List.map_nil]); first | done | rfl | (simp only [List.length_drop, List.length_take]; rfl)) ?_; (with_reducible refine (impl_JoinBox.calls k t194 t195 t196 t197 t198 t199 t200 t201 t207 t208 t209 t210 _ A5.out).mono ?_); rintro e w21 ⟨rfl, hb⟩; refine ⟨_, rfl, ?_⟩; have n0_ := Aside0.mk (blk_below (g := gb204) (o := .cells #[.int .i64 t194, .int .i64 t195, .int .i64 t196, .int .i64 t197] 34 (0, 0)) (by (with_reducible repeat (first | refine blk_drewN ?_ _ | refine blk_drew ?_ | refine blk_alloc ?_ _)); refine blk_far ?_ NB204_206.out _; (with_reducible repeat (first | refine blk_drewN ?_ _ | refine blk_drew ?_ | refine blk_alloc ?_ _)); refine blk_far ?_ NB204_206.out _; (with_reducible repeat (first | refine blk_drewN ?_ _ | refine blk_drew ?_ | refine blk_alloc ?_ _)); refine blk_far ?_ NB204_205.out _; (with_reducible repeat (first | refine blk_drewN ?_ _ | refine blk_drew ?_ | refine blk_alloc ?_ _)); refine blk_far ?_ NB204_205.out _; (with_reducible repeat (first | refine blk_drewN ?_ _ | refine blk_drew ?_ | refine blk_alloc ?_ _)); refine blk_far ?_ NB204_205.out _; (with_reducible repeat (first | refine blk_drewN ?_ _ | refine blk_drew ?_ | refine blk_alloc ?_ _)); refine blk_far ?_ NB204_205.out _; (with_reducible repeat (first | refine blk_drewN ?_ _ | refine blk_drew ?_ | refine blk_alloc ?_ _)); refine blk_put (cs := #[.int .i64 t194, .int .i64 t195, .int .i64 t196, .int .i64 0]) ?_ 3 _ rfl; (with_reducible repeat (first | refine blk_drewN ?_ _ | refine blk_drew ?_ | refine blk_alloc ?_ _)); refine blk_put (cs := #[.int .i64 t194, .int .i64 t195, .int .i64 0, .int .i64 0]) ?_ 2 _ rfl; (with_reducible repeat (first | refine blk_drewN ?_ _ | refine blk_drew ?_ | refine blk_alloc ?_ _)); refine blk_put (cs := #[.int .i64 t194, .int .i64 0, .int .i64 0, .int .i64 0]) ?_ 1 _ rfl; (with_reducible repeat (first | refine blk_drewN ?_ _ | refine blk_drew ?_ | refine blk_alloc ?_ _)); refine blk_put (cs := #[.int .i64 0, .int .i64 0, .int .i64 0, .int .i64 0]) ?_ 0 _ rfl; (with_reducible repeat (first | refine blk_drewN ?_ _ | refine blk_drew ?_ | refine blk_alloc ?_ _)); exact BK204.out) hb); have n1_ := Aside0.mk (blk_below (g := gb205) (o := .cells #[.int .i64 t198, .int .i64 t199, .int .i64 t200, .int .i64 t201] 34 (0, 0)) (by (with_reducible repeat (first | refine blk_drewN ?_ _ | refine blk_drew ?_ | refine blk_alloc ?_ _)); refine blk_far ?_ NB205_206.out _; (with_reducible repeat (first | refine blk_drewN ?_ _ | refine blk_drew ?_ | refine blk_alloc ?_ _)); refine blk_far ?_ NB205_206.out _; (with_reducible repeat (first | refine blk_drewN ?_ _ | refine blk_drew ?_ | refine blk_alloc ?_ _)); refine blk_put (cs := #[.int .i64 t198, .int .i64 t199, .int .i64 t200, .int .i64 0]) ?_ 3 _ rfl; (with_reducible repeat (first | refine blk_drewN ?_ _ | refine blk_drew ?_ | refine blk_alloc ?_ _)); refine blk_put (cs := #[.int .i64 t198, .int .i64 t199, .int .i64 0, .int .i64 0]) ?_ 2 _ rfl; (with_reducible repeat (first | refine blk_drewN ?_ _ | refine blk_drew ?_ | refine blk_alloc ?_ _)); refine blk_put (cs := #[.int .i64 t198, .int .i64 0, .int .i64 0, .int .i64 0]) ?_ 1 _ rfl; (with_reducible repeat (first | refine blk_drewN ?_ _ | refine blk_drew ?_ | refine blk_alloc ?_ _)); refine blk_put (cs := #[.int .i64 0, .int .i64 0, .int .i64 0, .int .i64 0]) ?_ 0 _ rfl; (with_reducible repeat (first | refine blk_drewN ?_ _ | refine blk_drew ?_ | refine blk_alloc ?_ _)); refine blk_far ?_ NB205_204.out _; (with_reducible repeat (first | refine blk_drewN ?_ _ | refine blk_drew ?_ | refine blk_alloc ?_ _)); refine blk_far ?_ NB205_204.out _; (with_reducible repeat (first | refine blk_drewN ?_ _ | refine blk_drew ?_ | refine blk_alloc ?_ _)); refine blk_far ?_ NB205_204.out _; (with_reducible repeat (first | refine blk_drewN ?_ _ | refine blk_drew ?_ | refine blk_alloc ?_ _)); refine blk_far ?_ NB205_204.out _; (with_reducible repeat (first | refine blk_drewN ?_ _ | refine blk_drew ?_ | refine blk_alloc ?_ _)); exact BK205.out) hb); have n2_ := Aside0.mk (blk_below (g := gb206) (o := .cells #[.int .i64 t202, .int .i64 t203] 36 (0, 0)) (by (with_reducible repeat (first | refine blk_drewN ?_ _ | refine blk_drew ?_ | refine blk_alloc ?_ _)); refine blk_put (cs := #[.int .i64 t202, .int .i64 0]) ?_ 1 _ rfl; (with_reducible repeat (first | refine blk_drewN ?_ _ | refine blk_drew ?_ | refine blk_alloc ?_ _)); refine blk_put (cs := #[.int .i64 0, .int .i64 0]) ?_ 0 _ rfl; (with_reducible repeat (first | refine blk_drewN ?_ _ | refine blk_drew ?_ | refine blk_alloc ?_ _)); refine blk_far ?_ NB206_205.out _; (with_reducible repeat (first | refine blk_drewN ?_ _ | refine blk_drew ?_ | refine blk_alloc ?_ _)); refine blk_far ?_ NB206_205.out _; (with_reducible repeat (first | refine blk_drewN ?_ _ | refine blk_drew ?_ | refine blk_alloc ?_ _)); refine blk_far ?_ NB206_205.out _; (with_reducible repeat (first | refine blk_drewN ?_ _ | refine blk_drew ?_ | refine blk_alloc ?_ _)); refine blk_far ?_ NB206_205.out _; (with_reducible repeat (first | refine blk_drewN ?_ _ | refine blk_drew ?_ | refine blk_alloc ?_ _)); refine blk_far ?_ NB206_204.out _; (with_reducible repeat (first | refine blk_drewN ?_ _ | refine blk_drew ?_ | refine blk_alloc ?_ _)); refine blk_far ?_ NB206_204.out _; (with_reducible repeat (first | refine blk_drewN ?_ _ | refine blk_drew ?_ | refine blk_alloc ?_ _)); refine blk_far ?_ NB206_204.out _; (with_reducible repeat (first | refine blk_drewN ?_ _ | refine blk_drew ?_ | refine blk_alloc ?_ _)); refine blk_far ?_ NB206_204.out _; (with_reducible repeat (first | refine blk_drewN ?_ _ | refine blk_drew ?_ | refine blk_alloc ?_ _)); exact BK206.out) hb); have n3_ := Aside0.mk (below_step (by repeat (first | (with_reducible first | exact HB.out | apply below_alloc | apply pw_below_drewN | apply below_drew1 | refine below_set ?_ GE204.out | refine below_set ?_ GE205.out | refine below_set ?_ GE206.out) | exact HB.out)) hb); clear BK204; clear BK205; clear BK206; clear HB; have BK204 := n0_; have BK205 := n1_; have BK206 := n2_; have HB := n3_; clear n0_ n1_ n2_ n3_; (try clear hb); (try clear hb2); (try clear hk); (try clear hi)) | ((with_reducible refine gate_dst (N := 6) rfl ?_); refine box_event ?hg (N := 6) ?hd (cs := #[.int .i64 0, .int .i64 0, .int .i64 0, .int .i64 0]) (t := 34) ?hr ?_; (case hd => rfl); (case hg => rfl); (case hr => first | (go_simp; done) | (go_simp; rfl)); intro gb211 hg w22 hbox hb; have n0_ := Aside0.mk (blk_below BK204.out hb); have n1_ := Aside0.mk (blk_below BK205.out hb); have n2_ := Aside0.mk (blk_below BK206.out hb); have n3_ := Aside0.mk (below_step (by repeat (first | (with_reducible first | exact HB.out | apply below_alloc | apply pw_below_drewN | apply below_drew1 | refine below_set ?_ GE204.out | refine below_set ?_ GE205.out | refine below_set ?_ GE206.out) | exact HB.out)) hb); have n4_ := Aside0.mk (hbox); have n5_ := Aside0.mk ((by rw [hg]; exact (below_size (by repeat (first | (with_reducible first | exact HB.out | apply below_alloc | apply pw_below_drewN | apply below_drew1 | refine below_set ?_ GE204.out | refine below_set ?_ GE205.out | refine below_set ?_ GE206.out) | exact HB.out))) : w.heap.size ≤ gb211)); have n6_ := Aside0.mk ((by rw [hg]; exact (below_size (by repeat (first | (with_reducible first | exact HB.out | apply below_alloc | apply pw_below_drewN | apply below_drew1 | refine below_set ?_ GE204.out | refine below_set ?_ GE205.out | refine below_set ?_ GE206.out) | exact HB.out))) : w.heap.size ≤ gb211)); have n7_ := Aside0.mk ((by rw [hg]; exact Nat.ne_of_lt (blk_lt BK204.out) : gb204 ≠ gb211)); have n8_ := Aside0.mk ((by rw [hg]; exact Nat.ne_of_gt (blk_lt BK204.out) : gb211 ≠ gb204)); have n9_ := Aside0.mk ((by rw [hg]; exact Nat.ne_of_lt (blk_lt BK205.out) : gb205 ≠ gb211)); have n10_ := Aside0.mk ((by rw [hg]; exact Nat.ne_of_gt (blk_lt BK205.out) : gb211 ≠ gb205)); have n11_ := Aside0.mk ((by rw [hg]; exact Nat.ne_of_lt (blk_lt BK206.out) : gb206 ≠ gb211)); have n12_ := Aside0.mk ((by rw [hg]; exact Nat.ne_of_gt (blk_lt BK206.out) : gb211 ≠ gb206)); clear BK204; clear BK205; clear BK206; clear HB; have BK204 := n0_; have BK205 := n1_; have BK206 := n2_; have HB := n3_; have BK211 := n4_; have GW211 := n5_; have GE211 := n6_; have NB204_211 := n7_; have NB211_204 := n8_; have NB205_211 := n9_; have NB211_205 := n10_; have NB206_211 := n11_; have NB211_206 := n12_; clear n0_ n1_ n2_ n3_ n4_ n5_ n6_ n7_ n8_ n9_ n10_ n11_ n12_; clear hb hbox hg; have hnb23 := NB211_204.out; have hnc23 := NB204_211.out; have hnb24 := NB211_205.out; have hnc24 := NB205_211.out; have hnb25 := NB211_206.out; have hnc25 := NB206_211.out; have hcz26_0 : w22.cell? ⟨gb211, 0, none⟩ = some (.int .i64 0) := (blk_cell BK211.out 0).trans rfl; have hcz26_1 : w22.cell? ⟨gb211, 1, none⟩ = some (.int .i64 0) := (blk_cell BK211.out 1).trans rfl; have hcz26_2 : w22.cell? ⟨gb211, 2, none⟩ = some (.int .i64 0) := (blk_cell BK211.out 2).trans rfl; have hcz26_3 : w22.cell? ⟨gb211, 3, none⟩ = some (.int .i64 0) := (blk_cell BK211.out 3).trans rfl; have hfz26_0 := blk_frozen BK211.out 0; have hfz26_1 := blk_frozen BK211.out 1; have hfz26_2 := blk_frozen BK211.out 2; have hfz26_3 := blk_frozen BK211.out 3; have hcz27_0 : w22.cell? ⟨gb204, 0, none⟩ = some (.int .i64 t194) := (blk_cell BK204.out 0).trans rfl; have hcz27_1 : w22.cell? ⟨gb204, 1, none⟩ = some (.int .i64 t195) := (blk_cell BK204.out 1).trans rfl; have hcz27_2 : w22.cell? ⟨gb204, 2, none⟩ = some (.int .i64 t196) := (blk_cell BK204.out 2).trans rfl; have hcz27_3 : w22.cell? ⟨gb204, 3, none⟩ = some (.int .i64 t197) := (blk_cell BK204.out 3).trans rfl; have hfz27_0 := blk_frozen BK204.out 0; have hfz27_1 := blk_frozen BK204.out 1; have hfz27_2 := blk_frozen BK204.out 2; have hfz27_3 := blk_frozen BK204.out 3; have hcz28_0 : w22.cell? ⟨gb205, 0, none⟩ = some (.int .i64 t198) := (blk_cell BK205.out 0).trans rfl; have hcz28_1 : w22.cell? ⟨gb205, 1, none⟩ = some (.int .i64 t199) := (blk_cell BK205.out 1).trans rfl; have hcz28_2 : w22.cell? ⟨gb205, 2, none⟩ = some (.int .i64 t200) := (blk_cell BK205.out 2).trans rfl; have hcz28_3 : w22.cell? ⟨gb205, 3, none⟩ = some (.int .i64 t201) := (blk_cell BK205.out 3).trans rfl; have hfz28_0 := blk_frozen BK205.out 0; have hfz28_1 := blk_frozen BK205.out 1; have hfz28_2 := blk_frozen BK205.out 2; have hfz28_3 := blk_frozen BK205.out 3) | ((with_reducible refine gate_callee (f := 20) rfl ?_); refine goesL_ (some 25) rfl rfl Try.func20 (by kernel_rfl) rfl #[.agg #[.int .i64 t194, .int .i64 t195, .int .i64 t196, .int .i64 t197], .agg #[.int .i64 t198, .int .i64 t199, .int .i64 t200, .int .i64 t201]] rfl (by (try simp only [List.map_toArray, List.map_cons, List.map_nil]); first | done | rfl | (simp only [List.length_drop, List.length_take]; rfl)) ?_; (with_reducible refine (impl_MeetBox.calls t194 t195 t196 t197 t198 t199 t200 t201 t212 t213 t214 t215 _ A6.out).mono ?_); rintro e w29 ⟨rfl, hb⟩; refine ⟨_, rfl, ?_⟩; have n0_ := Aside0.mk (blk_below (g := gb204) (o := .cells #[.int .i64 t194, .int .i64 t195, .int .i64 t196, .int .i64 t197] 34 (0, 0)) (by (with_reducible repeat (first | refine blk_drewN ?_ _ | refine blk_drew ?_ | refine blk_alloc ?_ _)); refine blk_far ?_ NB204_211.out _; (with_reducible repeat (first | refine blk_drewN ?_ _ | refine blk_drew ?_ | refine blk_alloc ?_ _)); refine blk_far ?_ NB204_211.out _; (with_reducible repeat (first | refine blk_drewN ?_ _ | refine blk_drew ?_ | refine blk_alloc ?_ _)); refine blk_far ?_ NB204_211.out _; (with_reducible repeat (first | refine blk_drewN ?_ _ | refine blk_drew ?_ | refine blk_alloc ?_ _)); refine blk_far ?_ NB204_211.out _; (with_reducible repeat (first | refine blk_drewN ?_ _ | refine blk_drew ?_ | refine blk_alloc ?_ _)); exact BK204.out) hb); have n1_ := Aside0.mk (blk_below (g := gb205) (o := .cells #[.int .i64 t198, .int .i64 t199, .int .i64 t200, .int .i64 t201] 34 (0, 0)) (by (with_reducible repeat (first | refine blk_drewN ?_ _ | refine blk_drew ?_ | refine blk_alloc ?_ _)); refine blk_far ?_ NB205_211.out _; (with_reducible repeat (first | refine blk_drewN ?_ _ | refine blk_drew ?_ | refine blk_alloc ?_ _)); refine blk_far ?_ NB205_211.out _; (with_reducible repeat (first | refine blk_drewN ?_ _ | refine blk_drew ?_ | refine blk_alloc ?_ _)); refine blk_far ?_ NB205_211.out _; (with_reducible repeat (first | refine blk_drewN ?_ _ | refine blk_drew ?_ | refine blk_alloc ?_ _)); refine blk_far ?_ NB205_211.out _; (with_reducible repeat (first | refine blk_drewN ?_ _ | refine blk_drew ?_ | refine blk_alloc ?_ _)); exact BK205.out) hb); have n2_ := Aside0.mk (blk_below (g := gb206) (o := .cells #[.int .i64 t202, .int .i64 t203] 36 (0, 0)) (by (with_reducible repeat (first | refine blk_drewN ?_ _ | refine blk_drew ?_ | refine blk_alloc ?_ _)); refine blk_far ?_ NB206_211.out _; (with_reducible repeat (first | refine blk_drewN ?_ _ | refine blk_drew ?_ | refine blk_alloc ?_ _)); refine blk_far ?_ NB206_211.out _; (with_reducible repeat (first | refine blk_drewN ?_ _ | refine blk_drew ?_ | refine blk_alloc ?_ _)); refine blk_far ?_ NB206_211.out _; (with_reducible repeat (first | refine blk_drewN ?_ _ | refine blk_drew ?_ | refine blk_alloc ?_ _)); refine blk_far ?_ NB206_211.out _; (with_reducible repeat (first | refine blk_drewN ?_ _ | refine blk_drew ?_ | refine blk_alloc ?_ _)); exact BK206.out) hb); have n3_ := Aside0.mk (blk_below (g := gb211) (o := .cells #[.int .i64 t207, .int .i64 t208, .int .i64 t209, .int .i64 t210] 34 (0, 0)) (by (with_reducible repeat (first | refine blk_drewN ?_ _ | refine blk_drew ?_ | refine blk_alloc ?_ _)); refine blk_put (cs := #[.int .i64 t207, .int .i64 t208, .int .i64 t209, .int .i64 0]) ?_ 3 _ rfl; (with_reducible repeat (first | refine blk_drewN ?_ _ | refine blk_drew ?_ | refine blk_alloc ?_ _)); refine blk_put (cs := #[.int .i64 t207, .int .i64 t208, .int .i64 0, .int .i64 0]) ?_ 2 _ rfl; (with_reducible repeat (first | refine blk_drewN ?_ _ | refine blk_drew ?_ | refine blk_alloc ?_ _)); refine blk_put (cs := #[.int .i64 t207, .int .i64 0, .int .i64 0, .int .i64 0]) ?_ 1 _ rfl; (with_reducible repeat (first | refine blk_drewN ?_ _ | refine blk_drew ?_ | refine blk_alloc ?_ _)); refine blk_put (cs := #[.int .i64 0, .int .i64 0, .int .i64 0, .int .i64 0]) ?_ 0 _ rfl; (with_reducible repeat (first | refine blk_drewN ?_ _ | refine blk_drew ?_ | refine blk_alloc ?_ _)); exact BK211.out) hb); have n4_ := Aside0.mk (below_step (by repeat (first | (with_reducible first | exact HB.out | apply below_alloc | apply pw_below_drewN | apply below_drew1 | refine below_set ?_ GE204.out | refine below_set ?_ GE205.out | refine below_set ?_ GE206.out | refine below_set ?_ GE211.out) | exact HB.out)) hb); clear BK204; clear BK205; clear BK206; clear BK211; clear HB; have BK204 := n0_; have BK205 := n1_; have BK206 := n2_; have BK211 := n3_; have HB := n4_; clear n0_ n1_ n2_ n3_ n4_; (try clear hb); (try clear hb2); (try clear hk); (try clear hi)) | ((with_reducible refine gate_dst (N := 7) rfl ?_); refine box_event ?hg (N := 7) ?hd (cs := #[.int .i64 0, .int .i64 0, .int .i64 0, .int .i64 0]) (t := 34) ?hr ?_; (case hd => rfl); (case hg => rfl); (case hr => first | (go_simp; done) | (go_simp; rfl)); intro gb216 hg w30 hbox hb; have n0_ := Aside0.mk (blk_below BK204.out hb); have n1_ := Aside0.mk (blk_below BK205.out hb); have n2_ := Aside0.mk (blk_below BK206.out hb); have n3_ := Aside0.mk (blk_below BK211.out hb); have n4_ := Aside0.mk (below_step (by repeat (first | (with_reducible first | exact HB.out | apply below_alloc | apply pw_below_drewN | apply below_drew1 | refine below_set ?_ GE204.out | refine below_set ?_ GE205.out | refine below_set ?_ GE206.out | refine below_set ?_ GE211.out) | exact HB.out)) hb); have n5_ := Aside0.mk (hbox); have n6_ := Aside0.mk ((by rw [hg]; exact (below_size (by repeat (first | (with_reducible first | exact HB.out | apply below_alloc | apply pw_below_drewN | apply below_drew1 | refine below_set ?_ GE204.out | refine below_set ?_ GE205.out | refine below_set ?_ GE206.out | refine below_set ?_ GE211.out) | exact HB.out))) : w.heap.size ≤ gb216)); have n7_ := Aside0.mk ((by rw [hg]; exact (below_size (by repeat (first | (with_reducible first | exact HB.out | apply below_alloc | apply pw_below_drewN | apply below_drew1 | refine below_set ?_ GE204.out | refine below_set ?_ GE205.out | refine below_set ?_ GE206.out | refine below_set ?_ GE211.out) | exact HB.out))) : w.heap.size ≤ gb216)); have n8_ := Aside0.mk ((by rw [hg]; exact Nat.ne_of_lt (blk_lt BK204.out) : gb204 ≠ gb216)); have n9_ := Aside0.mk ((by rw [hg]; exact Nat.ne_of_gt (blk_lt BK204.out) : gb216 ≠ gb204)); have n10_ := Aside0.mk ((by rw [hg]; exact Nat.ne_of_lt (blk_lt BK205.out) : gb205 ≠ gb216)); have n11_ := Aside0.mk ((by rw [hg]; exact Nat.ne_of_gt (blk_lt BK205.out) : gb216 ≠ gb205)); have n12_ := Aside0.mk ((by rw [hg]; exact Nat.ne_of_lt (blk_lt BK206.out) : gb206 ≠ gb216)); have n13_ := Aside0.mk ((by rw [hg]; exact Nat.ne_of_gt (blk_lt BK206.out) : gb216 ≠ gb206)); have n14_ := Aside0.mk ((by rw [hg]; exact Nat.ne_of_lt (blk_lt BK211.out) : gb211 ≠ gb216)); have n15_ := Aside0.mk ((by rw [hg]; exact Nat.ne_of_gt (blk_lt BK211.out) : gb216 ≠ gb211)); clear BK204; clear BK205; clear BK206; clear BK211; clear HB; have BK204 := n0_; have BK205 := n1_; have BK206 := n2_; have BK211 := n3_; have HB := n4_; have BK216 := n5_; have GW216 := n6_; have GE216 := n7_; have NB204_216 := n8_; have NB216_204 := n9_; have NB205_216 := n10_; have NB216_205 := n11_; have NB206_216 := n12_; have NB216_206 := n13_; have NB211_216 := n14_; have NB216_211 := n15_; clear n0_ n1_ n2_ n3_ n4_ n5_ n6_ n7_ n8_ n9_ n10_ n11_ n12_ n13_ n14_ n15_; clear hb hbox hg; have hnb31 := NB216_204.out; have hnc31 := NB204_216.out; have hnb32 := NB216_205.out; have hnc32 := NB205_216.out; have hnb33 := NB216_206.out; have hnc33 := NB206_216.out; have hnb34 := NB216_211.out; have hnc34 := NB211_216.out; have hcz35_0 : w30.cell? ⟨gb216, 0, none⟩ = some (.int .i64 0) := (blk_cell BK216.out 0).trans rfl; have hcz35_1 : w30.cell? ⟨gb216, 1, none⟩ = some (.int .i64 0) := (blk_cell BK216.out 1).trans rfl; have hcz35_2 : w30.cell? ⟨gb216, 2, none⟩ = some (.int .i64 0) := (blk_cell BK216.out 2).trans rfl; have hcz35_3 : w30.cell? ⟨gb216, 3, none⟩ = some (.int .i64 0) := (blk_cell BK216.out 3).trans rfl; have hfz35_0 := blk_frozen BK216.out 0; have hfz35_1 := blk_frozen BK216.out 1; have hfz35_2 := blk_frozen BK216.out 2; have hfz35_3 := blk_frozen BK216.out 3; have hcz36_0 : w30.cell? ⟨gb204, 0, none⟩ = some (.int .i64 t194) := (blk_cell BK204.out 0).trans rfl; have hcz36_1 : w30.cell? ⟨gb204, 1, none⟩ = some (.int .i64 t195) := (blk_cell BK204.out 1).trans rfl; have hcz36_2 : w30.cell? ⟨gb204, 2, none⟩ = some (.int .i64 t196) := (blk_cell BK204.out 2).trans rfl; have hcz36_3 : w30.cell? ⟨gb204, 3, none⟩ = some (.int .i64 t197) := (blk_cell BK204.out 3).trans rfl; have hfz36_0 := blk_frozen BK204.out 0; have hfz36_1 := blk_frozen BK204.out 1; have hfz36_2 := blk_frozen BK204.out 2; have hfz36_3 := blk_frozen BK204.out 3) | ((with_reducible refine gate_callee (f := 21) rfl ?_); refine goesL_ (some 27) rfl rfl Try.func21 (by kernel_rfl) rfl #[.agg #[.int .i64 t194, .int .i64 t195, .int .i64 t196, .int .i64 t197], .int .i64 2] rfl (by (try simp only [List.map_toArray, List.map_cons, List.map_nil]); first | done | rfl | (simp only [List.length_drop, List.length_take]; rfl)) ?_; (with_reducible refine (impl_GrowBox.calls t194 t195 t196 t197 2 t217 t218 t219 t220 _ A7.out).mono ?_); rintro e w37 ⟨rfl, hb⟩; refine ⟨_, rfl, ?_⟩; have n0_ := Aside0.mk (blk_below (g := gb204) (o := .cells #[.int .i64 t194, .int .i64 t195, .int .i64 t196, .int .i64 t197] 34 (0, 0)) (by (with_reducible repeat (first | refine blk_drewN ?_ _ | refine blk_drew ?_ | refine blk_alloc ?_ _)); refine blk_far ?_ NB204_216.out _; (with_reducible repeat (first | refine blk_drewN ?_ _ | refine blk_drew ?_ | refine blk_alloc ?_ _)); refine blk_far ?_ NB204_216.out _; (with_reducible repeat (first | refine blk_drewN ?_ _ | refine blk_drew ?_ | refine blk_alloc ?_ _)); refine blk_far ?_ NB204_216.out _; (with_reducible repeat (first | refine blk_drewN ?_ _ | refine blk_drew ?_ | refine blk_alloc ?_ _)); refine blk_far ?_ NB204_216.out _; (with_reducible repeat (first | refine blk_drewN ?_ _ | refine blk_drew ?_ | refine blk_alloc ?_ _)); exact BK204.out) hb); have n1_ := Aside0.mk (blk_below (g := gb205) (o := .cells #[.int .i64 t198, .int .i64 t199, .int .i64 t200, .int .i64 t201] 34 (0, 0)) (by (with_reducible repeat (first | refine blk_drewN ?_ _ | refine blk_drew ?_ | refine blk_alloc ?_ _)); refine blk_far ?_ NB205_216.out _; (with_reducible repeat (first | refine blk_drewN ?_ _ | refine blk_drew ?_ | refine blk_alloc ?_ _)); refine blk_far ?_ NB205_216.out _; (with_reducible repeat (first | refine blk_drewN ?_ _ | refine blk_drew ?_ | refine blk_alloc ?_ _)); refine blk_far ?_ NB205_216.out _; (with_reducible repeat (first | refine blk_drewN ?_ _ | refine blk_drew ?_ | refine blk_alloc ?_ _)); refine blk_far ?_ NB205_216.out _; (with_reducible repeat (first | refine blk_drewN ?_ _ | refine blk_drew ?_ | refine blk_alloc ?_ _)); exact BK205.out) hb); have n2_ := Aside0.mk (blk_below (g := gb206) (o := .cells #[.int .i64 t202, .int .i64 t203] 36 (0, 0)) (by (with_reducible repeat (first | refine blk_drewN ?_ _ | refine blk_drew ?_ | refine blk_alloc ?_ _)); refine blk_far ?_ NB206_216.out _; (with_reducible repeat (first | refine blk_drewN ?_ _ | refine blk_drew ?_ | refine blk_alloc ?_ _)); refine blk_far ?_ NB206_216.out _; (with_reducible repeat (first | refine blk_drewN ?_ _ | refine blk_drew ?_ | refine blk_alloc ?_ _)); refine blk_far ?_ NB206_216.out _; (with_reducible repeat (first | refine blk_drewN ?_ _ | refine blk_drew ?_ | refine blk_alloc ?_ _)); refine blk_far ?_ NB206_216.out _; (with_reducible repeat (first | refine blk_drewN ?_ _ | refine blk_drew ?_ | refine blk_alloc ?_ _)); exact BK206.out) hb); have n3_ := Aside0.mk (blk_below (g := gb211) (o := .cells #[.int .i64 t207, .int .i64 t208, .int .i64 t209, .int .i64 t210] 34 (0, 0)) (by (with_reducible repeat (first | refine blk_drewN ?_ _ | refine blk_drew ?_ | refine blk_alloc ?_ _)); refine blk_far ?_ NB211_216.out _; (with_reducible repeat (first | refine blk_drewN ?_ _ | refine blk_drew ?_ | refine blk_alloc ?_ _)); refine blk_far ?_ NB211_216.out _; (with_reducible repeat (first | refine blk_drewN ?_ _ | refine blk_drew ?_ | refine blk_alloc ?_ _)); refine blk_far ?_ NB211_216.out _; (with_reducible repeat (first | refine blk_drewN ?_ _ | refine blk_drew ?_ | refine blk_alloc ?_ _)); refine blk_far ?_ NB211_216.out _; (with_reducible repeat (first | refine blk_drewN ?_ _ | refine blk_drew ?_ | refine blk_alloc ?_ _)); exact BK211.out) hb); have n4_ := Aside0.mk (blk_below (g := gb216) (o := .cells #[.int .i64 t212, .int .i64 t213, .int .i64 t214, .int .i64 t215] 34 (0, 0)) (by (with_reducible repeat (first | refine blk_drewN ?_ _ | refine blk_drew ?_ | refine blk_alloc ?_ _)); refine blk_put (cs := #[.int .i64 t212, .int .i64 t213, .int .i64 t214, .int .i64 0]) ?_ 3 _ rfl; (with_reducible repeat (first | refine blk_drewN ?_ _ | refine blk_drew ?_ | refine blk_alloc ?_ _)); refine blk_put (cs := #[.int .i64 t212, .int .i64 t213, .int .i64 0, .int .i64 0]) ?_ 2 _ rfl; (with_reducible repeat (first | refine blk_drewN ?_ _ | refine blk_drew ?_ | refine blk_alloc ?_ _)); refine blk_put (cs := #[.int .i64 t212, .int .i64 0, .int .i64 0, .int .i64 0]) ?_ 1 _ rfl; (with_reducible repeat (first | refine blk_drewN ?_ _ | refine blk_drew ?_ | refine blk_alloc ?_ _)); refine blk_put (cs := #[.int .i64 0, .int .i64 0, .int .i64 0, .int .i64 0]) ?_ 0 _ rfl; (with_reducible repeat (first | refine blk_drewN ?_ _ | refine blk_drew ?_ | refine blk_alloc ?_ _)); exact BK216.out) hb); have n5_ := Aside0.mk (below_step (by repeat (first | (with_reducible first | exact HB.out | apply below_alloc | apply pw_below_drewN | apply below_drew1 | refine below_set ?_ GE204.out | refine below_set ?_ GE205.out | refine below_set ?_ GE206.out | refine below_set ?_ GE211.out | refine below_set ?_ GE216.out) | exact HB.out)) hb); clear BK204; clear BK205; clear BK206; clear BK211; clear BK216; clear HB; have BK204 := n0_; have BK205 := n1_; have BK206 := n2_; have BK211 := n3_; have BK216 := n4_; have HB := n5_; clear n0_ n1_ n2_ n3_ n4_ n5_; (try clear hb); (try clear hb2); (try clear hk); (try clear hi)) | ((with_reducible refine gate_dst (N := 8) rfl ?_); refine box_event ?hg (N := 8) ?hd (cs := #[.int .i64 0, .int .i64 0, .int .i64 0, .int .i64 0]) (t := 34) ?hr ?_; (case hd => rfl); (case hg => rfl); (case hr => first | (go_simp; done) | (go_simp; rfl)); intro gb221 hg w38 hbox hb; have n0_ := Aside0.mk (blk_below BK204.out hb); have n1_ := Aside0.mk (blk_below BK205.out hb); have n2_ := Aside0.mk (blk_below BK206.out hb); have n3_ := Aside0.mk (blk_below BK211.out hb); have n4_ := Aside0.mk (blk_below BK216.out hb); have n5_ := Aside0.mk (below_step (by repeat (first | (with_reducible first | exact HB.out | apply below_alloc | apply pw_below_drewN | apply below_drew1 | refine below_set ?_ GE204.out | refine below_set ?_ GE205.out | refine below_set ?_ GE206.out | refine below_set ?_ GE211.out | refine below_set ?_ GE216.out) | exact HB.out)) hb); have n6_ := Aside0.mk (hbox); have n7_ := Aside0.mk ((by rw [hg]; exact (below_size (by repeat (first | (with_reducible first | exact HB.out | apply below_alloc | apply pw_below_drewN | apply below_drew1 | refine below_set ?_ GE204.out | refine below_set ?_ GE205.out | refine below_set ?_ GE206.out | refine below_set ?_ GE211.out | refine below_set ?_ GE216.out) | exact HB.out))) : w.heap.size ≤ gb221)); have n8_ := Aside0.mk ((by rw [hg]; exact (below_size (by repeat (first | (with_reducible first | exact HB.out | apply below_alloc | apply pw_below_drewN | apply below_drew1 | refine below_set ?_ GE204.out | refine below_set ?_ GE205.out | refine below_set ?_ GE206.out | refine below_set ?_ GE211.out | refine below_set ?_ GE216.out) | exact HB.out))) : w.heap.size ≤ gb221)); have n9_ := Aside0.mk ((by rw [hg]; exact Nat.ne_of_lt (blk_lt BK204.out) : gb204 ≠ gb221)); have n10_ := Aside0.mk ((by rw [hg]; exact Nat.ne_of_gt (blk_lt BK204.out) : gb221 ≠ gb204)); have n11_ := Aside0.mk ((by rw [hg]; exact Nat.ne_of_lt (blk_lt BK205.out) : gb205 ≠ gb221)); have n12_ := Aside0.mk ((by rw [hg]; exact Nat.ne_of_gt (blk_lt BK205.out) : gb221 ≠ gb205)); have n13_ := Aside0.mk ((by rw [hg]; exact Nat.ne_of_lt (blk_lt BK206.out) : gb206 ≠ gb221)); have n14_ := Aside0.mk ((by rw [hg]; exact Nat.ne_of_gt (blk_lt BK206.out) : gb221 ≠ gb206)); have n15_ := Aside0.mk ((by rw [hg]; exact Nat.ne_of_lt (blk_lt BK211.out) : gb211 ≠ gb221)); have n16_ := Aside0.mk ((by rw [hg]; exact Nat.ne_of_gt (blk_lt BK211.out) : gb221 ≠ gb211)); have n17_ := Aside0.mk ((by rw [hg]; exact Nat.ne_of_lt (blk_lt BK216.out) : gb216 ≠ gb221)); have n18_ := Aside0.mk ((by rw [hg]; exact Nat.ne_of_gt (blk_lt BK216.out) : gb221 ≠ gb216)); clear BK204; clear BK205; clear BK206; clear BK211; clear BK216; clear HB; have BK204 := n0_; have BK205 := n1_; have BK206 := n2_; have BK211 := n3_; have BK216 := n4_; have HB := n5_; have BK221 := n6_; have GW221 := n7_; have GE221 := n8_; have NB204_221 := n9_; have NB221_204 := n10_; have NB205_221 := n11_; have NB221_205 := n12_; have NB206_221 := n13_; have NB221_206 := n14_; have NB211_221 := n15_; have NB221_211 := n16_; have NB216_221 := n17_; have NB221_216 := n18_; clear n0_ n1_ n2_ n3_ n4_ n5_ n6_ n7_ n8_ n9_ n10_ n11_ n12_ n13_ n14_ n15_ n16_ n17_ n18_; clear hb hbox hg; have hnb39 := NB221_204.out; have hnc39 := NB204_221.out; have hnb40 := NB221_205.out; have hnc40 := NB205_221.out; have hnb41 := NB221_206.out; have hnc41 := NB206_221.out; have hnb42 := NB221_211.out; have hnc42 := NB211_221.out; have hnb43 := NB221_216.out; have hnc43 := NB216_221.out; have hcz44_0 : w38.cell? ⟨gb221, 0, none⟩ = some (.int .i64 0) := (blk_cell BK221.out 0).trans rfl; have hcz44_1 : w38.cell? ⟨gb221, 1, none⟩ = some (.int .i64 0) := (blk_cell BK221.out 1).trans rfl; have hcz44_2 : w38.cell? ⟨gb221, 2, none⟩ = some (.int .i64 0) := (blk_cell BK221.out 2).trans rfl; have hcz44_3 : w38.cell? ⟨gb221, 3, none⟩ = some (.int .i64 0) := (blk_cell BK221.out 3).trans rfl; have hfz44_0 := blk_frozen BK221.out 0; have hfz44_1 := blk_frozen BK221.out 1; have hfz44_2 := blk_frozen BK221.out 2; have hfz44_3 := blk_frozen BK221.out 3; have hcz45_0 : w38.cell? ⟨gb204, 0, none⟩ = some (.int .i64 t194) := (blk_cell BK204.out 0).trans rfl; have hcz45_1 : w38.cell? ⟨gb204, 1, none⟩ = some (.int .i64 t195) := (blk_cell BK204.out 1).trans rfl; have hcz45_2 : w38.cell? ⟨gb204, 2, none⟩ = some (.int .i64 t196) := (blk_cell BK204.out 2).trans rfl; have hcz45_3 : w38.cell? ⟨gb204, 3, none⟩ = some (.int .i64 t197) := (blk_cell BK204.out 3).trans rfl; have hfz45_0 := blk_frozen BK204.out 0; have hfz45_1 := blk_frozen BK204.out 1; have hfz45_2 := blk_frozen BK204.out 2; have hfz45_3 := blk_frozen BK204.out 3; have hcz46_0 : w38.cell? ⟨gb206, 0, none⟩ = some (.int .i64 t202) := (blk_cell BK206.out 0).trans rfl; have hcz46_1 : w38.cell? ⟨gb206, 1, none⟩ = some (.int .i64 t203) := (blk_cell BK206.out 1).trans rfl; have hfz46_0 := blk_frozen BK206.out 0; have hfz46_1 := blk_frozen BK206.out 1) | ((with_reducible refine gate_callee (f := 22) rfl ?_); refine goesL_ (some 30) rfl rfl Try.func22 (by kernel_rfl) rfl #[.agg #[.int .i64 t194, .int .i64 t195, .int .i64 t196, .int .i64 t197], .agg #[.int .i64 t202, .int .i64 t203]] rfl (by (try simp only [List.map_toArray, List.map_cons, List.map_nil]); first | done | rfl | (simp only [List.length_drop, List.length_take]; rfl)) ?_; (with_reducible refine (impl_InBox.calls t194 t195 t196 t197 t202 t203 t222 _ A8.out).mono ?_); rintro e w47 ⟨rfl, hb⟩; refine ⟨_, rfl, ?_⟩; have n0_ := Aside0.mk (blk_below (g := gb204) (o := .cells #[.int .i64 t194, .int .i64 t195, .int .i64 t196, .int .i64 t197] 34 (0, 0)) (by (with_reducible repeat (first | refine blk_drewN ?_ _ | refine blk_drew ?_ | refine blk_alloc ?_ _)); refine blk_far ?_ NB204_221.out _; (with_reducible repeat (first | refine blk_drewN ?_ _ | refine blk_drew ?_ | refine blk_alloc ?_ _)); refine blk_far ?_ NB204_221.out _; (with_reducible repeat (first | refine blk_drewN ?_ _ | refine blk_drew ?_ | refine blk_alloc ?_ _)); refine blk_far ?_ NB204_221.out _; (with_reducible repeat (first | refine blk_drewN ?_ _ | refine blk_drew ?_ | refine blk_alloc ?_ _)); refine blk_far ?_ NB204_221.out _; (with_reducible repeat (first | refine blk_drewN ?_ _ | refine blk_drew ?_ | refine blk_alloc ?_ _)); exact BK204.out) hb); have n1_ := Aside0.mk (blk_below (g := gb205) (o := .cells #[.int .i64 t198, .int .i64 t199, .int .i64 t200, .int .i64 t201] 34 (0, 0)) (by (with_reducible repeat (first | refine blk_drewN ?_ _ | refine blk_drew ?_ | refine blk_alloc ?_ _)); refine blk_far ?_ NB205_221.out _; (with_reducible repeat (first | refine blk_drewN ?_ _ | refine blk_drew ?_ | refine blk_alloc ?_ _)); refine blk_far ?_ NB205_221.out _; (with_reducible repeat (first | refine blk_drewN ?_ _ | refine blk_drew ?_ | refine blk_alloc ?_ _)); refine blk_far ?_ NB205_221.out _; (with_reducible repeat (first | refine blk_drewN ?_ _ | refine blk_drew ?_ | refine blk_alloc ?_ _)); refine blk_far ?_ NB205_221.out _; (with_reducible repeat (first | refine blk_drewN ?_ _ | refine blk_drew ?_ | refine blk_alloc ?_ _)); exact BK205.out) hb); have n2_ := Aside0.mk (blk_below (g := gb206) (o := .cells #[.int .i64 t202, .int .i64 t203] 36 (0, 0)) (by (with_reducible repeat (first | refine blk_drewN ?_ _ | refine blk_drew ?_ | refine blk_alloc ?_ _)); refine blk_far ?_ NB206_221.out _; (with_reducible repeat (first | refine blk_drewN ?_ _ | refine blk_drew ?_ | refine blk_alloc ?_ _)); refine blk_far ?_ NB206_221.out _; (with_reducible repeat (first | refine blk_drewN ?_ _ | refine blk_drew ?_ | refine blk_alloc ?_ _)); refine blk_far ?_ NB206_221.out _; (with_reducible repeat (first | refine blk_drewN ?_ _ | refine blk_drew ?_ | refine blk_alloc ?_ _)); refine blk_far ?_ NB206_221.out _; (with_reducible repeat (first | refine blk_drewN ?_ _ | refine blk_drew ?_ | refine blk_alloc ?_ _)); exact BK206.out) hb); have n3_ := Aside0.mk (blk_below (g := gb211) (o := .cells #[.int .i64 t207, .int .i64 t208, .int .i64 t209, .int .i64 t210] 34 (0, 0)) (by (with_reducible repeat (first | refine blk_drewN ?_ _ | refine blk_drew ?_ | refine blk_alloc ?_ _)); refine blk_far ?_ NB211_221.out _; (with_reducible repeat (first | refine blk_drewN ?_ _ | refine blk_drew ?_ | refine blk_alloc ?_ _)); refine blk_far ?_ NB211_221.out _; (with_reducible repeat (first | refine blk_drewN ?_ _ | refine blk_drew ?_ | refine blk_alloc ?_ _)); refine blk_far ?_ NB211_221.out _; (with_reducible repeat (first | refine blk_drewN ?_ _ | refine blk_drew ?_ | refine blk_alloc ?_ _)); refine blk_far ?_ NB211_221.out _; (with_reducible repeat (first | refine blk_drewN ?_ _ | refine blk_drew ?_ | refine blk_alloc ?_ _)); exact BK211.out) hb); have n4_ := Aside0.mk (blk_below (g := gb216) (o := .cells #[.int .i64 t212, .int .i64 t213, .int .i64 t214, .int .i64 t215] 34 (0, 0)) (by (with_reducible repeat (first | refine blk_drewN ?_ _ | refine blk_drew ?_ | refine blk_alloc ?_ _)); refine blk_far ?_ NB216_221.out _; (with_reducible repeat (first | refine blk_drewN ?_ _ | refine blk_drew ?_ | refine blk_alloc ?_ _)); refine blk_far ?_ NB216_221.out _; (with_reducible repeat (first | refine blk_drewN ?_ _ | refine blk_drew ?_ | refine blk_alloc ?_ _)); refine blk_far ?_ NB216_221.out _; (with_reducible repeat (first | refine blk_drewN ?_ _ | refine blk_drew ?_ | refine blk_alloc ?_ _)); refine blk_far ?_ NB216_221.out _; (with_reducible repeat (first | refine blk_drewN ?_ _ | refine blk_drew ?_ | refine blk_alloc ?_ _)); exact BK216.out) hb); have n5_ := Aside0.mk (blk_below (g := gb221) (o := .cells #[.int .i64 t217, .int .i64 t218, .int .i64 t219, .int .i64 t220] 34 (0, 0)) (by (with_reducible repeat (first | refine blk_drewN ?_ _ | refine blk_drew ?_ | refine blk_alloc ?_ _)); refine blk_put (cs := #[.int .i64 t217, .int .i64 t218, .int .i64 t219, .int .i64 0]) ?_ 3 _ rfl; (with_reducible repeat (first | refine blk_drewN ?_ _ | refine blk_drew ?_ | refine blk_alloc ?_ _)); refine blk_put (cs := #[.int .i64 t217, .int .i64 t218, .int .i64 0, .int .i64 0]) ?_ 2 _ rfl; (with_reducible repeat (first | refine blk_drewN ?_ _ | refine blk_drew ?_ | refine blk_alloc ?_ _)); refine blk_put (cs := #[.int .i64 t217, .int .i64 0, .int .i64 0, .int .i64 0]) ?_ 1 _ rfl; (with_reducible repeat (first | refine blk_drewN ?_ _ | refine blk_drew ?_ | refine blk_alloc ?_ _)); refine blk_put (cs := #[.int .i64 0, .int .i64 0, .int .i64 0, .int .i64 0]) ?_ 0 _ rfl; (with_reducible repeat (first | refine blk_drewN ?_ _ | refine blk_drew ?_ | refine blk_alloc ?_ _)); exact BK221.out) hb); have n6_ := Aside0.mk (below_step (by repeat (first | (with_reducible first | exact HB.out | apply below_alloc | apply pw_below_drewN | apply below_drew1 | refine below_set ?_ GE204.out | refine below_set ?_ GE205.out | refine below_set ?_ GE206.out | refine below_set ?_ GE211.out | refine below_set ?_ GE216.out | refine below_set ?_ GE221.out) | exact HB.out)) hb); clear BK204; clear BK205; clear BK206; clear BK211; clear BK216; clear BK221; clear HB; have BK204 := n0_; have BK205 := n1_; have BK206 := n2_; have BK211 := n3_; have BK216 := n4_; have BK221 := n5_; have HB := n6_; clear n0_ n1_ n2_ n3_ n4_ n5_ n6_; (try clear hb); (try clear hb2); (try clear hk); (try clear hi); have hcz48_0 : w47.cell? ⟨gb205, 0, none⟩ = some (.int .i64 t198) := (blk_cell BK205.out 0).trans rfl; have hcz48_1 : w47.cell? ⟨gb205, 1, none⟩ = some (.int .i64 t199) := (blk_cell BK205.out 1).trans rfl; have hcz48_2 : w47.cell? ⟨gb205, 2, none⟩ = some (.int .i64 t200) := (blk_cell BK205.out 2).trans rfl; have hcz48_3 : w47.cell? ⟨gb205, 3, none⟩ = some (.int .i64 t201) := (blk_cell BK205.out 3).trans rfl; have hfz48_0 := blk_frozen BK205.out 0; have hfz48_1 := blk_frozen BK205.out 1; have hfz48_2 := blk_frozen BK205.out 2; have hfz48_3 := blk_frozen BK205.out 3; have hcz49_0 : w47.cell? ⟨gb206, 0, none⟩ = some (.int .i64 t202) := (blk_cell BK206.out 0).trans rfl; have hcz49_1 : w47.cell? ⟨gb206, 1, none⟩ = some (.int .i64 t203) := (blk_cell BK206.out 1).trans rfl; have hfz49_0 := blk_frozen BK206.out 0; have hfz49_1 := blk_frozen BK206.out 1) | ((with_reducible refine gate_callee (f := 22) rfl ?_); refine goesL_ (some 33) rfl rfl Try.func22 (by kernel_rfl) rfl #[.agg #[.int .i64 t198, .int .i64 t199, .int .i64 t200, .int .i64 t201], .agg #[.int .i64 t202, .int .i64 t203]] rfl (by (try simp only [List.map_toArray, List.map_cons, List.map_nil]); first | done | rfl | (simp only [List.length_drop, List.length_take]; rfl)) ?_; (with_reducible refine (impl_InBox.calls t198 t199 t200 t201 t202 t203 t223 _ A9.out).mono ?_); rintro e w50 ⟨rfl, hb⟩; refine ⟨_, rfl, ?_⟩; have n0_ := Aside0.mk (blk_below BK204.out hb); have n1_ := Aside0.mk (blk_below BK205.out hb); have n2_ := Aside0.mk (blk_below BK206.out hb); have n3_ := Aside0.mk (blk_below BK211.out hb); have n4_ := Aside0.mk (blk_below BK216.out hb); have n5_ := Aside0.mk (blk_below BK221.out hb); have n6_ := Aside0.mk (below_step (by repeat (first | (with_reducible first | exact HB.out | apply below_alloc | apply pw_below_drewN | apply below_drew1 | refine below_set ?_ GE204.out | refine below_set ?_ GE205.out | refine below_set ?_ GE206.out | refine below_set ?_ GE211.out | refine below_set ?_ GE216.out | refine below_set ?_ GE221.out) | exact HB.out)) hb); clear BK204; clear BK205; clear BK206; clear BK211; clear BK216; clear BK221; clear HB; have BK204 := n0_; have BK205 := n1_; have BK206 := n2_; have BK211 := n3_; have BK216 := n4_; have BK221 := n5_; have HB := n6_; clear n0_ n1_ n2_ n3_ n4_ n5_ n6_; (try clear hb); (try clear hb2); (try clear hk); (try clear hi); have hcz51_0 : w50.cell? ⟨gb206, 0, none⟩ = some (.int .i64 t202) := (blk_cell BK206.out 0).trans rfl; have hcz51_1 : w50.cell? ⟨gb206, 1, none⟩ = some (.int .i64 t203) := (blk_cell BK206.out 1).trans rfl; have hfz51_0 := blk_frozen BK206.out 0; have hfz51_1 := blk_frozen BK206.out 1) | ((with_reducible refine gate_dst (N := 11) rfl ?_); refine box_event ?hg (N := 11) ?hd (cs := #[.int .i64 0, .int .i64 0]) (t := 36) ?hr ?_; (case hd => rfl); (case hg => rfl); (case hr => first | (go_simp; done) | (go_simp; rfl)); intro gb224 hg w52 hbox hb; have n0_ := Aside0.mk (blk_below BK204.out hb); have n1_ := Aside0.mk (blk_below BK205.out hb); have n2_ := Aside0.mk (blk_below BK206.out hb); have n3_ := Aside0.mk (blk_below BK211.out hb); have n4_ := Aside0.mk (blk_below BK216.out hb); have n5_ := Aside0.mk (blk_below BK221.out hb); have n6_ := Aside0.mk (below_step (by repeat (first | (with_reducible first | exact HB.out | apply below_alloc | apply pw_below_drewN | apply below_drew1 | refine below_set ?_ GE204.out | refine below_set ?_ GE205.out | refine below_set ?_ GE206.out | refine below_set ?_ GE211.out | refine below_set ?_ GE216.out | refine below_set ?_ GE221.out) | exact HB.out)) hb); have n7_ := Aside0.mk (hbox); have n8_ := Aside0.mk ((by rw [hg]; exact (below_size (by repeat (first | (with_reducible first | exact HB.out | apply below_alloc | apply pw_below_drewN | apply below_drew1 | refine below_set ?_ GE204.out | refine below_set ?_ GE205.out | refine below_set ?_ GE206.out | refine below_set ?_ GE211.out | refine below_set ?_ GE216.out | refine below_set ?_ GE221.out) | exact HB.out))) : w.heap.size ≤ gb224)); have n9_ := Aside0.mk ((by rw [hg]; exact (below_size (by repeat (first | (with_reducible first | exact HB.out | apply below_alloc | apply pw_below_drewN | apply below_drew1 | refine below_set ?_ GE204.out | refine below_set ?_ GE205.out | refine below_set ?_ GE206.out | refine below_set ?_ GE211.out | refine below_set ?_ GE216.out | refine below_set ?_ GE221.out) | exact HB.out))) : w.heap.size ≤ gb224)); have n10_ := Aside0.mk ((by rw [hg]; exact Nat.ne_of_lt (blk_lt BK204.out) : gb204 ≠ gb224)); have n11_ := Aside0.mk ((by rw [hg]; exact Nat.ne_of_gt (blk_lt BK204.out) : gb224 ≠ gb204)); have n12_ := Aside0.mk ((by rw [hg]; exact Nat.ne_of_lt (blk_lt BK205.out) : gb205 ≠ gb224)); have n13_ := Aside0.mk ((by rw [hg]; exact Nat.ne_of_gt (blk_lt BK205.out) : gb224 ≠ gb205)); have n14_ := Aside0.mk ((by rw [hg]; exact Nat.ne_of_lt (blk_lt BK206.out) : gb206 ≠ gb224)); have n15_ := Aside0.mk ((by rw [hg]; exact Nat.ne_of_gt (blk_lt BK206.out) : gb224 ≠ gb206)); have n16_ := Aside0.mk ((by rw [hg]; exact Nat.ne_of_lt (blk_lt BK211.out) : gb211 ≠ gb224)); have n17_ := Aside0.mk ((by rw [hg]; exact Nat.ne_of_gt (blk_lt BK211.out) : gb224 ≠ gb211)); have n18_ := Aside0.mk ((by rw [hg]; exact Nat.ne_of_lt (blk_lt BK216.out) : gb216 ≠ gb224)); have n19_ := Aside0.mk ((by rw [hg]; exact Nat.ne_of_gt (blk_lt BK216.out) : gb224 ≠ gb216)); have n20_ := Aside0.mk ((by rw [hg]; exact Nat.ne_of_lt (blk_lt BK221.out) : gb221 ≠ gb224)); have n21_ := Aside0.mk ((by rw [hg]; exact Nat.ne_of_gt (blk_lt BK221.out) : gb224 ≠ gb221)); clear BK204; clear BK205; clear BK206; clear BK211; clear BK216; clear BK221; clear HB; have BK204 := n0_; have BK205 := n1_; have BK206 := n2_; have BK211 := n3_; have BK216 := n4_; have BK221 := n5_; have HB := n6_; have BK224 := n7_; have GW224 := n8_; have GE224 := n9_; have NB204_224 := n10_; have NB224_204 := n11_; have NB205_224 := n12_; have NB224_205 := n13_; have NB206_224 := n14_; have NB224_206 := n15_; have NB211_224 := n16_; have NB224_211 := n17_; have NB216_224 := n18_; have NB224_216 := n19_; have NB221_224 := n20_; have NB224_221 := n21_; clear n0_ n1_ n2_ n3_ n4_ n5_ n6_ n7_ n8_ n9_ n10_ n11_ n12_ n13_ n14_ n15_ n16_ n17_ n18_ n19_ n20_ n21_; clear hb hbox hg; have hnb53 := NB224_204.out; have hnc53 := NB204_224.out; have hnb54 := NB224_205.out; have hnc54 := NB205_224.out; have hnb55 := NB224_206.out; have hnc55 := NB206_224.out; have hnb56 := NB224_211.out; have hnc56 := NB211_224.out; have hnb57 := NB224_216.out; have hnc57 := NB216_224.out; have hnb58 := NB224_221.out; have hnc58 := NB221_224.out; have hcz59_0 : w52.cell? ⟨gb224, 0, none⟩ = some (.int .i64 0) := (blk_cell BK224.out 0).trans rfl; have hcz59_1 : w52.cell? ⟨gb224, 1, none⟩ = some (.int .i64 0) := (blk_cell BK224.out 1).trans rfl; have hfz59_0 := blk_frozen BK224.out 0; have hfz59_1 := blk_frozen BK224.out 1))
 (try simp only [PQ])
 go_cut [69] (fun v69 wc => ∃ (kq : Nat) (x69_9 : Bool), v69 = .bool x69_9 ∧ Aside0 (laws_FnBoxes.j0 kq x69_9 t194 t195 t196 t197 t198 t199 t200 t201 t212 t213 t214 t215 t217 t218 t219 t220 = some r) ∧ Aside0 (kq ≤ k) ∧ Aside0 (wc.heap[gb204]? = some (.cells #[.int .i64 t194, .int .i64 t195, .int .i64 t196, .int .i64 t197] 34 (0, 0))) ∧ Aside0 (wc.heap[gb205]? = some (.cells #[.int .i64 t198, .int .i64 t199, .int .i64 t200, .int .i64 t201] 34 (0, 0))) ∧ Aside0 (wc.heap[gb206]? = some (.cells #[.int .i64 t202, .int .i64 t203] 36 (0, 0))) ∧ Aside0 (wc.heap[gb211]? = some (.cells #[.int .i64 t207, .int .i64 t208, .int .i64 t209, .int .i64 t210] 34 (0, 0))) ∧ Aside0 (wc.heap[gb216]? = some (.cells #[.int .i64 t212, .int .i64 t213, .int .i64 t214, .int .i64 t215] 34 (0, 0))) ∧ Aside0 (wc.heap[gb221]? = some (.cells #[.int .i64 t217, .int .i64 t218, .int .i64 t219, .int .i64 t220] 34 (0, 0))) ∧ Aside0 (wc.heap[gb224]? = some (.cells #[.int .i64 (wrap64 (t202 + 2)), .int .i64 (wrap64 (t203 - 1))] 36 (0, 0))) ∧ Aside0 (Below w.heap.size w wc))
 case first =>
  have H := HC10.out
  clear HC10
  by_cases c60 : t222 = true
  ·subst c60
   have H1 : ((impl_InBox.f t207 t208 t209 t210 t202 t203).bind fun t225 => (if t225 = true then ((impl_InBox.f t212 t213 t214 t215 t202 t203).bind fun t226 => (if (t226 != t223) = true then (laws_FnBoxes.j0 k true t194 t195 t196 t197 t198 t199 t200 t201 t212 t213 t214 t215 t217 t218 t219 t220) else ((impl_InBox.f t217 t218 t219 t220 (wrap64 (t202 + 2)) (wrap64 (t203 - 1))).bind fun t227 => (laws_FnBoxes.j0 k (!t227) t194 t195 t196 t197 t198 t199 t200 t201 t212 t213 t214 t215 t217 t218 t219 t220)))) else (laws_FnBoxes.j0 k true t194 t195 t196 t197 t198 t199 t200 t201 t212 t213 t214 t215 t217 t218 t219 t220))) = some r := by rw [if_pos rfl] at H; exact H
   clear H
   have H := H1
   clear H1
   replace H := Option.bind_eq_some_iff.mp H
   obtain ⟨t225, A610, H⟩ := H
   replace H : (if t225 = true then ((impl_InBox.f t212 t213 t214 t215 t202 t203).bind fun t226 => (if (t226 != t223) = true then (laws_FnBoxes.j0 k true t194 t195 t196 t197 t198 t199 t200 t201 t212 t213 t214 t215 t217 t218 t219 t220) else ((impl_InBox.f t217 t218 t219 t220 (wrap64 (t202 + 2)) (wrap64 (t203 - 1))).bind fun t227 => (laws_FnBoxes.j0 k (!t227) t194 t195 t196 t197 t198 t199 t200 t201 t212 t213 t214 t215 t217 t218 t219 t220)))) else (laws_FnBoxes.j0 k true t194 t195 t196 t197 t198 t199 t200 t201 t212 t213 t214 t215 t217 t218 t219 t220)) = some r := H
   have A61 := Aside0.mk A610
   clear A610
   by_cases c62 : t225 = true
   rotate_left
   ·replace c62 := Bool.eq_false_iff.mpr c62
    subst c62
    have H1 : (laws_FnBoxes.j0 k true t194 t195 t196 t197 t198 t199 t200 t201 t212 t213 t214 t215 t217 t218 t219 t220) = some r := by rw [if_neg (show ¬ (false = true) by decide)] at H; exact H
    clear H
    have H := H1
    clear H1
    exact (laws_FnBoxes.j0_never (by rw [hr_] at H; exact H)).elim
   subst c62
   have H1 : ((impl_InBox.f t212 t213 t214 t215 t202 t203).bind fun t226 => (if (t226 != t223) = true then (laws_FnBoxes.j0 k true t194 t195 t196 t197 t198 t199 t200 t201 t212 t213 t214 t215 t217 t218 t219 t220) else ((impl_InBox.f t217 t218 t219 t220 (wrap64 (t202 + 2)) (wrap64 (t203 - 1))).bind fun t227 => (laws_FnBoxes.j0 k (!t227) t194 t195 t196 t197 t198 t199 t200 t201 t212 t213 t214 t215 t217 t218 t219 t220)))) = some r := by rw [if_pos rfl] at H; exact H
   clear H
   have H := H1
   clear H1
   replace H := Option.bind_eq_some_iff.mp H
   obtain ⟨t226, A630, H⟩ := H
   replace H : (if (t226 != t223) = true then (laws_FnBoxes.j0 k true t194 t195 t196 t197 t198 t199 t200 t201 t212 t213 t214 t215 t217 t218 t219 t220) else ((impl_InBox.f t217 t218 t219 t220 (wrap64 (t202 + 2)) (wrap64 (t203 - 1))).bind fun t227 => (laws_FnBoxes.j0 k (!t227) t194 t195 t196 t197 t198 t199 t200 t201 t212 t213 t214 t215 t217 t218 t219 t220))) = some r := H
   have A63 := Aside0.mk A630
   clear A630
   by_cases c64 : (t226 != t223) = true
   ·rw [if_pos c64] at H
    exact (laws_FnBoxes.j0_never (by rw [hr_] at H; exact H)).elim
   rw [if_neg c64] at H
   have c64b0 : (t226 != t223) = false := by simpa using c64
   (try (have c64b1 : decide (t226 = t223) = true := by simpa using c64))
   (try (have c64b2 : (t226 == t223) = true := by simpa using c64))
   clear c64
   (first | rw [c64b0] | (simp only [i64_w, i32_w]; rw [c64b0]) | skip)
   replace H := Option.bind_eq_some_iff.mp H
   obtain ⟨t227, A860, H⟩ := H
   replace H : (laws_FnBoxes.j0 k (!t227) t194 t195 t196 t197 t198 t199 t200 t201 t212 t213 t214 t215 t217 t218 t219 t220) = some r := H
   have A86 := Aside0.mk A860
   clear A860
   have H' := Aside0.mk H
   clear H
   have hnb87 := NB211_204.out
   have hnc87 := NB204_211.out
   have hnb88 := NB211_205.out
   have hnc88 := NB205_211.out
   have hnb89 := NB211_206.out
   have hnc89 := NB206_211.out
   have hnb90 := NB211_216.out
   have hnc90 := NB216_211.out
   have hnb91 := NB211_221.out
   have hnc91 := NB221_211.out
   have hnb92 := NB211_224.out
   have hnc92 := NB224_211.out
   have hcz93_0 : w52.cell? ⟨gb211, 0, none⟩ = some (.int .i64 t207) := (blk_cell BK211.out 0).trans rfl
   have hcz93_1 : w52.cell? ⟨gb211, 1, none⟩ = some (.int .i64 t208) := (blk_cell BK211.out 1).trans rfl
   have hcz93_2 : w52.cell? ⟨gb211, 2, none⟩ = some (.int .i64 t209) := (blk_cell BK211.out 2).trans rfl
   have hcz93_3 : w52.cell? ⟨gb211, 3, none⟩ = some (.int .i64 t210) := (blk_cell BK211.out 3).trans rfl
   have hfz93_0 := blk_frozen BK211.out 0
   have hfz93_1 := blk_frozen BK211.out 1
   have hfz93_2 := blk_frozen BK211.out 2
   have hfz93_3 := blk_frozen BK211.out 3
   have hnb94 := NB206_204.out
   have hnc94 := NB204_206.out
   have hnb95 := NB206_205.out
   have hnc95 := NB205_206.out
   have hnb96 := NB206_216.out
   have hnc96 := NB216_206.out
   have hnb97 := NB206_221.out
   have hnc97 := NB221_206.out
   have hnb98 := NB206_224.out
   have hnc98 := NB224_206.out
   have hcz99_0 : w52.cell? ⟨gb206, 0, none⟩ = some (.int .i64 t202) := (blk_cell BK206.out 0).trans rfl
   have hcz99_1 : w52.cell? ⟨gb206, 1, none⟩ = some (.int .i64 t203) := (blk_cell BK206.out 1).trans rfl
   have hfz99_0 := blk_frozen BK206.out 0
   have hfz99_1 := blk_frozen BK206.out 1
   go_wp2_with (first | (go_at_call 22; (with_reducible refine (impl_InBox.calls t207 t208 t209 t210 t202 t203 true _ A61.out).mono ?_); rintro e w100 ⟨rfl, hb⟩; have n0_ := Aside0.mk (blk_below (g := gb204) (o := .cells #[.int .i64 t194, .int .i64 t195, .int .i64 t196, .int .i64 t197] 34 (0, 0)) (by (with_reducible repeat (first | refine blk_drewN ?_ _ | refine blk_drew ?_ | refine blk_alloc ?_ _)); refine blk_far ?_ NB204_224.out _; (with_reducible repeat (first | refine blk_drewN ?_ _ | refine blk_drew ?_ | refine blk_alloc ?_ _)); refine blk_far ?_ NB204_224.out _; (with_reducible repeat (first | refine blk_drewN ?_ _ | refine blk_drew ?_ | refine blk_alloc ?_ _)); exact BK204.out) hb); have n1_ := Aside0.mk (blk_below (g := gb205) (o := .cells #[.int .i64 t198, .int .i64 t199, .int .i64 t200, .int .i64 t201] 34 (0, 0)) (by (with_reducible repeat (first | refine blk_drewN ?_ _ | refine blk_drew ?_ | refine blk_alloc ?_ _)); refine blk_far ?_ NB205_224.out _; (with_reducible repeat (first | refine blk_drewN ?_ _ | refine blk_drew ?_ | refine blk_alloc ?_ _)); refine blk_far ?_ NB205_224.out _; (with_reducible repeat (first | refine blk_drewN ?_ _ | refine blk_drew ?_ | refine blk_alloc ?_ _)); exact BK205.out) hb); have n2_ := Aside0.mk (blk_below (g := gb206) (o := .cells #[.int .i64 t202, .int .i64 t203] 36 (0, 0)) (by (with_reducible repeat (first | refine blk_drewN ?_ _ | refine blk_drew ?_ | refine blk_alloc ?_ _)); refine blk_far ?_ NB206_224.out _; (with_reducible repeat (first | refine blk_drewN ?_ _ | refine blk_drew ?_ | refine blk_alloc ?_ _)); refine blk_far ?_ NB206_224.out _; (with_reducible repeat (first | refine blk_drewN ?_ _ | refine blk_drew ?_ | refine blk_alloc ?_ _)); exact BK206.out) hb); have n3_ := Aside0.mk (blk_below (g := gb211) (o := .cells #[.int .i64 t207, .int .i64 t208, .int .i64 t209, .int .i64 t210] 34 (0, 0)) (by (with_reducible repeat (first | refine blk_drewN ?_ _ | refine blk_drew ?_ | refine blk_alloc ?_ _)); refine blk_far ?_ NB211_224.out _; (with_reducible repeat (first | refine blk_drewN ?_ _ | refine blk_drew ?_ | refine blk_alloc ?_ _)); refine blk_far ?_ NB211_224.out _; (with_reducible repeat (first | refine blk_drewN ?_ _ | refine blk_drew ?_ | refine blk_alloc ?_ _)); exact BK211.out) hb); have n4_ := Aside0.mk (blk_below (g := gb216) (o := .cells #[.int .i64 t212, .int .i64 t213, .int .i64 t214, .int .i64 t215] 34 (0, 0)) (by (with_reducible repeat (first | refine blk_drewN ?_ _ | refine blk_drew ?_ | refine blk_alloc ?_ _)); refine blk_far ?_ NB216_224.out _; (with_reducible repeat (first | refine blk_drewN ?_ _ | refine blk_drew ?_ | refine blk_alloc ?_ _)); refine blk_far ?_ NB216_224.out _; (with_reducible repeat (first | refine blk_drewN ?_ _ | refine blk_drew ?_ | refine blk_alloc ?_ _)); exact BK216.out) hb); have n5_ := Aside0.mk (blk_below (g := gb221) (o := .cells #[.int .i64 t217, .int .i64 t218, .int .i64 t219, .int .i64 t220] 34 (0, 0)) (by (with_reducible repeat (first | refine blk_drewN ?_ _ | refine blk_drew ?_ | refine blk_alloc ?_ _)); refine blk_far ?_ NB221_224.out _; (with_reducible repeat (first | refine blk_drewN ?_ _ | refine blk_drew ?_ | refine blk_alloc ?_ _)); refine blk_far ?_ NB221_224.out _; (with_reducible repeat (first | refine blk_drewN ?_ _ | refine blk_drew ?_ | refine blk_alloc ?_ _)); exact BK221.out) hb); have n6_ := Aside0.mk (blk_below (g := gb224) (o := .cells #[.int .i64 (wrap64 (t202 + 2)), .int .i64 (wrap64 (t203 - 1))] 36 (0, 0)) (by (with_reducible repeat (first | refine blk_drewN ?_ _ | refine blk_drew ?_ | refine blk_alloc ?_ _)); refine blk_put (cs := #[.int .i64 (wrap64 (t202 + 2)), .int .i64 0]) ?_ 1 _ rfl; (with_reducible repeat (first | refine blk_drewN ?_ _ | refine blk_drew ?_ | refine blk_alloc ?_ _)); refine blk_put (cs := #[.int .i64 0, .int .i64 0]) ?_ 0 _ rfl; (with_reducible repeat (first | refine blk_drewN ?_ _ | refine blk_drew ?_ | refine blk_alloc ?_ _)); exact BK224.out) hb); have n7_ := Aside0.mk (below_step (by repeat (first | (with_reducible first | exact HB.out | apply below_alloc | apply pw_below_drewN | apply below_drew1 | refine below_set ?_ GE204.out | refine below_set ?_ GE205.out | refine below_set ?_ GE206.out | refine below_set ?_ GE211.out | refine below_set ?_ GE216.out | refine below_set ?_ GE221.out | refine below_set ?_ GE224.out) | exact HB.out)) hb); clear BK204; clear BK205; clear BK206; clear BK211; clear BK216; clear BK221; clear BK224; clear HB; have BK204 := n0_; have BK205 := n1_; have BK206 := n2_; have BK211 := n3_; have BK216 := n4_; have BK221 := n5_; have BK224 := n6_; have HB := n7_; clear n0_ n1_ n2_ n3_ n4_ n5_ n6_ n7_; (try clear hb); (try clear hb2); (try clear hk); (try clear hi); have hnb101 := NB216_204.out; have hnc101 := NB204_216.out; have hnb102 := NB216_205.out; have hnc102 := NB205_216.out; have hnb103 := NB216_221.out; have hnc103 := NB221_216.out; have hnb104 := NB216_224.out; have hnc104 := NB224_216.out; have hcz105_0 : w100.cell? ⟨gb216, 0, none⟩ = some (.int .i64 t212) := (blk_cell BK216.out 0).trans rfl; have hcz105_1 : w100.cell? ⟨gb216, 1, none⟩ = some (.int .i64 t213) := (blk_cell BK216.out 1).trans rfl; have hcz105_2 : w100.cell? ⟨gb216, 2, none⟩ = some (.int .i64 t214) := (blk_cell BK216.out 2).trans rfl; have hcz105_3 : w100.cell? ⟨gb216, 3, none⟩ = some (.int .i64 t215) := (blk_cell BK216.out 3).trans rfl; have hfz105_0 := blk_frozen BK216.out 0; have hfz105_1 := blk_frozen BK216.out 1; have hfz105_2 := blk_frozen BK216.out 2; have hfz105_3 := blk_frozen BK216.out 3; have hcz106_0 : w100.cell? ⟨gb206, 0, none⟩ = some (.int .i64 t202) := (blk_cell BK206.out 0).trans rfl; have hcz106_1 : w100.cell? ⟨gb206, 1, none⟩ = some (.int .i64 t203) := (blk_cell BK206.out 1).trans rfl; have hfz106_0 := blk_frozen BK206.out 0; have hfz106_1 := blk_frozen BK206.out 1) | (go_at_call 22; (with_reducible refine (impl_InBox.calls t212 t213 t214 t215 t202 t203 t226 _ A63.out).mono ?_); rintro e w107 ⟨rfl, hb⟩; have n0_ := Aside0.mk (blk_below BK204.out hb); have n1_ := Aside0.mk (blk_below BK205.out hb); have n2_ := Aside0.mk (blk_below BK206.out hb); have n3_ := Aside0.mk (blk_below BK211.out hb); have n4_ := Aside0.mk (blk_below BK216.out hb); have n5_ := Aside0.mk (blk_below BK221.out hb); have n6_ := Aside0.mk (blk_below BK224.out hb); have n7_ := Aside0.mk (below_step (by repeat (first | (with_reducible first | exact HB.out | apply below_alloc | apply pw_below_drewN | apply below_drew1 | refine below_set ?_ GE204.out | refine below_set ?_ GE205.out | refine below_set ?_ GE206.out | refine below_set ?_ GE211.out | refine below_set ?_ GE216.out | refine below_set ?_ GE221.out | refine below_set ?_ GE224.out) | exact HB.out)) hb); clear BK204; clear BK205; clear BK206; clear BK211; clear BK216; clear BK221; clear BK224; clear HB; have BK204 := n0_; have BK205 := n1_; have BK206 := n2_; have BK211 := n3_; have BK216 := n4_; have BK221 := n5_; have BK224 := n6_; have HB := n7_; clear n0_ n1_ n2_ n3_ n4_ n5_ n6_ n7_; (try clear hb); (try clear hb2); (try clear hk); (try clear hi); have hnb108 := NB221_204.out; have hnc108 := NB204_221.out; have hnb109 := NB221_205.out; have hnc109 := NB205_221.out; have hnb110 := NB221_224.out; have hnc110 := NB224_221.out; have hcz111_0 : w107.cell? ⟨gb221, 0, none⟩ = some (.int .i64 t217) := (blk_cell BK221.out 0).trans rfl; have hcz111_1 : w107.cell? ⟨gb221, 1, none⟩ = some (.int .i64 t218) := (blk_cell BK221.out 1).trans rfl; have hcz111_2 : w107.cell? ⟨gb221, 2, none⟩ = some (.int .i64 t219) := (blk_cell BK221.out 2).trans rfl; have hcz111_3 : w107.cell? ⟨gb221, 3, none⟩ = some (.int .i64 t220) := (blk_cell BK221.out 3).trans rfl; have hfz111_0 := blk_frozen BK221.out 0; have hfz111_1 := blk_frozen BK221.out 1; have hfz111_2 := blk_frozen BK221.out 2; have hfz111_3 := blk_frozen BK221.out 3; have hnb112 := NB224_204.out; have hnc112 := NB204_224.out; have hnb113 := NB224_205.out; have hnc113 := NB205_224.out; have hcz114_0 : w107.cell? ⟨gb224, 0, none⟩ = some (.int .i64 (wrap64 (t202 + 2))) := (blk_cell BK224.out 0).trans rfl; have hcz114_1 : w107.cell? ⟨gb224, 1, none⟩ = some (.int .i64 (wrap64 (t203 - 1))) := (blk_cell BK224.out 1).trans rfl; have hfz114_0 := blk_frozen BK224.out 0; have hfz114_1 := blk_frozen BK224.out 1) | (go_at_call 22; (with_reducible refine (impl_InBox.calls t217 t218 t219 t220 (wrap64 (t202 + 2)) (wrap64 (t203 - 1)) t227 _ A86.out).mono ?_); rintro e w115 ⟨rfl, hb⟩; have n0_ := Aside0.mk (blk_below BK204.out hb); have n1_ := Aside0.mk (blk_below BK205.out hb); have n2_ := Aside0.mk (blk_below BK206.out hb); have n3_ := Aside0.mk (blk_below BK211.out hb); have n4_ := Aside0.mk (blk_below BK216.out hb); have n5_ := Aside0.mk (blk_below BK221.out hb); have n6_ := Aside0.mk (blk_below BK224.out hb); have n7_ := Aside0.mk (below_step (by repeat (first | (with_reducible first | exact HB.out | apply below_alloc | apply pw_below_drewN | apply below_drew1 | refine below_set ?_ GE204.out | refine below_set ?_ GE205.out | refine below_set ?_ GE206.out | refine below_set ?_ GE211.out | refine below_set ?_ GE216.out | refine below_set ?_ GE221.out | refine below_set ?_ GE224.out) | exact HB.out)) hb); clear BK204; clear BK205; clear BK206; clear BK211; clear BK216; clear BK221; clear BK224; clear HB; have BK204 := n0_; have BK205 := n1_; have BK206 := n2_; have BK211 := n3_; have BK216 := n4_; have BK221 := n5_; have BK224 := n6_; have HB := n7_; clear n0_ n1_ n2_ n3_ n4_ n5_ n6_ n7_; (try clear hb); (try clear hb2); (try clear hk); (try clear hi)))
   go_meet
   case rel => exact ⟨_, (!t227), (by first | rfl | (simp; done) | (simp [*]; done)), H', ⟨by first | omega | exact Nat.le_refl _⟩, ⟨by (with_reducible repeat (first | refine blk_drewN ?_ _ | refine blk_drew ?_ | refine blk_alloc ?_ _)); exact BK204.out⟩, ⟨by (with_reducible repeat (first | refine blk_drewN ?_ _ | refine blk_drew ?_ | refine blk_alloc ?_ _)); exact BK205.out⟩, ⟨by (with_reducible repeat (first | refine blk_drewN ?_ _ | refine blk_drew ?_ | refine blk_alloc ?_ _)); exact BK206.out⟩, ⟨by (with_reducible repeat (first | refine blk_drewN ?_ _ | refine blk_drew ?_ | refine blk_alloc ?_ _)); exact BK211.out⟩, ⟨by (with_reducible repeat (first | refine blk_drewN ?_ _ | refine blk_drew ?_ | refine blk_alloc ?_ _)); exact BK216.out⟩, ⟨by (with_reducible repeat (first | refine blk_drewN ?_ _ | refine blk_drew ?_ | refine blk_alloc ?_ _)); exact BK221.out⟩, ⟨by (with_reducible repeat (first | refine blk_drewN ?_ _ | refine blk_drew ?_ | refine blk_alloc ?_ _)); exact BK224.out⟩, ⟨by repeat (first | (with_reducible first | exact HB.out | apply below_alloc | apply pw_below_drewN | apply below_drew1 | refine below_set ?_ GE204.out | refine below_set ?_ GE205.out | refine below_set ?_ GE206.out | refine below_set ?_ GE211.out | refine below_set ?_ GE216.out | refine below_set ?_ GE221.out | refine below_set ?_ GE224.out) | exact HB.out)⟩⟩
  replace c60 := Bool.eq_false_iff.mpr c60
  subst c60
  have H1 : (if t223 = true then ((impl_InBox.f t207 t208 t209 t210 t202 t203).bind fun t228 => (if t228 = true then ((impl_InBox.f t212 t213 t214 t215 t202 t203).bind fun t229 => (if (t229 != false) = true then (laws_FnBoxes.j0 k true t194 t195 t196 t197 t198 t199 t200 t201 t212 t213 t214 t215 t217 t218 t219 t220) else (laws_FnBoxes.j0 k false t194 t195 t196 t197 t198 t199 t200 t201 t212 t213 t214 t215 t217 t218 t219 t220))) else (laws_FnBoxes.j0 k true t194 t195 t196 t197 t198 t199 t200 t201 t212 t213 t214 t215 t217 t218 t219 t220))) else ((impl_InBox.f t212 t213 t214 t215 t202 t203).bind fun t230 => (if (t230 != false) = true then (laws_FnBoxes.j0 k true t194 t195 t196 t197 t198 t199 t200 t201 t212 t213 t214 t215 t217 t218 t219 t220) else (laws_FnBoxes.j0 k false t194 t195 t196 t197 t198 t199 t200 t201 t212 t213 t214 t215 t217 t218 t219 t220)))) = some r := by rw [if_neg (show ¬ (false = true) by decide)] at H; exact H
  clear H
  have H := H1
  clear H1
  by_cases c130 : t223 = true
  rotate_left
  ·replace c130 := Bool.eq_false_iff.mpr c130
   subst c130
   have H1 : ((impl_InBox.f t212 t213 t214 t215 t202 t203).bind fun t230 => (if (t230 != false) = true then (laws_FnBoxes.j0 k true t194 t195 t196 t197 t198 t199 t200 t201 t212 t213 t214 t215 t217 t218 t219 t220) else (laws_FnBoxes.j0 k false t194 t195 t196 t197 t198 t199 t200 t201 t212 t213 t214 t215 t217 t218 t219 t220))) = some r := by rw [if_neg (show ¬ (false = true) by decide)] at H; exact H
   clear H
   have H := H1
   clear H1
   replace H := Option.bind_eq_some_iff.mp H
   obtain ⟨t230, A1910, H⟩ := H
   replace H : (if (t230 != false) = true then (laws_FnBoxes.j0 k true t194 t195 t196 t197 t198 t199 t200 t201 t212 t213 t214 t215 t217 t218 t219 t220) else (laws_FnBoxes.j0 k false t194 t195 t196 t197 t198 t199 t200 t201 t212 t213 t214 t215 t217 t218 t219 t220)) = some r := H
   have A191 := Aside0.mk A1910
   clear A1910
   by_cases c192 : (t230 != false) = true
   ·rw [if_pos c192] at H
    exact (laws_FnBoxes.j0_never (by rw [hr_] at H; exact H)).elim
   rw [if_neg c192] at H
   have c192b0 : (t230 != false) = false := by simpa using c192
   (try (have c192b1 : decide (t230 = false) = true := by simpa using c192))
   (try (have c192b2 : (t230 == false) = true := by simpa using c192))
   clear c192
   have H' := Aside0.mk H
   clear H
   have hnb207 := NB216_204.out
   have hnc207 := NB204_216.out
   have hnb208 := NB216_205.out
   have hnc208 := NB205_216.out
   have hnb209 := NB216_206.out
   have hnc209 := NB206_216.out
   have hnb210 := NB216_211.out
   have hnc210 := NB211_216.out
   have hnb211 := NB216_221.out
   have hnc211 := NB221_216.out
   have hnb212 := NB216_224.out
   have hnc212 := NB224_216.out
   have hcz213_0 : w52.cell? ⟨gb216, 0, none⟩ = some (.int .i64 t212) := (blk_cell BK216.out 0).trans rfl
   have hcz213_1 : w52.cell? ⟨gb216, 1, none⟩ = some (.int .i64 t213) := (blk_cell BK216.out 1).trans rfl
   have hcz213_2 : w52.cell? ⟨gb216, 2, none⟩ = some (.int .i64 t214) := (blk_cell BK216.out 2).trans rfl
   have hcz213_3 : w52.cell? ⟨gb216, 3, none⟩ = some (.int .i64 t215) := (blk_cell BK216.out 3).trans rfl
   have hfz213_0 := blk_frozen BK216.out 0
   have hfz213_1 := blk_frozen BK216.out 1
   have hfz213_2 := blk_frozen BK216.out 2
   have hfz213_3 := blk_frozen BK216.out 3
   have hnb214 := NB206_204.out
   have hnc214 := NB204_206.out
   have hnb215 := NB206_205.out
   have hnc215 := NB205_206.out
   have hnb216 := NB206_211.out
   have hnc216 := NB211_206.out
   have hnb217 := NB206_221.out
   have hnc217 := NB221_206.out
   have hnb218 := NB206_224.out
   have hnc218 := NB224_206.out
   have hcz219_0 : w52.cell? ⟨gb206, 0, none⟩ = some (.int .i64 t202) := (blk_cell BK206.out 0).trans rfl
   have hcz219_1 : w52.cell? ⟨gb206, 1, none⟩ = some (.int .i64 t203) := (blk_cell BK206.out 1).trans rfl
   have hfz219_0 := blk_frozen BK206.out 0
   have hfz219_1 := blk_frozen BK206.out 1
   go_wp2_with (first | (go_at_call 22; (with_reducible refine (impl_InBox.calls t212 t213 t214 t215 t202 t203 t230 _ A191.out).mono ?_); rintro e w220 ⟨rfl, hb⟩; have n0_ := Aside0.mk (blk_below (g := gb204) (o := .cells #[.int .i64 t194, .int .i64 t195, .int .i64 t196, .int .i64 t197] 34 (0, 0)) (by (with_reducible repeat (first | refine blk_drewN ?_ _ | refine blk_drew ?_ | refine blk_alloc ?_ _)); refine blk_far ?_ NB204_224.out _; (with_reducible repeat (first | refine blk_drewN ?_ _ | refine blk_drew ?_ | refine blk_alloc ?_ _)); refine blk_far ?_ NB204_224.out _; (with_reducible repeat (first | refine blk_drewN ?_ _ | refine blk_drew ?_ | refine blk_alloc ?_ _)); exact BK204.out) hb); have n1_ := Aside0.mk (blk_below (g := gb205) (o := .cells #[.int .i64 t198, .int .i64 t199, .int .i64 t200, .int .i64 t201] 34 (0, 0)) (by (with_reducible repeat (first | refine blk_drewN ?_ _ | refine blk_drew ?_ | refine blk_alloc ?_ _)); refine blk_far ?_ NB205_224.out _; (with_reducible repeat (first | refine blk_drewN ?_ _ | refine blk_drew ?_ | refine blk_alloc ?_ _)); refine blk_far ?_ NB205_224.out _; (with_reducible repeat (first | refine blk_drewN ?_ _ | refine blk_drew ?_ | refine blk_alloc ?_ _)); exact BK205.out) hb); have n2_ := Aside0.mk (blk_below (g := gb206) (o := .cells #[.int .i64 t202, .int .i64 t203] 36 (0, 0)) (by (with_reducible repeat (first | refine blk_drewN ?_ _ | refine blk_drew ?_ | refine blk_alloc ?_ _)); refine blk_far ?_ NB206_224.out _; (with_reducible repeat (first | refine blk_drewN ?_ _ | refine blk_drew ?_ | refine blk_alloc ?_ _)); refine blk_far ?_ NB206_224.out _; (with_reducible repeat (first | refine blk_drewN ?_ _ | refine blk_drew ?_ | refine blk_alloc ?_ _)); exact BK206.out) hb); have n3_ := Aside0.mk (blk_below (g := gb211) (o := .cells #[.int .i64 t207, .int .i64 t208, .int .i64 t209, .int .i64 t210] 34 (0, 0)) (by (with_reducible repeat (first | refine blk_drewN ?_ _ | refine blk_drew ?_ | refine blk_alloc ?_ _)); refine blk_far ?_ NB211_224.out _; (with_reducible repeat (first | refine blk_drewN ?_ _ | refine blk_drew ?_ | refine blk_alloc ?_ _)); refine blk_far ?_ NB211_224.out _; (with_reducible repeat (first | refine blk_drewN ?_ _ | refine blk_drew ?_ | refine blk_alloc ?_ _)); exact BK211.out) hb); have n4_ := Aside0.mk (blk_below (g := gb216) (o := .cells #[.int .i64 t212, .int .i64 t213, .int .i64 t214, .int .i64 t215] 34 (0, 0)) (by (with_reducible repeat (first | refine blk_drewN ?_ _ | refine blk_drew ?_ | refine blk_alloc ?_ _)); refine blk_far ?_ NB216_224.out _; (with_reducible repeat (first | refine blk_drewN ?_ _ | refine blk_drew ?_ | refine blk_alloc ?_ _)); refine blk_far ?_ NB216_224.out _; (with_reducible repeat (first | refine blk_drewN ?_ _ | refine blk_drew ?_ | refine blk_alloc ?_ _)); exact BK216.out) hb); have n5_ := Aside0.mk (blk_below (g := gb221) (o := .cells #[.int .i64 t217, .int .i64 t218, .int .i64 t219, .int .i64 t220] 34 (0, 0)) (by (with_reducible repeat (first | refine blk_drewN ?_ _ | refine blk_drew ?_ | refine blk_alloc ?_ _)); refine blk_far ?_ NB221_224.out _; (with_reducible repeat (first | refine blk_drewN ?_ _ | refine blk_drew ?_ | refine blk_alloc ?_ _)); refine blk_far ?_ NB221_224.out _; (with_reducible repeat (first | refine blk_drewN ?_ _ | refine blk_drew ?_ | refine blk_alloc ?_ _)); exact BK221.out) hb); have n6_ := Aside0.mk (blk_below (g := gb224) (o := .cells #[.int .i64 (wrap64 (t202 + 2)), .int .i64 (wrap64 (t203 - 1))] 36 (0, 0)) (by (with_reducible repeat (first | refine blk_drewN ?_ _ | refine blk_drew ?_ | refine blk_alloc ?_ _)); refine blk_put (cs := #[.int .i64 (wrap64 (t202 + 2)), .int .i64 0]) ?_ 1 _ rfl; (with_reducible repeat (first | refine blk_drewN ?_ _ | refine blk_drew ?_ | refine blk_alloc ?_ _)); refine blk_put (cs := #[.int .i64 0, .int .i64 0]) ?_ 0 _ rfl; (with_reducible repeat (first | refine blk_drewN ?_ _ | refine blk_drew ?_ | refine blk_alloc ?_ _)); exact BK224.out) hb); have n7_ := Aside0.mk (below_step (by repeat (first | (with_reducible first | exact HB.out | apply below_alloc | apply pw_below_drewN | apply below_drew1 | refine below_set ?_ GE204.out | refine below_set ?_ GE205.out | refine below_set ?_ GE206.out | refine below_set ?_ GE211.out | refine below_set ?_ GE216.out | refine below_set ?_ GE221.out | refine below_set ?_ GE224.out) | exact HB.out)) hb); clear BK204; clear BK205; clear BK206; clear BK211; clear BK216; clear BK221; clear BK224; clear HB; have BK204 := n0_; have BK205 := n1_; have BK206 := n2_; have BK211 := n3_; have BK216 := n4_; have BK221 := n5_; have BK224 := n6_; have HB := n7_; clear n0_ n1_ n2_ n3_ n4_ n5_ n6_ n7_; (try clear hb); (try clear hb2); (try clear hk); (try clear hi)))
   go_meet
   case rel => exact ⟨_, (false), (by first | rfl | (simp; done) | (simp [*]; done)), H', ⟨by first | omega | exact Nat.le_refl _⟩, ⟨by (with_reducible repeat (first | refine blk_drewN ?_ _ | refine blk_drew ?_ | refine blk_alloc ?_ _)); exact BK204.out⟩, ⟨by (with_reducible repeat (first | refine blk_drewN ?_ _ | refine blk_drew ?_ | refine blk_alloc ?_ _)); exact BK205.out⟩, ⟨by (with_reducible repeat (first | refine blk_drewN ?_ _ | refine blk_drew ?_ | refine blk_alloc ?_ _)); exact BK206.out⟩, ⟨by (with_reducible repeat (first | refine blk_drewN ?_ _ | refine blk_drew ?_ | refine blk_alloc ?_ _)); exact BK211.out⟩, ⟨by (with_reducible repeat (first | refine blk_drewN ?_ _ | refine blk_drew ?_ | refine blk_alloc ?_ _)); exact BK216.out⟩, ⟨by (with_reducible repeat (first | refine blk_drewN ?_ _ | refine blk_drew ?_ | refine blk_alloc ?_ _)); exact BK221.out⟩, ⟨by (with_reducible repeat (first | refine blk_drewN ?_ _ | refine blk_drew ?_ | refine blk_alloc ?_ _)); exact BK224.out⟩, ⟨by repeat (first | (with_reducible first | exact HB.out | apply below_alloc | apply pw_below_drewN | apply below_drew1 | refine below_set ?_ GE204.out | refine below_set ?_ GE205.out | refine below_set ?_ GE206.out | refine below_set ?_ GE211.out | refine below_set ?_ GE216.out | refine below_set ?_ GE221.out | refine below_set ?_ GE224.out) | exact HB.out)⟩⟩
  subst c130
  have H1 : ((impl_InBox.f t207 t208 t209 t210 t202 t203).bind fun t228 => (if t228 = true then ((impl_InBox.f t212 t213 t214 t215 t202 t203).bind fun t229 => (if (t229 != false) = true then (laws_FnBoxes.j0 k true t194 t195 t196 t197 t198 t199 t200 t201 t212 t213 t214 t215 t217 t218 t219 t220) else (laws_FnBoxes.j0 k false t194 t195 t196 t197 t198 t199 t200 t201 t212 t213 t214 t215 t217 t218 t219 t220))) else (laws_FnBoxes.j0 k true t194 t195 t196 t197 t198 t199 t200 t201 t212 t213 t214 t215 t217 t218 t219 t220))) = some r := by rw [if_pos rfl] at H; exact H
  clear H
  have H := H1
  clear H1
  replace H := Option.bind_eq_some_iff.mp H
  obtain ⟨t228, A1310, H⟩ := H
  replace H : (if t228 = true then ((impl_InBox.f t212 t213 t214 t215 t202 t203).bind fun t229 => (if (t229 != false) = true then (laws_FnBoxes.j0 k true t194 t195 t196 t197 t198 t199 t200 t201 t212 t213 t214 t215 t217 t218 t219 t220) else (laws_FnBoxes.j0 k false t194 t195 t196 t197 t198 t199 t200 t201 t212 t213 t214 t215 t217 t218 t219 t220))) else (laws_FnBoxes.j0 k true t194 t195 t196 t197 t198 t199 t200 t201 t212 t213 t214 t215 t217 t218 t219 t220)) = some r := H
  have A131 := Aside0.mk A1310
  clear A1310
  by_cases c132 : t228 = true
  rotate_left
  ·replace c132 := Bool.eq_false_iff.mpr c132
   subst c132
   have H1 : (laws_FnBoxes.j0 k true t194 t195 t196 t197 t198 t199 t200 t201 t212 t213 t214 t215 t217 t218 t219 t220) = some r := by rw [if_neg (show ¬ (false = true) by decide)] at H; exact H
   clear H
   have H := H1
   clear H1
   exact (laws_FnBoxes.j0_never (by rw [hr_] at H; exact H)).elim
  subst c132
  have H1 : ((impl_InBox.f t212 t213 t214 t215 t202 t203).bind fun t229 => (if (t229 != false) = true then (laws_FnBoxes.j0 k true t194 t195 t196 t197 t198 t199 t200 t201 t212 t213 t214 t215 t217 t218 t219 t220) else (laws_FnBoxes.j0 k false t194 t195 t196 t197 t198 t199 t200 t201 t212 t213 t214 t215 t217 t218 t219 t220))) = some r := by rw [if_pos rfl] at H; exact H
  clear H
  have H := H1
  clear H1
  replace H := Option.bind_eq_some_iff.mp H
  obtain ⟨t229, A1330, H⟩ := H
  replace H : (if (t229 != false) = true then (laws_FnBoxes.j0 k true t194 t195 t196 t197 t198 t199 t200 t201 t212 t213 t214 t215 t217 t218 t219 t220) else (laws_FnBoxes.j0 k false t194 t195 t196 t197 t198 t199 t200 t201 t212 t213 t214 t215 t217 t218 t219 t220)) = some r := H
  have A133 := Aside0.mk A1330
  clear A1330
  by_cases c134 : (t229 != false) = true
  ·rw [if_pos c134] at H
   exact (laws_FnBoxes.j0_never (by rw [hr_] at H; exact H)).elim
  rw [if_neg c134] at H
  have c134b0 : (t229 != false) = false := by simpa using c134
  (try (have c134b1 : decide (t229 = false) = true := by simpa using c134))
  (try (have c134b2 : (t229 == false) = true := by simpa using c134))
  clear c134
  have H' := Aside0.mk H
  clear H
  have hnb156 := NB211_204.out
  have hnc156 := NB204_211.out
  have hnb157 := NB211_205.out
  have hnc157 := NB205_211.out
  have hnb158 := NB211_206.out
  have hnc158 := NB206_211.out
  have hnb159 := NB211_216.out
  have hnc159 := NB216_211.out
  have hnb160 := NB211_221.out
  have hnc160 := NB221_211.out
  have hnb161 := NB211_224.out
  have hnc161 := NB224_211.out
  have hcz162_0 : w52.cell? ⟨gb211, 0, none⟩ = some (.int .i64 t207) := (blk_cell BK211.out 0).trans rfl
  have hcz162_1 : w52.cell? ⟨gb211, 1, none⟩ = some (.int .i64 t208) := (blk_cell BK211.out 1).trans rfl
  have hcz162_2 : w52.cell? ⟨gb211, 2, none⟩ = some (.int .i64 t209) := (blk_cell BK211.out 2).trans rfl
  have hcz162_3 : w52.cell? ⟨gb211, 3, none⟩ = some (.int .i64 t210) := (blk_cell BK211.out 3).trans rfl
  have hfz162_0 := blk_frozen BK211.out 0
  have hfz162_1 := blk_frozen BK211.out 1
  have hfz162_2 := blk_frozen BK211.out 2
  have hfz162_3 := blk_frozen BK211.out 3
  have hnb163 := NB206_204.out
  have hnc163 := NB204_206.out
  have hnb164 := NB206_205.out
  have hnc164 := NB205_206.out
  have hnb165 := NB206_216.out
  have hnc165 := NB216_206.out
  have hnb166 := NB206_221.out
  have hnc166 := NB221_206.out
  have hnb167 := NB206_224.out
  have hnc167 := NB224_206.out
  have hcz168_0 : w52.cell? ⟨gb206, 0, none⟩ = some (.int .i64 t202) := (blk_cell BK206.out 0).trans rfl
  have hcz168_1 : w52.cell? ⟨gb206, 1, none⟩ = some (.int .i64 t203) := (blk_cell BK206.out 1).trans rfl
  have hfz168_0 := blk_frozen BK206.out 0
  have hfz168_1 := blk_frozen BK206.out 1
  go_wp2_with (first | (go_at_call 22; (with_reducible refine (impl_InBox.calls t207 t208 t209 t210 t202 t203 true _ A131.out).mono ?_); rintro e w169 ⟨rfl, hb⟩; have n0_ := Aside0.mk (blk_below (g := gb204) (o := .cells #[.int .i64 t194, .int .i64 t195, .int .i64 t196, .int .i64 t197] 34 (0, 0)) (by (with_reducible repeat (first | refine blk_drewN ?_ _ | refine blk_drew ?_ | refine blk_alloc ?_ _)); refine blk_far ?_ NB204_224.out _; (with_reducible repeat (first | refine blk_drewN ?_ _ | refine blk_drew ?_ | refine blk_alloc ?_ _)); refine blk_far ?_ NB204_224.out _; (with_reducible repeat (first | refine blk_drewN ?_ _ | refine blk_drew ?_ | refine blk_alloc ?_ _)); exact BK204.out) hb); have n1_ := Aside0.mk (blk_below (g := gb205) (o := .cells #[.int .i64 t198, .int .i64 t199, .int .i64 t200, .int .i64 t201] 34 (0, 0)) (by (with_reducible repeat (first | refine blk_drewN ?_ _ | refine blk_drew ?_ | refine blk_alloc ?_ _)); refine blk_far ?_ NB205_224.out _; (with_reducible repeat (first | refine blk_drewN ?_ _ | refine blk_drew ?_ | refine blk_alloc ?_ _)); refine blk_far ?_ NB205_224.out _; (with_reducible repeat (first | refine blk_drewN ?_ _ | refine blk_drew ?_ | refine blk_alloc ?_ _)); exact BK205.out) hb); have n2_ := Aside0.mk (blk_below (g := gb206) (o := .cells #[.int .i64 t202, .int .i64 t203] 36 (0, 0)) (by (with_reducible repeat (first | refine blk_drewN ?_ _ | refine blk_drew ?_ | refine blk_alloc ?_ _)); refine blk_far ?_ NB206_224.out _; (with_reducible repeat (first | refine blk_drewN ?_ _ | refine blk_drew ?_ | refine blk_alloc ?_ _)); refine blk_far ?_ NB206_224.out _; (with_reducible repeat (first | refine blk_drewN ?_ _ | refine blk_drew ?_ | refine blk_alloc ?_ _)); exact BK206.out) hb); have n3_ := Aside0.mk (blk_below (g := gb211) (o := .cells #[.int .i64 t207, .int .i64 t208, .int .i64 t209, .int .i64 t210] 34 (0, 0)) (by (with_reducible repeat (first | refine blk_drewN ?_ _ | refine blk_drew ?_ | refine blk_alloc ?_ _)); refine blk_far ?_ NB211_224.out _; (with_reducible repeat (first | refine blk_drewN ?_ _ | refine blk_drew ?_ | refine blk_alloc ?_ _)); refine blk_far ?_ NB211_224.out _; (with_reducible repeat (first | refine blk_drewN ?_ _ | refine blk_drew ?_ | refine blk_alloc ?_ _)); exact BK211.out) hb); have n4_ := Aside0.mk (blk_below (g := gb216) (o := .cells #[.int .i64 t212, .int .i64 t213, .int .i64 t214, .int .i64 t215] 34 (0, 0)) (by (with_reducible repeat (first | refine blk_drewN ?_ _ | refine blk_drew ?_ | refine blk_alloc ?_ _)); refine blk_far ?_ NB216_224.out _; (with_reducible repeat (first | refine blk_drewN ?_ _ | refine blk_drew ?_ | refine blk_alloc ?_ _)); refine blk_far ?_ NB216_224.out _; (with_reducible repeat (first | refine blk_drewN ?_ _ | refine blk_drew ?_ | refine blk_alloc ?_ _)); exact BK216.out) hb); have n5_ := Aside0.mk (blk_below (g := gb221) (o := .cells #[.int .i64 t217, .int .i64 t218, .int .i64 t219, .int .i64 t220] 34 (0, 0)) (by (with_reducible repeat (first | refine blk_drewN ?_ _ | refine blk_drew ?_ | refine blk_alloc ?_ _)); refine blk_far ?_ NB221_224.out _; (with_reducible repeat (first | refine blk_drewN ?_ _ | refine blk_drew ?_ | refine blk_alloc ?_ _)); refine blk_far ?_ NB221_224.out _; (with_reducible repeat (first | refine blk_drewN ?_ _ | refine blk_drew ?_ | refine blk_alloc ?_ _)); exact BK221.out) hb); have n6_ := Aside0.mk (blk_below (g := gb224) (o := .cells #[.int .i64 (wrap64 (t202 + 2)), .int .i64 (wrap64 (t203 - 1))] 36 (0, 0)) (by (with_reducible repeat (first | refine blk_drewN ?_ _ | refine blk_drew ?_ | refine blk_alloc ?_ _)); refine blk_put (cs := #[.int .i64 (wrap64 (t202 + 2)), .int .i64 0]) ?_ 1 _ rfl; (with_reducible repeat (first | refine blk_drewN ?_ _ | refine blk_drew ?_ | refine blk_alloc ?_ _)); refine blk_put (cs := #[.int .i64 0, .int .i64 0]) ?_ 0 _ rfl; (with_reducible repeat (first | refine blk_drewN ?_ _ | refine blk_drew ?_ | refine blk_alloc ?_ _)); exact BK224.out) hb); have n7_ := Aside0.mk (below_step (by repeat (first | (with_reducible first | exact HB.out | apply below_alloc | apply pw_below_drewN | apply below_drew1 | refine below_set ?_ GE204.out | refine below_set ?_ GE205.out | refine below_set ?_ GE206.out | refine below_set ?_ GE211.out | refine below_set ?_ GE216.out | refine below_set ?_ GE221.out | refine below_set ?_ GE224.out) | exact HB.out)) hb); clear BK204; clear BK205; clear BK206; clear BK211; clear BK216; clear BK221; clear BK224; clear HB; have BK204 := n0_; have BK205 := n1_; have BK206 := n2_; have BK211 := n3_; have BK216 := n4_; have BK221 := n5_; have BK224 := n6_; have HB := n7_; clear n0_ n1_ n2_ n3_ n4_ n5_ n6_ n7_; (try clear hb); (try clear hb2); (try clear hk); (try clear hi); have hnb170 := NB216_204.out; have hnc170 := NB204_216.out; have hnb171 := NB216_205.out; have hnc171 := NB205_216.out; have hnb172 := NB216_221.out; have hnc172 := NB221_216.out; have hnb173 := NB216_224.out; have hnc173 := NB224_216.out; have hcz174_0 : w169.cell? ⟨gb216, 0, none⟩ = some (.int .i64 t212) := (blk_cell BK216.out 0).trans rfl; have hcz174_1 : w169.cell? ⟨gb216, 1, none⟩ = some (.int .i64 t213) := (blk_cell BK216.out 1).trans rfl; have hcz174_2 : w169.cell? ⟨gb216, 2, none⟩ = some (.int .i64 t214) := (blk_cell BK216.out 2).trans rfl; have hcz174_3 : w169.cell? ⟨gb216, 3, none⟩ = some (.int .i64 t215) := (blk_cell BK216.out 3).trans rfl; have hfz174_0 := blk_frozen BK216.out 0; have hfz174_1 := blk_frozen BK216.out 1; have hfz174_2 := blk_frozen BK216.out 2; have hfz174_3 := blk_frozen BK216.out 3; have hcz175_0 : w169.cell? ⟨gb206, 0, none⟩ = some (.int .i64 t202) := (blk_cell BK206.out 0).trans rfl; have hcz175_1 : w169.cell? ⟨gb206, 1, none⟩ = some (.int .i64 t203) := (blk_cell BK206.out 1).trans rfl; have hfz175_0 := blk_frozen BK206.out 0; have hfz175_1 := blk_frozen BK206.out 1) | (go_at_call 22; (with_reducible refine (impl_InBox.calls t212 t213 t214 t215 t202 t203 t229 _ A133.out).mono ?_); rintro e w176 ⟨rfl, hb⟩; have n0_ := Aside0.mk (blk_below BK204.out hb); have n1_ := Aside0.mk (blk_below BK205.out hb); have n2_ := Aside0.mk (blk_below BK206.out hb); have n3_ := Aside0.mk (blk_below BK211.out hb); have n4_ := Aside0.mk (blk_below BK216.out hb); have n5_ := Aside0.mk (blk_below BK221.out hb); have n6_ := Aside0.mk (blk_below BK224.out hb); have n7_ := Aside0.mk (below_step (by repeat (first | (with_reducible first | exact HB.out | apply below_alloc | apply pw_below_drewN | apply below_drew1 | refine below_set ?_ GE204.out | refine below_set ?_ GE205.out | refine below_set ?_ GE206.out | refine below_set ?_ GE211.out | refine below_set ?_ GE216.out | refine below_set ?_ GE221.out | refine below_set ?_ GE224.out) | exact HB.out)) hb); clear BK204; clear BK205; clear BK206; clear BK211; clear BK216; clear BK221; clear BK224; clear HB; have BK204 := n0_; have BK205 := n1_; have BK206 := n2_; have BK211 := n3_; have BK216 := n4_; have BK221 := n5_; have BK224 := n6_; have HB := n7_; clear n0_ n1_ n2_ n3_ n4_ n5_ n6_ n7_; (try clear hb); (try clear hb2); (try clear hk); (try clear hi)))
  go_meet
  case rel => exact ⟨_, (false), (by first | rfl | (simp; done) | (simp [*]; done)), H', ⟨by first | omega | exact Nat.le_refl _⟩, ⟨by (with_reducible repeat (first | refine blk_drewN ?_ _ | refine blk_drew ?_ | refine blk_alloc ?_ _)); exact BK204.out⟩, ⟨by (with_reducible repeat (first | refine blk_drewN ?_ _ | refine blk_drew ?_ | refine blk_alloc ?_ _)); exact BK205.out⟩, ⟨by (with_reducible repeat (first | refine blk_drewN ?_ _ | refine blk_drew ?_ | refine blk_alloc ?_ _)); exact BK206.out⟩, ⟨by (with_reducible repeat (first | refine blk_drewN ?_ _ | refine blk_drew ?_ | refine blk_alloc ?_ _)); exact BK211.out⟩, ⟨by (with_reducible repeat (first | refine blk_drewN ?_ _ | refine blk_drew ?_ | refine blk_alloc ?_ _)); exact BK216.out⟩, ⟨by (with_reducible repeat (first | refine blk_drewN ?_ _ | refine blk_drew ?_ | refine blk_alloc ?_ _)); exact BK221.out⟩, ⟨by (with_reducible repeat (first | refine blk_drewN ?_ _ | refine blk_drew ?_ | refine blk_alloc ?_ _)); exact BK224.out⟩, ⟨by repeat (first | (with_reducible first | exact HB.out | apply below_alloc | apply pw_below_drewN | apply below_drew1 | refine below_set ?_ GE204.out | refine below_set ?_ GE205.out | refine below_set ?_ GE206.out | refine below_set ?_ GE211.out | refine below_set ?_ GE216.out | refine below_set ?_ GE221.out | refine below_set ?_ GE224.out) | exact HB.out)⟩⟩
 case rest =>
  clear HC10
  try clear c1
  try clear c2
  try clear p2
  try clear c3
  try clear c4
  try clear c5
  try clear c6
  try clear p6
  try clear c7
  try clear c8
  try clear c9
  try clear c10
  try clear c11
  try clear c12
  try clear c13
  try clear c14
  try clear c15
  try clear c16
  try clear c17
  try clear c18
  try clear c19
  try clear c20
  try clear c21
  try clear c22
  try clear c23
  try clear c24
  try clear c25
  try clear c31
  try clear c32
  try clear c33
  try clear c34
  try clear c39
  try clear c40
  try clear c41
  try clear c42
  try clear c43
  try clear c53
  try clear c54
  try clear c55
  try clear c56
  try clear c57
  try clear c58
  try clear c60
  try clear c62
  try clear c64
  try clear c64b0
  try clear c64b1
  try clear c64b2
  try clear p64
  try clear c65
  try clear c66
  try clear c67
  try clear c68
  try clear c69
  try clear c70
  try clear c72
  try clear c73
  try clear c74
  try clear c75
  try clear c76
  try clear c79
  try clear c80
  try clear c81
  try clear c82
  try clear c87
  try clear c88
  try clear c89
  try clear c90
  try clear c91
  try clear c92
  try clear c94
  try clear c95
  try clear c96
  try clear c97
  try clear c98
  try clear c101
  try clear c102
  try clear c103
  try clear c104
  try clear c108
  try clear c109
  try clear c110
  try clear c112
  try clear c113
  try clear c116
  try clear c117
  try clear c118
  try clear c119
  try clear c120
  try clear c121
  try clear c123
  try clear c124
  try clear c125
  try clear c126
  try clear c127
  try clear c130
  try clear c132
  try clear c134
  try clear c134b0
  try clear c134b1
  try clear c134b2
  try clear c135
  try clear c136
  try clear c137
  try clear c138
  try clear c139
  try clear c140
  try clear c142
  try clear c143
  try clear c144
  try clear c145
  try clear c146
  try clear c149
  try clear c150
  try clear c151
  try clear c152
  try clear c156
  try clear c157
  try clear c158
  try clear c159
  try clear c160
  try clear c161
  try clear c163
  try clear c164
  try clear c165
  try clear c166
  try clear c167
  try clear c170
  try clear c171
  try clear c172
  try clear c173
  try clear c177
  try clear c178
  try clear c179
  try clear c180
  try clear c181
  try clear c182
  try clear c184
  try clear c185
  try clear c186
  try clear c187
  try clear c188
  try clear c192
  try clear c192b0
  try clear c192b1
  try clear c192b2
  try clear c193
  try clear c194
  try clear c195
  try clear c196
  try clear c197
  try clear c198
  try clear c200
  try clear c201
  try clear c202
  try clear c203
  try clear c204
  try clear c207
  try clear c208
  try clear c209
  try clear c210
  try clear c211
  try clear c212
  try clear c214
  try clear c215
  try clear c216
  try clear c217
  try clear c218
  try clear hcz105_0
  try clear hcz105_1
  try clear hcz105_2
  try clear hcz105_3
  try clear hcz106_0
  try clear hcz106_1
  try clear hcz111_0
  try clear hcz111_1
  try clear hcz111_2
  try clear hcz111_3
  try clear hcz114_0
  try clear hcz114_1
  try clear hcz122_0
  try clear hcz122_1
  try clear hcz122_2
  try clear hcz122_3
  try clear hcz128_0
  try clear hcz128_1
  try clear hcz141_0
  try clear hcz141_1
  try clear hcz141_2
  try clear hcz141_3
  try clear hcz147_0
  try clear hcz147_1
  try clear hcz153_0
  try clear hcz153_1
  try clear hcz153_2
  try clear hcz153_3
  try clear hcz154_0
  try clear hcz154_1
  try clear hcz162_0
  try clear hcz162_1
  try clear hcz162_2
  try clear hcz162_3
  try clear hcz168_0
  try clear hcz168_1
  try clear hcz174_0
  try clear hcz174_1
  try clear hcz174_2
  try clear hcz174_3
  try clear hcz175_0
  try clear hcz175_1
  try clear hcz17_0
  try clear hcz17_1
  try clear hcz17_2
  try clear hcz17_3
  try clear hcz183_0
  try clear hcz183_1
  try clear hcz183_2
  try clear hcz183_3
  try clear hcz189_0
  try clear hcz189_1
  try clear hcz199_0
  try clear hcz199_1
  try clear hcz199_2
  try clear hcz199_3
  try clear hcz19_0
  try clear hcz19_1
  try clear hcz19_2
  try clear hcz19_3
  try clear hcz205_0
  try clear hcz205_1
  try clear hcz20_0
  try clear hcz20_1
  try clear hcz213_0
  try clear hcz213_1
  try clear hcz213_2
  try clear hcz213_3
  try clear hcz219_0
  try clear hcz219_1
  try clear hcz26_0
  try clear hcz26_1
  try clear hcz26_2
  try clear hcz26_3
  try clear hcz27_0
  try clear hcz27_1
  try clear hcz27_2
  try clear hcz27_3
  try clear hcz28_0
  try clear hcz28_1
  try clear hcz28_2
  try clear hcz28_3
  try clear hcz35_0
  try clear hcz35_1
  try clear hcz35_2
  try clear hcz35_3
  try clear hcz36_0
  try clear hcz36_1
  try clear hcz36_2
  try clear hcz36_3
  try clear hcz44_0
  try clear hcz44_1
  try clear hcz44_2
  try clear hcz44_3
  try clear hcz45_0
  try clear hcz45_1
  try clear hcz45_2
  try clear hcz45_3
  try clear hcz46_0
  try clear hcz46_1
  try clear hcz48_0
  try clear hcz48_1
  try clear hcz48_2
  try clear hcz48_3
  try clear hcz49_0
  try clear hcz49_1
  try clear hcz51_0
  try clear hcz51_1
  try clear hcz59_0
  try clear hcz59_1
  try clear hcz71_0
  try clear hcz71_1
  try clear hcz71_2
  try clear hcz71_3
  try clear hcz77_0
  try clear hcz77_1
  try clear hcz83_0
  try clear hcz83_1
  try clear hcz83_2
  try clear hcz83_3
  try clear hcz84_0
  try clear hcz84_1
  try clear hcz93_0
  try clear hcz93_1
  try clear hcz93_2
  try clear hcz93_3
  try clear hcz99_0
  try clear hcz99_1
  try clear hfz105_0
  try clear hfz105_1
  try clear hfz105_2
  try clear hfz105_3
  try clear hfz106_0
  try clear hfz106_1
  try clear hfz111_0
  try clear hfz111_1
  try clear hfz111_2
  try clear hfz111_3
  try clear hfz114_0
  try clear hfz114_1
  try clear hfz122_0
  try clear hfz122_1
  try clear hfz122_2
  try clear hfz122_3
  try clear hfz128_0
  try clear hfz128_1
  try clear hfz141_0
  try clear hfz141_1
  try clear hfz141_2
  try clear hfz141_3
  try clear hfz147_0
  try clear hfz147_1
  try clear hfz153_0
  try clear hfz153_1
  try clear hfz153_2
  try clear hfz153_3
  try clear hfz154_0
  try clear hfz154_1
  try clear hfz162_0
  try clear hfz162_1
  try clear hfz162_2
  try clear hfz162_3
  try clear hfz168_0
  try clear hfz168_1
  try clear hfz174_0
  try clear hfz174_1
  try clear hfz174_2
  try clear hfz174_3
  try clear hfz175_0
  try clear hfz175_1
  try clear hfz17_0
  try clear hfz17_1
  try clear hfz17_2
  try clear hfz17_3
  try clear hfz183_0
  try clear hfz183_1
  try clear hfz183_2
  try clear hfz183_3
  try clear hfz189_0
  try clear hfz189_1
  try clear hfz199_0
  try clear hfz199_1
  try clear hfz199_2
  try clear hfz199_3
  try clear hfz19_0
  try clear hfz19_1
  try clear hfz19_2
  try clear hfz19_3
  try clear hfz205_0
  try clear hfz205_1
  try clear hfz20_0
  try clear hfz20_1
  try clear hfz213_0
  try clear hfz213_1
  try clear hfz213_2
  try clear hfz213_3
  try clear hfz219_0
  try clear hfz219_1
  try clear hfz26_0
  try clear hfz26_1
  try clear hfz26_2
  try clear hfz26_3
  try clear hfz27_0
  try clear hfz27_1
  try clear hfz27_2
  try clear hfz27_3
  try clear hfz28_0
  try clear hfz28_1
  try clear hfz28_2
  try clear hfz28_3
  try clear hfz35_0
  try clear hfz35_1
  try clear hfz35_2
  try clear hfz35_3
  try clear hfz36_0
  try clear hfz36_1
  try clear hfz36_2
  try clear hfz36_3
  try clear hfz44_0
  try clear hfz44_1
  try clear hfz44_2
  try clear hfz44_3
  try clear hfz45_0
  try clear hfz45_1
  try clear hfz45_2
  try clear hfz45_3
  try clear hfz46_0
  try clear hfz46_1
  try clear hfz48_0
  try clear hfz48_1
  try clear hfz48_2
  try clear hfz48_3
  try clear hfz49_0
  try clear hfz49_1
  try clear hfz51_0
  try clear hfz51_1
  try clear hfz59_0
  try clear hfz59_1
  try clear hfz71_0
  try clear hfz71_1
  try clear hfz71_2
  try clear hfz71_3
  try clear hfz77_0
  try clear hfz77_1
  try clear hfz83_0
  try clear hfz83_1
  try clear hfz83_2
  try clear hfz83_3
  try clear hfz84_0
  try clear hfz84_1
  try clear hfz93_0
  try clear hfz93_1
  try clear hfz93_2
  try clear hfz93_3
  try clear hfz99_0
  try clear hfz99_1
  obtain ⟨kq, x69_9, rfl, HA, HJ9, BK204, BK205, BK206, BK211, BK216, BK221, BK224, HB⟩ := hcut
  cases kq with
  | zero => exact absurd HA.out (by simp [laws_FnBoxes.j0])
  | succ kj9 =>
   have H := HA.out
   clear HA
   simp only [laws_FnBoxes.j0] at H
   by_cases c221 : x69_9 = true
   ·subst c221
    have H1 : (some false) = some r := by rw [if_pos rfl] at H; exact H
    clear H
    have H := H1
    clear H1
    obtain rfl := Option.some.inj H
    exact absurd hr_ (by decide)
   replace c221 := Bool.eq_false_iff.mpr c221
   subst c221
   have H1 : ((impl_Empty.f t194 t195 t196 t197).bind fun t231 => (if t231 = true then ((impl_JoinBox.f kj9 t194 t195 t196 t197 t198 t199 t200 t201).bind fun bt232 => ((impl_JoinBox.f kj9 t198 t199 t200 t201 t194 t195 t196 t197).bind fun bt236 => (if (!(bt232.1 == bt236.1) || (!(bt232.2.1 == bt236.2.1) || (!(bt232.2.2.1 == bt236.2.2.1) || (!(bt232.2.2.2 == bt236.2.2.2))))) = true then (laws_FnBoxes.j1 kj9 true t194 t195 t196 t197 t198 t199 t200 t201 t212 t213 t214 t215) else ((impl_Empty.f t217 t218 t219 t220).bind fun t240 => (laws_FnBoxes.j1 kj9 (!t240) t194 t195 t196 t197 t198 t199 t200 t201 t212 t213 t214 t215))))) else (laws_FnBoxes.j1 kj9 false t194 t195 t196 t197 t198 t199 t200 t201 t212 t213 t214 t215))) = some r := by rw [if_neg (show ¬ (false = true) by decide)] at H; exact H
   clear H
   have H := H1
   clear H1
   have HC222 := Aside0.mk H
   clear H
   go_upto_region 12 with (fail)
   go_cut [85] (fun v85 wc => ∃ (kq : Nat) (x85_221 : Bool), v85 = .bool x85_221 ∧ Aside0 (laws_FnBoxes.j1 kq x85_221 t194 t195 t196 t197 t198 t199 t200 t201 t212 t213 t214 t215 = some r) ∧ Aside0 (kq ≤ kj9) ∧ Aside0 (wc.heap[gb204]? = some (.cells #[.int .i64 t194, .int .i64 t195, .int .i64 t196, .int .i64 t197] 34 (0, 0))) ∧ Aside0 (wc.heap[gb205]? = some (.cells #[.int .i64 t198, .int .i64 t199, .int .i64 t200, .int .i64 t201] 34 (0, 0))) ∧ Aside0 (wc.heap[gb206]? = some (.cells #[.int .i64 t202, .int .i64 t203] 36 (0, 0))) ∧ Aside0 (wc.heap[gb211]? = some (.cells #[.int .i64 t207, .int .i64 t208, .int .i64 t209, .int .i64 t210] 34 (0, 0))) ∧ Aside0 (wc.heap[gb216]? = some (.cells #[.int .i64 t212, .int .i64 t213, .int .i64 t214, .int .i64 t215] 34 (0, 0))) ∧ Aside0 (wc.heap[gb221]? = some (.cells #[.int .i64 t217, .int .i64 t218, .int .i64 t219, .int .i64 t220] 34 (0, 0))) ∧ Aside0 (wc.heap[gb224]? = some (.cells #[.int .i64 (wrap64 (t202 + 2)), .int .i64 (wrap64 (t203 - 1))] 36 (0, 0))) ∧ Aside0 (Below w.heap.size w wc))
   case first =>
    have H := HC222.out
    clear HC222
    replace H := Option.bind_eq_some_iff.mp H
    obtain ⟨t231, A2230, H⟩ := H
    replace H : (if t231 = true then ((impl_JoinBox.f kj9 t194 t195 t196 t197 t198 t199 t200 t201).bind fun bt232 => ((impl_JoinBox.f kj9 t198 t199 t200 t201 t194 t195 t196 t197).bind fun bt236 => (if (!(bt232.1 == bt236.1) || (!(bt232.2.1 == bt236.2.1) || (!(bt232.2.2.1 == bt236.2.2.1) || (!(bt232.2.2.2 == bt236.2.2.2))))) = true then (laws_FnBoxes.j1 kj9 true t194 t195 t196 t197 t198 t199 t200 t201 t212 t213 t214 t215) else ((impl_Empty.f t217 t218 t219 t220).bind fun t240 => (laws_FnBoxes.j1 kj9 (!t240) t194 t195 t196 t197 t198 t199 t200 t201 t212 t213 t214 t215))))) else (laws_FnBoxes.j1 kj9 false t194 t195 t196 t197 t198 t199 t200 t201 t212 t213 t214 t215)) = some r := H
    have A223 := Aside0.mk A2230
    clear A2230
    by_cases c224 : t231 = true
    rotate_left
    ·replace c224 := Bool.eq_false_iff.mpr c224
     subst c224
     have H1 : (laws_FnBoxes.j1 kj9 false t194 t195 t196 t197 t198 t199 t200 t201 t212 t213 t214 t215) = some r := by rw [if_neg (show ¬ (false = true) by decide)] at H; exact H
     clear H
     have H := H1
     clear H1
     have H' := Aside0.mk H
     clear H
     try go_wp2
     replace BK204 := Aside0.mk (blk_drew BK204.out)
     replace BK205 := Aside0.mk (blk_drew BK205.out)
     replace BK206 := Aside0.mk (blk_drew BK206.out)
     replace BK211 := Aside0.mk (blk_drew BK211.out)
     replace BK216 := Aside0.mk (blk_drew BK216.out)
     replace BK221 := Aside0.mk (blk_drew BK221.out)
     replace BK224 := Aside0.mk (blk_drew BK224.out)
     replace HB := Aside0.mk (below_drew1 HB.out)
     refine start_ (n := 16) (S := fun w' => w'.cell? ⟨gb204, 0, none⟩ = some (.int .i64 t194) ∧ w'.cell? ⟨gb204, 1, none⟩ = some (.int .i64 t195) ∧ w'.cell? ⟨gb204, 2, none⟩ = some (.int .i64 t196) ∧ w'.cell? ⟨gb204, 3, none⟩ = some (.int .i64 t197)) (ds := []) #[F,F,F,F,F,F,F,F,F,F,F,F,F,F,F,F] (by kernel_rfl) rfl rfl ⟨(blk_cell BK204.out 0).trans rfl, (blk_cell BK204.out 1).trans rfl, (blk_cell BK204.out 2).trans rfl, (blk_cell BK204.out 3).trans rfl⟩ (fun hHeld => ?_); refine with_tabW laws_FnBoxes.tab12 laws_FnBoxes.bits12 (fun HT_ HW_ => ?_)
     generalize wc.drew = w238 at BK204 BK205 BK206 BK211 BK216 BK221 BK224 HB hHeld ⊢
     refine take_ (i := 0) (N := some 70) (v := ?_) (a' := ?_) #[T,F,F,F,F,F,F,F,F,F,F,F,F,F,F,F] rfl rfl (take_ofW HT_.out HW_.out (by kernel_rfl)) (fun _ _ _ h => h) (Or.inl ⟨by rfl, ?_⟩) hHeld ?_ ?_; rotate_left
     ·rintro w' ⟨s0, s1, s2, s3⟩; go_simp; with_reducible rfl
     rotate_left; (focus (simp only [PS]; rfl))
     refine one_ (i := 1) (N := some 71) #[T,T,F,F,F,F,F,F,F,F,F,F,F,F,F,F] rfl rfl (one_of HT_.out (by kernel_rfl)) (by decide) (fun K hK => ?_)
     refine goes_ Try.func23 (by kernel_rfl) rfl #[.agg #[.int .i64 t194, .int .i64 t195, .int .i64 t196, .int .i64 t197]] (by rfl) rfl rfl (by (try simp only [List.map_toArray, List.map_cons, List.map_nil]); first | done | rfl | (simp only [List.length_drop, List.length_take]; rfl)) ?_
     with_reducible refine (impl_Empty.calls t194 t195 t196 t197 false _ A223.out).mono ?_
     rintro e w239 ⟨rfl, hb⟩
     refine ⟨_, rfl, ?_⟩
     replace BK204 := Aside0.mk (blk_below BK204.out hb)
     replace BK205 := Aside0.mk (blk_below BK205.out hb)
     replace BK206 := Aside0.mk (blk_below BK206.out hb)
     replace BK211 := Aside0.mk (blk_below BK211.out hb)
     replace BK216 := Aside0.mk (blk_below BK216.out hb)
     replace BK221 := Aside0.mk (blk_below BK221.out hb)
     replace BK224 := Aside0.mk (blk_below BK224.out hb)
     replace HB := Aside0.mk (below_step HB.out hb)
     (try clear hb)
     (try clear hb2)
     (try clear hk)
     (try clear hi)
     refine hK.out _ _ ⟨(blk_cell BK204.out 0).trans rfl, (blk_cell BK204.out 1).trans rfl, (blk_cell BK204.out 2).trans rfl, (blk_cell BK204.out 3).trans rfl⟩ (fun hHeld => ?_)
     clear hK K
     refine norm_ (a' := ?_) ?_ ?_; rotate_left
     ·show Act.put _ (some 71) _ = _
      simp only [PS]
      rfl
     refine pure_ (i := 2) (N := some 72) (v := ?_) (a' := ?_) #[T,T,T,F,F,F,F,F,F,F,F,F,F,F,F,F] rfl rfl (any_of HT_.out (by kernel_rfl)) (fun _ _ _ h => h) (Or.inl ⟨by rfl, ?_⟩) ?_ ?_; rotate_left
     ·intro w'; go_simp; with_reducible rfl
     rotate_left; (focus (simp only [PS]; rfl))
     refine pure_ (i := 3) (N := some 73) (v := undef) (a' := ?_) #[T,T,T,T,F,F,F,F,F,F,F,F,F,F,F,F] rfl rfl (any_of HT_.out (by kernel_rfl)) (fun _ _ _ h => h) (Or.inr ⟨by rfl, rfl⟩) ?_ ?_; rotate_left
     ·simp only [PS]; rfl
     refine pure_ (i := 4) (N := some 74) (v := undef) (a' := ?_) #[T,T,T,T,T,F,F,F,F,F,F,F,F,F,F,F] rfl rfl (any_of HT_.out (by kernel_rfl)) (fun _ _ _ h => h) (Or.inr ⟨by rfl, rfl⟩) ?_ ?_; rotate_left
     ·simp only [PS]; rfl
     refine pure_ (i := 5) (N := some 75) (v := undef) (a' := ?_) #[T,T,T,T,T,T,F,F,F,F,F,F,F,F,F,F] rfl rfl (any_of HT_.out (by kernel_rfl)) (fun _ _ _ h => h) (Or.inr ⟨by rfl, rfl⟩) ?_ ?_; rotate_left
     ·simp only [PS]; rfl
     refine pure_ (i := 6) (N := some 76) (v := undef) (a' := ?_) #[T,T,T,T,T,T,T,F,F,F,F,F,F,F,F,F] rfl rfl (any_of HT_.out (by kernel_rfl)) (fun _ _ _ h => h) (Or.inr ⟨by rfl, rfl⟩) ?_ ?_; rotate_left
     ·simp only [PS]; rfl
     refine pure_ (i := 7) (N := some 77) (v := undef) (a' := ?_) #[T,T,T,T,T,T,T,T,F,F,F,F,F,F,F,F] rfl rfl (any_of HT_.out (by kernel_rfl)) (fun _ _ _ h => h) (Or.inr ⟨by rfl, rfl⟩) ?_ ?_; rotate_left
     ·simp only [PS]; rfl
     refine pure_ (i := 8) (N := some 78) (v := undef) (a' := ?_) #[T,T,T,T,T,T,T,T,T,F,F,F,F,F,F,F] rfl rfl (any_of HT_.out (by kernel_rfl)) (fun _ _ _ h => h) (Or.inr ⟨by rfl, rfl⟩) ?_ ?_; rotate_left
     ·simp only [PS]; rfl
     refine pure_ (i := 9) (N := some 79) (v := undef) (a' := ?_) #[T,T,T,T,T,T,T,T,T,T,F,F,F,F,F,F] rfl rfl (any_of HT_.out (by kernel_rfl)) (fun _ _ _ h => h) (Or.inr ⟨by rfl, rfl⟩) ?_ ?_; rotate_left
     ·simp only [PS]; rfl
     refine pure_ (i := 10) (N := some 80) (v := undef) (a' := ?_) #[T,T,T,T,T,T,T,T,T,T,T,F,F,F,F,F] rfl rfl (any_of HT_.out (by kernel_rfl)) (fun _ _ _ h => h) (Or.inr ⟨by rfl, rfl⟩) ?_ ?_; rotate_left
     ·simp only [PS]; rfl
     refine pure_ (i := 11) (N := some 81) (v := undef) (a' := ?_) #[T,T,T,T,T,T,T,T,T,T,T,T,F,F,F,F] rfl rfl (any_of HT_.out (by kernel_rfl)) (fun _ _ _ h => h) (Or.inr ⟨by rfl, rfl⟩) ?_ ?_; rotate_left
     ·simp only [PS]; rfl
     refine pure_ (i := 12) (N := some 82) (v := undef) (a' := ?_) #[T,T,T,T,T,T,T,T,T,T,T,T,T,F,F,F] rfl rfl (any_of HT_.out (by kernel_rfl)) (fun _ _ _ h => h) (Or.inr ⟨by rfl, rfl⟩) ?_ ?_; rotate_left
     ·simp only [PS]; rfl
     refine pure_ (i := 13) (N := some 83) (v := undef) (a' := ?_) #[T,T,T,T,T,T,T,T,T,T,T,T,T,T,F,F] rfl rfl (any_of HT_.out (by kernel_rfl)) (fun _ _ _ h => h) (Or.inr ⟨by rfl, rfl⟩) ?_ ?_; rotate_left
     ·simp only [PS]; rfl
     refine pure_ (i := 14) (N := some 84) (v := undef) (a' := ?_) #[T,T,T,T,T,T,T,T,T,T,T,T,T,T,T,F] rfl rfl (any_of HT_.out (by kernel_rfl)) (fun _ _ _ h => h) (Or.inr ⟨by rfl, rfl⟩) ?_ ?_; rotate_left
     ·simp only [PS]; rfl
     refine pure_ (i := 15) (N := some 85) (v := ?_) (a' := ?_) #[T,T,T,T,T,T,T,T,T,T,T,T,T,T,T,T] rfl rfl (any_of HT_.out (by kernel_rfl)) (fun _ _ _ h => h) (Or.inl ⟨by rfl, ?_⟩) ?_ ?_; rotate_left
     ·intro w'; go_simp; with_reducible rfl
     rotate_left; (focus (simp only [PS]; rfl))
     refine done_ (done_of HT_.out (by kernel_rfl)) ?_
     try go_wp2
     go_meet
     case rel => exact ⟨_, (false), (by first | rfl | (simp; done) | (simp [*]; done)), H', ⟨by have := HJ9.out; first | omega | exact Nat.le_refl _⟩, ⟨by (with_reducible repeat (first | refine blk_drewN ?_ _ | refine blk_drew ?_ | refine blk_alloc ?_ _)); exact BK204.out⟩, ⟨by (with_reducible repeat (first | refine blk_drewN ?_ _ | refine blk_drew ?_ | refine blk_alloc ?_ _)); exact BK205.out⟩, ⟨by (with_reducible repeat (first | refine blk_drewN ?_ _ | refine blk_drew ?_ | refine blk_alloc ?_ _)); exact BK206.out⟩, ⟨by (with_reducible repeat (first | refine blk_drewN ?_ _ | refine blk_drew ?_ | refine blk_alloc ?_ _)); exact BK211.out⟩, ⟨by (with_reducible repeat (first | refine blk_drewN ?_ _ | refine blk_drew ?_ | refine blk_alloc ?_ _)); exact BK216.out⟩, ⟨by (with_reducible repeat (first | refine blk_drewN ?_ _ | refine blk_drew ?_ | refine blk_alloc ?_ _)); exact BK221.out⟩, ⟨by (with_reducible repeat (first | refine blk_drewN ?_ _ | refine blk_drew ?_ | refine blk_alloc ?_ _)); exact BK224.out⟩, ⟨by repeat (first | (with_reducible first | exact HB.out | apply below_alloc | apply pw_below_drewN | apply below_drew1 | refine below_set ?_ GE204.out | refine below_set ?_ GE205.out | refine below_set ?_ GE206.out | refine below_set ?_ GE211.out | refine below_set ?_ GE216.out | refine below_set ?_ GE221.out | refine below_set ?_ GE224.out) | exact HB.out)⟩⟩
    subst c224
    have H1 : ((impl_JoinBox.f kj9 t194 t195 t196 t197 t198 t199 t200 t201).bind fun bt232 => ((impl_JoinBox.f kj9 t198 t199 t200 t201 t194 t195 t196 t197).bind fun bt236 => (if (!(bt232.1 == bt236.1) || (!(bt232.2.1 == bt236.2.1) || (!(bt232.2.2.1 == bt236.2.2.1) || (!(bt232.2.2.2 == bt236.2.2.2))))) = true then (laws_FnBoxes.j1 kj9 true t194 t195 t196 t197 t198 t199 t200 t201 t212 t213 t214 t215) else ((impl_Empty.f t217 t218 t219 t220).bind fun t240 => (laws_FnBoxes.j1 kj9 (!t240) t194 t195 t196 t197 t198 t199 t200 t201 t212 t213 t214 t215))))) = some r := by rw [if_pos rfl] at H; exact H
    clear H
    have H := H1
    clear H1
    replace H := Option.bind_eq_some_iff.mp H
    obtain ⟨⟨t232, t233, t234, t235⟩, A2250, H⟩ := H
    replace H : ((impl_JoinBox.f kj9 t198 t199 t200 t201 t194 t195 t196 t197).bind fun bt236 => (if (!(t232 == bt236.1) || (!(t233 == bt236.2.1) || (!(t234 == bt236.2.2.1) || (!(t235 == bt236.2.2.2))))) = true then (laws_FnBoxes.j1 kj9 true t194 t195 t196 t197 t198 t199 t200 t201 t212 t213 t214 t215) else ((impl_Empty.f t217 t218 t219 t220).bind fun t240 => (laws_FnBoxes.j1 kj9 (!t240) t194 t195 t196 t197 t198 t199 t200 t201 t212 t213 t214 t215)))) = some r := H
    have A225 := Aside0.mk A2250
    clear A2250
    replace H := Option.bind_eq_some_iff.mp H
    obtain ⟨⟨t236, t237, t238, t239⟩, A2260, H⟩ := H
    replace H : (if (!(t232 == t236) || (!(t233 == t237) || (!(t234 == t238) || (!(t235 == t239))))) = true then (laws_FnBoxes.j1 kj9 true t194 t195 t196 t197 t198 t199 t200 t201 t212 t213 t214 t215) else ((impl_Empty.f t217 t218 t219 t220).bind fun t240 => (laws_FnBoxes.j1 kj9 (!t240) t194 t195 t196 t197 t198 t199 t200 t201 t212 t213 t214 t215))) = some r := H
    have A226 := Aside0.mk A2260
    clear A2260
    by_cases c227 : (!(t232 == t236) || (!(t233 == t237) || (!(t234 == t238) || (!(t235 == t239))))) = true
    ·rw [if_pos c227] at H
     exact (laws_FnBoxes.j1_never (by rw [hr_] at H; exact H)).elim
    rw [if_neg c227] at H
    have c227b0 : (!(t232 == t236) || (!(t233 == t237) || (!(t234 == t238) || (!(t235 == t239))))) = false := by simpa using c227
    clear c227
    (first | rw [c227b0] | (simp only [i64_w, i32_w]; rw [c227b0]) | skip)
    replace H := Option.bind_eq_some_iff.mp H
    obtain ⟨t240, A2320, H⟩ := H
    replace H : (laws_FnBoxes.j1 kj9 (!t240) t194 t195 t196 t197 t198 t199 t200 t201 t212 t213 t214 t215) = some r := H
    have A232 := Aside0.mk A2320
    clear A2320
    have H' := Aside0.mk H
    clear H
    try go_wp2
    replace BK204 := Aside0.mk (blk_drew BK204.out)
    replace BK205 := Aside0.mk (blk_drew BK205.out)
    replace BK206 := Aside0.mk (blk_drew BK206.out)
    replace BK211 := Aside0.mk (blk_drew BK211.out)
    replace BK216 := Aside0.mk (blk_drew BK216.out)
    replace BK221 := Aside0.mk (blk_drew BK221.out)
    replace BK224 := Aside0.mk (blk_drew BK224.out)
    replace HB := Aside0.mk (below_drew1 HB.out)
    refine start_ (n := 16) (S := fun w' => w'.cell? ⟨gb204, 0, none⟩ = some (.int .i64 t194) ∧ w'.cell? ⟨gb204, 1, none⟩ = some (.int .i64 t195) ∧ w'.cell? ⟨gb204, 2, none⟩ = some (.int .i64 t196) ∧ w'.cell? ⟨gb204, 3, none⟩ = some (.int .i64 t197) ∧ w'.cell? ⟨gb205, 0, none⟩ = some (.int .i64 t198) ∧ w'.cell? ⟨gb205, 1, none⟩ = some (.int .i64 t199) ∧ w'.cell? ⟨gb205, 2, none⟩ = some (.int .i64 t200) ∧ w'.cell? ⟨gb205, 3, none⟩ = some (.int .i64 t201) ∧ w'.cell? ⟨gb221, 0, none⟩ = some (.int .i64 t217) ∧ w'.cell? ⟨gb221, 1, none⟩ = some (.int .i64 t218) ∧ w'.cell? ⟨gb221, 2, none⟩ = some (.int .i64 t219) ∧ w'.cell? ⟨gb221, 3, none⟩ = some (.int .i64 t220)) (ds := []) #[F,F,F,F,F,F,F,F,F,F,F,F,F,F,F,F] (by kernel_rfl) rfl rfl ⟨(blk_cell BK204.out 0).trans rfl, (blk_cell BK204.out 1).trans rfl, (blk_cell BK204.out 2).trans rfl, (blk_cell BK204.out 3).trans rfl, (blk_cell BK205.out 0).trans rfl, (blk_cell BK205.out 1).trans rfl, (blk_cell BK205.out 2).trans rfl, (blk_cell BK205.out 3).trans rfl, (blk_cell BK221.out 0).trans rfl, (blk_cell BK221.out 1).trans rfl, (blk_cell BK221.out 2).trans rfl, (blk_cell BK221.out 3).trans rfl⟩ (fun hHeld => ?_); refine with_tabW laws_FnBoxes.tab12 laws_FnBoxes.bits12 (fun HT_ HW_ => ?_)
    generalize wc.drew = w233 at BK204 BK205 BK206 BK211 BK216 BK221 BK224 HB hHeld ⊢
    refine take_ (i := 0) (N := some 70) (v := ?_) (a' := ?_) #[T,F,F,F,F,F,F,F,F,F,F,F,F,F,F,F] rfl rfl (take_ofW HT_.out HW_.out (by kernel_rfl)) (fun _ _ _ h => h) (Or.inl ⟨by rfl, ?_⟩) hHeld ?_ ?_; rotate_left
    ·rintro w' ⟨s0, s1, s2, s3, s4, s5, s6, s7, s8, s9, s10, s11⟩; go_simp; with_reducible rfl
    rotate_left; (focus (simp only [PS]; rfl))
    refine one_ (i := 1) (N := some 71) #[T,T,F,F,F,F,F,F,F,F,F,F,F,F,F,F] rfl rfl (one_of HT_.out (by kernel_rfl)) (by decide) (fun K hK => ?_)
    refine goes_ Try.func23 (by kernel_rfl) rfl #[.agg #[.int .i64 t194, .int .i64 t195, .int .i64 t196, .int .i64 t197]] (by rfl) rfl rfl (by (try simp only [List.map_toArray, List.map_cons, List.map_nil]); first | done | rfl | (simp only [List.length_drop, List.length_take]; rfl)) ?_
    with_reducible refine (impl_Empty.calls t194 t195 t196 t197 true _ A223.out).mono ?_
    rintro e w234 ⟨rfl, hb⟩
    refine ⟨_, rfl, ?_⟩
    replace BK204 := Aside0.mk (blk_below BK204.out hb)
    replace BK205 := Aside0.mk (blk_below BK205.out hb)
    replace BK206 := Aside0.mk (blk_below BK206.out hb)
    replace BK211 := Aside0.mk (blk_below BK211.out hb)
    replace BK216 := Aside0.mk (blk_below BK216.out hb)
    replace BK221 := Aside0.mk (blk_below BK221.out hb)
    replace BK224 := Aside0.mk (blk_below BK224.out hb)
    replace HB := Aside0.mk (below_step HB.out hb)
    (try clear hb)
    (try clear hb2)
    (try clear hk)
    (try clear hi)
    refine hK.out _ _ ⟨(blk_cell BK204.out 0).trans rfl, (blk_cell BK204.out 1).trans rfl, (blk_cell BK204.out 2).trans rfl, (blk_cell BK204.out 3).trans rfl, (blk_cell BK205.out 0).trans rfl, (blk_cell BK205.out 1).trans rfl, (blk_cell BK205.out 2).trans rfl, (blk_cell BK205.out 3).trans rfl, (blk_cell BK221.out 0).trans rfl, (blk_cell BK221.out 1).trans rfl, (blk_cell BK221.out 2).trans rfl, (blk_cell BK221.out 3).trans rfl⟩ (fun hHeld => ?_)
    clear hK K
    refine norm_ (a' := ?_) ?_ ?_; rotate_left
    ·show Act.put _ (some 71) _ = _
     simp only [PS]
     rfl
    refine pure_ (i := 2) (N := some 72) (v := ?_) (a' := ?_) #[T,T,T,F,F,F,F,F,F,F,F,F,F,F,F,F] rfl rfl (any_of HT_.out (by kernel_rfl)) (fun _ _ _ h => h) (Or.inl ⟨by rfl, ?_⟩) ?_ ?_; rotate_left
    ·intro w'; go_simp; with_reducible rfl
    rotate_left; (focus (simp only [PS]; rfl))
    refine take_ (i := 3) (N := some 73) (v := ?_) (a' := ?_) #[T,T,T,T,F,F,F,F,F,F,F,F,F,F,F,F] rfl rfl (take_ofW HT_.out HW_.out (by kernel_rfl)) (fun _ _ _ h => h) (Or.inl ⟨by rfl, ?_⟩) hHeld ?_ ?_; rotate_left
    ·rintro w' ⟨s0, s1, s2, s3, s4, s5, s6, s7, s8, s9, s10, s11⟩; go_simp; with_reducible rfl
    rotate_left; (focus (simp only [PS]; rfl))
    refine take_ (i := 4) (N := some 74) (v := ?_) (a' := ?_) #[T,T,T,T,T,F,F,F,F,F,F,F,F,F,F,F] rfl rfl (take_ofW HT_.out HW_.out (by kernel_rfl)) (fun _ _ _ h => h) (Or.inl ⟨by rfl, ?_⟩) hHeld ?_ ?_; rotate_left
    ·rintro w' ⟨s0, s1, s2, s3, s4, s5, s6, s7, s8, s9, s10, s11⟩; go_simp; with_reducible rfl
    rotate_left; (focus (simp only [PS]; rfl))
    refine take_ (i := 6) (N := some 76) (v := ?_) (a' := ?_) #[T,T,T,T,T,F,T,F,F,F,F,F,F,F,F,F] rfl rfl (take_ofW HT_.out HW_.out (by kernel_rfl)) (fun _ _ _ h => h) (Or.inl ⟨by rfl, ?_⟩) hHeld ?_ ?_; rotate_left
    ·rintro w' ⟨s0, s1, s2, s3, s4, s5, s6, s7, s8, s9, s10, s11⟩; go_simp; with_reducible rfl
    rotate_left; (focus (simp only [PS]; rfl))
    refine take_ (i := 7) (N := some 77) (v := ?_) (a' := ?_) #[T,T,T,T,T,F,T,T,F,F,F,F,F,F,F,F] rfl rfl (take_ofW HT_.out HW_.out (by kernel_rfl)) (fun _ _ _ h => h) (Or.inl ⟨by rfl, ?_⟩) hHeld ?_ ?_; rotate_left
    ·rintro w' ⟨s0, s1, s2, s3, s4, s5, s6, s7, s8, s9, s10, s11⟩; go_simp; with_reducible rfl
    rotate_left; (focus (simp only [PS]; rfl))
    refine one_ (i := 5) (N := some 75) #[T,T,T,T,T,T,T,T,F,F,F,F,F,F,F,F] rfl rfl (one_of HT_.out (by kernel_rfl)) (by decide) (fun K hK => ?_)
    refine goes_ Try.func19 (by kernel_rfl) rfl #[.agg #[.int .i64 t194, .int .i64 t195, .int .i64 t196, .int .i64 t197], .agg #[.int .i64 t198, .int .i64 t199, .int .i64 t200, .int .i64 t201]] (by rfl) rfl rfl (by (try simp only [List.map_toArray, List.map_cons, List.map_nil]); first | done | rfl | (simp only [List.length_drop, List.length_take]; rfl)) ?_
    with_reducible refine (impl_JoinBox.calls kj9 t194 t195 t196 t197 t198 t199 t200 t201 t232 t233 t234 t235 _ A225.out).mono ?_
    rintro e w235 ⟨rfl, hb⟩
    refine ⟨_, rfl, ?_⟩
    replace BK204 := Aside0.mk (blk_below BK204.out hb)
    replace BK205 := Aside0.mk (blk_below BK205.out hb)
    replace BK206 := Aside0.mk (blk_below BK206.out hb)
    replace BK211 := Aside0.mk (blk_below BK211.out hb)
    replace BK216 := Aside0.mk (blk_below BK216.out hb)
    replace BK221 := Aside0.mk (blk_below BK221.out hb)
    replace BK224 := Aside0.mk (blk_below BK224.out hb)
    replace HB := Aside0.mk (below_step HB.out hb)
    (try clear hb)
    (try clear hb2)
    (try clear hk)
    (try clear hi)
    refine hK.out _ _ ⟨(blk_cell BK204.out 0).trans rfl, (blk_cell BK204.out 1).trans rfl, (blk_cell BK204.out 2).trans rfl, (blk_cell BK204.out 3).trans rfl, (blk_cell BK205.out 0).trans rfl, (blk_cell BK205.out 1).trans rfl, (blk_cell BK205.out 2).trans rfl, (blk_cell BK205.out 3).trans rfl, (blk_cell BK221.out 0).trans rfl, (blk_cell BK221.out 1).trans rfl, (blk_cell BK221.out 2).trans rfl, (blk_cell BK221.out 3).trans rfl⟩ (fun hHeld => ?_)
    clear hK K
    refine norm_ (a' := ?_) ?_ ?_; rotate_left
    ·show Act.put _ (some 75) _ = _
     simp only [PS]
     rfl
    refine one_ (i := 8) (N := some 78) #[T,T,T,T,T,T,T,T,T,F,F,F,F,F,F,F] rfl rfl (one_of HT_.out (by kernel_rfl)) (by decide) (fun K hK => ?_)
    refine goes_ Try.func19 (by kernel_rfl) rfl #[.agg #[.int .i64 t198, .int .i64 t199, .int .i64 t200, .int .i64 t201], .agg #[.int .i64 t194, .int .i64 t195, .int .i64 t196, .int .i64 t197]] (by rfl) rfl rfl (by (try simp only [List.map_toArray, List.map_cons, List.map_nil]); first | done | rfl | (simp only [List.length_drop, List.length_take]; rfl)) ?_
    with_reducible refine (impl_JoinBox.calls kj9 t198 t199 t200 t201 t194 t195 t196 t197 t236 t237 t238 t239 _ A226.out).mono ?_
    rintro e w236 ⟨rfl, hb⟩
    refine ⟨_, rfl, ?_⟩
    replace BK204 := Aside0.mk (blk_below BK204.out hb)
    replace BK205 := Aside0.mk (blk_below BK205.out hb)
    replace BK206 := Aside0.mk (blk_below BK206.out hb)
    replace BK211 := Aside0.mk (blk_below BK211.out hb)
    replace BK216 := Aside0.mk (blk_below BK216.out hb)
    replace BK221 := Aside0.mk (blk_below BK221.out hb)
    replace BK224 := Aside0.mk (blk_below BK224.out hb)
    replace HB := Aside0.mk (below_step HB.out hb)
    (try clear hb)
    (try clear hb2)
    (try clear hk)
    (try clear hi)
    refine hK.out _ _ ⟨(blk_cell BK204.out 0).trans rfl, (blk_cell BK204.out 1).trans rfl, (blk_cell BK204.out 2).trans rfl, (blk_cell BK204.out 3).trans rfl, (blk_cell BK205.out 0).trans rfl, (blk_cell BK205.out 1).trans rfl, (blk_cell BK205.out 2).trans rfl, (blk_cell BK205.out 3).trans rfl, (blk_cell BK221.out 0).trans rfl, (blk_cell BK221.out 1).trans rfl, (blk_cell BK221.out 2).trans rfl, (blk_cell BK221.out 3).trans rfl⟩ (fun hHeld => ?_)
    clear hK K
    refine norm_ (a' := ?_) ?_ ?_; rotate_left
    ·show Act.put _ (some 78) _ = _
     simp only [PS]
     rfl
    refine pure_ (i := 9) (N := some 79) (v := ?_) (a' := ?_) #[T,T,T,T,T,T,T,T,T,T,F,F,F,F,F,F] rfl rfl (any_of HT_.out (by kernel_rfl)) (fun _ _ _ h => h) (Or.inl ⟨by rfl, ?_⟩) ?_ ?_; rotate_left
    ·intro w'; go_simp; with_reducible rfl
    rotate_left; (focus (simp only [PS]; rfl))
    refine pure_ (i := 10) (N := some 80) (v := ?_) (a' := ?_) #[T,T,T,T,T,T,T,T,T,T,T,F,F,F,F,F] rfl rfl (any_of HT_.out (by kernel_rfl)) (fun _ _ _ h => h) (Or.inl ⟨by rfl, ?_⟩) ?_ ?_; rotate_left
    ·intro w'; go_simp; with_reducible rfl
    rotate_left; (focus (simp only [PS]; rfl))
    refine take_ (i := 11) (N := some 81) (v := ?_) (a' := ?_) #[T,T,T,T,T,T,T,T,T,T,T,T,F,F,F,F] rfl rfl (take_ofW HT_.out HW_.out (by kernel_rfl)) (fun _ _ _ h => h) (Or.inl ⟨by rfl, ?_⟩) hHeld ?_ ?_; rotate_left
    ·rintro w' ⟨s0, s1, s2, s3, s4, s5, s6, s7, s8, s9, s10, s11⟩; go_simp; with_reducible rfl
    rotate_left; (focus (simp only [PS]; rfl))
    refine one_ (i := 12) (N := some 82) #[T,T,T,T,T,T,T,T,T,T,T,T,T,F,F,F] rfl rfl (one_of HT_.out (by kernel_rfl)) (by decide) (fun K hK => ?_)
    refine goes_ Try.func23 (by kernel_rfl) rfl #[.agg #[.int .i64 t217, .int .i64 t218, .int .i64 t219, .int .i64 t220]] (by rfl) rfl rfl (by (try simp only [List.map_toArray, List.map_cons, List.map_nil]); first | done | rfl | (simp only [List.length_drop, List.length_take]; rfl)) ?_
    with_reducible refine (impl_Empty.calls t217 t218 t219 t220 t240 _ A232.out).mono ?_
    rintro e w237 ⟨rfl, hb⟩
    refine ⟨_, rfl, ?_⟩
    replace BK204 := Aside0.mk (blk_below BK204.out hb)
    replace BK205 := Aside0.mk (blk_below BK205.out hb)
    replace BK206 := Aside0.mk (blk_below BK206.out hb)
    replace BK211 := Aside0.mk (blk_below BK211.out hb)
    replace BK216 := Aside0.mk (blk_below BK216.out hb)
    replace BK221 := Aside0.mk (blk_below BK221.out hb)
    replace BK224 := Aside0.mk (blk_below BK224.out hb)
    replace HB := Aside0.mk (below_step HB.out hb)
    (try clear hb)
    (try clear hb2)
    (try clear hk)
    (try clear hi)
    refine hK.out _ _ ⟨(blk_cell BK204.out 0).trans rfl, (blk_cell BK204.out 1).trans rfl, (blk_cell BK204.out 2).trans rfl, (blk_cell BK204.out 3).trans rfl, (blk_cell BK205.out 0).trans rfl, (blk_cell BK205.out 1).trans rfl, (blk_cell BK205.out 2).trans rfl, (blk_cell BK205.out 3).trans rfl, (blk_cell BK221.out 0).trans rfl, (blk_cell BK221.out 1).trans rfl, (blk_cell BK221.out 2).trans rfl, (blk_cell BK221.out 3).trans rfl⟩ (fun hHeld => ?_)
    clear hK K
    refine norm_ (a' := ?_) ?_ ?_; rotate_left
    ·show Act.put _ (some 82) _ = _
     simp only [PS]
     rfl
    refine pure_ (i := 13) (N := some 83) (v := ?_) (a' := ?_) #[T,T,T,T,T,T,T,T,T,T,T,T,T,T,F,F] rfl rfl (any_of HT_.out (by kernel_rfl)) (fun _ _ _ h => h) (Or.inl ⟨by rfl, ?_⟩) ?_ ?_; rotate_left
    ·intro w'; go_simp; with_reducible rfl
    rotate_left; (focus (simp only [PS]; rfl))
    refine pure_ (i := 14) (N := some 84) (v := ?_) (a' := ?_) #[T,T,T,T,T,T,T,T,T,T,T,T,T,T,T,F] rfl rfl (any_of HT_.out (by kernel_rfl)) (fun _ _ _ h => h) (Or.inl ⟨by rfl, ?_⟩) ?_ ?_; rotate_left
    ·intro w'; go_simp; with_reducible rfl
    rotate_left; (focus (simp only [PS]; rfl))
    refine pure_ (i := 15) (N := some 85) (v := ?_) (a' := ?_) #[T,T,T,T,T,T,T,T,T,T,T,T,T,T,T,T] rfl rfl (any_of HT_.out (by kernel_rfl)) (fun _ _ _ h => h) (Or.inl ⟨by rfl, ?_⟩) ?_ ?_; rotate_left
    ·intro w'; go_simp; with_reducible rfl
    rotate_left; (focus (simp only [PS]; rfl))
    refine done_ (done_of HT_.out (by kernel_rfl)) ?_
    try go_wp2
    go_meet
    case rel => exact ⟨_, (!t240), (by first | rfl | (simp; done) | (simp [*]; done)), H', ⟨by have := HJ9.out; first | omega | exact Nat.le_refl _⟩, ⟨by (with_reducible repeat (first | refine blk_drewN ?_ _ | refine blk_drew ?_ | refine blk_alloc ?_ _)); exact BK204.out⟩, ⟨by (with_reducible repeat (first | refine blk_drewN ?_ _ | refine blk_drew ?_ | refine blk_alloc ?_ _)); exact BK205.out⟩, ⟨by (with_reducible repeat (first | refine blk_drewN ?_ _ | refine blk_drew ?_ | refine blk_alloc ?_ _)); exact BK206.out⟩, ⟨by (with_reducible repeat (first | refine blk_drewN ?_ _ | refine blk_drew ?_ | refine blk_alloc ?_ _)); exact BK211.out⟩, ⟨by (with_reducible repeat (first | refine blk_drewN ?_ _ | refine blk_drew ?_ | refine blk_alloc ?_ _)); exact BK216.out⟩, ⟨by (with_reducible repeat (first | refine blk_drewN ?_ _ | refine blk_drew ?_ | refine blk_alloc ?_ _)); exact BK221.out⟩, ⟨by (with_reducible repeat (first | refine blk_drewN ?_ _ | refine blk_drew ?_ | refine blk_alloc ?_ _)); exact BK224.out⟩, ⟨by repeat (first | (with_reducible first | exact HB.out | apply below_alloc | apply pw_below_drewN | apply below_drew1 | refine below_set ?_ GE204.out | refine below_set ?_ GE205.out | refine below_set ?_ GE206.out | refine below_set ?_ GE211.out | refine below_set ?_ GE216.out | refine below_set ?_ GE221.out | refine below_set ?_ GE224.out) | exact HB.out)⟩⟩
   case rest =>
    clear HC222
    try clear c1
    try clear c2
    try clear p2
    try clear p6
    try clear c19
    try clear c22
    try clear c23
    try clear p64
    try clear c224
    try clear c227
    try clear c227b0
    obtain ⟨kq, x85_221, rfl, HA, HJ221, BK204, BK205, BK206, BK211, BK216, BK221, BK224, HB⟩ := hcut
    cases kq with
    | zero => exact absurd HA.out (by simp [laws_FnBoxes.j1])
    | succ kj221 =>
     have H := HA.out
     clear HA
     simp only [laws_FnBoxes.j1] at H
     by_cases c240 : x85_221 = true
     ·subst c240
      have H1 : (some false) = some r := by rw [if_pos rfl] at H; exact H
      clear H
      have H := H1
      clear H1
      obtain rfl := Option.some.inj H
      exact absurd hr_ (by decide)
     replace c240 := Bool.eq_false_iff.mpr c240
     subst c240
     have H1 : ((impl_JoinBox.f kj221 t194 t195 t196 t197 t198 t199 t200 t201).bind fun bt241 => ((impl_JoinBox.f kj221 t198 t199 t200 t201 t194 t195 t196 t197).bind fun bt245 => (if (bt241.1 == bt245.1 && (bt241.2.1 == bt245.2.1 && (bt241.2.2.1 == bt245.2.2.1 && (bt241.2.2.2 == bt245.2.2.2)))) = true then ((impl_MeetBox.f t194 t195 t196 t197 t198 t199 t200 t201).bind fun bt249 => ((impl_MeetBox.f t198 t199 t200 t201 t194 t195 t196 t197).bind fun bt253 => (if (bt249.1 == bt253.1 && (bt249.2.1 == bt253.2.1 && (bt249.2.2.1 == bt253.2.2.1 && (bt249.2.2.2 == bt253.2.2.2)))) = true then ((impl_Empty.f t194 t195 t196 t197).bind fun t257 => (if t194 ≥ t196 then (if (t257 == true) = true then ((impl_Empty.f t212 t213 t214 t215).bind fun t258 => (if t258 = true then (some true) else ((impl_JoinBox.f kj221 t212 t213 t214 t215 t194 t195 t196 t197).bind fun bt259 => (some (bt259.1 == t194 && (bt259.2.1 == t195 && (bt259.2.2.1 == t196 && (bt259.2.2.2 == t197)))))))) else (some false)) else (if (t257 == (decide (t195 ≥ t197))) = true then ((impl_Empty.f t212 t213 t214 t215).bind fun t263 => (if t263 = true then (some true) else ((impl_JoinBox.f kj221 t212 t213 t214 t215 t194 t195 t196 t197).bind fun bt264 => (some (bt264.1 == t194 && (bt264.2.1 == t195 && (bt264.2.2.1 == t196 && (bt264.2.2.2 == t197)))))))) else (some false)))) else (some false)))) else (some false)))) = some r := by rw [if_neg (show ¬ (false = true) by decide)] at H; exact H
     clear H
     have H := H1
     clear H1
     replace H := Option.bind_eq_some_iff.mp H
     obtain ⟨⟨t241, t242, t243, t244⟩, A2410, H⟩ := H
     replace H : ((impl_JoinBox.f kj221 t198 t199 t200 t201 t194 t195 t196 t197).bind fun bt245 => (if (t241 == bt245.1 && (t242 == bt245.2.1 && (t243 == bt245.2.2.1 && (t244 == bt245.2.2.2)))) = true then ((impl_MeetBox.f t194 t195 t196 t197 t198 t199 t200 t201).bind fun bt249 => ((impl_MeetBox.f t198 t199 t200 t201 t194 t195 t196 t197).bind fun bt253 => (if (bt249.1 == bt253.1 && (bt249.2.1 == bt253.2.1 && (bt249.2.2.1 == bt253.2.2.1 && (bt249.2.2.2 == bt253.2.2.2)))) = true then ((impl_Empty.f t194 t195 t196 t197).bind fun t257 => (if t194 ≥ t196 then (if (t257 == true) = true then ((impl_Empty.f t212 t213 t214 t215).bind fun t258 => (if t258 = true then (some true) else ((impl_JoinBox.f kj221 t212 t213 t214 t215 t194 t195 t196 t197).bind fun bt259 => (some (bt259.1 == t194 && (bt259.2.1 == t195 && (bt259.2.2.1 == t196 && (bt259.2.2.2 == t197)))))))) else (some false)) else (if (t257 == (decide (t195 ≥ t197))) = true then ((impl_Empty.f t212 t213 t214 t215).bind fun t263 => (if t263 = true then (some true) else ((impl_JoinBox.f kj221 t212 t213 t214 t215 t194 t195 t196 t197).bind fun bt264 => (some (bt264.1 == t194 && (bt264.2.1 == t195 && (bt264.2.2.1 == t196 && (bt264.2.2.2 == t197)))))))) else (some false)))) else (some false)))) else (some false))) = some r := H
     have A241 := Aside0.mk A2410
     clear A2410
     replace H := Option.bind_eq_some_iff.mp H
     obtain ⟨⟨t245, t246, t247, t248⟩, A2420, H⟩ := H
     replace H : (if (t241 == t245 && (t242 == t246 && (t243 == t247 && (t244 == t248)))) = true then ((impl_MeetBox.f t194 t195 t196 t197 t198 t199 t200 t201).bind fun bt249 => ((impl_MeetBox.f t198 t199 t200 t201 t194 t195 t196 t197).bind fun bt253 => (if (bt249.1 == bt253.1 && (bt249.2.1 == bt253.2.1 && (bt249.2.2.1 == bt253.2.2.1 && (bt249.2.2.2 == bt253.2.2.2)))) = true then ((impl_Empty.f t194 t195 t196 t197).bind fun t257 => (if t194 ≥ t196 then (if (t257 == true) = true then ((impl_Empty.f t212 t213 t214 t215).bind fun t258 => (if t258 = true then (some true) else ((impl_JoinBox.f kj221 t212 t213 t214 t215 t194 t195 t196 t197).bind fun bt259 => (some (bt259.1 == t194 && (bt259.2.1 == t195 && (bt259.2.2.1 == t196 && (bt259.2.2.2 == t197)))))))) else (some false)) else (if (t257 == (decide (t195 ≥ t197))) = true then ((impl_Empty.f t212 t213 t214 t215).bind fun t263 => (if t263 = true then (some true) else ((impl_JoinBox.f kj221 t212 t213 t214 t215 t194 t195 t196 t197).bind fun bt264 => (some (bt264.1 == t194 && (bt264.2.1 == t195 && (bt264.2.2.1 == t196 && (bt264.2.2.2 == t197)))))))) else (some false)))) else (some false)))) else (some false)) = some r := H
     have A242 := Aside0.mk A2420
     clear A2420
     by_cases c243 : (t241 == t245 && (t242 == t246 && (t243 == t247 && (t244 == t248)))) = true
     rotate_left
     ·rw [if_neg c243] at H
      have c243b0 : (t241 == t245 && (t242 == t246 && (t243 == t247 && (t244 == t248)))) = false := by simpa using c243
      (try (have c243b1 : decide (t241 = t245 && (t242 == t246 && (t243 == t247 && (t244 == t248)))) = false := by simpa using c243))
      (try (have c243b2 : (t241 == t245 && (t242 == t246 && (t243 == t247 && (t244 == t248)))) = false := by simpa using c243))
      (try (have c243b3 : ¬ (t241 = t245 && (t242 == t246 && (t243 == t247 && (t244 == t248)))) := by simpa using c243))
      clear c243
      obtain rfl := Option.some.inj H
      exact absurd hr_ (by decide)
     rw [if_pos c243] at H
     have c243b0 : (t241 == t245 && (t242 == t246 && (t243 == t247 && (t244 == t248)))) = true := c243
     (try (have c243b1 : decide (t241 = t245 && (t242 == t246 && (t243 == t247 && (t244 == t248)))) = true := by simpa using c243))
     (try (have c243b2 : (t241 == t245 && (t242 == t246 && (t243 == t247 && (t244 == t248)))) = true := by simpa using c243))
     clear c243
     replace H := Option.bind_eq_some_iff.mp H
     obtain ⟨⟨t249, t250, t251, t252⟩, A2440, H⟩ := H
     replace H : ((impl_MeetBox.f t198 t199 t200 t201 t194 t195 t196 t197).bind fun bt253 => (if (t249 == bt253.1 && (t250 == bt253.2.1 && (t251 == bt253.2.2.1 && (t252 == bt253.2.2.2)))) = true then ((impl_Empty.f t194 t195 t196 t197).bind fun t257 => (if t194 ≥ t196 then (if (t257 == true) = true then ((impl_Empty.f t212 t213 t214 t215).bind fun t258 => (if t258 = true then (some true) else ((impl_JoinBox.f kj221 t212 t213 t214 t215 t194 t195 t196 t197).bind fun bt259 => (some (bt259.1 == t194 && (bt259.2.1 == t195 && (bt259.2.2.1 == t196 && (bt259.2.2.2 == t197)))))))) else (some false)) else (if (t257 == (decide (t195 ≥ t197))) = true then ((impl_Empty.f t212 t213 t214 t215).bind fun t263 => (if t263 = true then (some true) else ((impl_JoinBox.f kj221 t212 t213 t214 t215 t194 t195 t196 t197).bind fun bt264 => (some (bt264.1 == t194 && (bt264.2.1 == t195 && (bt264.2.2.1 == t196 && (bt264.2.2.2 == t197)))))))) else (some false)))) else (some false))) = some r := H
     have A244 := Aside0.mk A2440
     clear A2440
     replace H := Option.bind_eq_some_iff.mp H
     obtain ⟨⟨t253, t254, t255, t256⟩, A2450, H⟩ := H
     replace H : (if (t249 == t253 && (t250 == t254 && (t251 == t255 && (t252 == t256)))) = true then ((impl_Empty.f t194 t195 t196 t197).bind fun t257 => (if t194 ≥ t196 then (if (t257 == true) = true then ((impl_Empty.f t212 t213 t214 t215).bind fun t258 => (if t258 = true then (some true) else ((impl_JoinBox.f kj221 t212 t213 t214 t215 t194 t195 t196 t197).bind fun bt259 => (some (bt259.1 == t194 && (bt259.2.1 == t195 && (bt259.2.2.1 == t196 && (bt259.2.2.2 == t197)))))))) else (some false)) else (if (t257 == (decide (t195 ≥ t197))) = true then ((impl_Empty.f t212 t213 t214 t215).bind fun t263 => (if t263 = true then (some true) else ((impl_JoinBox.f kj221 t212 t213 t214 t215 t194 t195 t196 t197).bind fun bt264 => (some (bt264.1 == t194 && (bt264.2.1 == t195 && (bt264.2.2.1 == t196 && (bt264.2.2.2 == t197)))))))) else (some false)))) else (some false)) = some r := H
     have A245 := Aside0.mk A2450
     clear A2450
     by_cases c246 : (t249 == t253 && (t250 == t254 && (t251 == t255 && (t252 == t256)))) = true
     rotate_left
     ·rw [if_neg c246] at H
      have c246b0 : (t249 == t253 && (t250 == t254 && (t251 == t255 && (t252 == t256)))) = false := by simpa using c246
      (try (have c246b1 : decide (t249 = t253 && (t250 == t254 && (t251 == t255 && (t252 == t256)))) = false := by simpa using c246))
      (try (have c246b2 : (t249 == t253 && (t250 == t254 && (t251 == t255 && (t252 == t256)))) = false := by simpa using c246))
      (try (have c246b3 : ¬ (t249 = t253 && (t250 == t254 && (t251 == t255 && (t252 == t256)))) := by simpa using c246))
      clear c246
      obtain rfl := Option.some.inj H
      exact absurd hr_ (by decide)
     rw [if_pos c246] at H
     have c246b0 : (t249 == t253 && (t250 == t254 && (t251 == t255 && (t252 == t256)))) = true := c246
     (try (have c246b1 : decide (t249 = t253 && (t250 == t254 && (t251 == t255 && (t252 == t256)))) = true := by simpa using c246))
     (try (have c246b2 : (t249 == t253 && (t250 == t254 && (t251 == t255 && (t252 == t256)))) = true := by simpa using c246))
     clear c246
     replace H := Option.bind_eq_some_iff.mp H
     obtain ⟨t257, A2470, H⟩ := H
     replace H : (if t194 ≥ t196 then (if (t257 == true) = true then ((impl_Empty.f t212 t213 t214 t215).bind fun t258 => (if t258 = true then (some true) else ((impl_JoinBox.f kj221 t212 t213 t214 t215 t194 t195 t196 t197).bind fun bt259 => (some (bt259.1 == t194 && (bt259.2.1 == t195 && (bt259.2.2.1 == t196 && (bt259.2.2.2 == t197)))))))) else (some false)) else (if (t257 == (decide (t195 ≥ t197))) = true then ((impl_Empty.f t212 t213 t214 t215).bind fun t263 => (if t263 = true then (some true) else ((impl_JoinBox.f kj221 t212 t213 t214 t215 t194 t195 t196 t197).bind fun bt264 => (some (bt264.1 == t194 && (bt264.2.1 == t195 && (bt264.2.2.1 == t196 && (bt264.2.2.2 == t197)))))))) else (some false))) = some r := H
     have A247 := Aside0.mk A2470
     clear A2470
     by_cases c248 : t194 ≥ t196
     ·rw [if_pos c248] at H
      have c248b0 : decide (t196 ≤ t194) = true := decide_eq_true c248
      clear c248
      by_cases c249 : (t257 == true) = true
      rotate_left
      ·rw [if_neg c249] at H
       have c249b0 : (t257 == true) = false := by simpa using c249
       (try (have c249b1 : decide (t257 = true) = false := by simpa using c249))
       (try (have c249b2 : (t257 == true) = false := by simpa using c249))
       (try (have c249b3 : ¬ (t257 = true) := by simpa using c249))
       clear c249
       obtain rfl := Option.some.inj H
       exact absurd hr_ (by decide)
      rw [if_pos c249] at H
      have c249b0 : (t257 == true) = true := c249
      (try (have c249b1 : decide (t257 = true) = true := by simpa using c249))
      (try (have c249b2 : (t257 == true) = true := by simpa using c249))
      clear c249
      replace H := Option.bind_eq_some_iff.mp H
      obtain ⟨t258, A2500, H⟩ := H
      replace H : (if t258 = true then (some true) else ((impl_JoinBox.f kj221 t212 t213 t214 t215 t194 t195 t196 t197).bind fun bt259 => (some (bt259.1 == t194 && (bt259.2.1 == t195 && (bt259.2.2.1 == t196 && (bt259.2.2.2 == t197))))))) = some r := H
      have A250 := Aside0.mk A2500
      clear A2500
      by_cases c251 : t258 = true
      ·subst c251
       have H1 : (some true) = some r := by rw [if_pos rfl] at H; exact H
       clear H
       have H := H1
       clear H1
       obtain rfl := Option.some.inj H
       try go_wp2
       replace BK204 := Aside0.mk (blk_drew BK204.out)
       replace BK205 := Aside0.mk (blk_drew BK205.out)
       replace BK206 := Aside0.mk (blk_drew BK206.out)
       replace BK211 := Aside0.mk (blk_drew BK211.out)
       replace BK216 := Aside0.mk (blk_drew BK216.out)
       replace BK221 := Aside0.mk (blk_drew BK221.out)
       replace BK224 := Aside0.mk (blk_drew BK224.out)
       replace HB := Aside0.mk (below_drew1 HB.out)
       refine start_ (n := 45) (S := fun w' => w'.cell? ⟨gb204, 0, none⟩ = some (.int .i64 t194) ∧ w'.cell? ⟨gb204, 1, none⟩ = some (.int .i64 t195) ∧ w'.cell? ⟨gb204, 2, none⟩ = some (.int .i64 t196) ∧ w'.cell? ⟨gb204, 3, none⟩ = some (.int .i64 t197) ∧ w'.cell? ⟨gb205, 0, none⟩ = some (.int .i64 t198) ∧ w'.cell? ⟨gb205, 1, none⟩ = some (.int .i64 t199) ∧ w'.cell? ⟨gb205, 2, none⟩ = some (.int .i64 t200) ∧ w'.cell? ⟨gb205, 3, none⟩ = some (.int .i64 t201) ∧ w'.cell? ⟨gb216, 0, none⟩ = some (.int .i64 t212) ∧ w'.cell? ⟨gb216, 1, none⟩ = some (.int .i64 t213) ∧ w'.cell? ⟨gb216, 2, none⟩ = some (.int .i64 t214) ∧ w'.cell? ⟨gb216, 3, none⟩ = some (.int .i64 t215)) (ds := []) #[F,F,F,F,F,F,F,F,F,F,F,F,F,F,F,F,F,F,F,F,F,F,F,F,F,F,F,F,F,F,F,F,F,F,F,F,F,F,F,F,F,F,F,F,F] (by kernel_rfl) rfl rfl ⟨(blk_cell BK204.out 0).trans rfl, (blk_cell BK204.out 1).trans rfl, (blk_cell BK204.out 2).trans rfl, (blk_cell BK204.out 3).trans rfl, (blk_cell BK205.out 0).trans rfl, (blk_cell BK205.out 1).trans rfl, (blk_cell BK205.out 2).trans rfl, (blk_cell BK205.out 3).trans rfl, (blk_cell BK216.out 0).trans rfl, (blk_cell BK216.out 1).trans rfl, (blk_cell BK216.out 2).trans rfl, (blk_cell BK216.out 3).trans rfl⟩ (fun hHeld => ?_); refine with_tabW laws_FnBoxes.tab14 laws_FnBoxes.bits14 (fun HT_ HW_ => ?_)
       generalize wc.drew = w252 at BK204 BK205 BK206 BK211 BK216 BK221 BK224 HB hHeld ⊢
       refine take_ (i := 0) (N := some 86) (v := ?_) (a' := ?_) #[T,F,F,F,F,F,F,F,F,F,F,F,F,F,F,F,F,F,F,F,F,F,F,F,F,F,F,F,F,F,F,F,F,F,F,F,F,F,F,F,F,F,F,F,F] rfl rfl (take_ofW HT_.out HW_.out (by kernel_rfl)) (fun _ _ _ h => h) (Or.inl ⟨by rfl, ?_⟩) hHeld ?_ ?_; rotate_left
       ·rintro w' ⟨s0, s1, s2, s3, s4, s5, s6, s7, s8, s9, s10, s11⟩; go_simp; with_reducible rfl
       rotate_left; (focus (simp only [PS]; rfl))
       refine take_ (i := 1) (N := some 87) (v := ?_) (a' := ?_) #[T,T,F,F,F,F,F,F,F,F,F,F,F,F,F,F,F,F,F,F,F,F,F,F,F,F,F,F,F,F,F,F,F,F,F,F,F,F,F,F,F,F,F,F,F] rfl rfl (take_ofW HT_.out HW_.out (by kernel_rfl)) (fun _ _ _ h => h) (Or.inl ⟨by rfl, ?_⟩) hHeld ?_ ?_; rotate_left
       ·rintro w' ⟨s0, s1, s2, s3, s4, s5, s6, s7, s8, s9, s10, s11⟩; go_simp; with_reducible rfl
       rotate_left; (focus (simp only [PS]; rfl))
       refine take_ (i := 3) (N := some 89) (v := ?_) (a' := ?_) #[T,T,F,T,F,F,F,F,F,F,F,F,F,F,F,F,F,F,F,F,F,F,F,F,F,F,F,F,F,F,F,F,F,F,F,F,F,F,F,F,F,F,F,F,F] rfl rfl (take_ofW HT_.out HW_.out (by kernel_rfl)) (fun _ _ _ h => h) (Or.inl ⟨by rfl, ?_⟩) hHeld ?_ ?_; rotate_left
       ·rintro w' ⟨s0, s1, s2, s3, s4, s5, s6, s7, s8, s9, s10, s11⟩; go_simp; with_reducible rfl
       rotate_left; (focus (simp only [PS]; rfl))
       refine take_ (i := 4) (N := some 90) (v := ?_) (a' := ?_) #[T,T,F,T,T,F,F,F,F,F,F,F,F,F,F,F,F,F,F,F,F,F,F,F,F,F,F,F,F,F,F,F,F,F,F,F,F,F,F,F,F,F,F,F,F] rfl rfl (take_ofW HT_.out HW_.out (by kernel_rfl)) (fun _ _ _ h => h) (Or.inl ⟨by rfl, ?_⟩) hHeld ?_ ?_; rotate_left
       ·rintro w' ⟨s0, s1, s2, s3, s4, s5, s6, s7, s8, s9, s10, s11⟩; go_simp; with_reducible rfl
       rotate_left; (focus (simp only [PS]; rfl))
       refine one_ (i := 2) (N := some 88) #[T,T,T,T,T,F,F,F,F,F,F,F,F,F,F,F,F,F,F,F,F,F,F,F,F,F,F,F,F,F,F,F,F,F,F,F,F,F,F,F,F,F,F,F,F] rfl rfl (one_of HT_.out (by kernel_rfl)) (by decide) (fun K hK => ?_)
       refine goes_ Try.func19 (by kernel_rfl) rfl #[.agg #[.int .i64 t194, .int .i64 t195, .int .i64 t196, .int .i64 t197], .agg #[.int .i64 t198, .int .i64 t199, .int .i64 t200, .int .i64 t201]] (by rfl) rfl rfl (by (try simp only [List.map_toArray, List.map_cons, List.map_nil]); first | done | rfl | (simp only [List.length_drop, List.length_take]; rfl)) ?_
       with_reducible refine (impl_JoinBox.calls kj221 t194 t195 t196 t197 t198 t199 t200 t201 t241 t242 t243 t244 _ A241.out).mono ?_
       rintro e w253 ⟨rfl, hb⟩
       refine ⟨_, rfl, ?_⟩
       replace BK204 := Aside0.mk (blk_below BK204.out hb)
       replace BK205 := Aside0.mk (blk_below BK205.out hb)
       replace BK206 := Aside0.mk (blk_below BK206.out hb)
       replace BK211 := Aside0.mk (blk_below BK211.out hb)
       replace BK216 := Aside0.mk (blk_below BK216.out hb)
       replace BK221 := Aside0.mk (blk_below BK221.out hb)
       replace BK224 := Aside0.mk (blk_below BK224.out hb)
       replace HB := Aside0.mk (below_step HB.out hb)
       (try clear hb)
       (try clear hb2)
       (try clear hk)
       (try clear hi)
       refine hK.out _ _ ⟨(blk_cell BK204.out 0).trans rfl, (blk_cell BK204.out 1).trans rfl, (blk_cell BK204.out 2).trans rfl, (blk_cell BK204.out 3).trans rfl, (blk_cell BK205.out 0).trans rfl, (blk_cell BK205.out 1).trans rfl, (blk_cell BK205.out 2).trans rfl, (blk_cell BK205.out 3).trans rfl, (blk_cell BK216.out 0).trans rfl, (blk_cell BK216.out 1).trans rfl, (blk_cell BK216.out 2).trans rfl, (blk_cell BK216.out 3).trans rfl⟩ (fun hHeld => ?_)
       clear hK K
       refine norm_ (a' := ?_) ?_ ?_; rotate_left
       ·show Act.put _ (some 88) _ = _
        simp only [PS]
        rfl
       refine one_ (i := 5) (N := some 91) #[T,T,T,T,T,T,F,F,F,F,F,F,F,F,F,F,F,F,F,F,F,F,F,F,F,F,F,F,F,F,F,F,F,F,F,F,F,F,F,F,F,F,F,F,F] rfl rfl (one_of HT_.out (by kernel_rfl)) (by decide) (fun K hK => ?_)
       refine goes_ Try.func19 (by kernel_rfl) rfl #[.agg #[.int .i64 t198, .int .i64 t199, .int .i64 t200, .int .i64 t201], .agg #[.int .i64 t194, .int .i64 t195, .int .i64 t196, .int .i64 t197]] (by rfl) rfl rfl (by (try simp only [List.map_toArray, List.map_cons, List.map_nil]); first | done | rfl | (simp only [List.length_drop, List.length_take]; rfl)) ?_
       with_reducible refine (impl_JoinBox.calls kj221 t198 t199 t200 t201 t194 t195 t196 t197 t245 t246 t247 t248 _ A242.out).mono ?_
       rintro e w254 ⟨rfl, hb⟩
       refine ⟨_, rfl, ?_⟩
       replace BK204 := Aside0.mk (blk_below BK204.out hb)
       replace BK205 := Aside0.mk (blk_below BK205.out hb)
       replace BK206 := Aside0.mk (blk_below BK206.out hb)
       replace BK211 := Aside0.mk (blk_below BK211.out hb)
       replace BK216 := Aside0.mk (blk_below BK216.out hb)
       replace BK221 := Aside0.mk (blk_below BK221.out hb)
       replace BK224 := Aside0.mk (blk_below BK224.out hb)
       replace HB := Aside0.mk (below_step HB.out hb)
       (try clear hb)
       (try clear hb2)
       (try clear hk)
       (try clear hi)
       refine hK.out _ _ ⟨(blk_cell BK204.out 0).trans rfl, (blk_cell BK204.out 1).trans rfl, (blk_cell BK204.out 2).trans rfl, (blk_cell BK204.out 3).trans rfl, (blk_cell BK205.out 0).trans rfl, (blk_cell BK205.out 1).trans rfl, (blk_cell BK205.out 2).trans rfl, (blk_cell BK205.out 3).trans rfl, (blk_cell BK216.out 0).trans rfl, (blk_cell BK216.out 1).trans rfl, (blk_cell BK216.out 2).trans rfl, (blk_cell BK216.out 3).trans rfl⟩ (fun hHeld => ?_)
       clear hK K
       refine norm_ (a' := ?_) ?_ ?_; rotate_left
       ·show Act.put _ (some 91) _ = _
        simp only [PS]
        rfl
       refine pure_ (i := 6) (N := some 92) (v := ?_) (a' := ?_) #[T,T,T,T,T,T,T,F,F,F,F,F,F,F,F,F,F,F,F,F,F,F,F,F,F,F,F,F,F,F,F,F,F,F,F,F,F,F,F,F,F,F,F,F,F] rfl rfl (any_of HT_.out (by kernel_rfl)) (fun _ _ _ h => h) (Or.inl ⟨by rfl, ?_⟩) ?_ ?_; rotate_left
       ·intro w'; go_simp; with_reducible rfl
       rotate_left; (focus (simp only [PS]; rfl))
       refine pure_ (i := 7) (N := some 93) (v := ?_) (a' := ?_) #[T,T,T,T,T,T,T,T,F,F,F,F,F,F,F,F,F,F,F,F,F,F,F,F,F,F,F,F,F,F,F,F,F,F,F,F,F,F,F,F,F,F,F,F,F] rfl rfl (any_of HT_.out (by kernel_rfl)) (fun _ _ _ h => h) (Or.inl ⟨by rfl, ?_⟩) ?_ ?_; rotate_left
       ·intro w'; go_simp; with_reducible rfl
       rotate_left; (focus (simp only [PS]; rfl))
       refine take_ (i := 8) (N := some 94) (v := ?_) (a' := ?_) #[T,T,T,T,T,T,T,T,T,F,F,F,F,F,F,F,F,F,F,F,F,F,F,F,F,F,F,F,F,F,F,F,F,F,F,F,F,F,F,F,F,F,F,F,F] rfl rfl (take_ofW HT_.out HW_.out (by kernel_rfl)) (fun _ _ _ h => h) (Or.inl ⟨by rfl, ?_⟩) hHeld ?_ ?_; rotate_left
       ·rintro w' ⟨s0, s1, s2, s3, s4, s5, s6, s7, s8, s9, s10, s11⟩; go_simp; with_reducible rfl
       rotate_left; (focus (simp only [PS]; rfl))
       refine take_ (i := 9) (N := some 95) (v := ?_) (a' := ?_) #[T,T,T,T,T,T,T,T,T,T,F,F,F,F,F,F,F,F,F,F,F,F,F,F,F,F,F,F,F,F,F,F,F,F,F,F,F,F,F,F,F,F,F,F,F] rfl rfl (take_ofW HT_.out HW_.out (by kernel_rfl)) (fun _ _ _ h => h) (Or.inl ⟨by rfl, ?_⟩) hHeld ?_ ?_; rotate_left
       ·rintro w' ⟨s0, s1, s2, s3, s4, s5, s6, s7, s8, s9, s10, s11⟩; go_simp; with_reducible rfl
       rotate_left; (focus (simp only [PS]; rfl))
       refine take_ (i := 11) (N := some 97) (v := ?_) (a' := ?_) #[T,T,T,T,T,T,T,T,T,T,F,T,F,F,F,F,F,F,F,F,F,F,F,F,F,F,F,F,F,F,F,F,F,F,F,F,F,F,F,F,F,F,F,F,F] rfl rfl (take_ofW HT_.out HW_.out (by kernel_rfl)) (fun _ _ _ h => h) (Or.inl ⟨by rfl, ?_⟩) hHeld ?_ ?_; rotate_left
       ·rintro w' ⟨s0, s1, s2, s3, s4, s5, s6, s7, s8, s9, s10, s11⟩; go_simp; with_reducible rfl
       rotate_left; (focus (simp only [PS]; rfl))
       refine take_ (i := 12) (N := some 98) (v := ?_) (a' := ?_) #[T,T,T,T,T,T,T,T,T,T,F,T,T,F,F,F,F,F,F,F,F,F,F,F,F,F,F,F,F,F,F,F,F,F,F,F,F,F,F,F,F,F,F,F,F] rfl rfl (take_ofW HT_.out HW_.out (by kernel_rfl)) (fun _ _ _ h => h) (Or.inl ⟨by rfl, ?_⟩) hHeld ?_ ?_; rotate_left
       ·rintro w' ⟨s0, s1, s2, s3, s4, s5, s6, s7, s8, s9, s10, s11⟩; go_simp; with_reducible rfl
       rotate_left; (focus (simp only [PS]; rfl))
       refine one_ (i := 10) (N := some 96) #[T,T,T,T,T,T,T,T,T,T,T,T,T,F,F,F,F,F,F,F,F,F,F,F,F,F,F,F,F,F,F,F,F,F,F,F,F,F,F,F,F,F,F,F,F] rfl rfl (one_of HT_.out (by kernel_rfl)) (by decide) (fun K hK => ?_)
       refine goes_ Try.func20 (by kernel_rfl) rfl #[.agg #[.int .i64 t194, .int .i64 t195, .int .i64 t196, .int .i64 t197], .agg #[.int .i64 t198, .int .i64 t199, .int .i64 t200, .int .i64 t201]] (by rfl) rfl rfl (by (try simp only [List.map_toArray, List.map_cons, List.map_nil]); first | done | rfl | (simp only [List.length_drop, List.length_take]; rfl)) ?_
       with_reducible refine (impl_MeetBox.calls t194 t195 t196 t197 t198 t199 t200 t201 t249 t250 t251 t252 _ A244.out).mono ?_
       rintro e w255 ⟨rfl, hb⟩
       refine ⟨_, rfl, ?_⟩
       replace BK204 := Aside0.mk (blk_below BK204.out hb)
       replace BK205 := Aside0.mk (blk_below BK205.out hb)
       replace BK206 := Aside0.mk (blk_below BK206.out hb)
       replace BK211 := Aside0.mk (blk_below BK211.out hb)
       replace BK216 := Aside0.mk (blk_below BK216.out hb)
       replace BK221 := Aside0.mk (blk_below BK221.out hb)
       replace BK224 := Aside0.mk (blk_below BK224.out hb)
       replace HB := Aside0.mk (below_step HB.out hb)
       (try clear hb)
       (try clear hb2)
       (try clear hk)
       (try clear hi)
       refine hK.out _ _ ⟨(blk_cell BK204.out 0).trans rfl, (blk_cell BK204.out 1).trans rfl, (blk_cell BK204.out 2).trans rfl, (blk_cell BK204.out 3).trans rfl, (blk_cell BK205.out 0).trans rfl, (blk_cell BK205.out 1).trans rfl, (blk_cell BK205.out 2).trans rfl, (blk_cell BK205.out 3).trans rfl, (blk_cell BK216.out 0).trans rfl, (blk_cell BK216.out 1).trans rfl, (blk_cell BK216.out 2).trans rfl, (blk_cell BK216.out 3).trans rfl⟩ (fun hHeld => ?_)
       clear hK K
       refine norm_ (a' := ?_) ?_ ?_; rotate_left
       ·show Act.put _ (some 96) _ = _
        simp only [PS]
        rfl
       refine one_ (i := 13) (N := some 99) #[T,T,T,T,T,T,T,T,T,T,T,T,T,T,F,F,F,F,F,F,F,F,F,F,F,F,F,F,F,F,F,F,F,F,F,F,F,F,F,F,F,F,F,F,F] rfl rfl (one_of HT_.out (by kernel_rfl)) (by decide) (fun K hK => ?_)
       refine goes_ Try.func20 (by kernel_rfl) rfl #[.agg #[.int .i64 t198, .int .i64 t199, .int .i64 t200, .int .i64 t201], .agg #[.int .i64 t194, .int .i64 t195, .int .i64 t196, .int .i64 t197]] (by rfl) rfl rfl (by (try simp only [List.map_toArray, List.map_cons, List.map_nil]); first | done | rfl | (simp only [List.length_drop, List.length_take]; rfl)) ?_
       with_reducible refine (impl_MeetBox.calls t198 t199 t200 t201 t194 t195 t196 t197 t253 t254 t255 t256 _ A245.out).mono ?_
       rintro e w256 ⟨rfl, hb⟩
       refine ⟨_, rfl, ?_⟩
       replace BK204 := Aside0.mk (blk_below BK204.out hb)
       replace BK205 := Aside0.mk (blk_below BK205.out hb)
       replace BK206 := Aside0.mk (blk_below BK206.out hb)
       replace BK211 := Aside0.mk (blk_below BK211.out hb)
       replace BK216 := Aside0.mk (blk_below BK216.out hb)
       replace BK221 := Aside0.mk (blk_below BK221.out hb)
       replace BK224 := Aside0.mk (blk_below BK224.out hb)
       replace HB := Aside0.mk (below_step HB.out hb)
       (try clear hb)
       (try clear hb2)
       (try clear hk)
       (try clear hi)
       refine hK.out _ _ ⟨(blk_cell BK204.out 0).trans rfl, (blk_cell BK204.out 1).trans rfl, (blk_cell BK204.out 2).trans rfl, (blk_cell BK204.out 3).trans rfl, (blk_cell BK205.out 0).trans rfl, (blk_cell BK205.out 1).trans rfl, (blk_cell BK205.out 2).trans rfl, (blk_cell BK205.out 3).trans rfl, (blk_cell BK216.out 0).trans rfl, (blk_cell BK216.out 1).trans rfl, (blk_cell BK216.out 2).trans rfl, (blk_cell BK216.out 3).trans rfl⟩ (fun hHeld => ?_)
       clear hK K
       refine norm_ (a' := ?_) ?_ ?_; rotate_left
       ·show Act.put _ (some 99) _ = _
        simp only [PS]
        rfl
       refine pure_ (i := 14) (N := some 100) (v := ?_) (a' := ?_) #[T,T,T,T,T,T,T,T,T,T,T,T,T,T,T,F,F,F,F,F,F,F,F,F,F,F,F,F,F,F,F,F,F,F,F,F,F,F,F,F,F,F,F,F,F] rfl rfl (any_of HT_.out (by kernel_rfl)) (fun _ _ _ h => h) (Or.inl ⟨by rfl, ?_⟩) ?_ ?_; rotate_left
       ·intro w'; go_simp; with_reducible rfl
       rotate_left; (focus (simp only [PS]; rfl))
       refine pure_ (i := 15) (N := some 101) (v := ?_) (a' := ?_) #[T,T,T,T,T,T,T,T,T,T,T,T,T,T,T,T,F,F,F,F,F,F,F,F,F,F,F,F,F,F,F,F,F,F,F,F,F,F,F,F,F,F,F,F,F] rfl rfl (any_of HT_.out (by kernel_rfl)) (fun _ _ _ h => h) (Or.inl ⟨by rfl, ?_⟩) ?_ ?_; rotate_left
       ·intro w'; go_simp; with_reducible rfl
       rotate_left; (focus (simp only [PS]; rfl))
       refine pure_ (i := 16) (N := some 102) (v := ?_) (a' := ?_) #[T,T,T,T,T,T,T,T,T,T,T,T,T,T,T,T,T,F,F,F,F,F,F,F,F,F,F,F,F,F,F,F,F,F,F,F,F,F,F,F,F,F,F,F,F] rfl rfl (any_of HT_.out (by kernel_rfl)) (fun _ _ _ h => h) (Or.inl ⟨by rfl, ?_⟩) ?_ ?_; rotate_left
       ·intro w'; go_simp; with_reducible rfl
       rotate_left; (focus (simp only [PS]; rfl))
       refine pure_ (i := 19) (N := some 105) (v := ?_) (a' := ?_) #[T,T,T,T,T,T,T,T,T,T,T,T,T,T,T,T,T,F,F,T,F,F,F,F,F,F,F,F,F,F,F,F,F,F,F,F,F,F,F,F,F,F,F,F,F] rfl rfl (any_of HT_.out (by kernel_rfl)) (fun _ _ _ h => h) (Or.inl ⟨by rfl, ?_⟩) ?_ ?_; rotate_left
       ·intro w'; go_simp; with_reducible rfl
       rotate_left; (focus (simp only [PS]; rfl))
       refine pure_ (i := 21) (N := some 107) (v := ?_) (a' := ?_) #[T,T,T,T,T,T,T,T,T,T,T,T,T,T,T,T,T,F,F,T,F,T,F,F,F,F,F,F,F,F,F,F,F,F,F,F,F,F,F,F,F,F,F,F,F] rfl rfl (any_of HT_.out (by kernel_rfl)) (fun _ _ _ h => h) (Or.inl ⟨by rfl, ?_⟩) ?_ ?_; rotate_left
       ·intro w'; go_simp; with_reducible rfl
       rotate_left; (focus (simp only [PS]; rfl))
       refine take_ (i := 17) (N := some 103) (v := ?_) (a' := ?_) #[T,T,T,T,T,T,T,T,T,T,T,T,T,T,T,T,T,T,F,T,F,T,F,F,F,F,F,F,F,F,F,F,F,F,F,F,F,F,F,F,F,F,F,F,F] rfl rfl (take_ofW HT_.out HW_.out (by kernel_rfl)) (fun _ _ _ h => h) (Or.inl ⟨by rfl, ?_⟩) hHeld ?_ ?_; rotate_left
       ·rintro w' ⟨s0, s1, s2, s3, s4, s5, s6, s7, s8, s9, s10, s11⟩; go_simp; with_reducible rfl
       rotate_left; (focus (simp only [PS]; rfl))
       refine take_ (i := 20) (N := some 106) (v := ?_) (a' := ?_) #[T,T,T,T,T,T,T,T,T,T,T,T,T,T,T,T,T,T,F,T,T,T,F,F,F,F,F,F,F,F,F,F,F,F,F,F,F,F,F,F,F,F,F,F,F] rfl rfl (take_ofW HT_.out HW_.out (by kernel_rfl)) (fun _ _ _ h => h) (Or.inl ⟨by rfl, ?_⟩) hHeld ?_ ?_; rotate_left
       ·rintro w' ⟨s0, s1, s2, s3, s4, s5, s6, s7, s8, s9, s10, s11⟩; go_simp; with_reducible rfl
       rotate_left; (focus (simp only [PS]; rfl))
       refine take_ (i := 22) (N := some 108) (v := ?_) (a' := ?_) #[T,T,T,T,T,T,T,T,T,T,T,T,T,T,T,T,T,T,F,T,T,T,T,F,F,F,F,F,F,F,F,F,F,F,F,F,F,F,F,F,F,F,F,F,F] rfl rfl (take_ofW HT_.out HW_.out (by kernel_rfl)) (fun _ _ _ h => h) (Or.inl ⟨by rfl, ?_⟩) hHeld ?_ ?_; rotate_left
       ·rintro w' ⟨s0, s1, s2, s3, s4, s5, s6, s7, s8, s9, s10, s11⟩; go_simp; with_reducible rfl
       rotate_left; (focus (simp only [PS]; rfl))
       refine pure_ (i := 23) (N := some 109) (v := ?_) (a' := ?_) #[T,T,T,T,T,T,T,T,T,T,T,T,T,T,T,T,T,T,F,T,T,T,T,T,F,F,F,F,F,F,F,F,F,F,F,F,F,F,F,F,F,F,F,F,F] rfl rfl (any_of HT_.out (by kernel_rfl)) (fun _ _ _ h => h) (Or.inl ⟨by rfl, ?_⟩) ?_ ?_; rotate_left
       ·intro w'; go_simp; with_reducible rfl
       rotate_left; (focus (simp only [PS]; rfl))
       refine one_ (i := 18) (N := some 104) #[T,T,T,T,T,T,T,T,T,T,T,T,T,T,T,T,T,T,T,T,T,T,T,T,F,F,F,F,F,F,F,F,F,F,F,F,F,F,F,F,F,F,F,F,F] rfl rfl (one_of HT_.out (by kernel_rfl)) (by decide) (fun K hK => ?_)
       refine goes_ Try.func23 (by kernel_rfl) rfl #[.agg #[.int .i64 t194, .int .i64 t195, .int .i64 t196, .int .i64 t197]] (by rfl) rfl rfl (by (try simp only [List.map_toArray, List.map_cons, List.map_nil]); first | done | rfl | (simp only [List.length_drop, List.length_take]; rfl)) ?_
       with_reducible refine (impl_Empty.calls t194 t195 t196 t197 t257 _ A247.out).mono ?_
       rintro e w257 ⟨rfl, hb⟩
       refine ⟨_, rfl, ?_⟩
       replace BK204 := Aside0.mk (blk_below BK204.out hb)
       replace BK205 := Aside0.mk (blk_below BK205.out hb)
       replace BK206 := Aside0.mk (blk_below BK206.out hb)
       replace BK211 := Aside0.mk (blk_below BK211.out hb)
       replace BK216 := Aside0.mk (blk_below BK216.out hb)
       replace BK221 := Aside0.mk (blk_below BK221.out hb)
       replace BK224 := Aside0.mk (blk_below BK224.out hb)
       replace HB := Aside0.mk (below_step HB.out hb)
       (try clear hb)
       (try clear hb2)
       (try clear hk)
       (try clear hi)
       refine hK.out _ _ ⟨(blk_cell BK204.out 0).trans rfl, (blk_cell BK204.out 1).trans rfl, (blk_cell BK204.out 2).trans rfl, (blk_cell BK204.out 3).trans rfl, (blk_cell BK205.out 0).trans rfl, (blk_cell BK205.out 1).trans rfl, (blk_cell BK205.out 2).trans rfl, (blk_cell BK205.out 3).trans rfl, (blk_cell BK216.out 0).trans rfl, (blk_cell BK216.out 1).trans rfl, (blk_cell BK216.out 2).trans rfl, (blk_cell BK216.out 3).trans rfl⟩ (fun hHeld => ?_)
       clear hK K
       refine norm_ (a' := ?_) ?_ ?_; rotate_left
       ·show Act.put _ (some 104) _ = _
        simp only [PS]
        rfl
       refine pure_ (i := 24) (N := some 110) (v := ?_) (a' := ?_) #[T,T,T,T,T,T,T,T,T,T,T,T,T,T,T,T,T,T,T,T,T,T,T,T,T,F,F,F,F,F,F,F,F,F,F,F,F,F,F,F,F,F,F,F,F] rfl rfl (any_of HT_.out (by kernel_rfl)) (fun _ _ _ h => h) (Or.inl ⟨by rfl, ?_⟩) ?_ ?_; rotate_left
       ·intro w'; go_simp; with_reducible rfl
       rotate_left; (focus (simp only [PS]; rfl))
       refine pure_ (i := 25) (N := some 111) (v := undef) (a' := ?_) #[T,T,T,T,T,T,T,T,T,T,T,T,T,T,T,T,T,T,T,T,T,T,T,T,T,T,F,F,F,F,F,F,F,F,F,F,F,F,F,F,F,F,F,F,F] rfl rfl (any_of HT_.out (by kernel_rfl)) (fun _ _ _ h => h) (Or.inr ⟨by rfl, rfl⟩) ?_ ?_; rotate_left
       ·simp only [PS]; rfl
       refine pure_ (i := 26) (N := some 112) (v := undef) (a' := ?_) #[T,T,T,T,T,T,T,T,T,T,T,T,T,T,T,T,T,T,T,T,T,T,T,T,T,T,T,F,F,F,F,F,F,F,F,F,F,F,F,F,F,F,F,F,F] rfl rfl (any_of HT_.out (by kernel_rfl)) (fun _ _ _ h => h) (Or.inr ⟨by rfl, rfl⟩) ?_ ?_; rotate_left
       ·simp only [PS]; rfl
       refine pure_ (i := 27) (N := some 113) (v := undef) (a' := ?_) #[T,T,T,T,T,T,T,T,T,T,T,T,T,T,T,T,T,T,T,T,T,T,T,T,T,T,T,T,F,F,F,F,F,F,F,F,F,F,F,F,F,F,F,F,F] rfl rfl (any_of HT_.out (by kernel_rfl)) (fun _ _ _ h => h) (Or.inr ⟨by rfl, rfl⟩) ?_ ?_; rotate_left
       ·simp only [PS]; rfl
       refine pure_ (i := 28) (N := some 114) (v := undef) (a' := ?_) #[T,T,T,T,T,T,T,T,T,T,T,T,T,T,T,T,T,T,T,T,T,T,T,T,T,T,T,T,T,F,F,F,F,F,F,F,F,F,F,F,F,F,F,F,F] rfl rfl (any_of HT_.out (by kernel_rfl)) (fun _ _ _ h => h) (Or.inr ⟨by rfl, rfl⟩) ?_ ?_; rotate_left
       ·simp only [PS]; rfl
       refine pure_ (i := 29) (N := some 115) (v := undef) (a' := ?_) #[T,T,T,T,T,T,T,T,T,T,T,T,T,T,T,T,T,T,T,T,T,T,T,T,T,T,T,T,T,T,F,F,F,F,F,F,F,F,F,F,F,F,F,F,F] rfl rfl (any_of HT_.out (by kernel_rfl)) (fun _ _ _ h => h) (Or.inr ⟨by rfl, rfl⟩) ?_ ?_; rotate_left
       ·simp only [PS]; rfl
       refine pure_ (i := 30) (N := some 116) (v := ?_) (a' := ?_) #[T,T,T,T,T,T,T,T,T,T,T,T,T,T,T,T,T,T,T,T,T,T,T,T,T,T,T,T,T,T,T,F,F,F,F,F,F,F,F,F,F,F,F,F,F] rfl rfl (any_of HT_.out (by kernel_rfl)) (fun _ _ _ h => h) (Or.inl ⟨by rfl, ?_⟩) ?_ ?_; rotate_left
       ·intro w'; go_simp; with_reducible rfl
       rotate_left; (focus (simp only [PS]; rfl))
       refine pure_ (i := 31) (N := some 117) (v := ?_) (a' := ?_) #[T,T,T,T,T,T,T,T,T,T,T,T,T,T,T,T,T,T,T,T,T,T,T,T,T,T,T,T,T,T,T,T,F,F,F,F,F,F,F,F,F,F,F,F,F] rfl rfl (any_of HT_.out (by kernel_rfl)) (fun _ _ _ h => h) (Or.inl ⟨by rfl, ?_⟩) ?_ ?_; rotate_left
       ·intro w'; go_simp; with_reducible rfl
       rotate_left; (focus (simp only [PS]; rfl))
       refine pure_ (i := 32) (N := some 118) (v := ?_) (a' := ?_) #[T,T,T,T,T,T,T,T,T,T,T,T,T,T,T,T,T,T,T,T,T,T,T,T,T,T,T,T,T,T,T,T,T,F,F,F,F,F,F,F,F,F,F,F,F] rfl rfl (any_of HT_.out (by kernel_rfl)) (fun _ _ _ h => h) (Or.inl ⟨by rfl, ?_⟩) ?_ ?_; rotate_left
       ·intro w'; go_simp; with_reducible rfl
       rotate_left; (focus (simp only [PS]; rfl))
       refine pure_ (i := 33) (N := some 119) (v := ?_) (a' := ?_) #[T,T,T,T,T,T,T,T,T,T,T,T,T,T,T,T,T,T,T,T,T,T,T,T,T,T,T,T,T,T,T,T,T,T,F,F,F,F,F,F,F,F,F,F,F] rfl rfl (any_of HT_.out (by kernel_rfl)) (fun _ _ _ h => h) (Or.inl ⟨by rfl, ?_⟩) ?_ ?_; rotate_left
       ·intro w'; go_simp; with_reducible rfl
       rotate_left; (focus (simp only [PS]; rfl))
       refine take_ (i := 34) (N := some 120) (v := ?_) (a' := ?_) #[T,T,T,T,T,T,T,T,T,T,T,T,T,T,T,T,T,T,T,T,T,T,T,T,T,T,T,T,T,T,T,T,T,T,T,F,F,F,F,F,F,F,F,F,F] rfl rfl (take_ofW HT_.out HW_.out (by kernel_rfl)) (fun _ _ _ h => h) (Or.inl ⟨by rfl, ?_⟩) hHeld ?_ ?_; rotate_left
       ·rintro w' ⟨s0, s1, s2, s3, s4, s5, s6, s7, s8, s9, s10, s11⟩; go_simp; with_reducible rfl
       rotate_left; (focus (simp only [PS]; rfl))
       refine one_ (i := 35) (N := some 121) #[T,T,T,T,T,T,T,T,T,T,T,T,T,T,T,T,T,T,T,T,T,T,T,T,T,T,T,T,T,T,T,T,T,T,T,T,F,F,F,F,F,F,F,F,F] rfl rfl (one_of HT_.out (by kernel_rfl)) (by decide) (fun K hK => ?_)
       refine goes_ Try.func23 (by kernel_rfl) rfl #[.agg #[.int .i64 t212, .int .i64 t213, .int .i64 t214, .int .i64 t215]] (by rfl) rfl rfl (by (try simp only [List.map_toArray, List.map_cons, List.map_nil]); first | done | rfl | (simp only [List.length_drop, List.length_take]; rfl)) ?_
       with_reducible refine (impl_Empty.calls t212 t213 t214 t215 true _ A250.out).mono ?_
       rintro e w258 ⟨rfl, hb⟩
       refine ⟨_, rfl, ?_⟩
       replace BK204 := Aside0.mk (blk_below BK204.out hb)
       replace BK205 := Aside0.mk (blk_below BK205.out hb)
       replace BK206 := Aside0.mk (blk_below BK206.out hb)
       replace BK211 := Aside0.mk (blk_below BK211.out hb)
       replace BK216 := Aside0.mk (blk_below BK216.out hb)
       replace BK221 := Aside0.mk (blk_below BK221.out hb)
       replace BK224 := Aside0.mk (blk_below BK224.out hb)
       replace HB := Aside0.mk (below_step HB.out hb)
       (try clear hb)
       (try clear hb2)
       (try clear hk)
       (try clear hi)
       refine hK.out _ _ ⟨(blk_cell BK204.out 0).trans rfl, (blk_cell BK204.out 1).trans rfl, (blk_cell BK204.out 2).trans rfl, (blk_cell BK204.out 3).trans rfl, (blk_cell BK205.out 0).trans rfl, (blk_cell BK205.out 1).trans rfl, (blk_cell BK205.out 2).trans rfl, (blk_cell BK205.out 3).trans rfl, (blk_cell BK216.out 0).trans rfl, (blk_cell BK216.out 1).trans rfl, (blk_cell BK216.out 2).trans rfl, (blk_cell BK216.out 3).trans rfl⟩ (fun hHeld => ?_)
       clear hK K
       refine norm_ (a' := ?_) ?_ ?_; rotate_left
       ·show Act.put _ (some 121) _ = _
        simp only [PS]
        rfl
       refine pure_ (i := 36) (N := some 122) (v := ?_) (a' := ?_) #[T,T,T,T,T,T,T,T,T,T,T,T,T,T,T,T,T,T,T,T,T,T,T,T,T,T,T,T,T,T,T,T,T,T,T,T,T,F,F,F,F,F,F,F,F] rfl rfl (any_of HT_.out (by kernel_rfl)) (fun _ _ _ h => h) (Or.inl ⟨by rfl, ?_⟩) ?_ ?_; rotate_left
       ·intro w'; go_simp; with_reducible rfl
       rotate_left; (focus (simp only [PS]; rfl))
       refine pure_ (i := 37) (N := some 123) (v := undef) (a' := ?_) #[T,T,T,T,T,T,T,T,T,T,T,T,T,T,T,T,T,T,T,T,T,T,T,T,T,T,T,T,T,T,T,T,T,T,T,T,T,T,F,F,F,F,F,F,F] rfl rfl (any_of HT_.out (by kernel_rfl)) (fun _ _ _ h => h) (Or.inr ⟨by rfl, rfl⟩) ?_ ?_; rotate_left
       ·simp only [PS]; rfl
       refine pure_ (i := 38) (N := some 124) (v := undef) (a' := ?_) #[T,T,T,T,T,T,T,T,T,T,T,T,T,T,T,T,T,T,T,T,T,T,T,T,T,T,T,T,T,T,T,T,T,T,T,T,T,T,T,F,F,F,F,F,F] rfl rfl (any_of HT_.out (by kernel_rfl)) (fun _ _ _ h => h) (Or.inr ⟨by rfl, rfl⟩) ?_ ?_; rotate_left
       ·simp only [PS]; rfl
       refine pure_ (i := 39) (N := some 125) (v := undef) (a' := ?_) #[T,T,T,T,T,T,T,T,T,T,T,T,T,T,T,T,T,T,T,T,T,T,T,T,T,T,T,T,T,T,T,T,T,T,T,T,T,T,T,T,F,F,F,F,F] rfl rfl (any_of HT_.out (by kernel_rfl)) (fun _ _ _ h => h) (Or.inr ⟨by rfl, rfl⟩) ?_ ?_; rotate_left
       ·simp only [PS]; rfl
       refine pure_ (i := 40) (N := some 126) (v := undef) (a' := ?_) #[T,T,T,T,T,T,T,T,T,T,T,T,T,T,T,T,T,T,T,T,T,T,T,T,T,T,T,T,T,T,T,T,T,T,T,T,T,T,T,T,T,F,F,F,F] rfl rfl (any_of HT_.out (by kernel_rfl)) (fun _ _ _ h => h) (Or.inr ⟨by rfl, rfl⟩) ?_ ?_; rotate_left
       ·simp only [PS]; rfl
       refine pure_ (i := 41) (N := some 127) (v := undef) (a' := ?_) #[T,T,T,T,T,T,T,T,T,T,T,T,T,T,T,T,T,T,T,T,T,T,T,T,T,T,T,T,T,T,T,T,T,T,T,T,T,T,T,T,T,T,F,F,F] rfl rfl (any_of HT_.out (by kernel_rfl)) (fun _ _ _ h => h) (Or.inr ⟨by rfl, rfl⟩) ?_ ?_; rotate_left
       ·simp only [PS]; rfl
       refine pure_ (i := 42) (N := some 128) (v := ?_) (a' := ?_) #[T,T,T,T,T,T,T,T,T,T,T,T,T,T,T,T,T,T,T,T,T,T,T,T,T,T,T,T,T,T,T,T,T,T,T,T,T,T,T,T,T,T,T,F,F] rfl rfl (any_of HT_.out (by kernel_rfl)) (fun _ _ _ h => h) (Or.inl ⟨by rfl, ?_⟩) ?_ ?_; rotate_left
       ·intro w'; go_simp; with_reducible rfl
       rotate_left; (focus (simp only [PS]; rfl))
       refine pure_ (i := 43) (N := some 129) (v := ?_) (a' := ?_) #[T,T,T,T,T,T,T,T,T,T,T,T,T,T,T,T,T,T,T,T,T,T,T,T,T,T,T,T,T,T,T,T,T,T,T,T,T,T,T,T,T,T,T,T,F] rfl rfl (any_of HT_.out (by kernel_rfl)) (fun _ _ _ h => h) (Or.inl ⟨by rfl, ?_⟩) ?_ ?_; rotate_left
       ·intro w'; go_simp; with_reducible rfl
       rotate_left; (focus (simp only [PS]; rfl))
       refine pure_ (i := 44) (N := some 2) (v := ?_) (a' := ?_) #[T,T,T,T,T,T,T,T,T,T,T,T,T,T,T,T,T,T,T,T,T,T,T,T,T,T,T,T,T,T,T,T,T,T,T,T,T,T,T,T,T,T,T,T,T] rfl rfl (any_of HT_.out (by kernel_rfl)) (fun _ _ _ h => h) (Or.inl ⟨by rfl, ?_⟩) ?_ ?_; rotate_left
       ·intro w'; go_simp; with_reducible rfl
       rotate_left; (focus (simp only [PS]; rfl))
       refine done_ (done_of HT_.out (by kernel_rfl)) ?_
       try go_wp2
       all_goals (go_ret; exact ⟨by first | rfl | (simp [errW_none, errW_some] <;> rfl) | (simp [*, errW_none, errW_some] <;> rfl), by repeat (first | (with_reducible first | exact HB.out | apply below_alloc | apply pw_below_drewN | apply below_drew1 | refine below_set ?_ GE204.out | refine below_set ?_ GE205.out | refine below_set ?_ GE206.out | refine below_set ?_ GE211.out | refine below_set ?_ GE216.out | refine below_set ?_ GE221.out | refine below_set ?_ GE224.out) | exact HB.out)⟩)
      replace c251 := Bool.eq_false_iff.mpr c251
      subst c251
      have H1 : ((impl_JoinBox.f kj221 t212 t213 t214 t215 t194 t195 t196 t197).bind fun bt259 => (some (bt259.1 == t194 && (bt259.2.1 == t195 && (bt259.2.2.1 == t196 && (bt259.2.2.2 == t197)))))) = some r := by rw [if_neg (show ¬ (false = true) by decide)] at H; exact H
      clear H
      have H := H1
      clear H1
      replace H := Option.bind_eq_some_iff.mp H
      obtain ⟨⟨t259, t260, t261, t262⟩, A2590, H⟩ := H
      replace H : (some (t259 == t194 && (t260 == t195 && (t261 == t196 && (t262 == t197))))) = some r := H
      have A259 := Aside0.mk A2590
      clear A2590
      obtain rfl := Option.some.inj H
      try go_wp2
      replace BK204 := Aside0.mk (blk_drew BK204.out)
      replace BK205 := Aside0.mk (blk_drew BK205.out)
      replace BK206 := Aside0.mk (blk_drew BK206.out)
      replace BK211 := Aside0.mk (blk_drew BK211.out)
      replace BK216 := Aside0.mk (blk_drew BK216.out)
      replace BK221 := Aside0.mk (blk_drew BK221.out)
      replace BK224 := Aside0.mk (blk_drew BK224.out)
      replace HB := Aside0.mk (below_drew1 HB.out)
      refine start_ (n := 45) (S := fun w' => w'.cell? ⟨gb204, 0, none⟩ = some (.int .i64 t194) ∧ w'.cell? ⟨gb204, 1, none⟩ = some (.int .i64 t195) ∧ w'.cell? ⟨gb204, 2, none⟩ = some (.int .i64 t196) ∧ w'.cell? ⟨gb204, 3, none⟩ = some (.int .i64 t197) ∧ w'.cell? ⟨gb205, 0, none⟩ = some (.int .i64 t198) ∧ w'.cell? ⟨gb205, 1, none⟩ = some (.int .i64 t199) ∧ w'.cell? ⟨gb205, 2, none⟩ = some (.int .i64 t200) ∧ w'.cell? ⟨gb205, 3, none⟩ = some (.int .i64 t201) ∧ w'.cell? ⟨gb216, 0, none⟩ = some (.int .i64 t212) ∧ w'.cell? ⟨gb216, 1, none⟩ = some (.int .i64 t213) ∧ w'.cell? ⟨gb216, 2, none⟩ = some (.int .i64 t214) ∧ w'.cell? ⟨gb216, 3, none⟩ = some (.int .i64 t215)) (ds := []) #[F,F,F,F,F,F,F,F,F,F,F,F,F,F,F,F,F,F,F,F,F,F,F,F,F,F,F,F,F,F,F,F,F,F,F,F,F,F,F,F,F,F,F,F,F] (by kernel_rfl) rfl rfl ⟨(blk_cell BK204.out 0).trans rfl, (blk_cell BK204.out 1).trans rfl, (blk_cell BK204.out 2).trans rfl, (blk_cell BK204.out 3).trans rfl, (blk_cell BK205.out 0).trans rfl, (blk_cell BK205.out 1).trans rfl, (blk_cell BK205.out 2).trans rfl, (blk_cell BK205.out 3).trans rfl, (blk_cell BK216.out 0).trans rfl, (blk_cell BK216.out 1).trans rfl, (blk_cell BK216.out 2).trans rfl, (blk_cell BK216.out 3).trans rfl⟩ (fun hHeld => ?_); refine with_tabW laws_FnBoxes.tab14 laws_FnBoxes.bits14 (fun HT_ HW_ => ?_)
      generalize wc.drew = w260 at BK204 BK205 BK206 BK211 BK216 BK221 BK224 HB hHeld ⊢
      refine take_ (i := 0) (N := some 86) (v := ?_) (a' := ?_) #[T,F,F,F,F,F,F,F,F,F,F,F,F,F,F,F,F,F,F,F,F,F,F,F,F,F,F,F,F,F,F,F,F,F,F,F,F,F,F,F,F,F,F,F,F] rfl rfl (take_ofW HT_.out HW_.out (by kernel_rfl)) (fun _ _ _ h => h) (Or.inl ⟨by rfl, ?_⟩) hHeld ?_ ?_; rotate_left
      ·rintro w' ⟨s0, s1, s2, s3, s4, s5, s6, s7, s8, s9, s10, s11⟩; go_simp; with_reducible rfl
      rotate_left; (focus (simp only [PS]; rfl))
      refine take_ (i := 1) (N := some 87) (v := ?_) (a' := ?_) #[T,T,F,F,F,F,F,F,F,F,F,F,F,F,F,F,F,F,F,F,F,F,F,F,F,F,F,F,F,F,F,F,F,F,F,F,F,F,F,F,F,F,F,F,F] rfl rfl (take_ofW HT_.out HW_.out (by kernel_rfl)) (fun _ _ _ h => h) (Or.inl ⟨by rfl, ?_⟩) hHeld ?_ ?_; rotate_left
      ·rintro w' ⟨s0, s1, s2, s3, s4, s5, s6, s7, s8, s9, s10, s11⟩; go_simp; with_reducible rfl
      rotate_left; (focus (simp only [PS]; rfl))
      refine take_ (i := 3) (N := some 89) (v := ?_) (a' := ?_) #[T,T,F,T,F,F,F,F,F,F,F,F,F,F,F,F,F,F,F,F,F,F,F,F,F,F,F,F,F,F,F,F,F,F,F,F,F,F,F,F,F,F,F,F,F] rfl rfl (take_ofW HT_.out HW_.out (by kernel_rfl)) (fun _ _ _ h => h) (Or.inl ⟨by rfl, ?_⟩) hHeld ?_ ?_; rotate_left
      ·rintro w' ⟨s0, s1, s2, s3, s4, s5, s6, s7, s8, s9, s10, s11⟩; go_simp; with_reducible rfl
      rotate_left; (focus (simp only [PS]; rfl))
      refine take_ (i := 4) (N := some 90) (v := ?_) (a' := ?_) #[T,T,F,T,T,F,F,F,F,F,F,F,F,F,F,F,F,F,F,F,F,F,F,F,F,F,F,F,F,F,F,F,F,F,F,F,F,F,F,F,F,F,F,F,F] rfl rfl (take_ofW HT_.out HW_.out (by kernel_rfl)) (fun _ _ _ h => h) (Or.inl ⟨by rfl, ?_⟩) hHeld ?_ ?_; rotate_left
      ·rintro w' ⟨s0, s1, s2, s3, s4, s5, s6, s7, s8, s9, s10, s11⟩; go_simp; with_reducible rfl
      rotate_left; (focus (simp only [PS]; rfl))
      refine one_ (i := 2) (N := some 88) #[T,T,T,T,T,F,F,F,F,F,F,F,F,F,F,F,F,F,F,F,F,F,F,F,F,F,F,F,F,F,F,F,F,F,F,F,F,F,F,F,F,F,F,F,F] rfl rfl (one_of HT_.out (by kernel_rfl)) (by decide) (fun K hK => ?_)
      refine goes_ Try.func19 (by kernel_rfl) rfl #[.agg #[.int .i64 t194, .int .i64 t195, .int .i64 t196, .int .i64 t197], .agg #[.int .i64 t198, .int .i64 t199, .int .i64 t200, .int .i64 t201]] (by rfl) rfl rfl (by (try simp only [List.map_toArray, List.map_cons, List.map_nil]); first | done | rfl | (simp only [List.length_drop, List.length_take]; rfl)) ?_
      with_reducible refine (impl_JoinBox.calls kj221 t194 t195 t196 t197 t198 t199 t200 t201 t241 t242 t243 t244 _ A241.out).mono ?_
      rintro e w261 ⟨rfl, hb⟩
      refine ⟨_, rfl, ?_⟩
      replace BK204 := Aside0.mk (blk_below BK204.out hb)
      replace BK205 := Aside0.mk (blk_below BK205.out hb)
      replace BK206 := Aside0.mk (blk_below BK206.out hb)
      replace BK211 := Aside0.mk (blk_below BK211.out hb)
      replace BK216 := Aside0.mk (blk_below BK216.out hb)
      replace BK221 := Aside0.mk (blk_below BK221.out hb)
      replace BK224 := Aside0.mk (blk_below BK224.out hb)
      replace HB := Aside0.mk (below_step HB.out hb)
      (try clear hb)
      (try clear hb2)
      (try clear hk)
      (try clear hi)
      refine hK.out _ _ ⟨(blk_cell BK204.out 0).trans rfl, (blk_cell BK204.out 1).trans rfl, (blk_cell BK204.out 2).trans rfl, (blk_cell BK204.out 3).trans rfl, (blk_cell BK205.out 0).trans rfl, (blk_cell BK205.out 1).trans rfl, (blk_cell BK205.out 2).trans rfl, (blk_cell BK205.out 3).trans rfl, (blk_cell BK216.out 0).trans rfl, (blk_cell BK216.out 1).trans rfl, (blk_cell BK216.out 2).trans rfl, (blk_cell BK216.out 3).trans rfl⟩ (fun hHeld => ?_)
      clear hK K
      refine norm_ (a' := ?_) ?_ ?_; rotate_left
      ·show Act.put _ (some 88) _ = _
       simp only [PS]
       rfl
      refine one_ (i := 5) (N := some 91) #[T,T,T,T,T,T,F,F,F,F,F,F,F,F,F,F,F,F,F,F,F,F,F,F,F,F,F,F,F,F,F,F,F,F,F,F,F,F,F,F,F,F,F,F,F] rfl rfl (one_of HT_.out (by kernel_rfl)) (by decide) (fun K hK => ?_)
      refine goes_ Try.func19 (by kernel_rfl) rfl #[.agg #[.int .i64 t198, .int .i64 t199, .int .i64 t200, .int .i64 t201], .agg #[.int .i64 t194, .int .i64 t195, .int .i64 t196, .int .i64 t197]] (by rfl) rfl rfl (by (try simp only [List.map_toArray, List.map_cons, List.map_nil]); first | done | rfl | (simp only [List.length_drop, List.length_take]; rfl)) ?_
      with_reducible refine (impl_JoinBox.calls kj221 t198 t199 t200 t201 t194 t195 t196 t197 t245 t246 t247 t248 _ A242.out).mono ?_
      rintro e w262 ⟨rfl, hb⟩
      refine ⟨_, rfl, ?_⟩
      replace BK204 := Aside0.mk (blk_below BK204.out hb)
      replace BK205 := Aside0.mk (blk_below BK205.out hb)
      replace BK206 := Aside0.mk (blk_below BK206.out hb)
      replace BK211 := Aside0.mk (blk_below BK211.out hb)
      replace BK216 := Aside0.mk (blk_below BK216.out hb)
      replace BK221 := Aside0.mk (blk_below BK221.out hb)
      replace BK224 := Aside0.mk (blk_below BK224.out hb)
      replace HB := Aside0.mk (below_step HB.out hb)
      (try clear hb)
      (try clear hb2)
      (try clear hk)
      (try clear hi)
      refine hK.out _ _ ⟨(blk_cell BK204.out 0).trans rfl, (blk_cell BK204.out 1).trans rfl, (blk_cell BK204.out 2).trans rfl, (blk_cell BK204.out 3).trans rfl, (blk_cell BK205.out 0).trans rfl, (blk_cell BK205.out 1).trans rfl, (blk_cell BK205.out 2).trans rfl, (blk_cell BK205.out 3).trans rfl, (blk_cell BK216.out 0).trans rfl, (blk_cell BK216.out 1).trans rfl, (blk_cell BK216.out 2).trans rfl, (blk_cell BK216.out 3).trans rfl⟩ (fun hHeld => ?_)
      clear hK K
      refine norm_ (a' := ?_) ?_ ?_; rotate_left
      ·show Act.put _ (some 91) _ = _
       simp only [PS]
       rfl
      refine pure_ (i := 6) (N := some 92) (v := ?_) (a' := ?_) #[T,T,T,T,T,T,T,F,F,F,F,F,F,F,F,F,F,F,F,F,F,F,F,F,F,F,F,F,F,F,F,F,F,F,F,F,F,F,F,F,F,F,F,F,F] rfl rfl (any_of HT_.out (by kernel_rfl)) (fun _ _ _ h => h) (Or.inl ⟨by rfl, ?_⟩) ?_ ?_; rotate_left
      ·intro w'; go_simp; with_reducible rfl
      rotate_left; (focus (simp only [PS]; rfl))
      refine pure_ (i := 7) (N := some 93) (v := ?_) (a' := ?_) #[T,T,T,T,T,T,T,T,F,F,F,F,F,F,F,F,F,F,F,F,F,F,F,F,F,F,F,F,F,F,F,F,F,F,F,F,F,F,F,F,F,F,F,F,F] rfl rfl (any_of HT_.out (by kernel_rfl)) (fun _ _ _ h => h) (Or.inl ⟨by rfl, ?_⟩) ?_ ?_; rotate_left
      ·intro w'; go_simp; with_reducible rfl
      rotate_left; (focus (simp only [PS]; rfl))
      refine take_ (i := 8) (N := some 94) (v := ?_) (a' := ?_) #[T,T,T,T,T,T,T,T,T,F,F,F,F,F,F,F,F,F,F,F,F,F,F,F,F,F,F,F,F,F,F,F,F,F,F,F,F,F,F,F,F,F,F,F,F] rfl rfl (take_ofW HT_.out HW_.out (by kernel_rfl)) (fun _ _ _ h => h) (Or.inl ⟨by rfl, ?_⟩) hHeld ?_ ?_; rotate_left
      ·rintro w' ⟨s0, s1, s2, s3, s4, s5, s6, s7, s8, s9, s10, s11⟩; go_simp; with_reducible rfl
      rotate_left; (focus (simp only [PS]; rfl))
      refine take_ (i := 9) (N := some 95) (v := ?_) (a' := ?_) #[T,T,T,T,T,T,T,T,T,T,F,F,F,F,F,F,F,F,F,F,F,F,F,F,F,F,F,F,F,F,F,F,F,F,F,F,F,F,F,F,F,F,F,F,F] rfl rfl (take_ofW HT_.out HW_.out (by kernel_rfl)) (fun _ _ _ h => h) (Or.inl ⟨by rfl, ?_⟩) hHeld ?_ ?_; rotate_left
      ·rintro w' ⟨s0, s1, s2, s3, s4, s5, s6, s7, s8, s9, s10, s11⟩; go_simp; with_reducible rfl
      rotate_left; (focus (simp only [PS]; rfl))
      refine take_ (i := 11) (N := some 97) (v := ?_) (a' := ?_) #[T,T,T,T,T,T,T,T,T,T,F,T,F,F,F,F,F,F,F,F,F,F,F,F,F,F,F,F,F,F,F,F,F,F,F,F,F,F,F,F,F,F,F,F,F] rfl rfl (take_ofW HT_.out HW_.out (by kernel_rfl)) (fun _ _ _ h => h) (Or.inl ⟨by rfl, ?_⟩) hHeld ?_ ?_; rotate_left
      ·rintro w' ⟨s0, s1, s2, s3, s4, s5, s6, s7, s8, s9, s10, s11⟩; go_simp; with_reducible rfl
      rotate_left; (focus (simp only [PS]; rfl))
      refine take_ (i := 12) (N := some 98) (v := ?_) (a' := ?_) #[T,T,T,T,T,T,T,T,T,T,F,T,T,F,F,F,F,F,F,F,F,F,F,F,F,F,F,F,F,F,F,F,F,F,F,F,F,F,F,F,F,F,F,F,F] rfl rfl (take_ofW HT_.out HW_.out (by kernel_rfl)) (fun _ _ _ h => h) (Or.inl ⟨by rfl, ?_⟩) hHeld ?_ ?_; rotate_left
      ·rintro w' ⟨s0, s1, s2, s3, s4, s5, s6, s7, s8, s9, s10, s11⟩; go_simp; with_reducible rfl
      rotate_left; (focus (simp only [PS]; rfl))
      refine one_ (i := 10) (N := some 96) #[T,T,T,T,T,T,T,T,T,T,T,T,T,F,F,F,F,F,F,F,F,F,F,F,F,F,F,F,F,F,F,F,F,F,F,F,F,F,F,F,F,F,F,F,F] rfl rfl (one_of HT_.out (by kernel_rfl)) (by decide) (fun K hK => ?_)
      refine goes_ Try.func20 (by kernel_rfl) rfl #[.agg #[.int .i64 t194, .int .i64 t195, .int .i64 t196, .int .i64 t197], .agg #[.int .i64 t198, .int .i64 t199, .int .i64 t200, .int .i64 t201]] (by rfl) rfl rfl (by (try simp only [List.map_toArray, List.map_cons, List.map_nil]); first | done | rfl | (simp only [List.length_drop, List.length_take]; rfl)) ?_
      with_reducible refine (impl_MeetBox.calls t194 t195 t196 t197 t198 t199 t200 t201 t249 t250 t251 t252 _ A244.out).mono ?_
      rintro e w263 ⟨rfl, hb⟩
      refine ⟨_, rfl, ?_⟩
      replace BK204 := Aside0.mk (blk_below BK204.out hb)
      replace BK205 := Aside0.mk (blk_below BK205.out hb)
      replace BK206 := Aside0.mk (blk_below BK206.out hb)
      replace BK211 := Aside0.mk (blk_below BK211.out hb)
      replace BK216 := Aside0.mk (blk_below BK216.out hb)
      replace BK221 := Aside0.mk (blk_below BK221.out hb)
      replace BK224 := Aside0.mk (blk_below BK224.out hb)
      replace HB := Aside0.mk (below_step HB.out hb)
      (try clear hb)
      (try clear hb2)
      (try clear hk)
      (try clear hi)
      refine hK.out _ _ ⟨(blk_cell BK204.out 0).trans rfl, (blk_cell BK204.out 1).trans rfl, (blk_cell BK204.out 2).trans rfl, (blk_cell BK204.out 3).trans rfl, (blk_cell BK205.out 0).trans rfl, (blk_cell BK205.out 1).trans rfl, (blk_cell BK205.out 2).trans rfl, (blk_cell BK205.out 3).trans rfl, (blk_cell BK216.out 0).trans rfl, (blk_cell BK216.out 1).trans rfl, (blk_cell BK216.out 2).trans rfl, (blk_cell BK216.out 3).trans rfl⟩ (fun hHeld => ?_)
      clear hK K
      refine norm_ (a' := ?_) ?_ ?_; rotate_left
      ·show Act.put _ (some 96) _ = _
       simp only [PS]
       rfl
      refine one_ (i := 13) (N := some 99) #[T,T,T,T,T,T,T,T,T,T,T,T,T,T,F,F,F,F,F,F,F,F,F,F,F,F,F,F,F,F,F,F,F,F,F,F,F,F,F,F,F,F,F,F,F] rfl rfl (one_of HT_.out (by kernel_rfl)) (by decide) (fun K hK => ?_)
      refine goes_ Try.func20 (by kernel_rfl) rfl #[.agg #[.int .i64 t198, .int .i64 t199, .int .i64 t200, .int .i64 t201], .agg #[.int .i64 t194, .int .i64 t195, .int .i64 t196, .int .i64 t197]] (by rfl) rfl rfl (by (try simp only [List.map_toArray, List.map_cons, List.map_nil]); first | done | rfl | (simp only [List.length_drop, List.length_take]; rfl)) ?_
      with_reducible refine (impl_MeetBox.calls t198 t199 t200 t201 t194 t195 t196 t197 t253 t254 t255 t256 _ A245.out).mono ?_
      rintro e w264 ⟨rfl, hb⟩
      refine ⟨_, rfl, ?_⟩
      replace BK204 := Aside0.mk (blk_below BK204.out hb)
      replace BK205 := Aside0.mk (blk_below BK205.out hb)
      replace BK206 := Aside0.mk (blk_below BK206.out hb)
      replace BK211 := Aside0.mk (blk_below BK211.out hb)
      replace BK216 := Aside0.mk (blk_below BK216.out hb)
      replace BK221 := Aside0.mk (blk_below BK221.out hb)
      replace BK224 := Aside0.mk (blk_below BK224.out hb)
      replace HB := Aside0.mk (below_step HB.out hb)
      (try clear hb)
      (try clear hb2)
      (try clear hk)
      (try clear hi)
      refine hK.out _ _ ⟨(blk_cell BK204.out 0).trans rfl, (blk_cell BK204.out 1).trans rfl, (blk_cell BK204.out 2).trans rfl, (blk_cell BK204.out 3).trans rfl, (blk_cell BK205.out 0).trans rfl, (blk_cell BK205.out 1).trans rfl, (blk_cell BK205.out 2).trans rfl, (blk_cell BK205.out 3).trans rfl, (blk_cell BK216.out 0).trans rfl, (blk_cell BK216.out 1).trans rfl, (blk_cell BK216.out 2).trans rfl, (blk_cell BK216.out 3).trans rfl⟩ (fun hHeld => ?_)
      clear hK K
      refine norm_ (a' := ?_) ?_ ?_; rotate_left
      ·show Act.put _ (some 99) _ = _
       simp only [PS]
       rfl
      refine pure_ (i := 14) (N := some 100) (v := ?_) (a' := ?_) #[T,T,T,T,T,T,T,T,T,T,T,T,T,T,T,F,F,F,F,F,F,F,F,F,F,F,F,F,F,F,F,F,F,F,F,F,F,F,F,F,F,F,F,F,F] rfl rfl (any_of HT_.out (by kernel_rfl)) (fun _ _ _ h => h) (Or.inl ⟨by rfl, ?_⟩) ?_ ?_; rotate_left
      ·intro w'; go_simp; with_reducible rfl
      rotate_left; (focus (simp only [PS]; rfl))
      refine pure_ (i := 15) (N := some 101) (v := ?_) (a' := ?_) #[T,T,T,T,T,T,T,T,T,T,T,T,T,T,T,T,F,F,F,F,F,F,F,F,F,F,F,F,F,F,F,F,F,F,F,F,F,F,F,F,F,F,F,F,F] rfl rfl (any_of HT_.out (by kernel_rfl)) (fun _ _ _ h => h) (Or.inl ⟨by rfl, ?_⟩) ?_ ?_; rotate_left
      ·intro w'; go_simp; with_reducible rfl
      rotate_left; (focus (simp only [PS]; rfl))
      refine pure_ (i := 16) (N := some 102) (v := ?_) (a' := ?_) #[T,T,T,T,T,T,T,T,T,T,T,T,T,T,T,T,T,F,F,F,F,F,F,F,F,F,F,F,F,F,F,F,F,F,F,F,F,F,F,F,F,F,F,F,F] rfl rfl (any_of HT_.out (by kernel_rfl)) (fun _ _ _ h => h) (Or.inl ⟨by rfl, ?_⟩) ?_ ?_; rotate_left
      ·intro w'; go_simp; with_reducible rfl
      rotate_left; (focus (simp only [PS]; rfl))
      refine pure_ (i := 19) (N := some 105) (v := ?_) (a' := ?_) #[T,T,T,T,T,T,T,T,T,T,T,T,T,T,T,T,T,F,F,T,F,F,F,F,F,F,F,F,F,F,F,F,F,F,F,F,F,F,F,F,F,F,F,F,F] rfl rfl (any_of HT_.out (by kernel_rfl)) (fun _ _ _ h => h) (Or.inl ⟨by rfl, ?_⟩) ?_ ?_; rotate_left
      ·intro w'; go_simp; with_reducible rfl
      rotate_left; (focus (simp only [PS]; rfl))
      refine pure_ (i := 21) (N := some 107) (v := ?_) (a' := ?_) #[T,T,T,T,T,T,T,T,T,T,T,T,T,T,T,T,T,F,F,T,F,T,F,F,F,F,F,F,F,F,F,F,F,F,F,F,F,F,F,F,F,F,F,F,F] rfl rfl (any_of HT_.out (by kernel_rfl)) (fun _ _ _ h => h) (Or.inl ⟨by rfl, ?_⟩) ?_ ?_; rotate_left
      ·intro w'; go_simp; with_reducible rfl
      rotate_left; (focus (simp only [PS]; rfl))
      refine take_ (i := 17) (N := some 103) (v := ?_) (a' := ?_) #[T,T,T,T,T,T,T,T,T,T,T,T,T,T,T,T,T,T,F,T,F,T,F,F,F,F,F,F,F,F,F,F,F,F,F,F,F,F,F,F,F,F,F,F,F] rfl rfl (take_ofW HT_.out HW_.out (by kernel_rfl)) (fun _ _ _ h => h) (Or.inl ⟨by rfl, ?_⟩) hHeld ?_ ?_; rotate_left
      ·rintro w' ⟨s0, s1, s2, s3, s4, s5, s6, s7, s8, s9, s10, s11⟩; go_simp; with_reducible rfl
      rotate_left; (focus (simp only [PS]; rfl))
      refine take_ (i := 20) (N := some 106) (v := ?_) (a' := ?_) #[T,T,T,T,T,T,T,T,T,T,T,T,T,T,T,T,T,T,F,T,T,T,F,F,F,F,F,F,F,F,F,F,F,F,F,F,F,F,F,F,F,F,F,F,F] rfl rfl (take_ofW HT_.out HW_.out (by kernel_rfl)) (fun _ _ _ h => h) (Or.inl ⟨by rfl, ?_⟩) hHeld ?_ ?_; rotate_left
      ·rintro w' ⟨s0, s1, s2, s3, s4, s5, s6, s7, s8, s9, s10, s11⟩; go_simp; with_reducible rfl
      rotate_left; (focus (simp only [PS]; rfl))
      refine take_ (i := 22) (N := some 108) (v := ?_) (a' := ?_) #[T,T,T,T,T,T,T,T,T,T,T,T,T,T,T,T,T,T,F,T,T,T,T,F,F,F,F,F,F,F,F,F,F,F,F,F,F,F,F,F,F,F,F,F,F] rfl rfl (take_ofW HT_.out HW_.out (by kernel_rfl)) (fun _ _ _ h => h) (Or.inl ⟨by rfl, ?_⟩) hHeld ?_ ?_; rotate_left
      ·rintro w' ⟨s0, s1, s2, s3, s4, s5, s6, s7, s8, s9, s10, s11⟩; go_simp; with_reducible rfl
      rotate_left; (focus (simp only [PS]; rfl))
      refine pure_ (i := 23) (N := some 109) (v := ?_) (a' := ?_) #[T,T,T,T,T,T,T,T,T,T,T,T,T,T,T,T,T,T,F,T,T,T,T,T,F,F,F,F,F,F,F,F,F,F,F,F,F,F,F,F,F,F,F,F,F] rfl rfl (any_of HT_.out (by kernel_rfl)) (fun _ _ _ h => h) (Or.inl ⟨by rfl, ?_⟩) ?_ ?_; rotate_left
      ·intro w'; go_simp; with_reducible rfl
      rotate_left; (focus (simp only [PS]; rfl))
      refine one_ (i := 18) (N := some 104) #[T,T,T,T,T,T,T,T,T,T,T,T,T,T,T,T,T,T,T,T,T,T,T,T,F,F,F,F,F,F,F,F,F,F,F,F,F,F,F,F,F,F,F,F,F] rfl rfl (one_of HT_.out (by kernel_rfl)) (by decide) (fun K hK => ?_)
      refine goes_ Try.func23 (by kernel_rfl) rfl #[.agg #[.int .i64 t194, .int .i64 t195, .int .i64 t196, .int .i64 t197]] (by rfl) rfl rfl (by (try simp only [List.map_toArray, List.map_cons, List.map_nil]); first | done | rfl | (simp only [List.length_drop, List.length_take]; rfl)) ?_
      with_reducible refine (impl_Empty.calls t194 t195 t196 t197 t257 _ A247.out).mono ?_
      rintro e w265 ⟨rfl, hb⟩
      refine ⟨_, rfl, ?_⟩
      replace BK204 := Aside0.mk (blk_below BK204.out hb)
      replace BK205 := Aside0.mk (blk_below BK205.out hb)
      replace BK206 := Aside0.mk (blk_below BK206.out hb)
      replace BK211 := Aside0.mk (blk_below BK211.out hb)
      replace BK216 := Aside0.mk (blk_below BK216.out hb)
      replace BK221 := Aside0.mk (blk_below BK221.out hb)
      replace BK224 := Aside0.mk (blk_below BK224.out hb)
      replace HB := Aside0.mk (below_step HB.out hb)
      (try clear hb)
      (try clear hb2)
      (try clear hk)
      (try clear hi)
      refine hK.out _ _ ⟨(blk_cell BK204.out 0).trans rfl, (blk_cell BK204.out 1).trans rfl, (blk_cell BK204.out 2).trans rfl, (blk_cell BK204.out 3).trans rfl, (blk_cell BK205.out 0).trans rfl, (blk_cell BK205.out 1).trans rfl, (blk_cell BK205.out 2).trans rfl, (blk_cell BK205.out 3).trans rfl, (blk_cell BK216.out 0).trans rfl, (blk_cell BK216.out 1).trans rfl, (blk_cell BK216.out 2).trans rfl, (blk_cell BK216.out 3).trans rfl⟩ (fun hHeld => ?_)
      clear hK K
      refine norm_ (a' := ?_) ?_ ?_; rotate_left
      ·show Act.put _ (some 104) _ = _
       simp only [PS]
       rfl
      refine pure_ (i := 24) (N := some 110) (v := ?_) (a' := ?_) #[T,T,T,T,T,T,T,T,T,T,T,T,T,T,T,T,T,T,T,T,T,T,T,T,T,F,F,F,F,F,F,F,F,F,F,F,F,F,F,F,F,F,F,F,F] rfl rfl (any_of HT_.out (by kernel_rfl)) (fun _ _ _ h => h) (Or.inl ⟨by rfl, ?_⟩) ?_ ?_; rotate_left
      ·intro w'; go_simp; with_reducible rfl
      rotate_left; (focus (simp only [PS]; rfl))
      refine pure_ (i := 25) (N := some 111) (v := undef) (a' := ?_) #[T,T,T,T,T,T,T,T,T,T,T,T,T,T,T,T,T,T,T,T,T,T,T,T,T,T,F,F,F,F,F,F,F,F,F,F,F,F,F,F,F,F,F,F,F] rfl rfl (any_of HT_.out (by kernel_rfl)) (fun _ _ _ h => h) (Or.inr ⟨by rfl, rfl⟩) ?_ ?_; rotate_left
      ·simp only [PS]; rfl
      refine pure_ (i := 26) (N := some 112) (v := undef) (a' := ?_) #[T,T,T,T,T,T,T,T,T,T,T,T,T,T,T,T,T,T,T,T,T,T,T,T,T,T,T,F,F,F,F,F,F,F,F,F,F,F,F,F,F,F,F,F,F] rfl rfl (any_of HT_.out (by kernel_rfl)) (fun _ _ _ h => h) (Or.inr ⟨by rfl, rfl⟩) ?_ ?_; rotate_left
      ·simp only [PS]; rfl
      refine pure_ (i := 27) (N := some 113) (v := undef) (a' := ?_) #[T,T,T,T,T,T,T,T,T,T,T,T,T,T,T,T,T,T,T,T,T,T,T,T,T,T,T,T,F,F,F,F,F,F,F,F,F,F,F,F,F,F,F,F,F] rfl rfl (any_of HT_.out (by kernel_rfl)) (fun _ _ _ h => h) (Or.inr ⟨by rfl, rfl⟩) ?_ ?_; rotate_left
      ·simp only [PS]; rfl
      refine pure_ (i := 28) (N := some 114) (v := undef) (a' := ?_) #[T,T,T,T,T,T,T,T,T,T,T,T,T,T,T,T,T,T,T,T,T,T,T,T,T,T,T,T,T,F,F,F,F,F,F,F,F,F,F,F,F,F,F,F,F] rfl rfl (any_of HT_.out (by kernel_rfl)) (fun _ _ _ h => h) (Or.inr ⟨by rfl, rfl⟩) ?_ ?_; rotate_left
      ·simp only [PS]; rfl
      refine pure_ (i := 29) (N := some 115) (v := undef) (a' := ?_) #[T,T,T,T,T,T,T,T,T,T,T,T,T,T,T,T,T,T,T,T,T,T,T,T,T,T,T,T,T,T,F,F,F,F,F,F,F,F,F,F,F,F,F,F,F] rfl rfl (any_of HT_.out (by kernel_rfl)) (fun _ _ _ h => h) (Or.inr ⟨by rfl, rfl⟩) ?_ ?_; rotate_left
      ·simp only [PS]; rfl
      refine pure_ (i := 30) (N := some 116) (v := ?_) (a' := ?_) #[T,T,T,T,T,T,T,T,T,T,T,T,T,T,T,T,T,T,T,T,T,T,T,T,T,T,T,T,T,T,T,F,F,F,F,F,F,F,F,F,F,F,F,F,F] rfl rfl (any_of HT_.out (by kernel_rfl)) (fun _ _ _ h => h) (Or.inl ⟨by rfl, ?_⟩) ?_ ?_; rotate_left
      ·intro w'; go_simp; with_reducible rfl
      rotate_left; (focus (simp only [PS]; rfl))
      refine pure_ (i := 31) (N := some 117) (v := ?_) (a' := ?_) #[T,T,T,T,T,T,T,T,T,T,T,T,T,T,T,T,T,T,T,T,T,T,T,T,T,T,T,T,T,T,T,T,F,F,F,F,F,F,F,F,F,F,F,F,F] rfl rfl (any_of HT_.out (by kernel_rfl)) (fun _ _ _ h => h) (Or.inl ⟨by rfl, ?_⟩) ?_ ?_; rotate_left
      ·intro w'; go_simp; with_reducible rfl
      rotate_left; (focus (simp only [PS]; rfl))
      refine pure_ (i := 32) (N := some 118) (v := ?_) (a' := ?_) #[T,T,T,T,T,T,T,T,T,T,T,T,T,T,T,T,T,T,T,T,T,T,T,T,T,T,T,T,T,T,T,T,T,F,F,F,F,F,F,F,F,F,F,F,F] rfl rfl (any_of HT_.out (by kernel_rfl)) (fun _ _ _ h => h) (Or.inl ⟨by rfl, ?_⟩) ?_ ?_; rotate_left
      ·intro w'; go_simp; with_reducible rfl
      rotate_left; (focus (simp only [PS]; rfl))
      refine pure_ (i := 33) (N := some 119) (v := ?_) (a' := ?_) #[T,T,T,T,T,T,T,T,T,T,T,T,T,T,T,T,T,T,T,T,T,T,T,T,T,T,T,T,T,T,T,T,T,T,F,F,F,F,F,F,F,F,F,F,F] rfl rfl (any_of HT_.out (by kernel_rfl)) (fun _ _ _ h => h) (Or.inl ⟨by rfl, ?_⟩) ?_ ?_; rotate_left
      ·intro w'; go_simp; with_reducible rfl
      rotate_left; (focus (simp only [PS]; rfl))
      refine take_ (i := 34) (N := some 120) (v := ?_) (a' := ?_) #[T,T,T,T,T,T,T,T,T,T,T,T,T,T,T,T,T,T,T,T,T,T,T,T,T,T,T,T,T,T,T,T,T,T,T,F,F,F,F,F,F,F,F,F,F] rfl rfl (take_ofW HT_.out HW_.out (by kernel_rfl)) (fun _ _ _ h => h) (Or.inl ⟨by rfl, ?_⟩) hHeld ?_ ?_; rotate_left
      ·rintro w' ⟨s0, s1, s2, s3, s4, s5, s6, s7, s8, s9, s10, s11⟩; go_simp; with_reducible rfl
      rotate_left; (focus (simp only [PS]; rfl))
      refine one_ (i := 35) (N := some 121) #[T,T,T,T,T,T,T,T,T,T,T,T,T,T,T,T,T,T,T,T,T,T,T,T,T,T,T,T,T,T,T,T,T,T,T,T,F,F,F,F,F,F,F,F,F] rfl rfl (one_of HT_.out (by kernel_rfl)) (by decide) (fun K hK => ?_)
      refine goes_ Try.func23 (by kernel_rfl) rfl #[.agg #[.int .i64 t212, .int .i64 t213, .int .i64 t214, .int .i64 t215]] (by rfl) rfl rfl (by (try simp only [List.map_toArray, List.map_cons, List.map_nil]); first | done | rfl | (simp only [List.length_drop, List.length_take]; rfl)) ?_
      with_reducible refine (impl_Empty.calls t212 t213 t214 t215 false _ A250.out).mono ?_
      rintro e w266 ⟨rfl, hb⟩
      refine ⟨_, rfl, ?_⟩
      replace BK204 := Aside0.mk (blk_below BK204.out hb)
      replace BK205 := Aside0.mk (blk_below BK205.out hb)
      replace BK206 := Aside0.mk (blk_below BK206.out hb)
      replace BK211 := Aside0.mk (blk_below BK211.out hb)
      replace BK216 := Aside0.mk (blk_below BK216.out hb)
      replace BK221 := Aside0.mk (blk_below BK221.out hb)
      replace BK224 := Aside0.mk (blk_below BK224.out hb)
      replace HB := Aside0.mk (below_step HB.out hb)
      (try clear hb)
      (try clear hb2)
      (try clear hk)
      (try clear hi)
      refine hK.out _ _ ⟨(blk_cell BK204.out 0).trans rfl, (blk_cell BK204.out 1).trans rfl, (blk_cell BK204.out 2).trans rfl, (blk_cell BK204.out 3).trans rfl, (blk_cell BK205.out 0).trans rfl, (blk_cell BK205.out 1).trans rfl, (blk_cell BK205.out 2).trans rfl, (blk_cell BK205.out 3).trans rfl, (blk_cell BK216.out 0).trans rfl, (blk_cell BK216.out 1).trans rfl, (blk_cell BK216.out 2).trans rfl, (blk_cell BK216.out 3).trans rfl⟩ (fun hHeld => ?_)
      clear hK K
      refine norm_ (a' := ?_) ?_ ?_; rotate_left
      ·show Act.put _ (some 121) _ = _
       simp only [PS]
       rfl
      refine pure_ (i := 36) (N := some 122) (v := ?_) (a' := ?_) #[T,T,T,T,T,T,T,T,T,T,T,T,T,T,T,T,T,T,T,T,T,T,T,T,T,T,T,T,T,T,T,T,T,T,T,T,T,F,F,F,F,F,F,F,F] rfl rfl (any_of HT_.out (by kernel_rfl)) (fun _ _ _ h => h) (Or.inl ⟨by rfl, ?_⟩) ?_ ?_; rotate_left
      ·intro w'; go_simp; with_reducible rfl
      rotate_left; (focus (simp only [PS]; rfl))
      refine take_ (i := 37) (N := some 123) (v := ?_) (a' := ?_) #[T,T,T,T,T,T,T,T,T,T,T,T,T,T,T,T,T,T,T,T,T,T,T,T,T,T,T,T,T,T,T,T,T,T,T,T,T,T,F,F,F,F,F,F,F] rfl rfl (take_ofW HT_.out HW_.out (by kernel_rfl)) (fun _ _ _ h => h) (Or.inl ⟨by rfl, ?_⟩) hHeld ?_ ?_; rotate_left
      ·rintro w' ⟨s0, s1, s2, s3, s4, s5, s6, s7, s8, s9, s10, s11⟩; go_simp; with_reducible rfl
      rotate_left; (focus (simp only [PS]; rfl))
      refine take_ (i := 38) (N := some 124) (v := ?_) (a' := ?_) #[T,T,T,T,T,T,T,T,T,T,T,T,T,T,T,T,T,T,T,T,T,T,T,T,T,T,T,T,T,T,T,T,T,T,T,T,T,T,T,F,F,F,F,F,F] rfl rfl (take_ofW HT_.out HW_.out (by kernel_rfl)) (fun _ _ _ h => h) (Or.inl ⟨by rfl, ?_⟩) hHeld ?_ ?_; rotate_left
      ·rintro w' ⟨s0, s1, s2, s3, s4, s5, s6, s7, s8, s9, s10, s11⟩; go_simp; with_reducible rfl
      rotate_left; (focus (simp only [PS]; rfl))
      refine take_ (i := 40) (N := some 126) (v := ?_) (a' := ?_) #[T,T,T,T,T,T,T,T,T,T,T,T,T,T,T,T,T,T,T,T,T,T,T,T,T,T,T,T,T,T,T,T,T,T,T,T,T,T,T,F,T,F,F,F,F] rfl rfl (take_ofW HT_.out HW_.out (by kernel_rfl)) (fun _ _ _ h => h) (Or.inl ⟨by rfl, ?_⟩) hHeld ?_ ?_; rotate_left
      ·rintro w' ⟨s0, s1, s2, s3, s4, s5, s6, s7, s8, s9, s10, s11⟩; go_simp; with_reducible rfl
      rotate_left; (focus (simp only [PS]; rfl))
      refine one_ (i := 39) (N := some 125) #[T,T,T,T,T,T,T,T,T,T,T,T,T,T,T,T,T,T,T,T,T,T,T,T,T,T,T,T,T,T,T,T,T,T,T,T,T,T,T,T,T,F,F,F,F] rfl rfl (one_of HT_.out (by kernel_rfl)) (by decide) (fun K hK => ?_)
      refine goes_ Try.func19 (by kernel_rfl) rfl #[.agg #[.int .i64 t212, .int .i64 t213, .int .i64 t214, .int .i64 t215], .agg #[.int .i64 t194, .int .i64 t195, .int .i64 t196, .int .i64 t197]] (by rfl) rfl rfl (by (try simp only [List.map_toArray, List.map_cons, List.map_nil]); first | done | rfl | (simp only [List.length_drop, List.length_take]; rfl)) ?_
      with_reducible refine (impl_JoinBox.calls kj221 t212 t213 t214 t215 t194 t195 t196 t197 t259 t260 t261 t262 _ A259.out).mono ?_
      rintro e w267 ⟨rfl, hb⟩
      refine ⟨_, rfl, ?_⟩
      replace BK204 := Aside0.mk (blk_below BK204.out hb)
      replace BK205 := Aside0.mk (blk_below BK205.out hb)
      replace BK206 := Aside0.mk (blk_below BK206.out hb)
      replace BK211 := Aside0.mk (blk_below BK211.out hb)
      replace BK216 := Aside0.mk (blk_below BK216.out hb)
      replace BK221 := Aside0.mk (blk_below BK221.out hb)
      replace BK224 := Aside0.mk (blk_below BK224.out hb)
      replace HB := Aside0.mk (below_step HB.out hb)
      (try clear hb)
      (try clear hb2)
      (try clear hk)
      (try clear hi)
      refine hK.out _ _ ⟨(blk_cell BK204.out 0).trans rfl, (blk_cell BK204.out 1).trans rfl, (blk_cell BK204.out 2).trans rfl, (blk_cell BK204.out 3).trans rfl, (blk_cell BK205.out 0).trans rfl, (blk_cell BK205.out 1).trans rfl, (blk_cell BK205.out 2).trans rfl, (blk_cell BK205.out 3).trans rfl, (blk_cell BK216.out 0).trans rfl, (blk_cell BK216.out 1).trans rfl, (blk_cell BK216.out 2).trans rfl, (blk_cell BK216.out 3).trans rfl⟩ (fun hHeld => ?_)
      clear hK K
      refine norm_ (a' := ?_) ?_ ?_; rotate_left
      ·show Act.put _ (some 125) _ = _
       simp only [PS]
       rfl
      refine pure_ (i := 41) (N := some 127) (v := ?_) (a' := ?_) #[T,T,T,T,T,T,T,T,T,T,T,T,T,T,T,T,T,T,T,T,T,T,T,T,T,T,T,T,T,T,T,T,T,T,T,T,T,T,T,T,T,T,F,F,F] rfl rfl (any_of HT_.out (by kernel_rfl)) (fun _ _ _ h => h) (Or.inl ⟨by rfl, ?_⟩) ?_ ?_; rotate_left
      ·intro w'; go_simp; with_reducible rfl
      rotate_left; (focus (simp only [PS]; rfl))
      refine pure_ (i := 42) (N := some 128) (v := ?_) (a' := ?_) #[T,T,T,T,T,T,T,T,T,T,T,T,T,T,T,T,T,T,T,T,T,T,T,T,T,T,T,T,T,T,T,T,T,T,T,T,T,T,T,T,T,T,T,F,F] rfl rfl (any_of HT_.out (by kernel_rfl)) (fun _ _ _ h => h) (Or.inl ⟨by rfl, ?_⟩) ?_ ?_; rotate_left
      ·intro w'; go_simp; with_reducible rfl
      rotate_left; (focus (simp only [PS]; rfl))
      refine pure_ (i := 43) (N := some 129) (v := ?_) (a' := ?_) #[T,T,T,T,T,T,T,T,T,T,T,T,T,T,T,T,T,T,T,T,T,T,T,T,T,T,T,T,T,T,T,T,T,T,T,T,T,T,T,T,T,T,T,T,F] rfl rfl (any_of HT_.out (by kernel_rfl)) (fun _ _ _ h => h) (Or.inl ⟨by rfl, ?_⟩) ?_ ?_; rotate_left
      ·intro w'; go_simp; with_reducible rfl
      rotate_left; (focus (simp only [PS]; rfl))
      refine pure_ (i := 44) (N := some 2) (v := ?_) (a' := ?_) #[T,T,T,T,T,T,T,T,T,T,T,T,T,T,T,T,T,T,T,T,T,T,T,T,T,T,T,T,T,T,T,T,T,T,T,T,T,T,T,T,T,T,T,T,T] rfl rfl (any_of HT_.out (by kernel_rfl)) (fun _ _ _ h => h) (Or.inl ⟨by rfl, ?_⟩) ?_ ?_; rotate_left
      ·intro w'; go_simp; with_reducible rfl
      rotate_left; (focus (simp only [PS]; rfl))
      refine done_ (done_of HT_.out (by kernel_rfl)) ?_
      try go_wp2
      all_goals (go_ret; exact ⟨by first | rfl | (simp [errW_none, errW_some] <;> rfl) | (simp [*, errW_none, errW_some] <;> rfl), by repeat (first | (with_reducible first | exact HB.out | apply below_alloc | apply pw_below_drewN | apply below_drew1 | refine below_set ?_ GE204.out | refine below_set ?_ GE205.out | refine below_set ?_ GE206.out | refine below_set ?_ GE211.out | refine below_set ?_ GE216.out | refine below_set ?_ GE221.out | refine below_set ?_ GE224.out) | exact HB.out)⟩)
     rw [if_neg c248] at H
     have c248b0 : decide (t196 ≤ t194) = false := decide_eq_false c248
     clear c248
     by_cases c274 : (t257 == (decide (t195 ≥ t197))) = true
     rotate_left
     ·rw [if_neg c274] at H
      have c274b0 : (t257 == (decide (t195 ≥ t197))) = false := by simpa using c274
      (try (have c274b1 : decide (t257 = (decide (t195 ≥ t197))) = false := by simpa using c274))
      (try (have c274b2 : (t257 == (decide (t195 ≥ t197))) = false := by simpa using c274))
      (try (have c274b3 : ¬ (t257 = (decide (t195 ≥ t197))) := by simpa using c274))
      clear c274
      obtain rfl := Option.some.inj H
      exact absurd hr_ (by decide)
     rw [if_pos c274] at H
     have c274b0 : (t257 == (decide (t195 ≥ t197))) = true := c274
     (try (have c274b1 : decide (t257 = (decide (t195 ≥ t197))) = true := by simpa using c274))
     (try (have c274b2 : (t257 == (decide (t195 ≥ t197))) = true := by simpa using c274))
     clear c274
     replace H := Option.bind_eq_some_iff.mp H
     obtain ⟨t263, A2750, H⟩ := H
     replace H : (if t263 = true then (some true) else ((impl_JoinBox.f kj221 t212 t213 t214 t215 t194 t195 t196 t197).bind fun bt264 => (some (bt264.1 == t194 && (bt264.2.1 == t195 && (bt264.2.2.1 == t196 && (bt264.2.2.2 == t197))))))) = some r := H
     have A275 := Aside0.mk A2750
     clear A2750
     by_cases c276 : t263 = true
     ·subst c276
      have H1 : (some true) = some r := by rw [if_pos rfl] at H; exact H
      clear H
      have H := H1
      clear H1
      obtain rfl := Option.some.inj H
      try go_wp2
      replace BK204 := Aside0.mk (blk_drew BK204.out)
      replace BK205 := Aside0.mk (blk_drew BK205.out)
      replace BK206 := Aside0.mk (blk_drew BK206.out)
      replace BK211 := Aside0.mk (blk_drew BK211.out)
      replace BK216 := Aside0.mk (blk_drew BK216.out)
      replace BK221 := Aside0.mk (blk_drew BK221.out)
      replace BK224 := Aside0.mk (blk_drew BK224.out)
      replace HB := Aside0.mk (below_drew1 HB.out)
      refine start_ (n := 45) (S := fun w' => w'.cell? ⟨gb204, 0, none⟩ = some (.int .i64 t194) ∧ w'.cell? ⟨gb204, 1, none⟩ = some (.int .i64 t195) ∧ w'.cell? ⟨gb204, 2, none⟩ = some (.int .i64 t196) ∧ w'.cell? ⟨gb204, 3, none⟩ = some (.int .i64 t197) ∧ w'.cell? ⟨gb205, 0, none⟩ = some (.int .i64 t198) ∧ w'.cell? ⟨gb205, 1, none⟩ = some (.int .i64 t199) ∧ w'.cell? ⟨gb205, 2, none⟩ = some (.int .i64 t200) ∧ w'.cell? ⟨gb205, 3, none⟩ = some (.int .i64 t201) ∧ w'.cell? ⟨gb216, 0, none⟩ = some (.int .i64 t212) ∧ w'.cell? ⟨gb216, 1, none⟩ = some (.int .i64 t213) ∧ w'.cell? ⟨gb216, 2, none⟩ = some (.int .i64 t214) ∧ w'.cell? ⟨gb216, 3, none⟩ = some (.int .i64 t215)) (ds := []) #[F,F,F,F,F,F,F,F,F,F,F,F,F,F,F,F,F,F,F,F,F,F,F,F,F,F,F,F,F,F,F,F,F,F,F,F,F,F,F,F,F,F,F,F,F] (by kernel_rfl) rfl rfl ⟨(blk_cell BK204.out 0).trans rfl, (blk_cell BK204.out 1).trans rfl, (blk_cell BK204.out 2).trans rfl, (blk_cell BK204.out 3).trans rfl, (blk_cell BK205.out 0).trans rfl, (blk_cell BK205.out 1).trans rfl, (blk_cell BK205.out 2).trans rfl, (blk_cell BK205.out 3).trans rfl, (blk_cell BK216.out 0).trans rfl, (blk_cell BK216.out 1).trans rfl, (blk_cell BK216.out 2).trans rfl, (blk_cell BK216.out 3).trans rfl⟩ (fun hHeld => ?_); refine with_tabW laws_FnBoxes.tab14 laws_FnBoxes.bits14 (fun HT_ HW_ => ?_)
      generalize wc.drew = w277 at BK204 BK205 BK206 BK211 BK216 BK221 BK224 HB hHeld ⊢
      refine take_ (i := 0) (N := some 86) (v := ?_) (a' := ?_) #[T,F,F,F,F,F,F,F,F,F,F,F,F,F,F,F,F,F,F,F,F,F,F,F,F,F,F,F,F,F,F,F,F,F,F,F,F,F,F,F,F,F,F,F,F] rfl rfl (take_ofW HT_.out HW_.out (by kernel_rfl)) (fun _ _ _ h => h) (Or.inl ⟨by rfl, ?_⟩) hHeld ?_ ?_; rotate_left
      ·rintro w' ⟨s0, s1, s2, s3, s4, s5, s6, s7, s8, s9, s10, s11⟩; go_simp; with_reducible rfl
      rotate_left; (focus (simp only [PS]; rfl))
      refine take_ (i := 1) (N := some 87) (v := ?_) (a' := ?_) #[T,T,F,F,F,F,F,F,F,F,F,F,F,F,F,F,F,F,F,F,F,F,F,F,F,F,F,F,F,F,F,F,F,F,F,F,F,F,F,F,F,F,F,F,F] rfl rfl (take_ofW HT_.out HW_.out (by kernel_rfl)) (fun _ _ _ h => h) (Or.inl ⟨by rfl, ?_⟩) hHeld ?_ ?_; rotate_left
      ·rintro w' ⟨s0, s1, s2, s3, s4, s5, s6, s7, s8, s9, s10, s11⟩; go_simp; with_reducible rfl
      rotate_left; (focus (simp only [PS]; rfl))
      refine take_ (i := 3) (N := some 89) (v := ?_) (a' := ?_) #[T,T,F,T,F,F,F,F,F,F,F,F,F,F,F,F,F,F,F,F,F,F,F,F,F,F,F,F,F,F,F,F,F,F,F,F,F,F,F,F,F,F,F,F,F] rfl rfl (take_ofW HT_.out HW_.out (by kernel_rfl)) (fun _ _ _ h => h) (Or.inl ⟨by rfl, ?_⟩) hHeld ?_ ?_; rotate_left
      ·rintro w' ⟨s0, s1, s2, s3, s4, s5, s6, s7, s8, s9, s10, s11⟩; go_simp; with_reducible rfl
      rotate_left; (focus (simp only [PS]; rfl))
      refine take_ (i := 4) (N := some 90) (v := ?_) (a' := ?_) #[T,T,F,T,T,F,F,F,F,F,F,F,F,F,F,F,F,F,F,F,F,F,F,F,F,F,F,F,F,F,F,F,F,F,F,F,F,F,F,F,F,F,F,F,F] rfl rfl (take_ofW HT_.out HW_.out (by kernel_rfl)) (fun _ _ _ h => h) (Or.inl ⟨by rfl, ?_⟩) hHeld ?_ ?_; rotate_left
      ·rintro w' ⟨s0, s1, s2, s3, s4, s5, s6, s7, s8, s9, s10, s11⟩; go_simp; with_reducible rfl
      rotate_left; (focus (simp only [PS]; rfl))
      refine one_ (i := 2) (N := some 88) #[T,T,T,T,T,F,F,F,F,F,F,F,F,F,F,F,F,F,F,F,F,F,F,F,F,F,F,F,F,F,F,F,F,F,F,F,F,F,F,F,F,F,F,F,F] rfl rfl (one_of HT_.out (by kernel_rfl)) (by decide) (fun K hK => ?_)
      refine goes_ Try.func19 (by kernel_rfl) rfl #[.agg #[.int .i64 t194, .int .i64 t195, .int .i64 t196, .int .i64 t197], .agg #[.int .i64 t198, .int .i64 t199, .int .i64 t200, .int .i64 t201]] (by rfl) rfl rfl (by (try simp only [List.map_toArray, List.map_cons, List.map_nil]); first | done | rfl | (simp only [List.length_drop, List.length_take]; rfl)) ?_
      with_reducible refine (impl_JoinBox.calls kj221 t194 t195 t196 t197 t198 t199 t200 t201 t241 t242 t243 t244 _ A241.out).mono ?_
      rintro e w278 ⟨rfl, hb⟩
      refine ⟨_, rfl, ?_⟩
      replace BK204 := Aside0.mk (blk_below BK204.out hb)
      replace BK205 := Aside0.mk (blk_below BK205.out hb)
      replace BK206 := Aside0.mk (blk_below BK206.out hb)
      replace BK211 := Aside0.mk (blk_below BK211.out hb)
      replace BK216 := Aside0.mk (blk_below BK216.out hb)
      replace BK221 := Aside0.mk (blk_below BK221.out hb)
      replace BK224 := Aside0.mk (blk_below BK224.out hb)
      replace HB := Aside0.mk (below_step HB.out hb)
      (try clear hb)
      (try clear hb2)
      (try clear hk)
      (try clear hi)
      refine hK.out _ _ ⟨(blk_cell BK204.out 0).trans rfl, (blk_cell BK204.out 1).trans rfl, (blk_cell BK204.out 2).trans rfl, (blk_cell BK204.out 3).trans rfl, (blk_cell BK205.out 0).trans rfl, (blk_cell BK205.out 1).trans rfl, (blk_cell BK205.out 2).trans rfl, (blk_cell BK205.out 3).trans rfl, (blk_cell BK216.out 0).trans rfl, (blk_cell BK216.out 1).trans rfl, (blk_cell BK216.out 2).trans rfl, (blk_cell BK216.out 3).trans rfl⟩ (fun hHeld => ?_)
      clear hK K
      refine norm_ (a' := ?_) ?_ ?_; rotate_left
      ·show Act.put _ (some 88) _ = _
       simp only [PS]
       rfl
      refine one_ (i := 5) (N := some 91) #[T,T,T,T,T,T,F,F,F,F,F,F,F,F,F,F,F,F,F,F,F,F,F,F,F,F,F,F,F,F,F,F,F,F,F,F,F,F,F,F,F,F,F,F,F] rfl rfl (one_of HT_.out (by kernel_rfl)) (by decide) (fun K hK => ?_)
      refine goes_ Try.func19 (by kernel_rfl) rfl #[.agg #[.int .i64 t198, .int .i64 t199, .int .i64 t200, .int .i64 t201], .agg #[.int .i64 t194, .int .i64 t195, .int .i64 t196, .int .i64 t197]] (by rfl) rfl rfl (by (try simp only [List.map_toArray, List.map_cons, List.map_nil]); first | done | rfl | (simp only [List.length_drop, List.length_take]; rfl)) ?_
      with_reducible refine (impl_JoinBox.calls kj221 t198 t199 t200 t201 t194 t195 t196 t197 t245 t246 t247 t248 _ A242.out).mono ?_
      rintro e w279 ⟨rfl, hb⟩
      refine ⟨_, rfl, ?_⟩
      replace BK204 := Aside0.mk (blk_below BK204.out hb)
      replace BK205 := Aside0.mk (blk_below BK205.out hb)
      replace BK206 := Aside0.mk (blk_below BK206.out hb)
      replace BK211 := Aside0.mk (blk_below BK211.out hb)
      replace BK216 := Aside0.mk (blk_below BK216.out hb)
      replace BK221 := Aside0.mk (blk_below BK221.out hb)
      replace BK224 := Aside0.mk (blk_below BK224.out hb)
      replace HB := Aside0.mk (below_step HB.out hb)
      (try clear hb)
      (try clear hb2)
      (try clear hk)
      (try clear hi)
      refine hK.out _ _ ⟨(blk_cell BK204.out 0).trans rfl, (blk_cell BK204.out 1).trans rfl, (blk_cell BK204.out 2).trans rfl, (blk_cell BK204.out 3).trans rfl, (blk_cell BK205.out 0).trans rfl, (blk_cell BK205.out 1).trans rfl, (blk_cell BK205.out 2).trans rfl, (blk_cell BK205.out 3).trans rfl, (blk_cell BK216.out 0).trans rfl, (blk_cell BK216.out 1).trans rfl, (blk_cell BK216.out 2).trans rfl, (blk_cell BK216.out 3).trans rfl⟩ (fun hHeld => ?_)
      clear hK K
      refine norm_ (a' := ?_) ?_ ?_; rotate_left
      ·show Act.put _ (some 91) _ = _
       simp only [PS]
       rfl
      refine pure_ (i := 6) (N := some 92) (v := ?_) (a' := ?_) #[T,T,T,T,T,T,T,F,F,F,F,F,F,F,F,F,F,F,F,F,F,F,F,F,F,F,F,F,F,F,F,F,F,F,F,F,F,F,F,F,F,F,F,F,F] rfl rfl (any_of HT_.out (by kernel_rfl)) (fun _ _ _ h => h) (Or.inl ⟨by rfl, ?_⟩) ?_ ?_; rotate_left
      ·intro w'; go_simp; with_reducible rfl
      rotate_left; (focus (simp only [PS]; rfl))
      refine pure_ (i := 7) (N := some 93) (v := ?_) (a' := ?_) #[T,T,T,T,T,T,T,T,F,F,F,F,F,F,F,F,F,F,F,F,F,F,F,F,F,F,F,F,F,F,F,F,F,F,F,F,F,F,F,F,F,F,F,F,F] rfl rfl (any_of HT_.out (by kernel_rfl)) (fun _ _ _ h => h) (Or.inl ⟨by rfl, ?_⟩) ?_ ?_; rotate_left
      ·intro w'; go_simp; with_reducible rfl
      rotate_left; (focus (simp only [PS]; rfl))
      refine take_ (i := 8) (N := some 94) (v := ?_) (a' := ?_) #[T,T,T,T,T,T,T,T,T,F,F,F,F,F,F,F,F,F,F,F,F,F,F,F,F,F,F,F,F,F,F,F,F,F,F,F,F,F,F,F,F,F,F,F,F] rfl rfl (take_ofW HT_.out HW_.out (by kernel_rfl)) (fun _ _ _ h => h) (Or.inl ⟨by rfl, ?_⟩) hHeld ?_ ?_; rotate_left
      ·rintro w' ⟨s0, s1, s2, s3, s4, s5, s6, s7, s8, s9, s10, s11⟩; go_simp; with_reducible rfl
      rotate_left; (focus (simp only [PS]; rfl))
      refine take_ (i := 9) (N := some 95) (v := ?_) (a' := ?_) #[T,T,T,T,T,T,T,T,T,T,F,F,F,F,F,F,F,F,F,F,F,F,F,F,F,F,F,F,F,F,F,F,F,F,F,F,F,F,F,F,F,F,F,F,F] rfl rfl (take_ofW HT_.out HW_.out (by kernel_rfl)) (fun _ _ _ h => h) (Or.inl ⟨by rfl, ?_⟩) hHeld ?_ ?_; rotate_left
      ·rintro w' ⟨s0, s1, s2, s3, s4, s5, s6, s7, s8, s9, s10, s11⟩; go_simp; with_reducible rfl
      rotate_left; (focus (simp only [PS]; rfl))
      refine take_ (i := 11) (N := some 97) (v := ?_) (a' := ?_) #[T,T,T,T,T,T,T,T,T,T,F,T,F,F,F,F,F,F,F,F,F,F,F,F,F,F,F,F,F,F,F,F,F,F,F,F,F,F,F,F,F,F,F,F,F] rfl rfl (take_ofW HT_.out HW_.out (by kernel_rfl)) (fun _ _ _ h => h) (Or.inl ⟨by rfl, ?_⟩) hHeld ?_ ?_; rotate_left
      ·rintro w' ⟨s0, s1, s2, s3, s4, s5, s6, s7, s8, s9, s10, s11⟩; go_simp; with_reducible rfl
      rotate_left; (focus (simp only [PS]; rfl))
      refine take_ (i := 12) (N := some 98) (v := ?_) (a' := ?_) #[T,T,T,T,T,T,T,T,T,T,F,T,T,F,F,F,F,F,F,F,F,F,F,F,F,F,F,F,F,F,F,F,F,F,F,F,F,F,F,F,F,F,F,F,F] rfl rfl (take_ofW HT_.out HW_.out (by kernel_rfl)) (fun _ _ _ h => h) (Or.inl ⟨by rfl, ?_⟩) hHeld ?_ ?_; rotate_left
      ·rintro w' ⟨s0, s1, s2, s3, s4, s5, s6, s7, s8, s9, s10, s11⟩; go_simp; with_reducible rfl
      rotate_left; (focus (simp only [PS]; rfl))
      refine one_ (i := 10) (N := some 96) #[T,T,T,T,T,T,T,T,T,T,T,T,T,F,F,F,F,F,F,F,F,F,F,F,F,F,F,F,F,F,F,F,F,F,F,F,F,F,F,F,F,F,F,F,F] rfl rfl (one_of HT_.out (by kernel_rfl)) (by decide) (fun K hK => ?_)
      refine goes_ Try.func20 (by kernel_rfl) rfl #[.agg #[.int .i64 t194, .int .i64 t195, .int .i64 t196, .int .i64 t197], .agg #[.int .i64 t198, .int .i64 t199, .int .i64 t200, .int .i64 t201]] (by rfl) rfl rfl (by (try simp only [List.map_toArray, List.map_cons, List.map_nil]); first | done | rfl | (simp only [List.length_drop, List.length_take]; rfl)) ?_
      with_reducible refine (impl_MeetBox.calls t194 t195 t196 t197 t198 t199 t200 t201 t249 t250 t251 t252 _ A244.out).mono ?_
      rintro e w280 ⟨rfl, hb⟩
      refine ⟨_, rfl, ?_⟩
      replace BK204 := Aside0.mk (blk_below BK204.out hb)
      replace BK205 := Aside0.mk (blk_below BK205.out hb)
      replace BK206 := Aside0.mk (blk_below BK206.out hb)
      replace BK211 := Aside0.mk (blk_below BK211.out hb)
      replace BK216 := Aside0.mk (blk_below BK216.out hb)
      replace BK221 := Aside0.mk (blk_below BK221.out hb)
      replace BK224 := Aside0.mk (blk_below BK224.out hb)
      replace HB := Aside0.mk (below_step HB.out hb)
      (try clear hb)
      (try clear hb2)
      (try clear hk)
      (try clear hi)
      refine hK.out _ _ ⟨(blk_cell BK204.out 0).trans rfl, (blk_cell BK204.out 1).trans rfl, (blk_cell BK204.out 2).trans rfl, (blk_cell BK204.out 3).trans rfl, (blk_cell BK205.out 0).trans rfl, (blk_cell BK205.out 1).trans rfl, (blk_cell BK205.out 2).trans rfl, (blk_cell BK205.out 3).trans rfl, (blk_cell BK216.out 0).trans rfl, (blk_cell BK216.out 1).trans rfl, (blk_cell BK216.out 2).trans rfl, (blk_cell BK216.out 3).trans rfl⟩ (fun hHeld => ?_)
      clear hK K
      refine norm_ (a' := ?_) ?_ ?_; rotate_left
      ·show Act.put _ (some 96) _ = _
       simp only [PS]
       rfl
      refine one_ (i := 13) (N := some 99) #[T,T,T,T,T,T,T,T,T,T,T,T,T,T,F,F,F,F,F,F,F,F,F,F,F,F,F,F,F,F,F,F,F,F,F,F,F,F,F,F,F,F,F,F,F] rfl rfl (one_of HT_.out (by kernel_rfl)) (by decide) (fun K hK => ?_)
      refine goes_ Try.func20 (by kernel_rfl) rfl #[.agg #[.int .i64 t198, .int .i64 t199, .int .i64 t200, .int .i64 t201], .agg #[.int .i64 t194, .int .i64 t195, .int .i64 t196, .int .i64 t197]] (by rfl) rfl rfl (by (try simp only [List.map_toArray, List.map_cons, List.map_nil]); first | done | rfl | (simp only [List.length_drop, List.length_take]; rfl)) ?_
      with_reducible refine (impl_MeetBox.calls t198 t199 t200 t201 t194 t195 t196 t197 t253 t254 t255 t256 _ A245.out).mono ?_
      rintro e w281 ⟨rfl, hb⟩
      refine ⟨_, rfl, ?_⟩
      replace BK204 := Aside0.mk (blk_below BK204.out hb)
      replace BK205 := Aside0.mk (blk_below BK205.out hb)
      replace BK206 := Aside0.mk (blk_below BK206.out hb)
      replace BK211 := Aside0.mk (blk_below BK211.out hb)
      replace BK216 := Aside0.mk (blk_below BK216.out hb)
      replace BK221 := Aside0.mk (blk_below BK221.out hb)
      replace BK224 := Aside0.mk (blk_below BK224.out hb)
      replace HB := Aside0.mk (below_step HB.out hb)
      (try clear hb)
      (try clear hb2)
      (try clear hk)
      (try clear hi)
      refine hK.out _ _ ⟨(blk_cell BK204.out 0).trans rfl, (blk_cell BK204.out 1).trans rfl, (blk_cell BK204.out 2).trans rfl, (blk_cell BK204.out 3).trans rfl, (blk_cell BK205.out 0).trans rfl, (blk_cell BK205.out 1).trans rfl, (blk_cell BK205.out 2).trans rfl, (blk_cell BK205.out 3).trans rfl, (blk_cell BK216.out 0).trans rfl, (blk_cell BK216.out 1).trans rfl, (blk_cell BK216.out 2).trans rfl, (blk_cell BK216.out 3).trans rfl⟩ (fun hHeld => ?_)
      clear hK K
      refine norm_ (a' := ?_) ?_ ?_; rotate_left
      ·show Act.put _ (some 99) _ = _
       simp only [PS]
       rfl
      refine pure_ (i := 14) (N := some 100) (v := ?_) (a' := ?_) #[T,T,T,T,T,T,T,T,T,T,T,T,T,T,T,F,F,F,F,F,F,F,F,F,F,F,F,F,F,F,F,F,F,F,F,F,F,F,F,F,F,F,F,F,F] rfl rfl (any_of HT_.out (by kernel_rfl)) (fun _ _ _ h => h) (Or.inl ⟨by rfl, ?_⟩) ?_ ?_; rotate_left
      ·intro w'; go_simp; with_reducible rfl
      rotate_left; (focus (simp only [PS]; rfl))
      refine pure_ (i := 15) (N := some 101) (v := ?_) (a' := ?_) #[T,T,T,T,T,T,T,T,T,T,T,T,T,T,T,T,F,F,F,F,F,F,F,F,F,F,F,F,F,F,F,F,F,F,F,F,F,F,F,F,F,F,F,F,F] rfl rfl (any_of HT_.out (by kernel_rfl)) (fun _ _ _ h => h) (Or.inl ⟨by rfl, ?_⟩) ?_ ?_; rotate_left
      ·intro w'; go_simp; with_reducible rfl
      rotate_left; (focus (simp only [PS]; rfl))
      refine pure_ (i := 16) (N := some 102) (v := ?_) (a' := ?_) #[T,T,T,T,T,T,T,T,T,T,T,T,T,T,T,T,T,F,F,F,F,F,F,F,F,F,F,F,F,F,F,F,F,F,F,F,F,F,F,F,F,F,F,F,F] rfl rfl (any_of HT_.out (by kernel_rfl)) (fun _ _ _ h => h) (Or.inl ⟨by rfl, ?_⟩) ?_ ?_; rotate_left
      ·intro w'; go_simp; with_reducible rfl
      rotate_left; (focus (simp only [PS]; rfl))
      refine pure_ (i := 19) (N := some 105) (v := ?_) (a' := ?_) #[T,T,T,T,T,T,T,T,T,T,T,T,T,T,T,T,T,F,F,T,F,F,F,F,F,F,F,F,F,F,F,F,F,F,F,F,F,F,F,F,F,F,F,F,F] rfl rfl (any_of HT_.out (by kernel_rfl)) (fun _ _ _ h => h) (Or.inl ⟨by rfl, ?_⟩) ?_ ?_; rotate_left
      ·intro w'; go_simp; with_reducible rfl
      rotate_left; (focus (simp only [PS]; rfl))
      refine pure_ (i := 21) (N := some 107) (v := ?_) (a' := ?_) #[T,T,T,T,T,T,T,T,T,T,T,T,T,T,T,T,T,F,F,T,F,T,F,F,F,F,F,F,F,F,F,F,F,F,F,F,F,F,F,F,F,F,F,F,F] rfl rfl (any_of HT_.out (by kernel_rfl)) (fun _ _ _ h => h) (Or.inl ⟨by rfl, ?_⟩) ?_ ?_; rotate_left
      ·intro w'; go_simp; with_reducible rfl
      rotate_left; (focus (simp only [PS]; rfl))
      refine take_ (i := 17) (N := some 103) (v := ?_) (a' := ?_) #[T,T,T,T,T,T,T,T,T,T,T,T,T,T,T,T,T,T,F,T,F,T,F,F,F,F,F,F,F,F,F,F,F,F,F,F,F,F,F,F,F,F,F,F,F] rfl rfl (take_ofW HT_.out HW_.out (by kernel_rfl)) (fun _ _ _ h => h) (Or.inl ⟨by rfl, ?_⟩) hHeld ?_ ?_; rotate_left
      ·rintro w' ⟨s0, s1, s2, s3, s4, s5, s6, s7, s8, s9, s10, s11⟩; go_simp; with_reducible rfl
      rotate_left; (focus (simp only [PS]; rfl))
      refine take_ (i := 20) (N := some 106) (v := ?_) (a' := ?_) #[T,T,T,T,T,T,T,T,T,T,T,T,T,T,T,T,T,T,F,T,T,T,F,F,F,F,F,F,F,F,F,F,F,F,F,F,F,F,F,F,F,F,F,F,F] rfl rfl (take_ofW HT_.out HW_.out (by kernel_rfl)) (fun _ _ _ h => h) (Or.inl ⟨by rfl, ?_⟩) hHeld ?_ ?_; rotate_left
      ·rintro w' ⟨s0, s1, s2, s3, s4, s5, s6, s7, s8, s9, s10, s11⟩; go_simp; with_reducible rfl
      rotate_left; (focus (simp only [PS]; rfl))
      refine take_ (i := 22) (N := some 108) (v := ?_) (a' := ?_) #[T,T,T,T,T,T,T,T,T,T,T,T,T,T,T,T,T,T,F,T,T,T,T,F,F,F,F,F,F,F,F,F,F,F,F,F,F,F,F,F,F,F,F,F,F] rfl rfl (take_ofW HT_.out HW_.out (by kernel_rfl)) (fun _ _ _ h => h) (Or.inl ⟨by rfl, ?_⟩) hHeld ?_ ?_; rotate_left
      ·rintro w' ⟨s0, s1, s2, s3, s4, s5, s6, s7, s8, s9, s10, s11⟩; go_simp; with_reducible rfl
      rotate_left; (focus (simp only [PS]; rfl))
      refine pure_ (i := 23) (N := some 109) (v := ?_) (a' := ?_) #[T,T,T,T,T,T,T,T,T,T,T,T,T,T,T,T,T,T,F,T,T,T,T,T,F,F,F,F,F,F,F,F,F,F,F,F,F,F,F,F,F,F,F,F,F] rfl rfl (any_of HT_.out (by kernel_rfl)) (fun _ _ _ h => h) (Or.inl ⟨by rfl, ?_⟩) ?_ ?_; rotate_left
      ·intro w'; go_simp; with_reducible rfl
      rotate_left; (focus (simp only [PS]; rfl))
      refine one_ (i := 18) (N := some 104) #[T,T,T,T,T,T,T,T,T,T,T,T,T,T,T,T,T,T,T,T,T,T,T,T,F,F,F,F,F,F,F,F,F,F,F,F,F,F,F,F,F,F,F,F,F] rfl rfl (one_of HT_.out (by kernel_rfl)) (by decide) (fun K hK => ?_)
      refine goes_ Try.func23 (by kernel_rfl) rfl #[.agg #[.int .i64 t194, .int .i64 t195, .int .i64 t196, .int .i64 t197]] (by rfl) rfl rfl (by (try simp only [List.map_toArray, List.map_cons, List.map_nil]); first | done | rfl | (simp only [List.length_drop, List.length_take]; rfl)) ?_
      with_reducible refine (impl_Empty.calls t194 t195 t196 t197 t257 _ A247.out).mono ?_
      rintro e w282 ⟨rfl, hb⟩
      refine ⟨_, rfl, ?_⟩
      replace BK204 := Aside0.mk (blk_below BK204.out hb)
      replace BK205 := Aside0.mk (blk_below BK205.out hb)
      replace BK206 := Aside0.mk (blk_below BK206.out hb)
      replace BK211 := Aside0.mk (blk_below BK211.out hb)
      replace BK216 := Aside0.mk (blk_below BK216.out hb)
      replace BK221 := Aside0.mk (blk_below BK221.out hb)
      replace BK224 := Aside0.mk (blk_below BK224.out hb)
      replace HB := Aside0.mk (below_step HB.out hb)
      (try clear hb)
      (try clear hb2)
      (try clear hk)
      (try clear hi)
      refine hK.out _ _ ⟨(blk_cell BK204.out 0).trans rfl, (blk_cell BK204.out 1).trans rfl, (blk_cell BK204.out 2).trans rfl, (blk_cell BK204.out 3).trans rfl, (blk_cell BK205.out 0).trans rfl, (blk_cell BK205.out 1).trans rfl, (blk_cell BK205.out 2).trans rfl, (blk_cell BK205.out 3).trans rfl, (blk_cell BK216.out 0).trans rfl, (blk_cell BK216.out 1).trans rfl, (blk_cell BK216.out 2).trans rfl, (blk_cell BK216.out 3).trans rfl⟩ (fun hHeld => ?_)
      clear hK K
      refine norm_ (a' := ?_) ?_ ?_; rotate_left
      ·show Act.put _ (some 104) _ = _
       simp only [PS]
       rfl
      refine pure_ (i := 24) (N := some 110) (v := ?_) (a' := ?_) #[T,T,T,T,T,T,T,T,T,T,T,T,T,T,T,T,T,T,T,T,T,T,T,T,T,F,F,F,F,F,F,F,F,F,F,F,F,F,F,F,F,F,F,F,F] rfl rfl (any_of HT_.out (by kernel_rfl)) (fun _ _ _ h => h) (Or.inl ⟨by rfl, ?_⟩) ?_ ?_; rotate_left
      ·intro w'; go_simp; with_reducible rfl
      rotate_left; (focus (simp only [PS]; rfl))
      refine pure_ (i := 25) (N := some 111) (v := ?_) (a' := ?_) #[T,T,T,T,T,T,T,T,T,T,T,T,T,T,T,T,T,T,T,T,T,T,T,T,T,T,F,F,F,F,F,F,F,F,F,F,F,F,F,F,F,F,F,F,F] rfl rfl (any_of HT_.out (by kernel_rfl)) (fun _ _ _ h => h) (Or.inl ⟨by rfl, ?_⟩) ?_ ?_; rotate_left
      ·intro w'; go_simp; with_reducible rfl
      rotate_left; (focus (simp only [PS]; rfl))
      refine pure_ (i := 27) (N := some 113) (v := ?_) (a' := ?_) #[T,T,T,T,T,T,T,T,T,T,T,T,T,T,T,T,T,T,T,T,T,T,T,T,T,T,F,T,F,F,F,F,F,F,F,F,F,F,F,F,F,F,F,F,F] rfl rfl (any_of HT_.out (by kernel_rfl)) (fun _ _ _ h => h) (Or.inl ⟨by rfl, ?_⟩) ?_ ?_; rotate_left
      ·intro w'; go_simp; with_reducible rfl
      rotate_left; (focus (simp only [PS]; rfl))
      refine take_ (i := 26) (N := some 112) (v := ?_) (a' := ?_) #[T,T,T,T,T,T,T,T,T,T,T,T,T,T,T,T,T,T,T,T,T,T,T,T,T,T,T,T,F,F,F,F,F,F,F,F,F,F,F,F,F,F,F,F,F] rfl rfl (take_ofW HT_.out HW_.out (by kernel_rfl)) (fun _ _ _ h => h) (Or.inl ⟨by rfl, ?_⟩) hHeld ?_ ?_; rotate_left
      ·rintro w' ⟨s0, s1, s2, s3, s4, s5, s6, s7, s8, s9, s10, s11⟩; go_simp; with_reducible rfl
      rotate_left; (focus (simp only [PS]; rfl))
      refine take_ (i := 28) (N := some 114) (v := ?_) (a' := ?_) #[T,T,T,T,T,T,T,T,T,T,T,T,T,T,T,T,T,T,T,T,T,T,T,T,T,T,T,T,T,F,F,F,F,F,F,F,F,F,F,F,F,F,F,F,F] rfl rfl (take_ofW HT_.out HW_.out (by kernel_rfl)) (fun _ _ _ h => h) (Or.inl ⟨by rfl, ?_⟩) hHeld ?_ ?_; rotate_left
      ·rintro w' ⟨s0, s1, s2, s3, s4, s5, s6, s7, s8, s9, s10, s11⟩; go_simp; with_reducible rfl
      rotate_left; (focus (simp only [PS]; rfl))
      refine pure_ (i := 29) (N := some 115) (v := ?_) (a' := ?_) #[T,T,T,T,T,T,T,T,T,T,T,T,T,T,T,T,T,T,T,T,T,T,T,T,T,T,T,T,T,T,F,F,F,F,F,F,F,F,F,F,F,F,F,F,F] rfl rfl (any_of HT_.out (by kernel_rfl)) (fun _ _ _ h => h) (Or.inl ⟨by rfl, ?_⟩) ?_ ?_; rotate_left
      ·intro w'; go_simp; with_reducible rfl
      rotate_left; (focus (simp only [PS]; rfl))
      refine pure_ (i := 30) (N := some 116) (v := ?_) (a' := ?_) #[T,T,T,T,T,T,T,T,T,T,T,T,T,T,T,T,T,T,T,T,T,T,T,T,T,T,T,T,T,T,T,F,F,F,F,F,F,F,F,F,F,F,F,F,F] rfl rfl (any_of HT_.out (by kernel_rfl)) (fun _ _ _ h => h) (Or.inl ⟨by rfl, ?_⟩) ?_ ?_; rotate_left
      ·intro w'; go_simp; with_reducible rfl
      rotate_left; (focus (simp only [PS]; rfl))
      refine pure_ (i := 31) (N := some 117) (v := ?_) (a' := ?_) #[T,T,T,T,T,T,T,T,T,T,T,T,T,T,T,T,T,T,T,T,T,T,T,T,T,T,T,T,T,T,T,T,F,F,F,F,F,F,F,F,F,F,F,F,F] rfl rfl (any_of HT_.out (by kernel_rfl)) (fun _ _ _ h => h) (Or.inl ⟨by rfl, ?_⟩) ?_ ?_; rotate_left
      ·intro w'; go_simp; with_reducible rfl
      rotate_left; (focus (simp only [PS]; rfl))
      refine pure_ (i := 32) (N := some 118) (v := ?_) (a' := ?_) #[T,T,T,T,T,T,T,T,T,T,T,T,T,T,T,T,T,T,T,T,T,T,T,T,T,T,T,T,T,T,T,T,T,F,F,F,F,F,F,F,F,F,F,F,F] rfl rfl (any_of HT_.out (by kernel_rfl)) (fun _ _ _ h => h) (Or.inl ⟨by rfl, ?_⟩) ?_ ?_; rotate_left
      ·intro w'; go_simp; with_reducible rfl
      rotate_left; (focus (simp only [PS]; rfl))
      refine pure_ (i := 33) (N := some 119) (v := ?_) (a' := ?_) #[T,T,T,T,T,T,T,T,T,T,T,T,T,T,T,T,T,T,T,T,T,T,T,T,T,T,T,T,T,T,T,T,T,T,F,F,F,F,F,F,F,F,F,F,F] rfl rfl (any_of HT_.out (by kernel_rfl)) (fun _ _ _ h => h) (Or.inl ⟨by rfl, ?_⟩) ?_ ?_; rotate_left
      ·intro w'; go_simp; with_reducible rfl
      rotate_left; (focus (simp only [PS]; rfl))
      refine take_ (i := 34) (N := some 120) (v := ?_) (a' := ?_) #[T,T,T,T,T,T,T,T,T,T,T,T,T,T,T,T,T,T,T,T,T,T,T,T,T,T,T,T,T,T,T,T,T,T,T,F,F,F,F,F,F,F,F,F,F] rfl rfl (take_ofW HT_.out HW_.out (by kernel_rfl)) (fun _ _ _ h => h) (Or.inl ⟨by rfl, ?_⟩) hHeld ?_ ?_; rotate_left
      ·rintro w' ⟨s0, s1, s2, s3, s4, s5, s6, s7, s8, s9, s10, s11⟩; go_simp; with_reducible rfl
      rotate_left; (focus (simp only [PS]; rfl))
      refine one_ (i := 35) (N := some 121) #[T,T,T,T,T,T,T,T,T,T,T,T,T,T,T,T,T,T,T,T,T,T,T,T,T,T,T,T,T,T,T,T,T,T,T,T,F,F,F,F,F,F,F,F,F] rfl rfl (one_of HT_.out (by kernel_rfl)) (by decide) (fun K hK => ?_)
      refine goes_ Try.func23 (by kernel_rfl) rfl #[.agg #[.int .i64 t212, .int .i64 t213, .int .i64 t214, .int .i64 t215]] (by rfl) rfl rfl (by (try simp only [List.map_toArray, List.map_cons, List.map_nil]); first | done | rfl | (simp only [List.length_drop, List.length_take]; rfl)) ?_
      with_reducible refine (impl_Empty.calls t212 t213 t214 t215 true _ A275.out).mono ?_
      rintro e w283 ⟨rfl, hb⟩
      refine ⟨_, rfl, ?_⟩
      replace BK204 := Aside0.mk (blk_below BK204.out hb)
      replace BK205 := Aside0.mk (blk_below BK205.out hb)
      replace BK206 := Aside0.mk (blk_below BK206.out hb)
      replace BK211 := Aside0.mk (blk_below BK211.out hb)
      replace BK216 := Aside0.mk (blk_below BK216.out hb)
      replace BK221 := Aside0.mk (blk_below BK221.out hb)
      replace BK224 := Aside0.mk (blk_below BK224.out hb)
      replace HB := Aside0.mk (below_step HB.out hb)
      (try clear hb)
      (try clear hb2)
      (try clear hk)
      (try clear hi)
      refine hK.out _ _ ⟨(blk_cell BK204.out 0).trans rfl, (blk_cell BK204.out 1).trans rfl, (blk_cell BK204.out 2).trans rfl, (blk_cell BK204.out 3).trans rfl, (blk_cell BK205.out 0).trans rfl, (blk_cell BK205.out 1).trans rfl, (blk_cell BK205.out 2).trans rfl, (blk_cell BK205.out 3).trans rfl, (blk_cell BK216.out 0).trans rfl, (blk_cell BK216.out 1).trans rfl, (blk_cell BK216.out 2).trans rfl, (blk_cell BK216.out 3).trans rfl⟩ (fun hHeld => ?_)
      clear hK K
      refine norm_ (a' := ?_) ?_ ?_; rotate_left
      ·show Act.put _ (some 121) _ = _
       simp only [PS]
       rfl
      refine pure_ (i := 36) (N := some 122) (v := ?_) (a' := ?_) #[T,T,T,T,T,T,T,T,T,T,T,T,T,T,T,T,T,T,T,T,T,T,T,T,T,T,T,T,T,T,T,T,T,T,T,T,T,F,F,F,F,F,F,F,F] rfl rfl (any_of HT_.out (by kernel_rfl)) (fun _ _ _ h => h) (Or.inl ⟨by rfl, ?_⟩) ?_ ?_; rotate_left
      ·intro w'; go_simp; with_reducible rfl
      rotate_left; (focus (simp only [PS]; rfl))
      refine pure_ (i := 37) (N := some 123) (v := undef) (a' := ?_) #[T,T,T,T,T,T,T,T,T,T,T,T,T,T,T,T,T,T,T,T,T,T,T,T,T,T,T,T,T,T,T,T,T,T,T,T,T,T,F,F,F,F,F,F,F] rfl rfl (any_of HT_.out (by kernel_rfl)) (fun _ _ _ h => h) (Or.inr ⟨by rfl, rfl⟩) ?_ ?_; rotate_left
      ·simp only [PS]; rfl
      refine pure_ (i := 38) (N := some 124) (v := undef) (a' := ?_) #[T,T,T,T,T,T,T,T,T,T,T,T,T,T,T,T,T,T,T,T,T,T,T,T,T,T,T,T,T,T,T,T,T,T,T,T,T,T,T,F,F,F,F,F,F] rfl rfl (any_of HT_.out (by kernel_rfl)) (fun _ _ _ h => h) (Or.inr ⟨by rfl, rfl⟩) ?_ ?_; rotate_left
      ·simp only [PS]; rfl
      refine pure_ (i := 39) (N := some 125) (v := undef) (a' := ?_) #[T,T,T,T,T,T,T,T,T,T,T,T,T,T,T,T,T,T,T,T,T,T,T,T,T,T,T,T,T,T,T,T,T,T,T,T,T,T,T,T,F,F,F,F,F] rfl rfl (any_of HT_.out (by kernel_rfl)) (fun _ _ _ h => h) (Or.inr ⟨by rfl, rfl⟩) ?_ ?_; rotate_left
      ·simp only [PS]; rfl
      refine pure_ (i := 40) (N := some 126) (v := undef) (a' := ?_) #[T,T,T,T,T,T,T,T,T,T,T,T,T,T,T,T,T,T,T,T,T,T,T,T,T,T,T,T,T,T,T,T,T,T,T,T,T,T,T,T,T,F,F,F,F] rfl rfl (any_of HT_.out (by kernel_rfl)) (fun _ _ _ h => h) (Or.inr ⟨by rfl, rfl⟩) ?_ ?_; rotate_left
      ·simp only [PS]; rfl
      refine pure_ (i := 41) (N := some 127) (v := undef) (a' := ?_) #[T,T,T,T,T,T,T,T,T,T,T,T,T,T,T,T,T,T,T,T,T,T,T,T,T,T,T,T,T,T,T,T,T,T,T,T,T,T,T,T,T,T,F,F,F] rfl rfl (any_of HT_.out (by kernel_rfl)) (fun _ _ _ h => h) (Or.inr ⟨by rfl, rfl⟩) ?_ ?_; rotate_left
      ·simp only [PS]; rfl
      refine pure_ (i := 42) (N := some 128) (v := ?_) (a' := ?_) #[T,T,T,T,T,T,T,T,T,T,T,T,T,T,T,T,T,T,T,T,T,T,T,T,T,T,T,T,T,T,T,T,T,T,T,T,T,T,T,T,T,T,T,F,F] rfl rfl (any_of HT_.out (by kernel_rfl)) (fun _ _ _ h => h) (Or.inl ⟨by rfl, ?_⟩) ?_ ?_; rotate_left
      ·intro w'; go_simp; with_reducible rfl
      rotate_left; (focus (simp only [PS]; rfl))
      refine pure_ (i := 43) (N := some 129) (v := ?_) (a' := ?_) #[T,T,T,T,T,T,T,T,T,T,T,T,T,T,T,T,T,T,T,T,T,T,T,T,T,T,T,T,T,T,T,T,T,T,T,T,T,T,T,T,T,T,T,T,F] rfl rfl (any_of HT_.out (by kernel_rfl)) (fun _ _ _ h => h) (Or.inl ⟨by rfl, ?_⟩) ?_ ?_; rotate_left
      ·intro w'; go_simp; with_reducible rfl
      rotate_left; (focus (simp only [PS]; rfl))
      refine pure_ (i := 44) (N := some 2) (v := ?_) (a' := ?_) #[T,T,T,T,T,T,T,T,T,T,T,T,T,T,T,T,T,T,T,T,T,T,T,T,T,T,T,T,T,T,T,T,T,T,T,T,T,T,T,T,T,T,T,T,T] rfl rfl (any_of HT_.out (by kernel_rfl)) (fun _ _ _ h => h) (Or.inl ⟨by rfl, ?_⟩) ?_ ?_; rotate_left
      ·intro w'; go_simp; with_reducible rfl
      rotate_left; (focus (simp only [PS]; rfl))
      refine done_ (done_of HT_.out (by kernel_rfl)) ?_
      try go_wp2
      all_goals (go_ret; exact ⟨by first | rfl | (simp [errW_none, errW_some] <;> rfl) | (simp [*, errW_none, errW_some] <;> rfl), by repeat (first | (with_reducible first | exact HB.out | apply below_alloc | apply pw_below_drewN | apply below_drew1 | refine below_set ?_ GE204.out | refine below_set ?_ GE205.out | refine below_set ?_ GE206.out | refine below_set ?_ GE211.out | refine below_set ?_ GE216.out | refine below_set ?_ GE221.out | refine below_set ?_ GE224.out) | exact HB.out)⟩)
     replace c276 := Bool.eq_false_iff.mpr c276
     subst c276
     have H1 : ((impl_JoinBox.f kj221 t212 t213 t214 t215 t194 t195 t196 t197).bind fun bt264 => (some (bt264.1 == t194 && (bt264.2.1 == t195 && (bt264.2.2.1 == t196 && (bt264.2.2.2 == t197)))))) = some r := by rw [if_neg (show ¬ (false = true) by decide)] at H; exact H
     clear H
     have H := H1
     clear H1
     replace H := Option.bind_eq_some_iff.mp H
     obtain ⟨⟨t264, t265, t266, t267⟩, A2840, H⟩ := H
     replace H : (some (t264 == t194 && (t265 == t195 && (t266 == t196 && (t267 == t197))))) = some r := H
     have A284 := Aside0.mk A2840
     clear A2840
     obtain rfl := Option.some.inj H
     try go_wp2
     replace BK204 := Aside0.mk (blk_drew BK204.out)
     replace BK205 := Aside0.mk (blk_drew BK205.out)
     replace BK206 := Aside0.mk (blk_drew BK206.out)
     replace BK211 := Aside0.mk (blk_drew BK211.out)
     replace BK216 := Aside0.mk (blk_drew BK216.out)
     replace BK221 := Aside0.mk (blk_drew BK221.out)
     replace BK224 := Aside0.mk (blk_drew BK224.out)
     replace HB := Aside0.mk (below_drew1 HB.out)
     refine start_ (n := 45) (S := fun w' => w'.cell? ⟨gb204, 0, none⟩ = some (.int .i64 t194) ∧ w'.cell? ⟨gb204, 1, none⟩ = some (.int .i64 t195) ∧ w'.cell? ⟨gb204, 2, none⟩ = some (.int .i64 t196) ∧ w'.cell? ⟨gb204, 3, none⟩ = some (.int .i64 t197) ∧ w'.cell? ⟨gb205, 0, none⟩ = some (.int .i64 t198) ∧ w'.cell? ⟨gb205, 1, none⟩ = some (.int .i64 t199) ∧ w'.cell? ⟨gb205, 2, none⟩ = some (.int .i64 t200) ∧ w'.cell? ⟨gb205, 3, none⟩ = some (.int .i64 t201) ∧ w'.cell? ⟨gb216, 0, none⟩ = some (.int .i64 t212) ∧ w'.cell? ⟨gb216, 1, none⟩ = some (.int .i64 t213) ∧ w'.cell? ⟨gb216, 2, none⟩ = some (.int .i64 t214) ∧ w'.cell? ⟨gb216, 3, none⟩ = some (.int .i64 t215)) (ds := []) #[F,F,F,F,F,F,F,F,F,F,F,F,F,F,F,F,F,F,F,F,F,F,F,F,F,F,F,F,F,F,F,F,F,F,F,F,F,F,F,F,F,F,F,F,F] (by kernel_rfl) rfl rfl ⟨(blk_cell BK204.out 0).trans rfl, (blk_cell BK204.out 1).trans rfl, (blk_cell BK204.out 2).trans rfl, (blk_cell BK204.out 3).trans rfl, (blk_cell BK205.out 0).trans rfl, (blk_cell BK205.out 1).trans rfl, (blk_cell BK205.out 2).trans rfl, (blk_cell BK205.out 3).trans rfl, (blk_cell BK216.out 0).trans rfl, (blk_cell BK216.out 1).trans rfl, (blk_cell BK216.out 2).trans rfl, (blk_cell BK216.out 3).trans rfl⟩ (fun hHeld => ?_); refine with_tabW laws_FnBoxes.tab14 laws_FnBoxes.bits14 (fun HT_ HW_ => ?_)
     generalize wc.drew = w285 at BK204 BK205 BK206 BK211 BK216 BK221 BK224 HB hHeld ⊢
     refine take_ (i := 0) (N := some 86) (v := ?_) (a' := ?_) #[T,F,F,F,F,F,F,F,F,F,F,F,F,F,F,F,F,F,F,F,F,F,F,F,F,F,F,F,F,F,F,F,F,F,F,F,F,F,F,F,F,F,F,F,F] rfl rfl (take_ofW HT_.out HW_.out (by kernel_rfl)) (fun _ _ _ h => h) (Or.inl ⟨by rfl, ?_⟩) hHeld ?_ ?_; rotate_left
     ·rintro w' ⟨s0, s1, s2, s3, s4, s5, s6, s7, s8, s9, s10, s11⟩; go_simp; with_reducible rfl
     rotate_left; (focus (simp only [PS]; rfl))
     refine take_ (i := 1) (N := some 87) (v := ?_) (a' := ?_) #[T,T,F,F,F,F,F,F,F,F,F,F,F,F,F,F,F,F,F,F,F,F,F,F,F,F,F,F,F,F,F,F,F,F,F,F,F,F,F,F,F,F,F,F,F] rfl rfl (take_ofW HT_.out HW_.out (by kernel_rfl)) (fun _ _ _ h => h) (Or.inl ⟨by rfl, ?_⟩) hHeld ?_ ?_; rotate_left
     ·rintro w' ⟨s0, s1, s2, s3, s4, s5, s6, s7, s8, s9, s10, s11⟩; go_simp; with_reducible rfl
     rotate_left; (focus (simp only [PS]; rfl))
     refine take_ (i := 3) (N := some 89) (v := ?_) (a' := ?_) #[T,T,F,T,F,F,F,F,F,F,F,F,F,F,F,F,F,F,F,F,F,F,F,F,F,F,F,F,F,F,F,F,F,F,F,F,F,F,F,F,F,F,F,F,F] rfl rfl (take_ofW HT_.out HW_.out (by kernel_rfl)) (fun _ _ _ h => h) (Or.inl ⟨by rfl, ?_⟩) hHeld ?_ ?_; rotate_left
     ·rintro w' ⟨s0, s1, s2, s3, s4, s5, s6, s7, s8, s9, s10, s11⟩; go_simp; with_reducible rfl
     rotate_left; (focus (simp only [PS]; rfl))
     refine take_ (i := 4) (N := some 90) (v := ?_) (a' := ?_) #[T,T,F,T,T,F,F,F,F,F,F,F,F,F,F,F,F,F,F,F,F,F,F,F,F,F,F,F,F,F,F,F,F,F,F,F,F,F,F,F,F,F,F,F,F] rfl rfl (take_ofW HT_.out HW_.out (by kernel_rfl)) (fun _ _ _ h => h) (Or.inl ⟨by rfl, ?_⟩) hHeld ?_ ?_; rotate_left
     ·rintro w' ⟨s0, s1, s2, s3, s4, s5, s6, s7, s8, s9, s10, s11⟩; go_simp; with_reducible rfl
     rotate_left; (focus (simp only [PS]; rfl))
     refine one_ (i := 2) (N := some 88) #[T,T,T,T,T,F,F,F,F,F,F,F,F,F,F,F,F,F,F,F,F,F,F,F,F,F,F,F,F,F,F,F,F,F,F,F,F,F,F,F,F,F,F,F,F] rfl rfl (one_of HT_.out (by kernel_rfl)) (by decide) (fun K hK => ?_)
     refine goes_ Try.func19 (by kernel_rfl) rfl #[.agg #[.int .i64 t194, .int .i64 t195, .int .i64 t196, .int .i64 t197], .agg #[.int .i64 t198, .int .i64 t199, .int .i64 t200, .int .i64 t201]] (by rfl) rfl rfl (by (try simp only [List.map_toArray, List.map_cons, List.map_nil]); first | done | rfl | (simp only [List.length_drop, List.length_take]; rfl)) ?_
     with_reducible refine (impl_JoinBox.calls kj221 t194 t195 t196 t197 t198 t199 t200 t201 t241 t242 t243 t244 _ A241.out).mono ?_
     rintro e w286 ⟨rfl, hb⟩
     refine ⟨_, rfl, ?_⟩
     replace BK204 := Aside0.mk (blk_below BK204.out hb)
     replace BK205 := Aside0.mk (blk_below BK205.out hb)
     replace BK206 := Aside0.mk (blk_below BK206.out hb)
     replace BK211 := Aside0.mk (blk_below BK211.out hb)
     replace BK216 := Aside0.mk (blk_below BK216.out hb)
     replace BK221 := Aside0.mk (blk_below BK221.out hb)
     replace BK224 := Aside0.mk (blk_below BK224.out hb)
     replace HB := Aside0.mk (below_step HB.out hb)
     (try clear hb)
     (try clear hb2)
     (try clear hk)
     (try clear hi)
     refine hK.out _ _ ⟨(blk_cell BK204.out 0).trans rfl, (blk_cell BK204.out 1).trans rfl, (blk_cell BK204.out 2).trans rfl, (blk_cell BK204.out 3).trans rfl, (blk_cell BK205.out 0).trans rfl, (blk_cell BK205.out 1).trans rfl, (blk_cell BK205.out 2).trans rfl, (blk_cell BK205.out 3).trans rfl, (blk_cell BK216.out 0).trans rfl, (blk_cell BK216.out 1).trans rfl, (blk_cell BK216.out 2).trans rfl, (blk_cell BK216.out 3).trans rfl⟩ (fun hHeld => ?_)
     clear hK K
     refine norm_ (a' := ?_) ?_ ?_; rotate_left
     ·show Act.put _ (some 88) _ = _
      simp only [PS]
      rfl
     refine one_ (i := 5) (N := some 91) #[T,T,T,T,T,T,F,F,F,F,F,F,F,F,F,F,F,F,F,F,F,F,F,F,F,F,F,F,F,F,F,F,F,F,F,F,F,F,F,F,F,F,F,F,F] rfl rfl (one_of HT_.out (by kernel_rfl)) (by decide) (fun K hK => ?_)
     refine goes_ Try.func19 (by kernel_rfl) rfl #[.agg #[.int .i64 t198, .int .i64 t199, .int .i64 t200, .int .i64 t201], .agg #[.int .i64 t194, .int .i64 t195, .int .i64 t196, .int .i64 t197]] (by rfl) rfl rfl (by (try simp only [List.map_toArray, List.map_cons, List.map_nil]); first | done | rfl | (simp only [List.length_drop, List.length_take]; rfl)) ?_
     with_reducible refine (impl_JoinBox.calls kj221 t198 t199 t200 t201 t194 t195 t196 t197 t245 t246 t247 t248 _ A242.out).mono ?_
     rintro e w287 ⟨rfl, hb⟩
     refine ⟨_, rfl, ?_⟩
     replace BK204 := Aside0.mk (blk_below BK204.out hb)
     replace BK205 := Aside0.mk (blk_below BK205.out hb)
     replace BK206 := Aside0.mk (blk_below BK206.out hb)
     replace BK211 := Aside0.mk (blk_below BK211.out hb)
     replace BK216 := Aside0.mk (blk_below BK216.out hb)
     replace BK221 := Aside0.mk (blk_below BK221.out hb)
     replace BK224 := Aside0.mk (blk_below BK224.out hb)
     replace HB := Aside0.mk (below_step HB.out hb)
     (try clear hb)
     (try clear hb2)
     (try clear hk)
     (try clear hi)
     refine hK.out _ _ ⟨(blk_cell BK204.out 0).trans rfl, (blk_cell BK204.out 1).trans rfl, (blk_cell BK204.out 2).trans rfl, (blk_cell BK204.out 3).trans rfl, (blk_cell BK205.out 0).trans rfl, (blk_cell BK205.out 1).trans rfl, (blk_cell BK205.out 2).trans rfl, (blk_cell BK205.out 3).trans rfl, (blk_cell BK216.out 0).trans rfl, (blk_cell BK216.out 1).trans rfl, (blk_cell BK216.out 2).trans rfl, (blk_cell BK216.out 3).trans rfl⟩ (fun hHeld => ?_)
     clear hK K
     refine norm_ (a' := ?_) ?_ ?_; rotate_left
     ·show Act.put _ (some 91) _ = _
      simp only [PS]
      rfl
     refine pure_ (i := 6) (N := some 92) (v := ?_) (a' := ?_) #[T,T,T,T,T,T,T,F,F,F,F,F,F,F,F,F,F,F,F,F,F,F,F,F,F,F,F,F,F,F,F,F,F,F,F,F,F,F,F,F,F,F,F,F,F] rfl rfl (any_of HT_.out (by kernel_rfl)) (fun _ _ _ h => h) (Or.inl ⟨by rfl, ?_⟩) ?_ ?_; rotate_left
     ·intro w'; go_simp; with_reducible rfl
     rotate_left; (focus (simp only [PS]; rfl))
     refine pure_ (i := 7) (N := some 93) (v := ?_) (a' := ?_) #[T,T,T,T,T,T,T,T,F,F,F,F,F,F,F,F,F,F,F,F,F,F,F,F,F,F,F,F,F,F,F,F,F,F,F,F,F,F,F,F,F,F,F,F,F] rfl rfl (any_of HT_.out (by kernel_rfl)) (fun _ _ _ h => h) (Or.inl ⟨by rfl, ?_⟩) ?_ ?_; rotate_left
     ·intro w'; go_simp; with_reducible rfl
     rotate_left; (focus (simp only [PS]; rfl))
     refine take_ (i := 8) (N := some 94) (v := ?_) (a' := ?_) #[T,T,T,T,T,T,T,T,T,F,F,F,F,F,F,F,F,F,F,F,F,F,F,F,F,F,F,F,F,F,F,F,F,F,F,F,F,F,F,F,F,F,F,F,F] rfl rfl (take_ofW HT_.out HW_.out (by kernel_rfl)) (fun _ _ _ h => h) (Or.inl ⟨by rfl, ?_⟩) hHeld ?_ ?_; rotate_left
     ·rintro w' ⟨s0, s1, s2, s3, s4, s5, s6, s7, s8, s9, s10, s11⟩; go_simp; with_reducible rfl
     rotate_left; (focus (simp only [PS]; rfl))
     refine take_ (i := 9) (N := some 95) (v := ?_) (a' := ?_) #[T,T,T,T,T,T,T,T,T,T,F,F,F,F,F,F,F,F,F,F,F,F,F,F,F,F,F,F,F,F,F,F,F,F,F,F,F,F,F,F,F,F,F,F,F] rfl rfl (take_ofW HT_.out HW_.out (by kernel_rfl)) (fun _ _ _ h => h) (Or.inl ⟨by rfl, ?_⟩) hHeld ?_ ?_; rotate_left
     ·rintro w' ⟨s0, s1, s2, s3, s4, s5, s6, s7, s8, s9, s10, s11⟩; go_simp; with_reducible rfl
     rotate_left; (focus (simp only [PS]; rfl))
     refine take_ (i := 11) (N := some 97) (v := ?_) (a' := ?_) #[T,T,T,T,T,T,T,T,T,T,F,T,F,F,F,F,F,F,F,F,F,F,F,F,F,F,F,F,F,F,F,F,F,F,F,F,F,F,F,F,F,F,F,F,F] rfl rfl (take_ofW HT_.out HW_.out (by kernel_rfl)) (fun _ _ _ h => h) (Or.inl ⟨by rfl, ?_⟩) hHeld ?_ ?_; rotate_left
     ·rintro w' ⟨s0, s1, s2, s3, s4, s5, s6, s7, s8, s9, s10, s11⟩; go_simp; with_reducible rfl
     rotate_left; (focus (simp only [PS]; rfl))
     refine take_ (i := 12) (N := some 98) (v := ?_) (a' := ?_) #[T,T,T,T,T,T,T,T,T,T,F,T,T,F,F,F,F,F,F,F,F,F,F,F,F,F,F,F,F,F,F,F,F,F,F,F,F,F,F,F,F,F,F,F,F] rfl rfl (take_ofW HT_.out HW_.out (by kernel_rfl)) (fun _ _ _ h => h) (Or.inl ⟨by rfl, ?_⟩) hHeld ?_ ?_; rotate_left
     ·rintro w' ⟨s0, s1, s2, s3, s4, s5, s6, s7, s8, s9, s10, s11⟩; go_simp; with_reducible rfl
     rotate_left; (focus (simp only [PS]; rfl))
     refine one_ (i := 10) (N := some 96) #[T,T,T,T,T,T,T,T,T,T,T,T,T,F,F,F,F,F,F,F,F,F,F,F,F,F,F,F,F,F,F,F,F,F,F,F,F,F,F,F,F,F,F,F,F] rfl rfl (one_of HT_.out (by kernel_rfl)) (by decide) (fun K hK => ?_)
     refine goes_ Try.func20 (by kernel_rfl) rfl #[.agg #[.int .i64 t194, .int .i64 t195, .int .i64 t196, .int .i64 t197], .agg #[.int .i64 t198, .int .i64 t199, .int .i64 t200, .int .i64 t201]] (by rfl) rfl rfl (by (try simp only [List.map_toArray, List.map_cons, List.map_nil]); first | done | rfl | (simp only [List.length_drop, List.length_take]; rfl)) ?_
     with_reducible refine (impl_MeetBox.calls t194 t195 t196 t197 t198 t199 t200 t201 t249 t250 t251 t252 _ A244.out).mono ?_
     rintro e w288 ⟨rfl, hb⟩
     refine ⟨_, rfl, ?_⟩
     replace BK204 := Aside0.mk (blk_below BK204.out hb)
     replace BK205 := Aside0.mk (blk_below BK205.out hb)
     replace BK206 := Aside0.mk (blk_below BK206.out hb)
     replace BK211 := Aside0.mk (blk_below BK211.out hb)
     replace BK216 := Aside0.mk (blk_below BK216.out hb)
     replace BK221 := Aside0.mk (blk_below BK221.out hb)
     replace BK224 := Aside0.mk (blk_below BK224.out hb)
     replace HB := Aside0.mk (below_step HB.out hb)
     (try clear hb)
     (try clear hb2)
     (try clear hk)
     (try clear hi)
     refine hK.out _ _ ⟨(blk_cell BK204.out 0).trans rfl, (blk_cell BK204.out 1).trans rfl, (blk_cell BK204.out 2).trans rfl, (blk_cell BK204.out 3).trans rfl, (blk_cell BK205.out 0).trans rfl, (blk_cell BK205.out 1).trans rfl, (blk_cell BK205.out 2).trans rfl, (blk_cell BK205.out 3).trans rfl, (blk_cell BK216.out 0).trans rfl, (blk_cell BK216.out 1).trans rfl, (blk_cell BK216.out 2).trans rfl, (blk_cell BK216.out 3).trans rfl⟩ (fun hHeld => ?_)
     clear hK K
     refine norm_ (a' := ?_) ?_ ?_; rotate_left
     ·show Act.put _ (some 96) _ = _
      simp only [PS]
      rfl
     refine one_ (i := 13) (N := some 99) #[T,T,T,T,T,T,T,T,T,T,T,T,T,T,F,F,F,F,F,F,F,F,F,F,F,F,F,F,F,F,F,F,F,F,F,F,F,F,F,F,F,F,F,F,F] rfl rfl (one_of HT_.out (by kernel_rfl)) (by decide) (fun K hK => ?_)
     refine goes_ Try.func20 (by kernel_rfl) rfl #[.agg #[.int .i64 t198, .int .i64 t199, .int .i64 t200, .int .i64 t201], .agg #[.int .i64 t194, .int .i64 t195, .int .i64 t196, .int .i64 t197]] (by rfl) rfl rfl (by (try simp only [List.map_toArray, List.map_cons, List.map_nil]); first | done | rfl | (simp only [List.length_drop, List.length_take]; rfl)) ?_
     with_reducible refine (impl_MeetBox.calls t198 t199 t200 t201 t194 t195 t196 t197 t253 t254 t255 t256 _ A245.out).mono ?_
     rintro e w289 ⟨rfl, hb⟩
     refine ⟨_, rfl, ?_⟩
     replace BK204 := Aside0.mk (blk_below BK204.out hb)
     replace BK205 := Aside0.mk (blk_below BK205.out hb)
     replace BK206 := Aside0.mk (blk_below BK206.out hb)
     replace BK211 := Aside0.mk (blk_below BK211.out hb)
     replace BK216 := Aside0.mk (blk_below BK216.out hb)
     replace BK221 := Aside0.mk (blk_below BK221.out hb)
     replace BK224 := Aside0.mk (blk_below BK224.out hb)
     replace HB := Aside0.mk (below_step HB.out hb)
     (try clear hb)
     (try clear hb2)
     (try clear hk)
     (try clear hi)
     refine hK.out _ _ ⟨(blk_cell BK204.out 0).trans rfl, (blk_cell BK204.out 1).trans rfl, (blk_cell BK204.out 2).trans rfl, (blk_cell BK204.out 3).trans rfl, (blk_cell BK205.out 0).trans rfl, (blk_cell BK205.out 1).trans rfl, (blk_cell BK205.out 2).trans rfl, (blk_cell BK205.out 3).trans rfl, (blk_cell BK216.out 0).trans rfl, (blk_cell BK216.out 1).trans rfl, (blk_cell BK216.out 2).trans rfl, (blk_cell BK216.out 3).trans rfl⟩ (fun hHeld => ?_)
     clear hK K
     refine norm_ (a' := ?_) ?_ ?_; rotate_left
     ·show Act.put _ (some 99) _ = _
      simp only [PS]
      rfl
     refine pure_ (i := 14) (N := some 100) (v := ?_) (a' := ?_) #[T,T,T,T,T,T,T,T,T,T,T,T,T,T,T,F,F,F,F,F,F,F,F,F,F,F,F,F,F,F,F,F,F,F,F,F,F,F,F,F,F,F,F,F,F] rfl rfl (any_of HT_.out (by kernel_rfl)) (fun _ _ _ h => h) (Or.inl ⟨by rfl, ?_⟩) ?_ ?_; rotate_left
     ·intro w'; go_simp; with_reducible rfl
     rotate_left; (focus (simp only [PS]; rfl))
     refine pure_ (i := 15) (N := some 101) (v := ?_) (a' := ?_) #[T,T,T,T,T,T,T,T,T,T,T,T,T,T,T,T,F,F,F,F,F,F,F,F,F,F,F,F,F,F,F,F,F,F,F,F,F,F,F,F,F,F,F,F,F] rfl rfl (any_of HT_.out (by kernel_rfl)) (fun _ _ _ h => h) (Or.inl ⟨by rfl, ?_⟩) ?_ ?_; rotate_left
     ·intro w'; go_simp; with_reducible rfl
     rotate_left; (focus (simp only [PS]; rfl))
     refine pure_ (i := 16) (N := some 102) (v := ?_) (a' := ?_) #[T,T,T,T,T,T,T,T,T,T,T,T,T,T,T,T,T,F,F,F,F,F,F,F,F,F,F,F,F,F,F,F,F,F,F,F,F,F,F,F,F,F,F,F,F] rfl rfl (any_of HT_.out (by kernel_rfl)) (fun _ _ _ h => h) (Or.inl ⟨by rfl, ?_⟩) ?_ ?_; rotate_left
     ·intro w'; go_simp; with_reducible rfl
     rotate_left; (focus (simp only [PS]; rfl))
     refine pure_ (i := 19) (N := some 105) (v := ?_) (a' := ?_) #[T,T,T,T,T,T,T,T,T,T,T,T,T,T,T,T,T,F,F,T,F,F,F,F,F,F,F,F,F,F,F,F,F,F,F,F,F,F,F,F,F,F,F,F,F] rfl rfl (any_of HT_.out (by kernel_rfl)) (fun _ _ _ h => h) (Or.inl ⟨by rfl, ?_⟩) ?_ ?_; rotate_left
     ·intro w'; go_simp; with_reducible rfl
     rotate_left; (focus (simp only [PS]; rfl))
     refine pure_ (i := 21) (N := some 107) (v := ?_) (a' := ?_) #[T,T,T,T,T,T,T,T,T,T,T,T,T,T,T,T,T,F,F,T,F,T,F,F,F,F,F,F,F,F,F,F,F,F,F,F,F,F,F,F,F,F,F,F,F] rfl rfl (any_of HT_.out (by kernel_rfl)) (fun _ _ _ h => h) (Or.inl ⟨by rfl, ?_⟩) ?_ ?_; rotate_left
     ·intro w'; go_simp; with_reducible rfl
     rotate_left; (focus (simp only [PS]; rfl))
     refine take_ (i := 17) (N := some 103) (v := ?_) (a' := ?_) #[T,T,T,T,T,T,T,T,T,T,T,T,T,T,T,T,T,T,F,T,F,T,F,F,F,F,F,F,F,F,F,F,F,F,F,F,F,F,F,F,F,F,F,F,F] rfl rfl (take_ofW HT_.out HW_.out (by kernel_rfl)) (fun _ _ _ h => h) (Or.inl ⟨by rfl, ?_⟩) hHeld ?_ ?_; rotate_left
     ·rintro w' ⟨s0, s1, s2, s3, s4, s5, s6, s7, s8, s9, s10, s11⟩; go_simp; with_reducible rfl
     rotate_left; (focus (simp only [PS]; rfl))
     refine take_ (i := 20) (N := some 106) (v := ?_) (a' := ?_) #[T,T,T,T,T,T,T,T,T,T,T,T,T,T,T,T,T,T,F,T,T,T,F,F,F,F,F,F,F,F,F,F,F,F,F,F,F,F,F,F,F,F,F,F,F] rfl rfl (take_ofW HT_.out HW_.out (by kernel_rfl)) (fun _ _ _ h => h) (Or.inl ⟨by rfl, ?_⟩) hHeld ?_ ?_; rotate_left
     ·rintro w' ⟨s0, s1, s2, s3, s4, s5, s6, s7, s8, s9, s10, s11⟩; go_simp; with_reducible rfl
     rotate_left; (focus (simp only [PS]; rfl))
     refine take_ (i := 22) (N := some 108) (v := ?_) (a' := ?_) #[T,T,T,T,T,T,T,T,T,T,T,T,T,T,T,T,T,T,F,T,T,T,T,F,F,F,F,F,F,F,F,F,F,F,F,F,F,F,F,F,F,F,F,F,F] rfl rfl (take_ofW HT_.out HW_.out (by kernel_rfl)) (fun _ _ _ h => h) (Or.inl ⟨by rfl, ?_⟩) hHeld ?_ ?_; rotate_left
     ·rintro w' ⟨s0, s1, s2, s3, s4, s5, s6, s7, s8, s9, s10, s11⟩; go_simp; with_reducible rfl
     rotate_left; (focus (simp only [PS]; rfl))
     refine pure_ (i := 23) (N := some 109) (v := ?_) (a' := ?_) #[T,T,T,T,T,T,T,T,T,T,T,T,T,T,T,T,T,T,F,T,T,T,T,T,F,F,F,F,F,F,F,F,F,F,F,F,F,F,F,F,F,F,F,F,F] rfl rfl (any_of HT_.out (by kernel_rfl)) (fun _ _ _ h => h) (Or.inl ⟨by rfl, ?_⟩) ?_ ?_; rotate_left
     ·intro w'; go_simp; with_reducible rfl
     rotate_left; (focus (simp only [PS]; rfl))
     refine one_ (i := 18) (N := some 104) #[T,T,T,T,T,T,T,T,T,T,T,T,T,T,T,T,T,T,T,T,T,T,T,T,F,F,F,F,F,F,F,F,F,F,F,F,F,F,F,F,F,F,F,F,F] rfl rfl (one_of HT_.out (by kernel_rfl)) (by decide) (fun K hK => ?_)
     refine goes_ Try.func23 (by kernel_rfl) rfl #[.agg #[.int .i64 t194, .int .i64 t195, .int .i64 t196, .int .i64 t197]] (by rfl) rfl rfl (by (try simp only [List.map_toArray, List.map_cons, List.map_nil]); first | done | rfl | (simp only [List.length_drop, List.length_take]; rfl)) ?_
     with_reducible refine (impl_Empty.calls t194 t195 t196 t197 t257 _ A247.out).mono ?_
     rintro e w290 ⟨rfl, hb⟩
     refine ⟨_, rfl, ?_⟩
     replace BK204 := Aside0.mk (blk_below BK204.out hb)
     replace BK205 := Aside0.mk (blk_below BK205.out hb)
     replace BK206 := Aside0.mk (blk_below BK206.out hb)
     replace BK211 := Aside0.mk (blk_below BK211.out hb)
     replace BK216 := Aside0.mk (blk_below BK216.out hb)
     replace BK221 := Aside0.mk (blk_below BK221.out hb)
     replace BK224 := Aside0.mk (blk_below BK224.out hb)
     replace HB := Aside0.mk (below_step HB.out hb)
     (try clear hb)
     (try clear hb2)
     (try clear hk)
     (try clear hi)
     refine hK.out _ _ ⟨(blk_cell BK204.out 0).trans rfl, (blk_cell BK204.out 1).trans rfl, (blk_cell BK204.out 2).trans rfl, (blk_cell BK204.out 3).trans rfl, (blk_cell BK205.out 0).trans rfl, (blk_cell BK205.out 1).trans rfl, (blk_cell BK205.out 2).trans rfl, (blk_cell BK205.out 3).trans rfl, (blk_cell BK216.out 0).trans rfl, (blk_cell BK216.out 1).trans rfl, (blk_cell BK216.out 2).trans rfl, (blk_cell BK216.out 3).trans rfl⟩ (fun hHeld => ?_)
     clear hK K
     refine norm_ (a' := ?_) ?_ ?_; rotate_left
     ·show Act.put _ (some 104) _ = _
      simp only [PS]
      rfl
     refine pure_ (i := 24) (N := some 110) (v := ?_) (a' := ?_) #[T,T,T,T,T,T,T,T,T,T,T,T,T,T,T,T,T,T,T,T,T,T,T,T,T,F,F,F,F,F,F,F,F,F,F,F,F,F,F,F,F,F,F,F,F] rfl rfl (any_of HT_.out (by kernel_rfl)) (fun _ _ _ h => h) (Or.inl ⟨by rfl, ?_⟩) ?_ ?_; rotate_left
     ·intro w'; go_simp; with_reducible rfl
     rotate_left; (focus (simp only [PS]; rfl))
     refine pure_ (i := 25) (N := some 111) (v := ?_) (a' := ?_) #[T,T,T,T,T,T,T,T,T,T,T,T,T,T,T,T,T,T,T,T,T,T,T,T,T,T,F,F,F,F,F,F,F,F,F,F,F,F,F,F,F,F,F,F,F] rfl rfl (any_of HT_.out (by kernel_rfl)) (fun _ _ _ h => h) (Or.inl ⟨by rfl, ?_⟩) ?_ ?_; rotate_left
     ·intro w'; go_simp; with_reducible rfl
     rotate_left; (focus (simp only [PS]; rfl))
     refine pure_ (i := 27) (N := some 113) (v := ?_) (a' := ?_) #[T,T,T,T,T,T,T,T,T,T,T,T,T,T,T,T,T,T,T,T,T,T,T,T,T,T,F,T,F,F,F,F,F,F,F,F,F,F,F,F,F,F,F,F,F] rfl rfl (any_of HT_.out (by kernel_rfl)) (fun _ _ _ h => h) (Or.inl ⟨by rfl, ?_⟩) ?_ ?_; rotate_left
     ·intro w'; go_simp; with_reducible rfl
     rotate_left; (focus (simp only [PS]; rfl))
     refine take_ (i := 26) (N := some 112) (v := ?_) (a' := ?_) #[T,T,T,T,T,T,T,T,T,T,T,T,T,T,T,T,T,T,T,T,T,T,T,T,T,T,T,T,F,F,F,F,F,F,F,F,F,F,F,F,F,F,F,F,F] rfl rfl (take_ofW HT_.out HW_.out (by kernel_rfl)) (fun _ _ _ h => h) (Or.inl ⟨by rfl, ?_⟩) hHeld ?_ ?_; rotate_left
     ·rintro w' ⟨s0, s1, s2, s3, s4, s5, s6, s7, s8, s9, s10, s11⟩; go_simp; with_reducible rfl
     rotate_left; (focus (simp only [PS]; rfl))
     refine take_ (i := 28) (N := some 114) (v := ?_) (a' := ?_) #[T,T,T,T,T,T,T,T,T,T,T,T,T,T,T,T,T,T,T,T,T,T,T,T,T,T,T,T,T,F,F,F,F,F,F,F,F,F,F,F,F,F,F,F,F] rfl rfl (take_ofW HT_.out HW_.out (by kernel_rfl)) (fun _ _ _ h => h) (Or.inl ⟨by rfl, ?_⟩) hHeld ?_ ?_; rotate_left
     ·rintro w' ⟨s0, s1, s2, s3, s4, s5, s6, s7, s8, s9, s10, s11⟩; go_simp; with_reducible rfl
     rotate_left; (focus (simp only [PS]; rfl))
     refine pure_ (i := 29) (N := some 115) (v := ?_) (a' := ?_) #[T,T,T,T,T,T,T,T,T,T,T,T,T,T,T,T,T,T,T,T,T,T,T,T,T,T,T,T,T,T,F,F,F,F,F,F,F,F,F,F,F,F,F,F,F] rfl rfl (any_of HT_.out (by kernel_rfl)) (fun _ _ _ h => h) (Or.inl ⟨by rfl, ?_⟩) ?_ ?_; rotate_left
     ·intro w'; go_simp; with_reducible rfl
     rotate_left; (focus (simp only [PS]; rfl))
     refine pure_ (i := 30) (N := some 116) (v := ?_) (a' := ?_) #[T,T,T,T,T,T,T,T,T,T,T,T,T,T,T,T,T,T,T,T,T,T,T,T,T,T,T,T,T,T,T,F,F,F,F,F,F,F,F,F,F,F,F,F,F] rfl rfl (any_of HT_.out (by kernel_rfl)) (fun _ _ _ h => h) (Or.inl ⟨by rfl, ?_⟩) ?_ ?_; rotate_left
     ·intro w'; go_simp; with_reducible rfl
     rotate_left; (focus (simp only [PS]; rfl))
     refine pure_ (i := 31) (N := some 117) (v := ?_) (a' := ?_) #[T,T,T,T,T,T,T,T,T,T,T,T,T,T,T,T,T,T,T,T,T,T,T,T,T,T,T,T,T,T,T,T,F,F,F,F,F,F,F,F,F,F,F,F,F] rfl rfl (any_of HT_.out (by kernel_rfl)) (fun _ _ _ h => h) (Or.inl ⟨by rfl, ?_⟩) ?_ ?_; rotate_left
     ·intro w'; go_simp; with_reducible rfl
     rotate_left; (focus (simp only [PS]; rfl))
     refine pure_ (i := 32) (N := some 118) (v := ?_) (a' := ?_) #[T,T,T,T,T,T,T,T,T,T,T,T,T,T,T,T,T,T,T,T,T,T,T,T,T,T,T,T,T,T,T,T,T,F,F,F,F,F,F,F,F,F,F,F,F] rfl rfl (any_of HT_.out (by kernel_rfl)) (fun _ _ _ h => h) (Or.inl ⟨by rfl, ?_⟩) ?_ ?_; rotate_left
     ·intro w'; go_simp; with_reducible rfl
     rotate_left; (focus (simp only [PS]; rfl))
     refine pure_ (i := 33) (N := some 119) (v := ?_) (a' := ?_) #[T,T,T,T,T,T,T,T,T,T,T,T,T,T,T,T,T,T,T,T,T,T,T,T,T,T,T,T,T,T,T,T,T,T,F,F,F,F,F,F,F,F,F,F,F] rfl rfl (any_of HT_.out (by kernel_rfl)) (fun _ _ _ h => h) (Or.inl ⟨by rfl, ?_⟩) ?_ ?_; rotate_left
     ·intro w'; go_simp; with_reducible rfl
     rotate_left; (focus (simp only [PS]; rfl))
     refine take_ (i := 34) (N := some 120) (v := ?_) (a' := ?_) #[T,T,T,T,T,T,T,T,T,T,T,T,T,T,T,T,T,T,T,T,T,T,T,T,T,T,T,T,T,T,T,T,T,T,T,F,F,F,F,F,F,F,F,F,F] rfl rfl (take_ofW HT_.out HW_.out (by kernel_rfl)) (fun _ _ _ h => h) (Or.inl ⟨by rfl, ?_⟩) hHeld ?_ ?_; rotate_left
     ·rintro w' ⟨s0, s1, s2, s3, s4, s5, s6, s7, s8, s9, s10, s11⟩; go_simp; with_reducible rfl
     rotate_left; (focus (simp only [PS]; rfl))
     refine one_ (i := 35) (N := some 121) #[T,T,T,T,T,T,T,T,T,T,T,T,T,T,T,T,T,T,T,T,T,T,T,T,T,T,T,T,T,T,T,T,T,T,T,T,F,F,F,F,F,F,F,F,F] rfl rfl (one_of HT_.out (by kernel_rfl)) (by decide) (fun K hK => ?_)
     refine goes_ Try.func23 (by kernel_rfl) rfl #[.agg #[.int .i64 t212, .int .i64 t213, .int .i64 t214, .int .i64 t215]] (by rfl) rfl rfl (by (try simp only [List.map_toArray, List.map_cons, List.map_nil]); first | done | rfl | (simp only [List.length_drop, List.length_take]; rfl)) ?_
     with_reducible refine (impl_Empty.calls t212 t213 t214 t215 false _ A275.out).mono ?_
     rintro e w291 ⟨rfl, hb⟩
     refine ⟨_, rfl, ?_⟩
     replace BK204 := Aside0.mk (blk_below BK204.out hb)
     replace BK205 := Aside0.mk (blk_below BK205.out hb)
     replace BK206 := Aside0.mk (blk_below BK206.out hb)
     replace BK211 := Aside0.mk (blk_below BK211.out hb)
     replace BK216 := Aside0.mk (blk_below BK216.out hb)
     replace BK221 := Aside0.mk (blk_below BK221.out hb)
     replace BK224 := Aside0.mk (blk_below BK224.out hb)
     replace HB := Aside0.mk (below_step HB.out hb)
     (try clear hb)
     (try clear hb2)
     (try clear hk)
     (try clear hi)
     refine hK.out _ _ ⟨(blk_cell BK204.out 0).trans rfl, (blk_cell BK204.out 1).trans rfl, (blk_cell BK204.out 2).trans rfl, (blk_cell BK204.out 3).trans rfl, (blk_cell BK205.out 0).trans rfl, (blk_cell BK205.out 1).trans rfl, (blk_cell BK205.out 2).trans rfl, (blk_cell BK205.out 3).trans rfl, (blk_cell BK216.out 0).trans rfl, (blk_cell BK216.out 1).trans rfl, (blk_cell BK216.out 2).trans rfl, (blk_cell BK216.out 3).trans rfl⟩ (fun hHeld => ?_)
     clear hK K
     refine norm_ (a' := ?_) ?_ ?_; rotate_left
     ·show Act.put _ (some 121) _ = _
      simp only [PS]
      rfl
     refine pure_ (i := 36) (N := some 122) (v := ?_) (a' := ?_) #[T,T,T,T,T,T,T,T,T,T,T,T,T,T,T,T,T,T,T,T,T,T,T,T,T,T,T,T,T,T,T,T,T,T,T,T,T,F,F,F,F,F,F,F,F] rfl rfl (any_of HT_.out (by kernel_rfl)) (fun _ _ _ h => h) (Or.inl ⟨by rfl, ?_⟩) ?_ ?_; rotate_left
     ·intro w'; go_simp; with_reducible rfl
     rotate_left; (focus (simp only [PS]; rfl))
     refine take_ (i := 37) (N := some 123) (v := ?_) (a' := ?_) #[T,T,T,T,T,T,T,T,T,T,T,T,T,T,T,T,T,T,T,T,T,T,T,T,T,T,T,T,T,T,T,T,T,T,T,T,T,T,F,F,F,F,F,F,F] rfl rfl (take_ofW HT_.out HW_.out (by kernel_rfl)) (fun _ _ _ h => h) (Or.inl ⟨by rfl, ?_⟩) hHeld ?_ ?_; rotate_left
     ·rintro w' ⟨s0, s1, s2, s3, s4, s5, s6, s7, s8, s9, s10, s11⟩; go_simp; with_reducible rfl
     rotate_left; (focus (simp only [PS]; rfl))
     refine take_ (i := 38) (N := some 124) (v := ?_) (a' := ?_) #[T,T,T,T,T,T,T,T,T,T,T,T,T,T,T,T,T,T,T,T,T,T,T,T,T,T,T,T,T,T,T,T,T,T,T,T,T,T,T,F,F,F,F,F,F] rfl rfl (take_ofW HT_.out HW_.out (by kernel_rfl)) (fun _ _ _ h => h) (Or.inl ⟨by rfl, ?_⟩) hHeld ?_ ?_; rotate_left
     ·rintro w' ⟨s0, s1, s2, s3, s4, s5, s6, s7, s8, s9, s10, s11⟩; go_simp; with_reducible rfl
     rotate_left; (focus (simp only [PS]; rfl))
     refine take_ (i := 40) (N := some 126) (v := ?_) (a' := ?_) #[T,T,T,T,T,T,T,T,T,T,T,T,T,T,T,T,T,T,T,T,T,T,T,T,T,T,T,T,T,T,T,T,T,T,T,T,T,T,T,F,T,F,F,F,F] rfl rfl (take_ofW HT_.out HW_.out (by kernel_rfl)) (fun _ _ _ h => h) (Or.inl ⟨by rfl, ?_⟩) hHeld ?_ ?_; rotate_left
     ·rintro w' ⟨s0, s1, s2, s3, s4, s5, s6, s7, s8, s9, s10, s11⟩; go_simp; with_reducible rfl
     rotate_left; (focus (simp only [PS]; rfl))
     refine one_ (i := 39) (N := some 125) #[T,T,T,T,T,T,T,T,T,T,T,T,T,T,T,T,T,T,T,T,T,T,T,T,T,T,T,T,T,T,T,T,T,T,T,T,T,T,T,T,T,F,F,F,F] rfl rfl (one_of HT_.out (by kernel_rfl)) (by decide) (fun K hK => ?_)
     refine goes_ Try.func19 (by kernel_rfl) rfl #[.agg #[.int .i64 t212, .int .i64 t213, .int .i64 t214, .int .i64 t215], .agg #[.int .i64 t194, .int .i64 t195, .int .i64 t196, .int .i64 t197]] (by rfl) rfl rfl (by (try simp only [List.map_toArray, List.map_cons, List.map_nil]); first | done | rfl | (simp only [List.length_drop, List.length_take]; rfl)) ?_
     with_reducible refine (impl_JoinBox.calls kj221 t212 t213 t214 t215 t194 t195 t196 t197 t264 t265 t266 t267 _ A284.out).mono ?_
     rintro e w292 ⟨rfl, hb⟩
     refine ⟨_, rfl, ?_⟩
     replace BK204 := Aside0.mk (blk_below BK204.out hb)
     replace BK205 := Aside0.mk (blk_below BK205.out hb)
     replace BK206 := Aside0.mk (blk_below BK206.out hb)
     replace BK211 := Aside0.mk (blk_below BK211.out hb)
     replace BK216 := Aside0.mk (blk_below BK216.out hb)
     replace BK221 := Aside0.mk (blk_below BK221.out hb)
     replace BK224 := Aside0.mk (blk_below BK224.out hb)
     replace HB := Aside0.mk (below_step HB.out hb)
     (try clear hb)
     (try clear hb2)
     (try clear hk)
     (try clear hi)
     refine hK.out _ _ ⟨(blk_cell BK204.out 0).trans rfl, (blk_cell BK204.out 1).trans rfl, (blk_cell BK204.out 2).trans rfl, (blk_cell BK204.out 3).trans rfl, (blk_cell BK205.out 0).trans rfl, (blk_cell BK205.out 1).trans rfl, (blk_cell BK205.out 2).trans rfl, (blk_cell BK205.out 3).trans rfl, (blk_cell BK216.out 0).trans rfl, (blk_cell BK216.out 1).trans rfl, (blk_cell BK216.out 2).trans rfl, (blk_cell BK216.out 3).trans rfl⟩ (fun hHeld => ?_)
     clear hK K
     refine norm_ (a' := ?_) ?_ ?_; rotate_left
     ·show Act.put _ (some 125) _ = _
      simp only [PS]
      rfl
     refine pure_ (i := 41) (N := some 127) (v := ?_) (a' := ?_) #[T,T,T,T,T,T,T,T,T,T,T,T,T,T,T,T,T,T,T,T,T,T,T,T,T,T,T,T,T,T,T,T,T,T,T,T,T,T,T,T,T,T,F,F,F] rfl rfl (any_of HT_.out (by kernel_rfl)) (fun _ _ _ h => h) (Or.inl ⟨by rfl, ?_⟩) ?_ ?_; rotate_left
     ·intro w'; go_simp; with_reducible rfl
     rotate_left; (focus (simp only [PS]; rfl))
     refine pure_ (i := 42) (N := some 128) (v := ?_) (a' := ?_) #[T,T,T,T,T,T,T,T,T,T,T,T,T,T,T,T,T,T,T,T,T,T,T,T,T,T,T,T,T,T,T,T,T,T,T,T,T,T,T,T,T,T,T,F,F] rfl rfl (any_of HT_.out (by kernel_rfl)) (fun _ _ _ h => h) (Or.inl ⟨by rfl, ?_⟩) ?_ ?_; rotate_left
     ·intro w'; go_simp; with_reducible rfl
     rotate_left; (focus (simp only [PS]; rfl))
     refine pure_ (i := 43) (N := some 129) (v := ?_) (a' := ?_) #[T,T,T,T,T,T,T,T,T,T,T,T,T,T,T,T,T,T,T,T,T,T,T,T,T,T,T,T,T,T,T,T,T,T,T,T,T,T,T,T,T,T,T,T,F] rfl rfl (any_of HT_.out (by kernel_rfl)) (fun _ _ _ h => h) (Or.inl ⟨by rfl, ?_⟩) ?_ ?_; rotate_left
     ·intro w'; go_simp; with_reducible rfl
     rotate_left; (focus (simp only [PS]; rfl))
     refine pure_ (i := 44) (N := some 2) (v := ?_) (a' := ?_) #[T,T,T,T,T,T,T,T,T,T,T,T,T,T,T,T,T,T,T,T,T,T,T,T,T,T,T,T,T,T,T,T,T,T,T,T,T,T,T,T,T,T,T,T,T] rfl rfl (any_of HT_.out (by kernel_rfl)) (fun _ _ _ h => h) (Or.inl ⟨by rfl, ?_⟩) ?_ ?_; rotate_left
     ·intro w'; go_simp; with_reducible rfl
     rotate_left; (focus (simp only [PS]; rfl))
     refine done_ (done_of HT_.out (by kernel_rfl)) ?_
     try go_wp2
     all_goals (go_ret; exact ⟨by first | rfl | (simp [errW_none, errW_some] <;> rfl) | (simp [*, errW_none, errW_some] <;> rfl), by repeat (first | (with_reducible first | exact HB.out | apply below_alloc | apply pw_below_drewN | apply below_drew1 | refine below_set ?_ GE204.out | refine below_set ?_ GE205.out | refine below_set ?_ GE206.out | refine below_set ?_ GE211.out | refine below_set ?_ GE216.out | refine below_set ?_ GE221.out | refine below_set ?_ GE224.out) | exact HB.out)⟩)




/-- THE ONE PURE STATEMENT of laws_FnBoxes: yours. -/
def laws_FnBoxes.Pure : Prop := ∀ (l0 : List Int), l0.length ≤ maxLen → l0.length * 1 ≤ 140737488351232 → (∀ x ∈ l0, (Lit.int .u8 x).wf = true) → ∃ k, laws_FnBoxes.f k l0 = some true
theorem laws_FnBoxes.walk (P : laws_FnBoxes.Pure) (a0 : Option Addr) (len0 cap0 : Nat) (z0 : List Int) (w : World) (w0 : (a0 = none ∧ len0 = 0 ∧ cap0 = 0 ∧ z0 = []) ∨ ∃ x, a0 = some x ∧ len0 ≤ cap0 ∧ cap0 ≤ maxLen ∧ z0.length = cap0 ∧ (∀ i, i < z0.length → w.cell? (x.add i) = some (.int .u8 (z0.getD i 0))) ∧ ∀ n ∈ z0, (Lit.int .u8 n).wf = true) (y0 : len0 * 1 ≤ 140737488351232) :
    Calls Try.prog 6 #[.slice a0 len0 cap0] w fun e w' => e = .returned (.bool true) ∧ Below w.heap.size w w' := by
  obtain ⟨l0, rfl, hr0, hm0, hw0, hc0⟩ := ReadsInt.ofRowC w0
  obtain ⟨k, h⟩ := P l0 hm0 y0 hw0
  refine (laws_FnBoxes.calls k _ _ l0 true rfl w (Kd.C_of_reads (d := (0 : Int)) (h1 := fun _ => rfl) hr0) hc0 h).mono ?_
  rintro e w' ⟨rfl, hd⟩
  exact ⟨rfl, hd⟩

end Go.Proofs.Ytpeopmkgabfjbaa.PFnBoxes
