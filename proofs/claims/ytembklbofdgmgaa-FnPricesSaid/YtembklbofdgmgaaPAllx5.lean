-- Written by wip/tools/hp.py over the kit's print (not by hand): functions and walks of All.
import Derived.Test.YtembklbofdgmgaaPAllx0
import Derived.Test.YtembklbofdgmgaaPAllx3
import Derived.Test.YtembklbofdgmgaaPAllx4
import Derived.Test.YtembklbofdgmgaaPAllx9
namespace Go.Proofs.Ytembklbofdgmgaa.PAll
open Go.RowKit Go.Proofs.YtembklbofdgmgaaW.PrintWords Go.Proofs.YtembklbofdgmgaaW.PrintLast Go.Proofs.YtembklbofdgmgaaW.PrintMore
attribute [local go_sem] max2_int min2_int max_two min_two max_three min_three max_four min_four   -- for this text's walks alone
set_option linter.unusedVariables false
set_option linter.unusedSimpArgs false

/-! ### laws_FnPrices: function 4 -/
mutual
def laws_FnPrices.j0 : Nat → List Int → List Int → Bool → Option (Bool)
 | 0, _, _, _ => none
 | k + 1, x0, x1, x32 => if x32 = true then (some true) else ((spec_RowsOf.f k x0).bind fun t383 => ((some (([(⟨#[109, 105, 108, 107]⟩ : ByteArray), (⟨#[98, 114, 111, 116]⟩ : ByteArray), (⟨#[107, 195, 164, 115, 101]⟩ : ByteArray)] : List ByteArray) : List ByteArray)).bind fun y386 => ((laws_at.f x1 0 3).bind fun t389 => (if 0 ≤ t389 then (if t389 < (y386.length : Int) then ((some (([(⟨#[]⟩ : ByteArray), (⟨#[110, 111, 114, 116, 104]⟩ : ByteArray), (⟨#[115, 111, 117, 116, 104]⟩ : ByteArray)] : List ByteArray) : List ByteArray)).bind fun y391 => ((laws_at.f x1 1 3).bind fun t394 => (if 0 ≤ t394 then (if t394 < (y391.length : Int) then ((laws_at.f x1 2 60).bind fun t396 => ((laws_at.f x1 3 70).bind fun t397 => ((impl_PriceSteps.f k t383 (rdOf ByteArray.empty y386 t389) (rdOf ByteArray.empty y391 t394) t396 (wrap64 ((wrap64 (t396 + 1)) + t397))).bind fun bt398 => ((impl_PricesOK.f k t383).bind fun t402 => (if t402 = true then (if bt398.2 = 0 then (if (bt398.1.length : Int) = 0 then (laws_FnPrices.j1 k t383 (rdOf ByteArray.empty y386 t389) (rdOf ByteArray.empty y391 t394) t396 (wrap64 ((wrap64 (t396 + 1)) + t397)) bt398.1 true) else (if 0 < (bt398.1.length : Int) then (laws_FnPrices.j1 k t383 (rdOf ByteArray.empty y386 t389) (rdOf ByteArray.empty y391 t394) t396 (wrap64 ((wrap64 (t396 + 1)) + t397)) bt398.1 (((rd_T40 bt398.1 0).f0) != t396)) else (none))) else (laws_FnPrices.j1 k t383 (rdOf ByteArray.empty y386 t389) (rdOf ByteArray.empty y391 t394) t396 (wrap64 ((wrap64 (t396 + 1)) + t397)) bt398.1 true)) else (laws_FnPrices.j1 k t383 (rdOf ByteArray.empty y386 t389) (rdOf ByteArray.empty y391 t394) t396 (wrap64 ((wrap64 (t396 + 1)) + t397)) bt398.1 true)))))) else (none)) else (none)))) else (none)) else (none)))))
def laws_FnPrices.j1 : Nat → List (S44) → ByteArray → ByteArray → Int → Int → List (S40) → Bool → Option (Bool)
 | 0, _, _, _, _, _, _, _ => none
 | k + 1, x5, x6, x7, x8, x9, x10, x80 => if x80 = true then (none) else (laws_FnPrices.l0 k x5 x6 x7 x9 x10 0 x8)
def laws_FnPrices.l0 : Nat → List (S44) → ByteArray → ByteArray → Int → List (S40) → Int → Int → Option (Bool)
 | 0, _, _, _, _, _, _, _ => none
 | k + 1, x5, x6, x7, x9, x10, x12, x13 => if x13 < x9 then (if (wrap64 (x12 + 1)) < (x10.length : Int) then (if 0 ≤ (wrap64 (x12 + 1)) then (laws_FnPrices.j3 k x5 x6 x7 x9 x10 x12 x13 (((rd_T40 x10 (wrap64 (x12 + 1))).f0) == x13)) else (none)) else (laws_FnPrices.j3 k x5 x6 x7 x9 x10 x12 x13 false)) else (some ((wrap64 (x12 + 1)) == (x10.length : Int)))
def laws_FnPrices.j3 : Nat → List (S44) → ByteArray → ByteArray → Int → List (S40) → Int → Int → Bool → Option (Bool)
 | 0, _, _, _, _, _, _, _, _ => none
 | k + 1, x5, x6, x7, x9, x10, x12, x13, x101 => if x101 = true then (if 0 ≤ (wrap64 (x12 + 1)) then (if (wrap64 (x12 + 1)) < (x10.length : Int) then (if 0 ≤ (wrap64 ((wrap64 (x12 + 1)) - 1)) then (if (wrap64 ((wrap64 (x12 + 1)) - 1)) < (x10.length : Int) then (if ((rd_T40 x10 (wrap64 (x12 + 1))).f1) = ((rd_T40 x10 (wrap64 ((wrap64 (x12 + 1)) - 1))).f1) then (none) else (laws_FnPrices.j4 k x5 x6 x7 x9 x10 (wrap64 (x12 + 1)) x13)) else (none)) else (none)) else (none)) else (none)) else (laws_FnPrices.j4 k x5 x6 x7 x9 x10 x12 x13)
def laws_FnPrices.j4 : Nat → List (S44) → ByteArray → ByteArray → Int → List (S40) → Int → Int → Option (Bool)
 | 0, _, _, _, _, _, _, _ => none
 | k + 1, x5, x6, x7, x9, x10, x12, x13 => (impl_PriceAt.f k x5 x6 x7 x13).bind fun bt407 => ((spec_PriceAt.f k x5 x6 x7 x13).bind fun bt410 => (if bt407.2.2 = bt410.2.2 then (if bt407.1 = bt410.1 then (laws_FnPrices.j5 k x5 x6 x7 x9 x10 x12 x13 bt407.1 bt407.2.2 (bt407.2.1 != bt410.2.1)) else (laws_FnPrices.j5 k x5 x6 x7 x9 x10 x12 x13 bt407.1 bt407.2.2 true)) else (laws_FnPrices.j5 k x5 x6 x7 x9 x10 x12 x13 bt407.1 bt407.2.2 true)))
def laws_FnPrices.j5 : Nat → List (S44) → ByteArray → ByteArray → Int → List (S40) → Int → Int → Int → Int → Bool → Option (Bool)
 | 0, _, _, _, _, _, _, _, _, _, _ => none
 | k + 1, x5, x6, x7, x9, x10, x12, x13, x14, x16, x146 => if x146 = true then (none) else (if x16 = 0 then (laws_FnPrices.j6 k x5 x6 x7 x9 x10 x12 x13 x14 x16) else (laws_FnPrices.j6 k x5 x6 x7 x9 x10 x12 x13 (-1) x16))
def laws_FnPrices.j6 : Nat → List (S44) → ByteArray → ByteArray → Int → List (S40) → Int → Int → Int → Int → Option (Bool)
 | 0, _, _, _, _, _, _, _, _, _ => none
 | k + 1, x5, x6, x7, x9, x10, x12, x13, x14, x16 => if 0 ≤ x12 then (if x12 < (x10.length : Int) then (if x14 = ((rd_T40 x10 x12).f1) then (laws_FnPrices.l1 k x5 x6 x7 x9 x10 x12 x13 x14 x16 (([] : List (S44))) 0) else (none)) else (none)) else (none)
def laws_FnPrices.l1 : Nat → List (S44) → ByteArray → ByteArray → Int → List (S40) → Int → Int → Int → Int → List (S44) → Int → Option (Bool)
 | 0, _, _, _, _, _, _, _, _, _, _, _ => none
 | k + 1, x5, x6, x7, x9, x10, x12, x13, x14, x16, x20, x21 => if x21 < (x5.length : Int) then (if 0 ≤ x21 then (if ((rd_T44 x5 x21).f0).toList = x6.toList then (if ((rd_T44 x5 x21).f3) ≤ x13 then (laws_FnPrices.j8 k x5 x6 x7 x9 x10 x12 x13 x14 x16 x20 x21 (decide (x13 < ((rd_T44 x5 x21).f4)))) else (laws_FnPrices.j8 k x5 x6 x7 x9 x10 x12 x13 x14 x16 x20 x21 false)) else (laws_FnPrices.j8 k x5 x6 x7 x9 x10 x12 x13 x14 x16 x20 x21 false)) else (none)) else ((impl_PriceAt.f k x20 x6 x7 x13).bind fun bt424 => (if bt424.2.2 = x16 then (if bt424.2.2 = 0 then (laws_FnPrices.j9 k x5 x6 x7 x9 x10 x12 x13 (bt424.1 != x14)) else (laws_FnPrices.j9 k x5 x6 x7 x9 x10 x12 x13 false)) else (laws_FnPrices.j9 k x5 x6 x7 x9 x10 x12 x13 true)))
def laws_FnPrices.j8 : Nat → List (S44) → ByteArray → ByteArray → Int → List (S40) → Int → Int → Int → Int → List (S44) → Int → Bool → Option (Bool)
 | 0, _, _, _, _, _, _, _, _, _, _, _, _ => none
 | k + 1, x5, x6, x7, x9, x10, x12, x13, x14, x16, x20, x21, x187 => if x187 = true then (if 0 ≤ x21 then (if x21 < (x5.length : Int) then (if x20.length < 2199023255552 then (laws_FnPrices.l1 k x5 x6 x7 x9 x10 x12 x13 x14 x16 (x20 ++ [(⟨(rd_T44 x5 x21).f0, (rd_T44 x5 x21).f1, (rd_T44 x5 x21).f2, (rd_T44 x5 x21).f3, (rd_T44 x5 x21).f4, (rd_T44 x5 x21).f5⟩ : S44)]) (wrap64 (x21 + 1))) else (none)) else (none)) else (none)) else (laws_FnPrices.l1 k x5 x6 x7 x9 x10 x12 x13 x14 x16 x20 (wrap64 (x21 + 1)))
def laws_FnPrices.j9 : Nat → List (S44) → ByteArray → ByteArray → Int → List (S40) → Int → Int → Bool → Option (Bool)
 | 0, _, _, _, _, _, _, _, _ => none
 | k + 1, x5, x6, x7, x9, x10, x12, x13, x215 => if x215 = true then (none) else (laws_FnPrices.l0 k x5 x6 x7 x9 x10 x12 (wrap64 (x13 + 1)))
end
def laws_FnPrices.f (k : Nat) (l0 : List Int) (l1 : List Int) : Option (Bool) := if (l0.length : Int) > 1048576 then (laws_FnPrices.j0 k l0 l1 true) else (laws_FnPrices.j0 k l0 l1 (decide ((l1.length : Int) > 1048576)))
theorem laws_FnPrices.n1 : ∀ k a0 a1 a2 a3 a4 a5, laws_FnPrices.j1 k a0 a1 a2 a3 a4 a5 true = none := by
  intro k; cases k <;> intros <;> simp [laws_FnPrices.j1]
theorem laws_FnPrices.n5 : ∀ k a0 a1 a2 a3 a4 a5 a6 a7 a8, laws_FnPrices.j5 k a0 a1 a2 a3 a4 a5 a6 a7 a8 true = none := by
  intro k; cases k <;> intros <;> simp [laws_FnPrices.j5]
theorem laws_FnPrices.n9 : ∀ k a0 a1 a2 a3 a4 a5 a6, laws_FnPrices.j9 k a0 a1 a2 a3 a4 a5 a6 true = none := by
  intro k; cases k <;> intros <;> simp [laws_FnPrices.j9]
theorem laws_FnPrices.mono_l : ∀ k, (∀ y0 y1 y2, LeO (laws_FnPrices.j0 k y0 y1 y2) (laws_FnPrices.j0 (k + 1) y0 y1 y2)) ∧ (∀ y0 y1 y2 y3 y4 y5 y6, LeO (laws_FnPrices.j1 k y0 y1 y2 y3 y4 y5 y6) (laws_FnPrices.j1 (k + 1) y0 y1 y2 y3 y4 y5 y6)) ∧ (∀ y0 y1 y2 y3 y4 y5 y6, LeO (laws_FnPrices.l0 k y0 y1 y2 y3 y4 y5 y6) (laws_FnPrices.l0 (k + 1) y0 y1 y2 y3 y4 y5 y6)) ∧ (∀ y0 y1 y2 y3 y4 y5 y6 y7, LeO (laws_FnPrices.j3 k y0 y1 y2 y3 y4 y5 y6 y7) (laws_FnPrices.j3 (k + 1) y0 y1 y2 y3 y4 y5 y6 y7)) ∧ (∀ y0 y1 y2 y3 y4 y5 y6, LeO (laws_FnPrices.j4 k y0 y1 y2 y3 y4 y5 y6) (laws_FnPrices.j4 (k + 1) y0 y1 y2 y3 y4 y5 y6)) ∧ (∀ y0 y1 y2 y3 y4 y5 y6 y7 y8 y9, LeO (laws_FnPrices.j5 k y0 y1 y2 y3 y4 y5 y6 y7 y8 y9) (laws_FnPrices.j5 (k + 1) y0 y1 y2 y3 y4 y5 y6 y7 y8 y9)) ∧ (∀ y0 y1 y2 y3 y4 y5 y6 y7 y8, LeO (laws_FnPrices.j6 k y0 y1 y2 y3 y4 y5 y6 y7 y8) (laws_FnPrices.j6 (k + 1) y0 y1 y2 y3 y4 y5 y6 y7 y8)) ∧ (∀ y0 y1 y2 y3 y4 y5 y6 y7 y8 y9 y10, LeO (laws_FnPrices.l1 k y0 y1 y2 y3 y4 y5 y6 y7 y8 y9 y10) (laws_FnPrices.l1 (k + 1) y0 y1 y2 y3 y4 y5 y6 y7 y8 y9 y10)) ∧ (∀ y0 y1 y2 y3 y4 y5 y6 y7 y8 y9 y10 y11, LeO (laws_FnPrices.j8 k y0 y1 y2 y3 y4 y5 y6 y7 y8 y9 y10 y11) (laws_FnPrices.j8 (k + 1) y0 y1 y2 y3 y4 y5 y6 y7 y8 y9 y10 y11)) ∧ (∀ y0 y1 y2 y3 y4 y5 y6 y7, LeO (laws_FnPrices.j9 k y0 y1 y2 y3 y4 y5 y6 y7) (laws_FnPrices.j9 (k + 1) y0 y1 y2 y3 y4 y5 y6 y7))
 | 0 => ⟨fun _ _ _ r h => by simp [laws_FnPrices.j0] at h, fun _ _ _ _ _ _ _ r h => by simp [laws_FnPrices.j1] at h, fun _ _ _ _ _ _ _ r h => by simp [laws_FnPrices.l0] at h, fun _ _ _ _ _ _ _ _ r h => by simp [laws_FnPrices.j3] at h, fun _ _ _ _ _ _ _ r h => by simp [laws_FnPrices.j4] at h, fun _ _ _ _ _ _ _ _ _ _ r h => by simp [laws_FnPrices.j5] at h, fun _ _ _ _ _ _ _ _ _ r h => by simp [laws_FnPrices.j6] at h, fun _ _ _ _ _ _ _ _ _ _ _ r h => by simp [laws_FnPrices.l1] at h, fun _ _ _ _ _ _ _ _ _ _ _ _ r h => by simp [laws_FnPrices.j8] at h, fun _ _ _ _ _ _ _ _ r h => by simp [laws_FnPrices.j9] at h⟩
 | k + 1 => by
  obtain ⟨ih0, ih1, ih2, ih3, ih4, ih5, ih6, ih7, ih8, ih9⟩ := laws_FnPrices.mono_l k; refine ⟨?_, ?_, ?_, ?_, ?_, ?_, ?_, ?_, ?_, ?_⟩
  ·intro y0 y1 y2; unfold laws_FnPrices.j0
   repeat' first
   | (with_reducible exact ih0 _ _ _)
   | (with_reducible exact ih1 _ _ _ _ _ _ _)
   | (with_reducible exact ih2 _ _ _ _ _ _ _)
   | (with_reducible exact ih3 _ _ _ _ _ _ _ _)
   | (with_reducible exact ih4 _ _ _ _ _ _ _)
   | (with_reducible exact ih5 _ _ _ _ _ _ _ _ _ _)
   | (with_reducible exact ih6 _ _ _ _ _ _ _ _ _)
   | (with_reducible exact ih7 _ _ _ _ _ _ _ _ _ _ _)
   | (with_reducible exact ih8 _ _ _ _ _ _ _ _ _ _ _ _)
   | (with_reducible exact ih9 _ _ _ _ _ _ _ _)
   | (with_reducible exact impl_PriceAt.mono _ _ _ _ _)
   | (with_reducible exact impl_PriceSteps.mono _ _ _ _ _ _)
   | (with_reducible exact impl_PricesOK.mono _ _)
   | (with_reducible exact spec_PriceAt.mono _ _ _ _ _)
   | (with_reducible exact spec_RowsOf.mono _ _)
   | (with_reducible exact LeO.refl _)
   | (with_reducible exact LeO.none _)
   | (with_reducible refine LeO.ite ?_ ?_)
   | (with_reducible refine LeO.bind ?_ (fun _ => ?_))
   | exact ih0 _ _ _
   | exact ih1 _ _ _ _ _ _ _
   | exact ih2 _ _ _ _ _ _ _
   | exact ih3 _ _ _ _ _ _ _ _
   | exact ih4 _ _ _ _ _ _ _
   | exact ih5 _ _ _ _ _ _ _ _ _ _
   | exact ih6 _ _ _ _ _ _ _ _ _
   | exact ih7 _ _ _ _ _ _ _ _ _ _ _
   | exact ih8 _ _ _ _ _ _ _ _ _ _ _ _
   | exact ih9 _ _ _ _ _ _ _ _
   | exact impl_PriceAt.mono _ _ _ _ _
   | exact impl_PriceSteps.mono _ _ _ _ _ _
   | exact impl_PricesOK.mono _ _
   | exact spec_PriceAt.mono _ _ _ _ _
   | exact spec_RowsOf.mono _ _
   | exact LeO.none _
   | refine LeO.ite ?_ ?_
   | refine LeO.bind ?_ (fun _ => ?_)
  ·intro y0 y1 y2 y3 y4 y5 y6; unfold laws_FnPrices.j1
   repeat' first
   | (with_reducible exact ih0 _ _ _)
   | (with_reducible exact ih1 _ _ _ _ _ _ _)
   | (with_reducible exact ih2 _ _ _ _ _ _ _)
   | (with_reducible exact ih3 _ _ _ _ _ _ _ _)
   | (with_reducible exact ih4 _ _ _ _ _ _ _)
   | (with_reducible exact ih5 _ _ _ _ _ _ _ _ _ _)
   | (with_reducible exact ih6 _ _ _ _ _ _ _ _ _)
   | (with_reducible exact ih7 _ _ _ _ _ _ _ _ _ _ _)
   | (with_reducible exact ih8 _ _ _ _ _ _ _ _ _ _ _ _)
   | (with_reducible exact ih9 _ _ _ _ _ _ _ _)
   | (with_reducible exact impl_PriceAt.mono _ _ _ _ _)
   | (with_reducible exact impl_PriceSteps.mono _ _ _ _ _ _)
   | (with_reducible exact impl_PricesOK.mono _ _)
   | (with_reducible exact spec_PriceAt.mono _ _ _ _ _)
   | (with_reducible exact spec_RowsOf.mono _ _)
   | (with_reducible exact LeO.refl _)
   | (with_reducible exact LeO.none _)
   | (with_reducible refine LeO.ite ?_ ?_)
   | (with_reducible refine LeO.bind ?_ (fun _ => ?_))
   | exact ih0 _ _ _
   | exact ih1 _ _ _ _ _ _ _
   | exact ih2 _ _ _ _ _ _ _
   | exact ih3 _ _ _ _ _ _ _ _
   | exact ih4 _ _ _ _ _ _ _
   | exact ih5 _ _ _ _ _ _ _ _ _ _
   | exact ih6 _ _ _ _ _ _ _ _ _
   | exact ih7 _ _ _ _ _ _ _ _ _ _ _
   | exact ih8 _ _ _ _ _ _ _ _ _ _ _ _
   | exact ih9 _ _ _ _ _ _ _ _
   | exact impl_PriceAt.mono _ _ _ _ _
   | exact impl_PriceSteps.mono _ _ _ _ _ _
   | exact impl_PricesOK.mono _ _
   | exact spec_PriceAt.mono _ _ _ _ _
   | exact spec_RowsOf.mono _ _
   | exact LeO.none _
   | refine LeO.ite ?_ ?_
   | refine LeO.bind ?_ (fun _ => ?_)
  ·intro y0 y1 y2 y3 y4 y5 y6; unfold laws_FnPrices.l0
   repeat' first
   | (with_reducible exact ih0 _ _ _)
   | (with_reducible exact ih1 _ _ _ _ _ _ _)
   | (with_reducible exact ih2 _ _ _ _ _ _ _)
   | (with_reducible exact ih3 _ _ _ _ _ _ _ _)
   | (with_reducible exact ih4 _ _ _ _ _ _ _)
   | (with_reducible exact ih5 _ _ _ _ _ _ _ _ _ _)
   | (with_reducible exact ih6 _ _ _ _ _ _ _ _ _)
   | (with_reducible exact ih7 _ _ _ _ _ _ _ _ _ _ _)
   | (with_reducible exact ih8 _ _ _ _ _ _ _ _ _ _ _ _)
   | (with_reducible exact ih9 _ _ _ _ _ _ _ _)
   | (with_reducible exact impl_PriceAt.mono _ _ _ _ _)
   | (with_reducible exact impl_PriceSteps.mono _ _ _ _ _ _)
   | (with_reducible exact impl_PricesOK.mono _ _)
   | (with_reducible exact spec_PriceAt.mono _ _ _ _ _)
   | (with_reducible exact spec_RowsOf.mono _ _)
   | (with_reducible exact LeO.refl _)
   | (with_reducible exact LeO.none _)
   | (with_reducible refine LeO.ite ?_ ?_)
   | (with_reducible refine LeO.bind ?_ (fun _ => ?_))
   | exact ih0 _ _ _
   | exact ih1 _ _ _ _ _ _ _
   | exact ih2 _ _ _ _ _ _ _
   | exact ih3 _ _ _ _ _ _ _ _
   | exact ih4 _ _ _ _ _ _ _
   | exact ih5 _ _ _ _ _ _ _ _ _ _
   | exact ih6 _ _ _ _ _ _ _ _ _
   | exact ih7 _ _ _ _ _ _ _ _ _ _ _
   | exact ih8 _ _ _ _ _ _ _ _ _ _ _ _
   | exact ih9 _ _ _ _ _ _ _ _
   | exact impl_PriceAt.mono _ _ _ _ _
   | exact impl_PriceSteps.mono _ _ _ _ _ _
   | exact impl_PricesOK.mono _ _
   | exact spec_PriceAt.mono _ _ _ _ _
   | exact spec_RowsOf.mono _ _
   | exact LeO.none _
   | refine LeO.ite ?_ ?_
   | refine LeO.bind ?_ (fun _ => ?_)
  ·intro y0 y1 y2 y3 y4 y5 y6 y7; unfold laws_FnPrices.j3
   repeat' first
   | (with_reducible exact ih0 _ _ _)
   | (with_reducible exact ih1 _ _ _ _ _ _ _)
   | (with_reducible exact ih2 _ _ _ _ _ _ _)
   | (with_reducible exact ih3 _ _ _ _ _ _ _ _)
   | (with_reducible exact ih4 _ _ _ _ _ _ _)
   | (with_reducible exact ih5 _ _ _ _ _ _ _ _ _ _)
   | (with_reducible exact ih6 _ _ _ _ _ _ _ _ _)
   | (with_reducible exact ih7 _ _ _ _ _ _ _ _ _ _ _)
   | (with_reducible exact ih8 _ _ _ _ _ _ _ _ _ _ _ _)
   | (with_reducible exact ih9 _ _ _ _ _ _ _ _)
   | (with_reducible exact impl_PriceAt.mono _ _ _ _ _)
   | (with_reducible exact impl_PriceSteps.mono _ _ _ _ _ _)
   | (with_reducible exact impl_PricesOK.mono _ _)
   | (with_reducible exact spec_PriceAt.mono _ _ _ _ _)
   | (with_reducible exact spec_RowsOf.mono _ _)
   | (with_reducible exact LeO.refl _)
   | (with_reducible exact LeO.none _)
   | (with_reducible refine LeO.ite ?_ ?_)
   | (with_reducible refine LeO.bind ?_ (fun _ => ?_))
   | exact ih0 _ _ _
   | exact ih1 _ _ _ _ _ _ _
   | exact ih2 _ _ _ _ _ _ _
   | exact ih3 _ _ _ _ _ _ _ _
   | exact ih4 _ _ _ _ _ _ _
   | exact ih5 _ _ _ _ _ _ _ _ _ _
   | exact ih6 _ _ _ _ _ _ _ _ _
   | exact ih7 _ _ _ _ _ _ _ _ _ _ _
   | exact ih8 _ _ _ _ _ _ _ _ _ _ _ _
   | exact ih9 _ _ _ _ _ _ _ _
   | exact impl_PriceAt.mono _ _ _ _ _
   | exact impl_PriceSteps.mono _ _ _ _ _ _
   | exact impl_PricesOK.mono _ _
   | exact spec_PriceAt.mono _ _ _ _ _
   | exact spec_RowsOf.mono _ _
   | exact LeO.none _
   | refine LeO.ite ?_ ?_
   | refine LeO.bind ?_ (fun _ => ?_)
  ·intro y0 y1 y2 y3 y4 y5 y6; unfold laws_FnPrices.j4
   repeat' first
   | (with_reducible exact ih0 _ _ _)
   | (with_reducible exact ih1 _ _ _ _ _ _ _)
   | (with_reducible exact ih2 _ _ _ _ _ _ _)
   | (with_reducible exact ih3 _ _ _ _ _ _ _ _)
   | (with_reducible exact ih4 _ _ _ _ _ _ _)
   | (with_reducible exact ih5 _ _ _ _ _ _ _ _ _ _)
   | (with_reducible exact ih6 _ _ _ _ _ _ _ _ _)
   | (with_reducible exact ih7 _ _ _ _ _ _ _ _ _ _ _)
   | (with_reducible exact ih8 _ _ _ _ _ _ _ _ _ _ _ _)
   | (with_reducible exact ih9 _ _ _ _ _ _ _ _)
   | (with_reducible exact impl_PriceAt.mono _ _ _ _ _)
   | (with_reducible exact impl_PriceSteps.mono _ _ _ _ _ _)
   | (with_reducible exact impl_PricesOK.mono _ _)
   | (with_reducible exact spec_PriceAt.mono _ _ _ _ _)
   | (with_reducible exact spec_RowsOf.mono _ _)
   | (with_reducible exact LeO.refl _)
   | (with_reducible exact LeO.none _)
   | (with_reducible refine LeO.ite ?_ ?_)
   | (with_reducible refine LeO.bind ?_ (fun _ => ?_))
   | exact ih0 _ _ _
   | exact ih1 _ _ _ _ _ _ _
   | exact ih2 _ _ _ _ _ _ _
   | exact ih3 _ _ _ _ _ _ _ _
   | exact ih4 _ _ _ _ _ _ _
   | exact ih5 _ _ _ _ _ _ _ _ _ _
   | exact ih6 _ _ _ _ _ _ _ _ _
   | exact ih7 _ _ _ _ _ _ _ _ _ _ _
   | exact ih8 _ _ _ _ _ _ _ _ _ _ _ _
   | exact ih9 _ _ _ _ _ _ _ _
   | exact impl_PriceAt.mono _ _ _ _ _
   | exact impl_PriceSteps.mono _ _ _ _ _ _
   | exact impl_PricesOK.mono _ _
   | exact spec_PriceAt.mono _ _ _ _ _
   | exact spec_RowsOf.mono _ _
   | exact LeO.none _
   | refine LeO.ite ?_ ?_
   | refine LeO.bind ?_ (fun _ => ?_)
  ·intro y0 y1 y2 y3 y4 y5 y6 y7 y8 y9; unfold laws_FnPrices.j5
   repeat' first
   | (with_reducible exact ih0 _ _ _)
   | (with_reducible exact ih1 _ _ _ _ _ _ _)
   | (with_reducible exact ih2 _ _ _ _ _ _ _)
   | (with_reducible exact ih3 _ _ _ _ _ _ _ _)
   | (with_reducible exact ih4 _ _ _ _ _ _ _)
   | (with_reducible exact ih5 _ _ _ _ _ _ _ _ _ _)
   | (with_reducible exact ih6 _ _ _ _ _ _ _ _ _)
   | (with_reducible exact ih7 _ _ _ _ _ _ _ _ _ _ _)
   | (with_reducible exact ih8 _ _ _ _ _ _ _ _ _ _ _ _)
   | (with_reducible exact ih9 _ _ _ _ _ _ _ _)
   | (with_reducible exact impl_PriceAt.mono _ _ _ _ _)
   | (with_reducible exact impl_PriceSteps.mono _ _ _ _ _ _)
   | (with_reducible exact impl_PricesOK.mono _ _)
   | (with_reducible exact spec_PriceAt.mono _ _ _ _ _)
   | (with_reducible exact spec_RowsOf.mono _ _)
   | (with_reducible exact LeO.refl _)
   | (with_reducible exact LeO.none _)
   | (with_reducible refine LeO.ite ?_ ?_)
   | (with_reducible refine LeO.bind ?_ (fun _ => ?_))
   | exact ih0 _ _ _
   | exact ih1 _ _ _ _ _ _ _
   | exact ih2 _ _ _ _ _ _ _
   | exact ih3 _ _ _ _ _ _ _ _
   | exact ih4 _ _ _ _ _ _ _
   | exact ih5 _ _ _ _ _ _ _ _ _ _
   | exact ih6 _ _ _ _ _ _ _ _ _
   | exact ih7 _ _ _ _ _ _ _ _ _ _ _
   | exact ih8 _ _ _ _ _ _ _ _ _ _ _ _
   | exact ih9 _ _ _ _ _ _ _ _
   | exact impl_PriceAt.mono _ _ _ _ _
   | exact impl_PriceSteps.mono _ _ _ _ _ _
   | exact impl_PricesOK.mono _ _
   | exact spec_PriceAt.mono _ _ _ _ _
   | exact spec_RowsOf.mono _ _
   | exact LeO.none _
   | refine LeO.ite ?_ ?_
   | refine LeO.bind ?_ (fun _ => ?_)
  ·intro y0 y1 y2 y3 y4 y5 y6 y7 y8; unfold laws_FnPrices.j6
   repeat' first
   | (with_reducible exact ih0 _ _ _)
   | (with_reducible exact ih1 _ _ _ _ _ _ _)
   | (with_reducible exact ih2 _ _ _ _ _ _ _)
   | (with_reducible exact ih3 _ _ _ _ _ _ _ _)
   | (with_reducible exact ih4 _ _ _ _ _ _ _)
   | (with_reducible exact ih5 _ _ _ _ _ _ _ _ _ _)
   | (with_reducible exact ih6 _ _ _ _ _ _ _ _ _)
   | (with_reducible exact ih7 _ _ _ _ _ _ _ _ _ _ _)
   | (with_reducible exact ih8 _ _ _ _ _ _ _ _ _ _ _ _)
   | (with_reducible exact ih9 _ _ _ _ _ _ _ _)
   | (with_reducible exact impl_PriceAt.mono _ _ _ _ _)
   | (with_reducible exact impl_PriceSteps.mono _ _ _ _ _ _)
   | (with_reducible exact impl_PricesOK.mono _ _)
   | (with_reducible exact spec_PriceAt.mono _ _ _ _ _)
   | (with_reducible exact spec_RowsOf.mono _ _)
   | (with_reducible exact LeO.refl _)
   | (with_reducible exact LeO.none _)
   | (with_reducible refine LeO.ite ?_ ?_)
   | (with_reducible refine LeO.bind ?_ (fun _ => ?_))
   | exact ih0 _ _ _
   | exact ih1 _ _ _ _ _ _ _
   | exact ih2 _ _ _ _ _ _ _
   | exact ih3 _ _ _ _ _ _ _ _
   | exact ih4 _ _ _ _ _ _ _
   | exact ih5 _ _ _ _ _ _ _ _ _ _
   | exact ih6 _ _ _ _ _ _ _ _ _
   | exact ih7 _ _ _ _ _ _ _ _ _ _ _
   | exact ih8 _ _ _ _ _ _ _ _ _ _ _ _
   | exact ih9 _ _ _ _ _ _ _ _
   | exact impl_PriceAt.mono _ _ _ _ _
   | exact impl_PriceSteps.mono _ _ _ _ _ _
   | exact impl_PricesOK.mono _ _
   | exact spec_PriceAt.mono _ _ _ _ _
   | exact spec_RowsOf.mono _ _
   | exact LeO.none _
   | refine LeO.ite ?_ ?_
   | refine LeO.bind ?_ (fun _ => ?_)
  ·intro y0 y1 y2 y3 y4 y5 y6 y7 y8 y9 y10; unfold laws_FnPrices.l1
   repeat' first
   | (with_reducible exact ih0 _ _ _)
   | (with_reducible exact ih1 _ _ _ _ _ _ _)
   | (with_reducible exact ih2 _ _ _ _ _ _ _)
   | (with_reducible exact ih3 _ _ _ _ _ _ _ _)
   | (with_reducible exact ih4 _ _ _ _ _ _ _)
   | (with_reducible exact ih5 _ _ _ _ _ _ _ _ _ _)
   | (with_reducible exact ih6 _ _ _ _ _ _ _ _ _)
   | (with_reducible exact ih7 _ _ _ _ _ _ _ _ _ _ _)
   | (with_reducible exact ih8 _ _ _ _ _ _ _ _ _ _ _ _)
   | (with_reducible exact ih9 _ _ _ _ _ _ _ _)
   | (with_reducible exact impl_PriceAt.mono _ _ _ _ _)
   | (with_reducible exact impl_PriceSteps.mono _ _ _ _ _ _)
   | (with_reducible exact impl_PricesOK.mono _ _)
   | (with_reducible exact spec_PriceAt.mono _ _ _ _ _)
   | (with_reducible exact spec_RowsOf.mono _ _)
   | (with_reducible exact LeO.refl _)
   | (with_reducible exact LeO.none _)
   | (with_reducible refine LeO.ite ?_ ?_)
   | (with_reducible refine LeO.bind ?_ (fun _ => ?_))
   | exact ih0 _ _ _
   | exact ih1 _ _ _ _ _ _ _
   | exact ih2 _ _ _ _ _ _ _
   | exact ih3 _ _ _ _ _ _ _ _
   | exact ih4 _ _ _ _ _ _ _
   | exact ih5 _ _ _ _ _ _ _ _ _ _
   | exact ih6 _ _ _ _ _ _ _ _ _
   | exact ih7 _ _ _ _ _ _ _ _ _ _ _
   | exact ih8 _ _ _ _ _ _ _ _ _ _ _ _
   | exact ih9 _ _ _ _ _ _ _ _
   | exact impl_PriceAt.mono _ _ _ _ _
   | exact impl_PriceSteps.mono _ _ _ _ _ _
   | exact impl_PricesOK.mono _ _
   | exact spec_PriceAt.mono _ _ _ _ _
   | exact spec_RowsOf.mono _ _
   | exact LeO.none _
   | refine LeO.ite ?_ ?_
   | refine LeO.bind ?_ (fun _ => ?_)
  ·intro y0 y1 y2 y3 y4 y5 y6 y7 y8 y9 y10 y11; unfold laws_FnPrices.j8
   repeat' first
   | (with_reducible exact ih0 _ _ _)
   | (with_reducible exact ih1 _ _ _ _ _ _ _)
   | (with_reducible exact ih2 _ _ _ _ _ _ _)
   | (with_reducible exact ih3 _ _ _ _ _ _ _ _)
   | (with_reducible exact ih4 _ _ _ _ _ _ _)
   | (with_reducible exact ih5 _ _ _ _ _ _ _ _ _ _)
   | (with_reducible exact ih6 _ _ _ _ _ _ _ _ _)
   | (with_reducible exact ih7 _ _ _ _ _ _ _ _ _ _ _)
   | (with_reducible exact ih8 _ _ _ _ _ _ _ _ _ _ _ _)
   | (with_reducible exact ih9 _ _ _ _ _ _ _ _)
   | (with_reducible exact impl_PriceAt.mono _ _ _ _ _)
   | (with_reducible exact impl_PriceSteps.mono _ _ _ _ _ _)
   | (with_reducible exact impl_PricesOK.mono _ _)
   | (with_reducible exact spec_PriceAt.mono _ _ _ _ _)
   | (with_reducible exact spec_RowsOf.mono _ _)
   | (with_reducible exact LeO.refl _)
   | (with_reducible exact LeO.none _)
   | (with_reducible refine LeO.ite ?_ ?_)
   | (with_reducible refine LeO.bind ?_ (fun _ => ?_))
   | exact ih0 _ _ _
   | exact ih1 _ _ _ _ _ _ _
   | exact ih2 _ _ _ _ _ _ _
   | exact ih3 _ _ _ _ _ _ _ _
   | exact ih4 _ _ _ _ _ _ _
   | exact ih5 _ _ _ _ _ _ _ _ _ _
   | exact ih6 _ _ _ _ _ _ _ _ _
   | exact ih7 _ _ _ _ _ _ _ _ _ _ _
   | exact ih8 _ _ _ _ _ _ _ _ _ _ _ _
   | exact ih9 _ _ _ _ _ _ _ _
   | exact impl_PriceAt.mono _ _ _ _ _
   | exact impl_PriceSteps.mono _ _ _ _ _ _
   | exact impl_PricesOK.mono _ _
   | exact spec_PriceAt.mono _ _ _ _ _
   | exact spec_RowsOf.mono _ _
   | exact LeO.none _
   | refine LeO.ite ?_ ?_
   | refine LeO.bind ?_ (fun _ => ?_)
  ·intro y0 y1 y2 y3 y4 y5 y6 y7; unfold laws_FnPrices.j9
   repeat' first
   | (with_reducible exact ih0 _ _ _)
   | (with_reducible exact ih1 _ _ _ _ _ _ _)
   | (with_reducible exact ih2 _ _ _ _ _ _ _)
   | (with_reducible exact ih3 _ _ _ _ _ _ _ _)
   | (with_reducible exact ih4 _ _ _ _ _ _ _)
   | (with_reducible exact ih5 _ _ _ _ _ _ _ _ _ _)
   | (with_reducible exact ih6 _ _ _ _ _ _ _ _ _)
   | (with_reducible exact ih7 _ _ _ _ _ _ _ _ _ _ _)
   | (with_reducible exact ih8 _ _ _ _ _ _ _ _ _ _ _ _)
   | (with_reducible exact ih9 _ _ _ _ _ _ _ _)
   | (with_reducible exact impl_PriceAt.mono _ _ _ _ _)
   | (with_reducible exact impl_PriceSteps.mono _ _ _ _ _ _)
   | (with_reducible exact impl_PricesOK.mono _ _)
   | (with_reducible exact spec_PriceAt.mono _ _ _ _ _)
   | (with_reducible exact spec_RowsOf.mono _ _)
   | (with_reducible exact LeO.refl _)
   | (with_reducible exact LeO.none _)
   | (with_reducible refine LeO.ite ?_ ?_)
   | (with_reducible refine LeO.bind ?_ (fun _ => ?_))
   | exact ih0 _ _ _
   | exact ih1 _ _ _ _ _ _ _
   | exact ih2 _ _ _ _ _ _ _
   | exact ih3 _ _ _ _ _ _ _ _
   | exact ih4 _ _ _ _ _ _ _
   | exact ih5 _ _ _ _ _ _ _ _ _ _
   | exact ih6 _ _ _ _ _ _ _ _ _
   | exact ih7 _ _ _ _ _ _ _ _ _ _ _
   | exact ih8 _ _ _ _ _ _ _ _ _ _ _ _
   | exact ih9 _ _ _ _ _ _ _ _
   | exact impl_PriceAt.mono _ _ _ _ _
   | exact impl_PriceSteps.mono _ _ _ _ _ _
   | exact impl_PricesOK.mono _ _
   | exact spec_PriceAt.mono _ _ _ _ _
   | exact spec_RowsOf.mono _ _
   | exact LeO.none _
   | refine LeO.ite ?_ ?_
   | refine LeO.bind ?_ (fun _ => ?_)
theorem laws_FnPrices.mono : ∀ a0 a1 k, LeO (laws_FnPrices.f k a0 a1) (laws_FnPrices.f (k + 1) a0 a1) := by
 intro a0 a1 k; obtain ⟨ih0, ih1, ih2, ih3, ih4, ih5, ih6, ih7, ih8, ih9⟩ := laws_FnPrices.mono_l k; unfold laws_FnPrices.f
 repeat' first
   | (with_reducible exact ih0 _ _ _)
   | (with_reducible exact ih1 _ _ _ _ _ _ _)
   | (with_reducible exact ih2 _ _ _ _ _ _ _)
   | (with_reducible exact ih3 _ _ _ _ _ _ _ _)
   | (with_reducible exact ih4 _ _ _ _ _ _ _)
   | (with_reducible exact ih5 _ _ _ _ _ _ _ _ _ _)
   | (with_reducible exact ih6 _ _ _ _ _ _ _ _ _)
   | (with_reducible exact ih7 _ _ _ _ _ _ _ _ _ _ _)
   | (with_reducible exact ih8 _ _ _ _ _ _ _ _ _ _ _ _)
   | (with_reducible exact ih9 _ _ _ _ _ _ _ _)
   | (with_reducible exact impl_PriceAt.mono _ _ _ _ _)
   | (with_reducible exact impl_PriceSteps.mono _ _ _ _ _ _)
   | (with_reducible exact impl_PricesOK.mono _ _)
   | (with_reducible exact spec_PriceAt.mono _ _ _ _ _)
   | (with_reducible exact spec_RowsOf.mono _ _)
   | (with_reducible exact LeO.refl _)
   | (with_reducible exact LeO.none _)
   | (with_reducible refine LeO.ite ?_ ?_)
   | (with_reducible refine LeO.bind ?_ (fun _ => ?_))
   | exact ih0 _ _ _
   | exact ih1 _ _ _ _ _ _ _
   | exact ih2 _ _ _ _ _ _ _
   | exact ih3 _ _ _ _ _ _ _ _
   | exact ih4 _ _ _ _ _ _ _
   | exact ih5 _ _ _ _ _ _ _ _ _ _
   | exact ih6 _ _ _ _ _ _ _ _ _
   | exact ih7 _ _ _ _ _ _ _ _ _ _ _
   | exact ih8 _ _ _ _ _ _ _ _ _ _ _ _
   | exact ih9 _ _ _ _ _ _ _ _
   | exact impl_PriceAt.mono _ _ _ _ _
   | exact impl_PriceSteps.mono _ _ _ _ _ _
   | exact impl_PricesOK.mono _ _
   | exact spec_PriceAt.mono _ _ _ _ _
   | exact spec_RowsOf.mono _ _
   | exact LeO.none _
   | refine LeO.ite ?_ ?_
   | refine LeO.bind ?_ (fun _ => ?_)
set_option maxHeartbeats 80000000 in
set_option maxRecDepth 100000 in
theorem laws_FnPrices.calls (k : Nat) (A0 : Option Addr) (c0 : Nat) (l0 : List Int) (A1 : Option Addr) (c1 : Nat) (l1 : List Int) (r : Bool) (w : World) (hr0 : Kd.C (Kd.int .u8) w A0 l0.length l0) (hc0 : l0.length ≤ c0) (hr1 : Kd.C (Kd.int .u8) w A1 l1.length l1) (hc1 : l1.length ≤ c1) (h : laws_FnPrices.f k l0 l1 = some r) :
  Calls Try.prog 4 #[.slice A0 l0.length c0, .slice A1 l1.length c1] w fun e w' => e = .returned (.bool r) ∧ Below w.heap.size w w' := by
 have hu44 := Try.underlying44; have HR0 := Aside0.mk hr0; have HC0 := Aside0.mk hc0; clear hr0 hc0; have HR1 := Aside0.mk hr1; have HC1 := Aside0.mk hc1; clear hr1 hc1; have HB := Aside0.mk (Below.refl w.heap.size w); have H : (if (l0.length : Int) > 1048576 then (laws_FnPrices.j0 k l0 l1 true) else (laws_FnPrices.j0 k l0 l1 (decide ((l1.length : Int) > 1048576)))) = some r := h; clear h; have HC3 := Aside0.mk H; clear H; go_enter Try.func4, Try.ntmps4
 go_upto_region 1 with (fail)
 repeat (go_quiet (fail); go_upto_region 1 with (fail))
 go_cut [32] (fun v32 wc => ∃ (kq : Nat) (x32_2 : Bool), v32 = .bool x32_2 ∧ Aside0 (laws_FnPrices.j0 kq l0 l1 x32_2 = some r) ∧ Aside0 (kq ≤ k) ∧ Aside0 (Below w.heap.size w wc))
 case first => as_aux_lemma =>
  have H := HC3.out; clear HC3; by_cases c4 : (l0.length : Int) > 1048576
  ·rw [if_pos c4] at H; have c4b0 : decide (1048576 < (l0.length : Int)) = true := decide_eq_true c4; have c4b1 : decide (1048576 < l0.length) = true := decide_eq_true (by omega); clear c4
   (first | rw [c4b0] | (simp only [i64_w, i32_w]; rw [c4b0]) | skip)
   have H' := Aside0.mk H; clear H; go_wp2
   repeat (go_quiet (fail); try go_wp2)
   go_meet
   case rel => exact ⟨_, (true), (by first | rfl | (simp; done) | (simp [*]; done)), H', ⟨by first | omega | exact Nat.le_refl _⟩, ⟨qb HB⟩⟩
  ·rw [if_neg c4] at H; have c4b0 : decide (1048576 < (l0.length : Int)) = false := decide_eq_false c4; have c4b1 : decide (1048576 < l0.length) = false := decide_eq_false (by omega); clear c4
   (first | rw [c4b0] | (simp only [i64_w, i32_w]; rw [c4b0]) | skip)
   have H' := Aside0.mk H; clear H; go_wp2
   repeat (go_quiet (fail); try go_wp2)
   go_meet
   case rel => exact ⟨_, (decide ((l1.length : Int) > 1048576)), (by first | rfl | (simp; done) | (simp [*]; done)), H', ⟨by first | omega | exact Nat.le_refl _⟩, ⟨qb HB⟩⟩
 case rest =>
  clear HC3; (try clear c1); (try clear p2); (try clear c4); (try clear c4b0); (try clear c4b1); obtain ⟨kq, x32_2, rfl, HA, HJ2, HB⟩ := hcut
  cases kq with
  | zero => exact absurd HA.out (by simp [laws_FnPrices.j0])
  | succ kj2 =>
   have H := HA.out; clear HA; simp only [laws_FnPrices.j0] at H; by_cases c5 : x32_2 = true
   ·subst c5
    have H1 : (some true) = some r := by rw [if_pos rfl] at H; exact H
    clear H; have H := H1; clear H1; obtain rfl := Option.some.inj H; go_wp2
    repeat (go_quiet (fail); try go_wp2)
    go_ret; exact ⟨eqq, qb HB⟩
   ·replace c5 := Bool.eq_false_iff.mpr c5; subst c5
    have H1 : ((spec_RowsOf.f kj2 l0).bind fun t383 => ((some (([(⟨#[109, 105, 108, 107]⟩ : ByteArray), (⟨#[98, 114, 111, 116]⟩ : ByteArray), (⟨#[107, 195, 164, 115, 101]⟩ : ByteArray)] : List ByteArray) : List ByteArray)).bind fun y386 => ((laws_at.f l1 0 3).bind fun t389 => (if 0 ≤ t389 then (if t389 < (y386.length : Int) then ((some (([(⟨#[]⟩ : ByteArray), (⟨#[110, 111, 114, 116, 104]⟩ : ByteArray), (⟨#[115, 111, 117, 116, 104]⟩ : ByteArray)] : List ByteArray) : List ByteArray)).bind fun y391 => ((laws_at.f l1 1 3).bind fun t394 => (if 0 ≤ t394 then (if t394 < (y391.length : Int) then ((laws_at.f l1 2 60).bind fun t396 => ((laws_at.f l1 3 70).bind fun t397 => ((impl_PriceSteps.f kj2 t383 (rdOf ByteArray.empty y386 t389) (rdOf ByteArray.empty y391 t394) t396 (wrap64 ((wrap64 (t396 + 1)) + t397))).bind fun bt398 => ((impl_PricesOK.f kj2 t383).bind fun t402 => (if t402 = true then (if bt398.2 = 0 then (if (bt398.1.length : Int) = 0 then (laws_FnPrices.j1 kj2 t383 (rdOf ByteArray.empty y386 t389) (rdOf ByteArray.empty y391 t394) t396 (wrap64 ((wrap64 (t396 + 1)) + t397)) bt398.1 true) else (if 0 < (bt398.1.length : Int) then (laws_FnPrices.j1 kj2 t383 (rdOf ByteArray.empty y386 t389) (rdOf ByteArray.empty y391 t394) t396 (wrap64 ((wrap64 (t396 + 1)) + t397)) bt398.1 (((rd_T40 bt398.1 0).f0) != t396)) else (none))) else (laws_FnPrices.j1 kj2 t383 (rdOf ByteArray.empty y386 t389) (rdOf ByteArray.empty y391 t394) t396 (wrap64 ((wrap64 (t396 + 1)) + t397)) bt398.1 true)) else (laws_FnPrices.j1 kj2 t383 (rdOf ByteArray.empty y386 t389) (rdOf ByteArray.empty y391 t394) t396 (wrap64 ((wrap64 (t396 + 1)) + t397)) bt398.1 true)))))) else (none)) else (none)))) else (none)) else (none))))) = some r := by rw [if_neg (show ¬ (false = true) by decide)] at H; exact H
    clear H; have H := H1; clear H1; replace H := Option.bind_eq_some_iff.mp H; obtain ⟨t383, A60, H⟩ := H; replace H : ((some (([(⟨#[109, 105, 108, 107]⟩ : ByteArray), (⟨#[98, 114, 111, 116]⟩ : ByteArray), (⟨#[107, 195, 164, 115, 101]⟩ : ByteArray)] : List ByteArray) : List ByteArray)).bind fun y386 => ((laws_at.f l1 0 3).bind fun t389 => (if 0 ≤ t389 then (if t389 < (y386.length : Int) then ((some (([(⟨#[]⟩ : ByteArray), (⟨#[110, 111, 114, 116, 104]⟩ : ByteArray), (⟨#[115, 111, 117, 116, 104]⟩ : ByteArray)] : List ByteArray) : List ByteArray)).bind fun y391 => ((laws_at.f l1 1 3).bind fun t394 => (if 0 ≤ t394 then (if t394 < (y391.length : Int) then ((laws_at.f l1 2 60).bind fun t396 => ((laws_at.f l1 3 70).bind fun t397 => ((impl_PriceSteps.f kj2 t383 (rdOf ByteArray.empty y386 t389) (rdOf ByteArray.empty y391 t394) t396 (wrap64 ((wrap64 (t396 + 1)) + t397))).bind fun bt398 => ((impl_PricesOK.f kj2 t383).bind fun t402 => (if t402 = true then (if bt398.2 = 0 then (if (bt398.1.length : Int) = 0 then (laws_FnPrices.j1 kj2 t383 (rdOf ByteArray.empty y386 t389) (rdOf ByteArray.empty y391 t394) t396 (wrap64 ((wrap64 (t396 + 1)) + t397)) bt398.1 true) else (if 0 < (bt398.1.length : Int) then (laws_FnPrices.j1 kj2 t383 (rdOf ByteArray.empty y386 t389) (rdOf ByteArray.empty y391 t394) t396 (wrap64 ((wrap64 (t396 + 1)) + t397)) bt398.1 (((rd_T40 bt398.1 0).f0) != t396)) else (none))) else (laws_FnPrices.j1 kj2 t383 (rdOf ByteArray.empty y386 t389) (rdOf ByteArray.empty y391 t394) t396 (wrap64 ((wrap64 (t396 + 1)) + t397)) bt398.1 true)) else (laws_FnPrices.j1 kj2 t383 (rdOf ByteArray.empty y386 t389) (rdOf ByteArray.empty y391 t394) t396 (wrap64 ((wrap64 (t396 + 1)) + t397)) bt398.1 true)))))) else (none)) else (none)))) else (none)) else (none)))) = some r := H; have A6 := Aside0.mk A60; clear A60; obtain ⟨y386, hy386⟩ : ∃ y_ : List ByteArray, y_ = (([(⟨#[109, 105, 108, 107]⟩ : ByteArray), (⟨#[98, 114, 111, 116]⟩ : ByteArray), (⟨#[107, 195, 164, 115, 101]⟩ : ByteArray)] : List ByteArray)) := ⟨_, rfl⟩
    replace H : ((laws_at.f l1 0 3).bind fun t389 => (if 0 ≤ t389 then (if t389 < (y386.length : Int) then ((some (([(⟨#[]⟩ : ByteArray), (⟨#[110, 111, 114, 116, 104]⟩ : ByteArray), (⟨#[115, 111, 117, 116, 104]⟩ : ByteArray)] : List ByteArray) : List ByteArray)).bind fun y391 => ((laws_at.f l1 1 3).bind fun t394 => (if 0 ≤ t394 then (if t394 < (y391.length : Int) then ((laws_at.f l1 2 60).bind fun t396 => ((laws_at.f l1 3 70).bind fun t397 => ((impl_PriceSteps.f kj2 t383 (rdOf ByteArray.empty y386 t389) (rdOf ByteArray.empty y391 t394) t396 (wrap64 ((wrap64 (t396 + 1)) + t397))).bind fun bt398 => ((impl_PricesOK.f kj2 t383).bind fun t402 => (if t402 = true then (if bt398.2 = 0 then (if (bt398.1.length : Int) = 0 then (laws_FnPrices.j1 kj2 t383 (rdOf ByteArray.empty y386 t389) (rdOf ByteArray.empty y391 t394) t396 (wrap64 ((wrap64 (t396 + 1)) + t397)) bt398.1 true) else (if 0 < (bt398.1.length : Int) then (laws_FnPrices.j1 kj2 t383 (rdOf ByteArray.empty y386 t389) (rdOf ByteArray.empty y391 t394) t396 (wrap64 ((wrap64 (t396 + 1)) + t397)) bt398.1 (((rd_T40 bt398.1 0).f0) != t396)) else (none))) else (laws_FnPrices.j1 kj2 t383 (rdOf ByteArray.empty y386 t389) (rdOf ByteArray.empty y391 t394) t396 (wrap64 ((wrap64 (t396 + 1)) + t397)) bt398.1 true)) else (laws_FnPrices.j1 kj2 t383 (rdOf ByteArray.empty y386 t389) (rdOf ByteArray.empty y391 t394) t396 (wrap64 ((wrap64 (t396 + 1)) + t397)) bt398.1 true)))))) else (none)) else (none)))) else (none)) else (none))) = some r := by first | (rw [hy386]; with_reducible exact H) | (have H2_ := (Option.bind_some _ _).symm.trans H; rw [hy386]; with_reducible exact H2_) | (have H2_ := (Option.bind_some _ _).symm.trans H; with_reducible exact H2_) | with_reducible exact H | (rw [hy386]; exact H) | exact H
    have Ny386 := Aside0.mk hy386; clear hy386; replace H := Option.bind_eq_some_iff.mp H; obtain ⟨t389, A70, H⟩ := H; replace H : (if 0 ≤ t389 then (if t389 < (y386.length : Int) then ((some (([(⟨#[]⟩ : ByteArray), (⟨#[110, 111, 114, 116, 104]⟩ : ByteArray), (⟨#[115, 111, 117, 116, 104]⟩ : ByteArray)] : List ByteArray) : List ByteArray)).bind fun y391 => ((laws_at.f l1 1 3).bind fun t394 => (if 0 ≤ t394 then (if t394 < (y391.length : Int) then ((laws_at.f l1 2 60).bind fun t396 => ((laws_at.f l1 3 70).bind fun t397 => ((impl_PriceSteps.f kj2 t383 (rdOf ByteArray.empty y386 t389) (rdOf ByteArray.empty y391 t394) t396 (wrap64 ((wrap64 (t396 + 1)) + t397))).bind fun bt398 => ((impl_PricesOK.f kj2 t383).bind fun t402 => (if t402 = true then (if bt398.2 = 0 then (if (bt398.1.length : Int) = 0 then (laws_FnPrices.j1 kj2 t383 (rdOf ByteArray.empty y386 t389) (rdOf ByteArray.empty y391 t394) t396 (wrap64 ((wrap64 (t396 + 1)) + t397)) bt398.1 true) else (if 0 < (bt398.1.length : Int) then (laws_FnPrices.j1 kj2 t383 (rdOf ByteArray.empty y386 t389) (rdOf ByteArray.empty y391 t394) t396 (wrap64 ((wrap64 (t396 + 1)) + t397)) bt398.1 (((rd_T40 bt398.1 0).f0) != t396)) else (none))) else (laws_FnPrices.j1 kj2 t383 (rdOf ByteArray.empty y386 t389) (rdOf ByteArray.empty y391 t394) t396 (wrap64 ((wrap64 (t396 + 1)) + t397)) bt398.1 true)) else (laws_FnPrices.j1 kj2 t383 (rdOf ByteArray.empty y386 t389) (rdOf ByteArray.empty y391 t394) t396 (wrap64 ((wrap64 (t396 + 1)) + t397)) bt398.1 true)))))) else (none)) else (none)))) else (none)) else (none)) = some r := H; have A7 := Aside0.mk A70; clear A70; by_cases c8 : 0 ≤ t389
    ·rw [if_pos c8] at H; have c8b0 : decide (0 ≤ t389) = true := decide_eq_true c8; clear c8; by_cases c9 : t389 < (y386.length : Int)
     ·rw [if_pos c9] at H; have c9b0 : decide (t389 < (y386.length : Int)) = true := decide_eq_true c9; clear c9; obtain ⟨y391, hy391⟩ : ∃ y_ : List ByteArray, y_ = (([(⟨#[]⟩ : ByteArray), (⟨#[110, 111, 114, 116, 104]⟩ : ByteArray), (⟨#[115, 111, 117, 116, 104]⟩ : ByteArray)] : List ByteArray)) := ⟨_, rfl⟩
      replace H : ((laws_at.f l1 1 3).bind fun t394 => (if 0 ≤ t394 then (if t394 < (y391.length : Int) then ((laws_at.f l1 2 60).bind fun t396 => ((laws_at.f l1 3 70).bind fun t397 => ((impl_PriceSteps.f kj2 t383 (rdOf ByteArray.empty y386 t389) (rdOf ByteArray.empty y391 t394) t396 (wrap64 ((wrap64 (t396 + 1)) + t397))).bind fun bt398 => ((impl_PricesOK.f kj2 t383).bind fun t402 => (if t402 = true then (if bt398.2 = 0 then (if (bt398.1.length : Int) = 0 then (laws_FnPrices.j1 kj2 t383 (rdOf ByteArray.empty y386 t389) (rdOf ByteArray.empty y391 t394) t396 (wrap64 ((wrap64 (t396 + 1)) + t397)) bt398.1 true) else (if 0 < (bt398.1.length : Int) then (laws_FnPrices.j1 kj2 t383 (rdOf ByteArray.empty y386 t389) (rdOf ByteArray.empty y391 t394) t396 (wrap64 ((wrap64 (t396 + 1)) + t397)) bt398.1 (((rd_T40 bt398.1 0).f0) != t396)) else (none))) else (laws_FnPrices.j1 kj2 t383 (rdOf ByteArray.empty y386 t389) (rdOf ByteArray.empty y391 t394) t396 (wrap64 ((wrap64 (t396 + 1)) + t397)) bt398.1 true)) else (laws_FnPrices.j1 kj2 t383 (rdOf ByteArray.empty y386 t389) (rdOf ByteArray.empty y391 t394) t396 (wrap64 ((wrap64 (t396 + 1)) + t397)) bt398.1 true)))))) else (none)) else (none))) = some r := by first | (rw [hy391]; with_reducible exact H) | (have H2_ := (Option.bind_some _ _).symm.trans H; rw [hy391]; with_reducible exact H2_) | (have H2_ := (Option.bind_some _ _).symm.trans H; with_reducible exact H2_) | with_reducible exact H | (rw [hy391]; exact H) | exact H
      have Ny391 := Aside0.mk hy391; clear hy391; replace H := Option.bind_eq_some_iff.mp H; obtain ⟨t394, A100, H⟩ := H; replace H : (if 0 ≤ t394 then (if t394 < (y391.length : Int) then ((laws_at.f l1 2 60).bind fun t396 => ((laws_at.f l1 3 70).bind fun t397 => ((impl_PriceSteps.f kj2 t383 (rdOf ByteArray.empty y386 t389) (rdOf ByteArray.empty y391 t394) t396 (wrap64 ((wrap64 (t396 + 1)) + t397))).bind fun bt398 => ((impl_PricesOK.f kj2 t383).bind fun t402 => (if t402 = true then (if bt398.2 = 0 then (if (bt398.1.length : Int) = 0 then (laws_FnPrices.j1 kj2 t383 (rdOf ByteArray.empty y386 t389) (rdOf ByteArray.empty y391 t394) t396 (wrap64 ((wrap64 (t396 + 1)) + t397)) bt398.1 true) else (if 0 < (bt398.1.length : Int) then (laws_FnPrices.j1 kj2 t383 (rdOf ByteArray.empty y386 t389) (rdOf ByteArray.empty y391 t394) t396 (wrap64 ((wrap64 (t396 + 1)) + t397)) bt398.1 (((rd_T40 bt398.1 0).f0) != t396)) else (none))) else (laws_FnPrices.j1 kj2 t383 (rdOf ByteArray.empty y386 t389) (rdOf ByteArray.empty y391 t394) t396 (wrap64 ((wrap64 (t396 + 1)) + t397)) bt398.1 true)) else (laws_FnPrices.j1 kj2 t383 (rdOf ByteArray.empty y386 t389) (rdOf ByteArray.empty y391 t394) t396 (wrap64 ((wrap64 (t396 + 1)) + t397)) bt398.1 true)))))) else (none)) else (none)) = some r := H; have A10 := Aside0.mk A100; clear A100; by_cases c11 : 0 ≤ t394
      ·rw [if_pos c11] at H; have c11b0 : decide (0 ≤ t394) = true := decide_eq_true c11; clear c11; by_cases c12 : t394 < (y391.length : Int)
       ·rw [if_pos c12] at H; have c12b0 : decide (t394 < (y391.length : Int)) = true := decide_eq_true c12; clear c12; replace H := Option.bind_eq_some_iff.mp H; obtain ⟨t396, A130, H⟩ := H; replace H : ((laws_at.f l1 3 70).bind fun t397 => ((impl_PriceSteps.f kj2 t383 (rdOf ByteArray.empty y386 t389) (rdOf ByteArray.empty y391 t394) t396 (wrap64 ((wrap64 (t396 + 1)) + t397))).bind fun bt398 => ((impl_PricesOK.f kj2 t383).bind fun t402 => (if t402 = true then (if bt398.2 = 0 then (if (bt398.1.length : Int) = 0 then (laws_FnPrices.j1 kj2 t383 (rdOf ByteArray.empty y386 t389) (rdOf ByteArray.empty y391 t394) t396 (wrap64 ((wrap64 (t396 + 1)) + t397)) bt398.1 true) else (if 0 < (bt398.1.length : Int) then (laws_FnPrices.j1 kj2 t383 (rdOf ByteArray.empty y386 t389) (rdOf ByteArray.empty y391 t394) t396 (wrap64 ((wrap64 (t396 + 1)) + t397)) bt398.1 (((rd_T40 bt398.1 0).f0) != t396)) else (none))) else (laws_FnPrices.j1 kj2 t383 (rdOf ByteArray.empty y386 t389) (rdOf ByteArray.empty y391 t394) t396 (wrap64 ((wrap64 (t396 + 1)) + t397)) bt398.1 true)) else (laws_FnPrices.j1 kj2 t383 (rdOf ByteArray.empty y386 t389) (rdOf ByteArray.empty y391 t394) t396 (wrap64 ((wrap64 (t396 + 1)) + t397)) bt398.1 true))))) = some r := H; have A13 := Aside0.mk A130; clear A130; replace H := Option.bind_eq_some_iff.mp H; obtain ⟨t397, A140, H⟩ := H; replace H : ((impl_PriceSteps.f kj2 t383 (rdOf ByteArray.empty y386 t389) (rdOf ByteArray.empty y391 t394) t396 (wrap64 ((wrap64 (t396 + 1)) + t397))).bind fun bt398 => ((impl_PricesOK.f kj2 t383).bind fun t402 => (if t402 = true then (if bt398.2 = 0 then (if (bt398.1.length : Int) = 0 then (laws_FnPrices.j1 kj2 t383 (rdOf ByteArray.empty y386 t389) (rdOf ByteArray.empty y391 t394) t396 (wrap64 ((wrap64 (t396 + 1)) + t397)) bt398.1 true) else (if 0 < (bt398.1.length : Int) then (laws_FnPrices.j1 kj2 t383 (rdOf ByteArray.empty y386 t389) (rdOf ByteArray.empty y391 t394) t396 (wrap64 ((wrap64 (t396 + 1)) + t397)) bt398.1 (((rd_T40 bt398.1 0).f0) != t396)) else (none))) else (laws_FnPrices.j1 kj2 t383 (rdOf ByteArray.empty y386 t389) (rdOf ByteArray.empty y391 t394) t396 (wrap64 ((wrap64 (t396 + 1)) + t397)) bt398.1 true)) else (laws_FnPrices.j1 kj2 t383 (rdOf ByteArray.empty y386 t389) (rdOf ByteArray.empty y391 t394) t396 (wrap64 ((wrap64 (t396 + 1)) + t397)) bt398.1 true)))) = some r := H; have A14 := Aside0.mk A140; clear A140; replace H := Option.bind_eq_some_iff.mp H; obtain ⟨⟨t398, t399⟩, A150, H⟩ := H; replace H : ((impl_PricesOK.f kj2 t383).bind fun t402 => (if t402 = true then (if t399 = 0 then (if (t398.length : Int) = 0 then (laws_FnPrices.j1 kj2 t383 (rdOf ByteArray.empty y386 t389) (rdOf ByteArray.empty y391 t394) t396 (wrap64 ((wrap64 (t396 + 1)) + t397)) t398 true) else (if 0 < (t398.length : Int) then (laws_FnPrices.j1 kj2 t383 (rdOf ByteArray.empty y386 t389) (rdOf ByteArray.empty y391 t394) t396 (wrap64 ((wrap64 (t396 + 1)) + t397)) t398 (((rd_T40 t398 0).f0) != t396)) else (none))) else (laws_FnPrices.j1 kj2 t383 (rdOf ByteArray.empty y386 t389) (rdOf ByteArray.empty y391 t394) t396 (wrap64 ((wrap64 (t396 + 1)) + t397)) t398 true)) else (laws_FnPrices.j1 kj2 t383 (rdOf ByteArray.empty y386 t389) (rdOf ByteArray.empty y391 t394) t396 (wrap64 ((wrap64 (t396 + 1)) + t397)) t398 true))) = some r := H; have A15 := Aside0.mk A150; clear A150; have HC16 := Aside0.mk H; clear H
        go_upto_region 9 with (first | (go_at_call 14; (with_reducible refine (spec_RowsOf.calls kj2 _ _ l0 t383 _ ?side1 ?side2 A6.out).mono ?_); (case side1 => repeat (first | exact (Kd.C_below HR0.out HB.out) | (with_reducible refine Kd.C_alloc ?_ _) | (with_reducible refine Kd.C_drewN ?_ _) | (with_reducible refine Kd.C_drew ?_))); (case side2 => exact HC0.out); rintro e w17 ⟨v384, rfl, ho0, hb⟩; have n0_ := Aside0.mk (Kd.R_lower ho0 (below_size (qb HB))); have n1_ := Aside0.mk (below_step (qb HB) hb); clear HB; have HO385 := n0_; have HB := n1_; clear n0_ n1_; (try clear hb); (try clear hb2); (try clear hk); (try clear hi); (try clear ho0)) | ((with_reducible refine gate_dst (N := 35) rfl ?_); (try (refine gate_guard (by rfl) ?_; dsimp only)); refine Kd.R_lit Kd.string _ 9 ?hg (N := 35) ?hd (xs := ([(⟨#[109, 105, 108, 107]⟩ : ByteArray), (⟨#[98, 114, 111, 116]⟩ : ByteArray), (⟨#[107, 195, 164, 115, 101]⟩ : ByteArray)] : List ByteArray)) (inner := [.string (⟨#[109, 105, 108, 107]⟩ : ByteArray), .string (⟨#[98, 114, 111, 116]⟩ : ByteArray), .string (⟨#[107, 195, 164, 115, 101]⟩ : ByteArray)]) (ok := fun _ => True) (okp := fun _ => True) ?hr ?hp (fun _ hk => hk) trivial (Below.refl _ _) (Nat.le_refl _) (by simp) ?_; (case hd => rfl); (case hg => rfl); (case hr => first | (go_simp; done) | (go_simp; rfl)); (case hp => exact (Reps.one (show Kd.M Kd.string _ _ _ (⟨#[109, 105, 108, 107]⟩ : ByteArray) [.string (⟨#[109, 105, 108, 107]⟩ : ByteArray)] from rfl) (Reps.one (show Kd.M Kd.string _ _ _ (⟨#[98, 114, 111, 116]⟩ : ByteArray) [.string (⟨#[98, 114, 111, 116]⟩ : ByteArray)] from rfl) (Reps.one (show Kd.M Kd.string _ _ _ (⟨#[107, 195, 164, 115, 101]⟩ : ByteArray) [.string (⟨#[107, 195, 164, 115, 101]⟩ : ByteArray)] from rfl) (Reps.none _ _))))); intro v387 w18 ho19 hb hg_ hnew_; clear hg_ hnew_; (first | rw [← Ny386.out] at ho19 | (simp only [Int.reduceToNat] at ho19; rw [← Ny386.out] at ho19)); have n0_ := Aside0.mk (Kd.R_below (qr HO385) hb); have n1_ := Aside0.mk (Kd.R_lower ho19 (below_size (qb HB))); have n2_ := Aside0.mk (below_step (qb HB) hb); clear HO385; clear HB; have HO385 := n0_; have HO388 := n1_; have HB := n2_; clear n0_ n1_ n2_; clear hb ho19) | (go_at_call 15; (with_reducible refine (laws_at.calls _ _ l1 0 3 t389 _ ?side1 ?side2 A7.out).mono ?_); (case side1 => repeat (first | exact (Kd.C_below HR1.out HB.out) | (with_reducible refine Kd.C_alloc ?_ _) | (with_reducible refine Kd.C_drewN ?_ _) | (with_reducible refine Kd.C_drew ?_))); (case side2 => exact HC1.out); rintro e w' ⟨rfl, ⟨nd, rfl⟩⟩; (try first | exact ⟨rfl, _, World.drewN_drewN _ _ _⟩ | exact ⟨rfl, _, Eq.trans (World.drewN_drewN _ _ _) (congrArg (World.drewN _) (Nat.add_assoc _ _ _))⟩); obtain ⟨Ao20, co20, eo20⟩ := Kd.R_slice HO388.out; subst eo20; have p390 : 0 ≤ (t389 : Int) := of_decide_eq_true (by first | (with_reducible assumption) | assumption); have q390 : t389 < (y386.length : Int) := of_decide_eq_true (by first | (with_reducible assumption) | assumption); obtain ⟨ad390, e390, hx390_0⟩ := Kd.at_string (Kd.R_reads' HO388.out).2.2 t389 p390 q390; cases e390; replace p390 := eq_true p390; replace q390 := eq_true q390) | ((with_reducible refine gate_dst (N := 40) rfl ?_); (try (refine gate_guard (by rfl) ?_; dsimp only)); refine Kd.R_lit Kd.string _ 9 ?hg (N := 40) ?hd (xs := ([(⟨#[]⟩ : ByteArray), (⟨#[110, 111, 114, 116, 104]⟩ : ByteArray), (⟨#[115, 111, 117, 116, 104]⟩ : ByteArray)] : List ByteArray)) (inner := [.string (⟨#[]⟩ : ByteArray), .string (⟨#[110, 111, 114, 116, 104]⟩ : ByteArray), .string (⟨#[115, 111, 117, 116, 104]⟩ : ByteArray)]) (ok := fun _ => True) (okp := fun _ => True) ?hr ?hp (fun _ hk => hk) trivial (Below.refl _ _) (Nat.le_refl _) (by simp) ?_; (case hd => rfl); (case hg => rfl); (case hr => first | (go_simp; done) | (go_simp; rfl)); (case hp => exact (Reps.one (show Kd.M Kd.string _ _ _ (⟨#[]⟩ : ByteArray) [.string (⟨#[]⟩ : ByteArray)] from rfl) (Reps.one (show Kd.M Kd.string _ _ _ (⟨#[110, 111, 114, 116, 104]⟩ : ByteArray) [.string (⟨#[110, 111, 114, 116, 104]⟩ : ByteArray)] from rfl) (Reps.one (show Kd.M Kd.string _ _ _ (⟨#[115, 111, 117, 116, 104]⟩ : ByteArray) [.string (⟨#[115, 111, 117, 116, 104]⟩ : ByteArray)] from rfl) (Reps.none _ _))))); intro v392 w21 ho22 hb hg_ hnew_; clear hg_ hnew_; (first | rw [← Ny391.out] at ho22 | (simp only [Int.reduceToNat] at ho22; rw [← Ny391.out] at ho22)); have n0_ := Aside0.mk (Kd.R_below (qr HO385) hb); have n1_ := Aside0.mk (Kd.R_elder' (qr HO388) (Kd.R_base ho22) hb); have n2_ := Aside0.mk (Kd.R_lower (Kd.R_new' ho22 (Kd.R_lt (qr HO388))) (below_size (qb HB))); have n3_ := Aside0.mk (below_step (qb HB) hb); clear HO385; clear HO388; clear HB; have HO385 := n0_; have HO388 := n1_; have HO393 := n2_; have HB := n3_; clear n0_ n1_ n2_ n3_; clear hb ho22) | (go_at_call 15; (with_reducible refine (laws_at.calls _ _ l1 1 3 t394 _ ?side1 ?side2 A10.out).mono ?_); (case side1 => repeat (first | exact (Kd.C_below HR1.out HB.out) | (with_reducible refine Kd.C_alloc ?_ _) | (with_reducible refine Kd.C_drewN ?_ _) | (with_reducible refine Kd.C_drew ?_))); (case side2 => exact HC1.out); rintro e w' ⟨rfl, ⟨nd, rfl⟩⟩; (try first | exact ⟨rfl, _, World.drewN_drewN _ _ _⟩ | exact ⟨rfl, _, Eq.trans (World.drewN_drewN _ _ _) (congrArg (World.drewN _) (Nat.add_assoc _ _ _))⟩); obtain ⟨Ao23, co23, eo23⟩ := Kd.R_slice HO393.out; subst eo23; have p395 : 0 ≤ (t394 : Int) := of_decide_eq_true (by first | (with_reducible assumption) | assumption); have q395 : t394 < (y391.length : Int) := of_decide_eq_true (by first | (with_reducible assumption) | assumption); obtain ⟨ad395, e395, hx395_0⟩ := Kd.at_string (Kd.R_reads' HO393.out).2.2 t394 p395 q395; cases e395; replace p395 := eq_true p395; replace q395 := eq_true q395) | (go_at_call 15; (with_reducible refine (laws_at.calls _ _ l1 2 60 t396 _ ?side1 ?side2 A13.out).mono ?_); (case side1 => repeat (first | exact (Kd.C_below HR1.out (qb HB)) | (with_reducible refine Kd.C_alloc ?_ _) | (with_reducible refine Kd.C_drewN ?_ _) | (with_reducible refine Kd.C_drew ?_))); (case side2 => exact HC1.out); rintro e w' ⟨rfl, ⟨nd, rfl⟩⟩; (try first | exact ⟨rfl, _, World.drewN_drewN _ _ _⟩ | exact ⟨rfl, _, Eq.trans (World.drewN_drewN _ _ _) (congrArg (World.drewN _) (Nat.add_assoc _ _ _))⟩)) | (go_at_call 15; (with_reducible refine (laws_at.calls _ _ l1 3 70 t397 _ ?side1 ?side2 A14.out).mono ?_); (case side1 => repeat (first | exact (Kd.C_below HR1.out (qb HB)) | (with_reducible refine Kd.C_alloc ?_ _) | (with_reducible refine Kd.C_drewN ?_ _) | (with_reducible refine Kd.C_drew ?_))); (case side2 => exact HC1.out); rintro e w' ⟨rfl, ⟨nd, rfl⟩⟩; (try first | exact ⟨rfl, _, World.drewN_drewN _ _ _⟩ | exact ⟨rfl, _, Eq.trans (World.drewN_drewN _ _ _) (congrArg (World.drewN _) (Nat.add_assoc _ _ _))⟩); obtain ⟨Ao24, co24, eo24⟩ := Kd.R_slice HO385.out; subst eo24) | (go_at_call 8; (with_reducible refine (impl_PriceSteps.calls kj2 _ _ t383 (rdOf ByteArray.empty y386 t389) (rdOf ByteArray.empty y391 t394) t396 (wrap64 ((wrap64 (t396 + 1)) + t397)) t398 t399 _ ?side1 ?side2 A15.out).mono ?_); (case side1 => repeat (first | exact (Kd.R_reads' HO385.out).2.2 | (with_reducible refine Kd.C_alloc ?_ _) | (with_reducible refine Kd.C_drewN ?_ _) | (with_reducible refine Kd.C_drew ?_))); (case side2 => exact (Kd.R_reads' HO385.out).2.1); rintro e w25 ⟨v400, rfl, ho0, hb⟩; have n0_ := Aside0.mk (Kd.R_below (qr HO385) hb); have n1_ := Aside0.mk (Kd.R_below (qr HO388) hb); have n2_ := Aside0.mk (Kd.R_below (qr HO393) hb); have n3_ := Aside0.mk (Kd.R_lower ho0 (below_size (qb HB))); have n4_ := Aside0.mk (below_step (qb HB) hb); clear HO385; clear HO388; clear HO393; clear HB; have HO385 := n0_; have HO388 := n1_; have HO393 := n2_; have HO401 := n3_; have HB := n4_; clear n0_ n1_ n2_ n3_ n4_; (try clear hb); (try clear hb2); (try clear hk); (try clear hi); (try clear ho0)))
        repeat ((obtain ⟨Ao20, co20, eo20⟩ := Kd.R_slice HO388.out; subst eo20; have p390 : 0 ≤ (t389 : Int) := of_decide_eq_true (by first | (with_reducible assumption) | assumption); have q390 : t389 < (y386.length : Int) := of_decide_eq_true (by first | (with_reducible assumption) | assumption); obtain ⟨ad390, e390, hx390_0⟩ := Kd.at_string (Kd.R_reads' HO388.out).2.2 t389 p390 q390; cases e390; replace p390 := eq_true p390; replace q390 := eq_true q390; obtain ⟨Ao23, co23, eo23⟩ := Kd.R_slice HO393.out; subst eo23; have p395 : 0 ≤ (t394 : Int) := of_decide_eq_true (by first | (with_reducible assumption) | assumption); have q395 : t394 < (y391.length : Int) := of_decide_eq_true (by first | (with_reducible assumption) | assumption); obtain ⟨ad395, e395, hx395_0⟩ := Kd.at_string (Kd.R_reads' HO393.out).2.2 t394 p395 q395; cases e395; replace p395 := eq_true p395; replace q395 := eq_true q395; obtain ⟨Ao24, co24, eo24⟩ := Kd.R_slice HO385.out; subst eo24; go_quiet (first | (go_at_call 14; (with_reducible refine (spec_RowsOf.calls kj2 _ _ l0 t383 _ ?side1 ?side2 A6.out).mono ?_); (case side1 => repeat (first | exact (Kd.C_below HR0.out HB.out) | (with_reducible refine Kd.C_alloc ?_ _) | (with_reducible refine Kd.C_drewN ?_ _) | (with_reducible refine Kd.C_drew ?_))); (case side2 => exact HC0.out); rintro e w17 ⟨v384, rfl, ho0, hb⟩; have n0_ := Aside0.mk (Kd.R_lower ho0 (below_size (qb HB))); have n1_ := Aside0.mk (below_step (qb HB) hb); clear HB; have HO385 := n0_; have HB := n1_; clear n0_ n1_; (try clear hb); (try clear hb2); (try clear hk); (try clear hi); (try clear ho0)) | ((with_reducible refine gate_dst (N := 35) rfl ?_); (try (refine gate_guard (by rfl) ?_; dsimp only)); refine Kd.R_lit Kd.string _ 9 ?hg (N := 35) ?hd (xs := ([(⟨#[109, 105, 108, 107]⟩ : ByteArray), (⟨#[98, 114, 111, 116]⟩ : ByteArray), (⟨#[107, 195, 164, 115, 101]⟩ : ByteArray)] : List ByteArray)) (inner := [.string (⟨#[109, 105, 108, 107]⟩ : ByteArray), .string (⟨#[98, 114, 111, 116]⟩ : ByteArray), .string (⟨#[107, 195, 164, 115, 101]⟩ : ByteArray)]) (ok := fun _ => True) (okp := fun _ => True) ?hr ?hp (fun _ hk => hk) trivial (Below.refl _ _) (Nat.le_refl _) (by simp) ?_; (case hd => rfl); (case hg => rfl); (case hr => first | (go_simp; done) | (go_simp; rfl)); (case hp => exact (Reps.one (show Kd.M Kd.string _ _ _ (⟨#[109, 105, 108, 107]⟩ : ByteArray) [.string (⟨#[109, 105, 108, 107]⟩ : ByteArray)] from rfl) (Reps.one (show Kd.M Kd.string _ _ _ (⟨#[98, 114, 111, 116]⟩ : ByteArray) [.string (⟨#[98, 114, 111, 116]⟩ : ByteArray)] from rfl) (Reps.one (show Kd.M Kd.string _ _ _ (⟨#[107, 195, 164, 115, 101]⟩ : ByteArray) [.string (⟨#[107, 195, 164, 115, 101]⟩ : ByteArray)] from rfl) (Reps.none _ _))))); intro v387 w18 ho19 hb hg_ hnew_; clear hg_ hnew_; (first | rw [← Ny386.out] at ho19 | (simp only [Int.reduceToNat] at ho19; rw [← Ny386.out] at ho19)); have n0_ := Aside0.mk (Kd.R_below (qr HO385) hb); have n1_ := Aside0.mk (Kd.R_lower ho19 (below_size (qb HB))); have n2_ := Aside0.mk (below_step (qb HB) hb); clear HO385; clear HB; have HO385 := n0_; have HO388 := n1_; have HB := n2_; clear n0_ n1_ n2_; clear hb ho19) | (go_at_call 15; (with_reducible refine (laws_at.calls _ _ l1 0 3 t389 _ ?side1 ?side2 A7.out).mono ?_); (case side1 => repeat (first | exact (Kd.C_below HR1.out HB.out) | (with_reducible refine Kd.C_alloc ?_ _) | (with_reducible refine Kd.C_drewN ?_ _) | (with_reducible refine Kd.C_drew ?_))); (case side2 => exact HC1.out); rintro e w' ⟨rfl, ⟨nd, rfl⟩⟩; (try first | exact ⟨rfl, _, World.drewN_drewN _ _ _⟩ | exact ⟨rfl, _, Eq.trans (World.drewN_drewN _ _ _) (congrArg (World.drewN _) (Nat.add_assoc _ _ _))⟩)) | ((with_reducible refine gate_dst (N := 40) rfl ?_); (try (refine gate_guard (by rfl) ?_; dsimp only)); refine Kd.R_lit Kd.string _ 9 ?hg (N := 40) ?hd (xs := ([(⟨#[]⟩ : ByteArray), (⟨#[110, 111, 114, 116, 104]⟩ : ByteArray), (⟨#[115, 111, 117, 116, 104]⟩ : ByteArray)] : List ByteArray)) (inner := [.string (⟨#[]⟩ : ByteArray), .string (⟨#[110, 111, 114, 116, 104]⟩ : ByteArray), .string (⟨#[115, 111, 117, 116, 104]⟩ : ByteArray)]) (ok := fun _ => True) (okp := fun _ => True) ?hr ?hp (fun _ hk => hk) trivial (Below.refl _ _) (Nat.le_refl _) (by simp) ?_; (case hd => rfl); (case hg => rfl); (case hr => first | (go_simp; done) | (go_simp; rfl)); (case hp => exact (Reps.one (show Kd.M Kd.string _ _ _ (⟨#[]⟩ : ByteArray) [.string (⟨#[]⟩ : ByteArray)] from rfl) (Reps.one (show Kd.M Kd.string _ _ _ (⟨#[110, 111, 114, 116, 104]⟩ : ByteArray) [.string (⟨#[110, 111, 114, 116, 104]⟩ : ByteArray)] from rfl) (Reps.one (show Kd.M Kd.string _ _ _ (⟨#[115, 111, 117, 116, 104]⟩ : ByteArray) [.string (⟨#[115, 111, 117, 116, 104]⟩ : ByteArray)] from rfl) (Reps.none _ _))))); intro v392 w21 ho22 hb hg_ hnew_; clear hg_ hnew_; (first | rw [← Ny391.out] at ho22 | (simp only [Int.reduceToNat] at ho22; rw [← Ny391.out] at ho22)); have n0_ := Aside0.mk (Kd.R_below (qr HO385) hb); have n1_ := Aside0.mk (Kd.R_elder' (qr HO388) (Kd.R_base ho22) hb); have n2_ := Aside0.mk (Kd.R_lower (Kd.R_new' ho22 (Kd.R_lt (qr HO388))) (below_size (qb HB))); have n3_ := Aside0.mk (below_step (qb HB) hb); clear HO385; clear HO388; clear HB; have HO385 := n0_; have HO388 := n1_; have HO393 := n2_; have HB := n3_; clear n0_ n1_ n2_ n3_; clear hb ho22) | (go_at_call 15; (with_reducible refine (laws_at.calls _ _ l1 1 3 t394 _ ?side1 ?side2 A10.out).mono ?_); (case side1 => repeat (first | exact (Kd.C_below HR1.out HB.out) | (with_reducible refine Kd.C_alloc ?_ _) | (with_reducible refine Kd.C_drewN ?_ _) | (with_reducible refine Kd.C_drew ?_))); (case side2 => exact HC1.out); rintro e w' ⟨rfl, ⟨nd, rfl⟩⟩; (try first | exact ⟨rfl, _, World.drewN_drewN _ _ _⟩ | exact ⟨rfl, _, Eq.trans (World.drewN_drewN _ _ _) (congrArg (World.drewN _) (Nat.add_assoc _ _ _))⟩)) | (go_at_call 15; (with_reducible refine (laws_at.calls _ _ l1 2 60 t396 _ ?side1 ?side2 A13.out).mono ?_); (case side1 => repeat (first | exact (Kd.C_below HR1.out (qb HB)) | (with_reducible refine Kd.C_alloc ?_ _) | (with_reducible refine Kd.C_drewN ?_ _) | (with_reducible refine Kd.C_drew ?_))); (case side2 => exact HC1.out); rintro e w' ⟨rfl, ⟨nd, rfl⟩⟩; (try first | exact ⟨rfl, _, World.drewN_drewN _ _ _⟩ | exact ⟨rfl, _, Eq.trans (World.drewN_drewN _ _ _) (congrArg (World.drewN _) (Nat.add_assoc _ _ _))⟩)) | (go_at_call 15; (with_reducible refine (laws_at.calls _ _ l1 3 70 t397 _ ?side1 ?side2 A14.out).mono ?_); (case side1 => repeat (first | exact (Kd.C_below HR1.out (qb HB)) | (with_reducible refine Kd.C_alloc ?_ _) | (with_reducible refine Kd.C_drewN ?_ _) | (with_reducible refine Kd.C_drew ?_))); (case side2 => exact HC1.out); rintro e w' ⟨rfl, ⟨nd, rfl⟩⟩; (try first | exact ⟨rfl, _, World.drewN_drewN _ _ _⟩ | exact ⟨rfl, _, Eq.trans (World.drewN_drewN _ _ _) (congrArg (World.drewN _) (Nat.add_assoc _ _ _))⟩)) | (go_at_call 8; (with_reducible refine (impl_PriceSteps.calls kj2 _ _ t383 (rdOf ByteArray.empty y386 t389) (rdOf ByteArray.empty y391 t394) t396 (wrap64 ((wrap64 (t396 + 1)) + t397)) t398 t399 _ ?side1 ?side2 A15.out).mono ?_); (case side1 => repeat (first | exact (Kd.R_reads' HO385.out).2.2 | (with_reducible refine Kd.C_alloc ?_ _) | (with_reducible refine Kd.C_drewN ?_ _) | (with_reducible refine Kd.C_drew ?_))); (case side2 => exact (Kd.R_reads' HO385.out).2.1); rintro e w25 ⟨v400, rfl, ho0, hb⟩; have n0_ := Aside0.mk (Kd.R_below (qr HO385) hb); have n1_ := Aside0.mk (Kd.R_below (qr HO388) hb); have n2_ := Aside0.mk (Kd.R_below (qr HO393) hb); have n3_ := Aside0.mk (Kd.R_lower ho0 (below_size (qb HB))); have n4_ := Aside0.mk (below_step (qb HB) hb); clear HO385; clear HO388; clear HO393; clear HB; have HO385 := n0_; have HO388 := n1_; have HO393 := n2_; have HO401 := n3_; have HB := n4_; clear n0_ n1_ n2_ n3_ n4_; (try clear hb); (try clear hb2); (try clear hk); (try clear hi); (try clear ho0)))); go_upto_region 9 with (first | (go_at_call 14; (with_reducible refine (spec_RowsOf.calls kj2 _ _ l0 t383 _ ?side1 ?side2 A6.out).mono ?_); (case side1 => repeat (first | exact (Kd.C_below HR0.out HB.out) | (with_reducible refine Kd.C_alloc ?_ _) | (with_reducible refine Kd.C_drewN ?_ _) | (with_reducible refine Kd.C_drew ?_))); (case side2 => exact HC0.out); rintro e w17 ⟨v384, rfl, ho0, hb⟩; have n0_ := Aside0.mk (Kd.R_lower ho0 (below_size (qb HB))); have n1_ := Aside0.mk (below_step (qb HB) hb); clear HB; have HO385 := n0_; have HB := n1_; clear n0_ n1_; (try clear hb); (try clear hb2); (try clear hk); (try clear hi); (try clear ho0)) | ((with_reducible refine gate_dst (N := 35) rfl ?_); (try (refine gate_guard (by rfl) ?_; dsimp only)); refine Kd.R_lit Kd.string _ 9 ?hg (N := 35) ?hd (xs := ([(⟨#[109, 105, 108, 107]⟩ : ByteArray), (⟨#[98, 114, 111, 116]⟩ : ByteArray), (⟨#[107, 195, 164, 115, 101]⟩ : ByteArray)] : List ByteArray)) (inner := [.string (⟨#[109, 105, 108, 107]⟩ : ByteArray), .string (⟨#[98, 114, 111, 116]⟩ : ByteArray), .string (⟨#[107, 195, 164, 115, 101]⟩ : ByteArray)]) (ok := fun _ => True) (okp := fun _ => True) ?hr ?hp (fun _ hk => hk) trivial (Below.refl _ _) (Nat.le_refl _) (by simp) ?_; (case hd => rfl); (case hg => rfl); (case hr => first | (go_simp; done) | (go_simp; rfl)); (case hp => exact (Reps.one (show Kd.M Kd.string _ _ _ (⟨#[109, 105, 108, 107]⟩ : ByteArray) [.string (⟨#[109, 105, 108, 107]⟩ : ByteArray)] from rfl) (Reps.one (show Kd.M Kd.string _ _ _ (⟨#[98, 114, 111, 116]⟩ : ByteArray) [.string (⟨#[98, 114, 111, 116]⟩ : ByteArray)] from rfl) (Reps.one (show Kd.M Kd.string _ _ _ (⟨#[107, 195, 164, 115, 101]⟩ : ByteArray) [.string (⟨#[107, 195, 164, 115, 101]⟩ : ByteArray)] from rfl) (Reps.none _ _))))); intro v387 w18 ho19 hb hg_ hnew_; clear hg_ hnew_; (first | rw [← Ny386.out] at ho19 | (simp only [Int.reduceToNat] at ho19; rw [← Ny386.out] at ho19)); have n0_ := Aside0.mk (Kd.R_below (qr HO385) hb); have n1_ := Aside0.mk (Kd.R_lower ho19 (below_size (qb HB))); have n2_ := Aside0.mk (below_step (qb HB) hb); clear HO385; clear HB; have HO385 := n0_; have HO388 := n1_; have HB := n2_; clear n0_ n1_ n2_; clear hb ho19) | (go_at_call 15; (with_reducible refine (laws_at.calls _ _ l1 0 3 t389 _ ?side1 ?side2 A7.out).mono ?_); (case side1 => repeat (first | exact (Kd.C_below HR1.out HB.out) | (with_reducible refine Kd.C_alloc ?_ _) | (with_reducible refine Kd.C_drewN ?_ _) | (with_reducible refine Kd.C_drew ?_))); (case side2 => exact HC1.out); rintro e w' ⟨rfl, ⟨nd, rfl⟩⟩; (try first | exact ⟨rfl, _, World.drewN_drewN _ _ _⟩ | exact ⟨rfl, _, Eq.trans (World.drewN_drewN _ _ _) (congrArg (World.drewN _) (Nat.add_assoc _ _ _))⟩); obtain ⟨Ao20, co20, eo20⟩ := Kd.R_slice HO388.out; subst eo20; have p390 : 0 ≤ (t389 : Int) := of_decide_eq_true (by first | (with_reducible assumption) | assumption); have q390 : t389 < (y386.length : Int) := of_decide_eq_true (by first | (with_reducible assumption) | assumption); obtain ⟨ad390, e390, hx390_0⟩ := Kd.at_string (Kd.R_reads' HO388.out).2.2 t389 p390 q390; cases e390; replace p390 := eq_true p390; replace q390 := eq_true q390) | ((with_reducible refine gate_dst (N := 40) rfl ?_); (try (refine gate_guard (by rfl) ?_; dsimp only)); refine Kd.R_lit Kd.string _ 9 ?hg (N := 40) ?hd (xs := ([(⟨#[]⟩ : ByteArray), (⟨#[110, 111, 114, 116, 104]⟩ : ByteArray), (⟨#[115, 111, 117, 116, 104]⟩ : ByteArray)] : List ByteArray)) (inner := [.string (⟨#[]⟩ : ByteArray), .string (⟨#[110, 111, 114, 116, 104]⟩ : ByteArray), .string (⟨#[115, 111, 117, 116, 104]⟩ : ByteArray)]) (ok := fun _ => True) (okp := fun _ => True) ?hr ?hp (fun _ hk => hk) trivial (Below.refl _ _) (Nat.le_refl _) (by simp) ?_; (case hd => rfl); (case hg => rfl); (case hr => first | (go_simp; done) | (go_simp; rfl)); (case hp => exact (Reps.one (show Kd.M Kd.string _ _ _ (⟨#[]⟩ : ByteArray) [.string (⟨#[]⟩ : ByteArray)] from rfl) (Reps.one (show Kd.M Kd.string _ _ _ (⟨#[110, 111, 114, 116, 104]⟩ : ByteArray) [.string (⟨#[110, 111, 114, 116, 104]⟩ : ByteArray)] from rfl) (Reps.one (show Kd.M Kd.string _ _ _ (⟨#[115, 111, 117, 116, 104]⟩ : ByteArray) [.string (⟨#[115, 111, 117, 116, 104]⟩ : ByteArray)] from rfl) (Reps.none _ _))))); intro v392 w21 ho22 hb hg_ hnew_; clear hg_ hnew_; (first | rw [← Ny391.out] at ho22 | (simp only [Int.reduceToNat] at ho22; rw [← Ny391.out] at ho22)); have n0_ := Aside0.mk (Kd.R_below (qr HO385) hb); have n1_ := Aside0.mk (Kd.R_elder' (qr HO388) (Kd.R_base ho22) hb); have n2_ := Aside0.mk (Kd.R_lower (Kd.R_new' ho22 (Kd.R_lt (qr HO388))) (below_size (qb HB))); have n3_ := Aside0.mk (below_step (qb HB) hb); clear HO385; clear HO388; clear HB; have HO385 := n0_; have HO388 := n1_; have HO393 := n2_; have HB := n3_; clear n0_ n1_ n2_ n3_; clear hb ho22) | (go_at_call 15; (with_reducible refine (laws_at.calls _ _ l1 1 3 t394 _ ?side1 ?side2 A10.out).mono ?_); (case side1 => repeat (first | exact (Kd.C_below HR1.out HB.out) | (with_reducible refine Kd.C_alloc ?_ _) | (with_reducible refine Kd.C_drewN ?_ _) | (with_reducible refine Kd.C_drew ?_))); (case side2 => exact HC1.out); rintro e w' ⟨rfl, ⟨nd, rfl⟩⟩; (try first | exact ⟨rfl, _, World.drewN_drewN _ _ _⟩ | exact ⟨rfl, _, Eq.trans (World.drewN_drewN _ _ _) (congrArg (World.drewN _) (Nat.add_assoc _ _ _))⟩); obtain ⟨Ao23, co23, eo23⟩ := Kd.R_slice HO393.out; subst eo23; have p395 : 0 ≤ (t394 : Int) := of_decide_eq_true (by first | (with_reducible assumption) | assumption); have q395 : t394 < (y391.length : Int) := of_decide_eq_true (by first | (with_reducible assumption) | assumption); obtain ⟨ad395, e395, hx395_0⟩ := Kd.at_string (Kd.R_reads' HO393.out).2.2 t394 p395 q395; cases e395; replace p395 := eq_true p395; replace q395 := eq_true q395) | (go_at_call 15; (with_reducible refine (laws_at.calls _ _ l1 2 60 t396 _ ?side1 ?side2 A13.out).mono ?_); (case side1 => repeat (first | exact (Kd.C_below HR1.out (qb HB)) | (with_reducible refine Kd.C_alloc ?_ _) | (with_reducible refine Kd.C_drewN ?_ _) | (with_reducible refine Kd.C_drew ?_))); (case side2 => exact HC1.out); rintro e w' ⟨rfl, ⟨nd, rfl⟩⟩; (try first | exact ⟨rfl, _, World.drewN_drewN _ _ _⟩ | exact ⟨rfl, _, Eq.trans (World.drewN_drewN _ _ _) (congrArg (World.drewN _) (Nat.add_assoc _ _ _))⟩)) | (go_at_call 15; (with_reducible refine (laws_at.calls _ _ l1 3 70 t397 _ ?side1 ?side2 A14.out).mono ?_); (case side1 => repeat (first | exact (Kd.C_below HR1.out (qb HB)) | (with_reducible refine Kd.C_alloc ?_ _) | (with_reducible refine Kd.C_drewN ?_ _) | (with_reducible refine Kd.C_drew ?_))); (case side2 => exact HC1.out); rintro e w' ⟨rfl, ⟨nd, rfl⟩⟩; (try first | exact ⟨rfl, _, World.drewN_drewN _ _ _⟩ | exact ⟨rfl, _, Eq.trans (World.drewN_drewN _ _ _) (congrArg (World.drewN _) (Nat.add_assoc _ _ _))⟩); obtain ⟨Ao24, co24, eo24⟩ := Kd.R_slice HO385.out; subst eo24) | (go_at_call 8; (with_reducible refine (impl_PriceSteps.calls kj2 _ _ t383 (rdOf ByteArray.empty y386 t389) (rdOf ByteArray.empty y391 t394) t396 (wrap64 ((wrap64 (t396 + 1)) + t397)) t398 t399 _ ?side1 ?side2 A15.out).mono ?_); (case side1 => repeat (first | exact (Kd.R_reads' HO385.out).2.2 | (with_reducible refine Kd.C_alloc ?_ _) | (with_reducible refine Kd.C_drewN ?_ _) | (with_reducible refine Kd.C_drew ?_))); (case side2 => exact (Kd.R_reads' HO385.out).2.1); rintro e w25 ⟨v400, rfl, ho0, hb⟩; have n0_ := Aside0.mk (Kd.R_below (qr HO385) hb); have n1_ := Aside0.mk (Kd.R_below (qr HO388) hb); have n2_ := Aside0.mk (Kd.R_below (qr HO393) hb); have n3_ := Aside0.mk (Kd.R_lower ho0 (below_size (qb HB))); have n4_ := Aside0.mk (below_step (qb HB) hb); clear HO385; clear HO388; clear HO393; clear HB; have HO385 := n0_; have HO388 := n1_; have HO393 := n2_; have HO401 := n3_; have HB := n4_; clear n0_ n1_ n2_ n3_ n4_; (try clear hb); (try clear hb2); (try clear hk); (try clear hi); (try clear ho0))))
        (try simp only [Act.put, sA, s0, sS])
        go_cut [80] (fun v80 wc => ∃ (kq : Nat) (x80_15 : Bool), v80 = .bool x80_15 ∧ Aside0 (laws_FnPrices.j1 kq t383 (rdOf ByteArray.empty y386 t389) (rdOf ByteArray.empty y391 t394) t396 (wrap64 ((wrap64 (t396 + 1)) + t397)) t398 x80_15 = some r) ∧ Aside0 (kq ≤ kj2) ∧ Aside0 (Kd.R k44 44 wc w.heap.size (fun _ => True) (.slice Ao24 t383.length co24) t383) ∧ Aside0 (Kd.R k40 40 wc w.heap.size (fun _ => True) v400 t398) ∧ Aside0 (Below w.heap.size w wc))
        case first => as_aux_lemma =>
         have H := HC16.out; clear HC16; replace H := Option.bind_eq_some_iff.mp H; obtain ⟨t402, A260, H⟩ := H; replace H : (if t402 = true then (if t399 = 0 then (if (t398.length : Int) = 0 then (laws_FnPrices.j1 kj2 t383 (rdOf ByteArray.empty y386 t389) (rdOf ByteArray.empty y391 t394) t396 (wrap64 ((wrap64 (t396 + 1)) + t397)) t398 true) else (if 0 < (t398.length : Int) then (laws_FnPrices.j1 kj2 t383 (rdOf ByteArray.empty y386 t389) (rdOf ByteArray.empty y391 t394) t396 (wrap64 ((wrap64 (t396 + 1)) + t397)) t398 (((rd_T40 t398 0).f0) != t396)) else (none))) else (laws_FnPrices.j1 kj2 t383 (rdOf ByteArray.empty y386 t389) (rdOf ByteArray.empty y391 t394) t396 (wrap64 ((wrap64 (t396 + 1)) + t397)) t398 true)) else (laws_FnPrices.j1 kj2 t383 (rdOf ByteArray.empty y386 t389) (rdOf ByteArray.empty y391 t394) t396 (wrap64 ((wrap64 (t396 + 1)) + t397)) t398 true)) = some r := H; have A26 := Aside0.mk A260; clear A260; by_cases c27 : t402 = true
         ·subst c27
          have H1 : (if t399 = 0 then (if (t398.length : Int) = 0 then (laws_FnPrices.j1 kj2 t383 (rdOf ByteArray.empty y386 t389) (rdOf ByteArray.empty y391 t394) t396 (wrap64 ((wrap64 (t396 + 1)) + t397)) t398 true) else (if 0 < (t398.length : Int) then (laws_FnPrices.j1 kj2 t383 (rdOf ByteArray.empty y386 t389) (rdOf ByteArray.empty y391 t394) t396 (wrap64 ((wrap64 (t396 + 1)) + t397)) t398 (((rd_T40 t398 0).f0) != t396)) else (none))) else (laws_FnPrices.j1 kj2 t383 (rdOf ByteArray.empty y386 t389) (rdOf ByteArray.empty y391 t394) t396 (wrap64 ((wrap64 (t396 + 1)) + t397)) t398 true)) = some r := by rw [if_pos rfl] at H; exact H
          clear H; have H := H1; clear H1; by_cases c28 : t399 = 0
          ·rw [if_pos c28] at H; have c28b0 : (t399 == 0) = true := beq_iff_eq.mpr c28; have c28b1 : (t399 != 0) = false := bne_eq_false_iff_eq.mpr c28; clear c28
           (first | rw [c28b0] | (simp only [i64_w, i32_w]; rw [c28b0]) | skip)
           by_cases c29 : (t398.length : Int) = 0
           ·rw [if_pos c29] at H; exact absurd H (by simp [laws_FnPrices.n1, laws_FnPrices.n5, laws_FnPrices.n9])
           ·rw [if_neg c29] at H; have c29b0 : ((t398.length : Int) == 0) = false := beq_eq_false_iff_ne.mpr c29; have c29b1 : ((t398.length : Int) != 0) = true := bne_iff_ne.mpr c29
            have c29b2 : ¬ (t398 = []) := fun h_ => c29 (by rw [h_]; rfl)
            by_cases c32 : 0 < (t398.length : Int)
            ·rw [if_pos c32] at H; have c32b0 : decide (0 < (t398.length : Int)) = true := decide_eq_true c32; have c32b1 : decide (0 < t398.length) = true := decide_eq_true (by omega); clear c32; have H' := Aside0.mk H; clear H
             go_wp2_with (first | (go_at_call 16; (with_reducible refine (impl_PricesOK.calls kj2 _ _ t383 true _ ?side1 ?side2 A26.out).mono ?_); (case side1 => repeat (first | exact (Kd.R_reads' HO385.out).2.2 | (with_reducible refine Kd.C_alloc ?_ _) | (with_reducible refine Kd.C_drewN ?_ _) | (with_reducible refine Kd.C_drew ?_))); (case side2 => exact (Kd.R_reads' HO385.out).2.1); rintro e w33 ⟨rfl, hb⟩; have n0_ := Aside0.mk (Kd.R_below (qr HO385) hb); have n1_ := Aside0.mk (Kd.R_below (qr HO388) hb); have n2_ := Aside0.mk (Kd.R_below (qr HO393) hb); have n3_ := Aside0.mk (Kd.R_below (qr HO401) hb); have n4_ := Aside0.mk (below_step (qb HB) hb); clear HO385; clear HO388; clear HO393; clear HO401; clear HB; have HO385 := n0_; have HO388 := n1_; have HO393 := n2_; have HO401 := n3_; have HB := n4_; clear n0_ n1_ n2_ n3_ n4_; (try clear hb); (try clear hb2); (try clear hk); (try clear hi); obtain ⟨Ao34, co34, eo34⟩ := Kd.R_slice HO401.out; subst eo34; have p403 : 0 ≤ (0 : Int) := (by omega); have q403 : 0 < (t398.length : Int) := of_decide_eq_true (by first | (with_reducible assumption) | assumption); obtain ⟨ad403, e403, hx403_0, hx403_1⟩ := at_T40 (Kd.R_reads' HO401.out).2.2 0 p403 q403; cases e403; have qi403 : (0 < t398.length) = True := eq_true (by omega); (try rw [show ((0 : Int)).toNat = 0 from rfl] at hx403_0); (try rw [show 0 * 2 = 0 from rfl] at hx403_0); (try rw [Addr.add_zero'] at hx403_0); (try rw [show ((0 : Int)).toNat = 0 from rfl] at hx403_1); (try rw [show 0 * 2 = 0 from rfl] at hx403_1); (try rw [Addr.add_zero'] at hx403_1); replace p403 := eq_true p403; replace q403 := eq_true q403))
             repeat (go_quiet (first | (go_at_call 16; (with_reducible refine (impl_PricesOK.calls kj2 _ _ t383 true _ ?side1 ?side2 A26.out).mono ?_); (case side1 => repeat (first | exact (Kd.R_reads' HO385.out).2.2 | (with_reducible refine Kd.C_alloc ?_ _) | (with_reducible refine Kd.C_drewN ?_ _) | (with_reducible refine Kd.C_drew ?_))); (case side2 => exact (Kd.R_reads' HO385.out).2.1); rintro e w33 ⟨rfl, hb⟩; have n0_ := Aside0.mk (Kd.R_below (qr HO385) hb); have n1_ := Aside0.mk (Kd.R_below (qr HO388) hb); have n2_ := Aside0.mk (Kd.R_below (qr HO393) hb); have n3_ := Aside0.mk (Kd.R_below (qr HO401) hb); have n4_ := Aside0.mk (below_step (qb HB) hb); clear HO385; clear HO388; clear HO393; clear HO401; clear HB; have HO385 := n0_; have HO388 := n1_; have HO393 := n2_; have HO401 := n3_; have HB := n4_; clear n0_ n1_ n2_ n3_ n4_; (try clear hb); (try clear hb2); (try clear hk); (try clear hi); obtain ⟨Ao34, co34, eo34⟩ := Kd.R_slice HO401.out; subst eo34; have p403 : 0 ≤ (0 : Int) := (by omega); have q403 : 0 < (t398.length : Int) := of_decide_eq_true (by first | (with_reducible assumption) | assumption); obtain ⟨ad403, e403, hx403_0, hx403_1⟩ := at_T40 (Kd.R_reads' HO401.out).2.2 0 p403 q403; cases e403; have qi403 : (0 < t398.length) = True := eq_true (by omega); (try rw [show ((0 : Int)).toNat = 0 from rfl] at hx403_0); (try rw [show 0 * 2 = 0 from rfl] at hx403_0); (try rw [Addr.add_zero'] at hx403_0); (try rw [show ((0 : Int)).toNat = 0 from rfl] at hx403_1); (try rw [show 0 * 2 = 0 from rfl] at hx403_1); (try rw [Addr.add_zero'] at hx403_1); replace p403 := eq_true p403; replace q403 := eq_true q403)); try go_wp2_with (first | (go_at_call 16; (with_reducible refine (impl_PricesOK.calls kj2 _ _ t383 true _ ?side1 ?side2 A26.out).mono ?_); (case side1 => repeat (first | exact (Kd.R_reads' HO385.out).2.2 | (with_reducible refine Kd.C_alloc ?_ _) | (with_reducible refine Kd.C_drewN ?_ _) | (with_reducible refine Kd.C_drew ?_))); (case side2 => exact (Kd.R_reads' HO385.out).2.1); rintro e w33 ⟨rfl, hb⟩; have n0_ := Aside0.mk (Kd.R_below (qr HO385) hb); have n1_ := Aside0.mk (Kd.R_below (qr HO388) hb); have n2_ := Aside0.mk (Kd.R_below (qr HO393) hb); have n3_ := Aside0.mk (Kd.R_below (qr HO401) hb); have n4_ := Aside0.mk (below_step (qb HB) hb); clear HO385; clear HO388; clear HO393; clear HO401; clear HB; have HO385 := n0_; have HO388 := n1_; have HO393 := n2_; have HO401 := n3_; have HB := n4_; clear n0_ n1_ n2_ n3_ n4_; (try clear hb); (try clear hb2); (try clear hk); (try clear hi); obtain ⟨Ao34, co34, eo34⟩ := Kd.R_slice HO401.out; subst eo34; have p403 : 0 ≤ (0 : Int) := (by omega); have q403 : 0 < (t398.length : Int) := of_decide_eq_true (by first | (with_reducible assumption) | assumption); obtain ⟨ad403, e403, hx403_0, hx403_1⟩ := at_T40 (Kd.R_reads' HO401.out).2.2 0 p403 q403; cases e403; have qi403 : (0 < t398.length) = True := eq_true (by omega); (try rw [show ((0 : Int)).toNat = 0 from rfl] at hx403_0); (try rw [show 0 * 2 = 0 from rfl] at hx403_0); (try rw [Addr.add_zero'] at hx403_0); (try rw [show ((0 : Int)).toNat = 0 from rfl] at hx403_1); (try rw [show 0 * 2 = 0 from rfl] at hx403_1); (try rw [Addr.add_zero'] at hx403_1); replace p403 := eq_true p403; replace q403 := eq_true q403)))
             go_meet
             case rel => exact ⟨_, ((((rd_T40 t398 0).f0) != t396)), (by first | rfl | (simp; done) | (simp [*]; done)), H', ⟨by have := HJ2.out; first | omega | exact Nat.le_refl _⟩, ⟨by (with_reducible repeat (first | apply Kd.R_alloc | apply Kd.R_drewN | apply Kd.R_drew)); exact HO385.out⟩, ⟨by (with_reducible repeat (first | apply Kd.R_alloc | apply Kd.R_drewN | apply Kd.R_drew)); exact HO401.out⟩, ⟨qb HB⟩⟩
            ·rw [if_neg c32] at H; exact absurd H (by simp)
          ·rw [if_neg c28] at H; exact absurd H (by simp [laws_FnPrices.n1, laws_FnPrices.n5, laws_FnPrices.n9])
         ·replace c27 := Bool.eq_false_iff.mpr c27; subst c27
          have H1 : (laws_FnPrices.j1 kj2 t383 (rdOf ByteArray.empty y386 t389) (rdOf ByteArray.empty y391 t394) t396 (wrap64 ((wrap64 (t396 + 1)) + t397)) t398 true) = some r := by rw [if_neg (show ¬ (false = true) by decide)] at H; exact H
          exact absurd H1 (by simp [laws_FnPrices.n1, laws_FnPrices.n5, laws_FnPrices.n9])
        case rest =>
         clear HC16; (try clear c1); (try clear c2); (try clear p2); (try clear c3); (try clear p3); (try clear q3); (try clear hx3); (try clear c4); (try clear c4b0); (try clear c4b1); (try clear p4); (try clear q4); (try clear hx4); (try clear qi4); (try clear c5); (try clear p6); (try clear c8); (try clear c8b0); (try clear c9); (try clear c9b0); (try clear c11); (try clear c11b0); (try clear c12); (try clear c12b0); (try clear c27); (try clear c28); (try clear c28b0); (try clear c28b1); (try clear c29); (try clear c29b0); (try clear c29b1); (try clear c29b2); (try clear c32); (try clear c32b0); (try clear c32b1); (try clear hx390_0); (try clear hx395_0); (try clear hx403_0); (try clear hx403_1); (try clear p2); (try clear p390); (try clear p395); (try clear p403); (try clear q390); (try clear q395); (try clear q403); obtain ⟨kq, x80_15, rfl, HA, HJ15, HO_5, HO_10, HB⟩ := hcut
         cases kq with
         | zero => exact absurd HA.out (by simp [laws_FnPrices.j1])
         | succ kj15 =>
          have H := HA.out; clear HA; simp only [laws_FnPrices.j1] at H; by_cases c37 : x80_15 = true
          ·subst c37
           have H1 : (none) = some r := by rw [if_pos rfl] at H; exact H
           exact absurd H1 (by simp [laws_FnPrices.n1, laws_FnPrices.n5, laws_FnPrices.n9])
          ·replace c37 := Bool.eq_false_iff.mpr c37; subst c37
           have H1 : (laws_FnPrices.l0 kj15 t383 (rdOf ByteArray.empty y386 t389) (rdOf ByteArray.empty y391 t394) (wrap64 ((wrap64 (t396 + 1)) + t397)) t398 0 t396) = some r := by rw [if_neg (show ¬ (false = true) by decide)] at H; exact H
           clear H; have H := H1; clear H1; have H' := Aside0.mk H; clear H; go_wp2
           repeat (go_quiet (fail); try go_wp2)
           go_loopg [12, 13] kj15 (fun kq v12 v13 w' => ∃ (x12_3 : Int) (x13_3 : Int), v12 = .int .i64 x12_3 ∧ v13 = .int .i64 x13_3 ∧ Aside0 (laws_FnPrices.l0 kq t383 (rdOf ByteArray.empty y386 t389) (rdOf ByteArray.empty y391 t394) (wrap64 ((wrap64 (t396 + 1)) + t397)) t398 x12_3 x13_3 = some r) ∧ Aside0 (kq ≤ kj15) ∧ Aside0 (Kd.R k44 44 w' w.heap.size (fun _ => True) (.slice Ao24 t383.length co24) t383) ∧ Aside0 (Kd.R k40 40 w' w.heap.size (fun _ => True) v400 t398) ∧ Aside0 (Below w.heap.size w w'))
           case atStart => exact ⟨(0), (t396), (by first | rfl | (simp; done) | (simp [*]; done)), (by first | rfl | (simp; done) | (simp [*]; done)), H', ⟨Nat.le_refl _⟩, ⟨by (with_reducible repeat (first | apply Kd.R_alloc | apply Kd.R_drewN | apply Kd.R_drew)); exact HO_5.out⟩, ⟨by (with_reducible repeat (first | apply Kd.R_alloc | apply Kd.R_drewN | apply Kd.R_drew)); exact HO_10.out⟩, ⟨qb HB⟩⟩
           case round =>
            clear H'; (try clear c1); (try clear c2); (try clear p2); (try clear c3); (try clear p3); (try clear q3); (try clear hx3); (try clear c4); (try clear c4b0); (try clear c4b1); (try clear p4); (try clear q4); (try clear hx4); (try clear qi4); (try clear c5); (try clear p6); (try clear c8); (try clear c8b0); (try clear c9); (try clear c9b0); (try clear c11); (try clear c11b0); (try clear c12); (try clear c12b0); (try clear c27); (try clear c28); (try clear c28b0); (try clear c28b1); (try clear c29); (try clear c29b0); (try clear c29b1); (try clear c29b2); (try clear c32); (try clear c32b0); (try clear c32b1); (try clear c37); (try clear hx390_0); (try clear hx395_0); (try clear hx403_0); (try clear hx403_1); (try clear p2); (try clear p3); (try clear p390); (try clear p395); (try clear p4); (try clear p403); (try clear p6); (try clear q3); (try clear q390); (try clear q395); (try clear q4); (try clear q403); obtain ⟨x12_3, x13_3, rfl, rfl, HA, HK3, HO_5, HO_10, HB⟩ := hrel
            cases gk with
            | zero => exact absurd HA.out (by simp [laws_FnPrices.l0])
            | succ k3 =>
             have H := HA.out; clear HA; simp only [laws_FnPrices.l0] at H; by_cases c38 : x13_3 < (wrap64 ((wrap64 (t396 + 1)) + t397))
             ·rw [if_pos c38] at H; have c38b0 : decide (x13_3 < (wrap64 ((wrap64 (t396 + 1)) + t397))) = true := decide_eq_true c38; clear c38; have HC39 := Aside0.mk H; clear H
              go_upto_region 15 with (fail)
              repeat (go_quiet (fail); go_upto_region 15 with (fail))
              go_cut [101] (fun v101 wc => ∃ (kq : Nat) (x101_38 : Bool), v101 = .bool x101_38 ∧ Aside0 (laws_FnPrices.j3 kq t383 (rdOf ByteArray.empty y386 t389) (rdOf ByteArray.empty y391 t394) (wrap64 ((wrap64 (t396 + 1)) + t397)) t398 x12_3 x13_3 x101_38 = some r) ∧ Aside0 (kq ≤ k3) ∧ Aside0 (Kd.R k44 44 wc w.heap.size (fun _ => True) (.slice Ao24 t383.length co24) t383) ∧ Aside0 (Kd.R k40 40 wc w.heap.size (fun _ => True) v400 t398) ∧ Aside0 (Below w.heap.size w wc))
              case first => as_aux_lemma =>
               have H := HC39.out; clear HC39; by_cases c40 : (wrap64 (x12_3 + 1)) < (t398.length : Int)
               ·rw [if_pos c40] at H; have c40b0 : decide ((wrap64 (x12_3 + 1)) < (t398.length : Int)) = true := decide_eq_true c40; clear c40
                (first | rw [c40b0] | (simp only [i64_w, i32_w]; rw [c40b0]) | skip)
                obtain ⟨ji41, hji41⟩ : ∃ j_ : Int, (wrap64 (x12_3 + 1)) = j_ := ⟨_, rfl⟩
                replace H : (if 0 ≤ (ji41) then (laws_FnPrices.j3 k3 t383 (rdOf ByteArray.empty y386 t389) (rdOf ByteArray.empty y391 t394) (wrap64 ((wrap64 (t396 + 1)) + t397)) t398 x12_3 x13_3 (((rd_T40 t398 (ji41)).f0) == x13_3)) else (none)) = some r := by first | (rw [hji41] at H; exact H) | (simp only [hji41] at H ⊢; exact H)
                (try rw [hji41] at c40b0)
                have hji41w : (IntKind.i64.wrap (x12_3 + 1)) = ji41 := (i64_w _).trans hji41; by_cases c42 : 0 ≤ (ji41)
                ·rw [if_pos c42] at H; have c42b0 : decide (0 ≤ (ji41)) = true := decide_eq_true c42; clear c42; have H' := Aside0.mk H; clear H; obtain ⟨Ao43, co43, eo43⟩ := Kd.R_slice HO_10.out; subst eo43; have p404 : 0 ≤ ((ji41) : Int) := of_decide_eq_true (by first | (with_reducible assumption) | assumption); have q404 : (ji41) < (t398.length : Int) := of_decide_eq_true (by first | (with_reducible assumption) | assumption); obtain ⟨ad404, e404, hx404_0, hx404_1⟩ := at_T40 (Kd.R_reads' HO_10.out).2.2 (ji41) p404 q404
                 cases e404
                 replace p404 := eq_true p404; replace q404 := eq_true q404; go_wp2
                 repeat (go_quiet (fail); try go_wp2)
                 go_meet
                 case rel => exact ⟨_, ((((rd_T40 t398 (ji41)).f0) == x13_3)), (by first | rfl | (simp; done) | (simp only [← hji41] <;> (first | rfl | simp)) | (simp [*]; done)), H', ⟨by have := HJ2.out; have := HJ15.out; have := HK3.out; first | omega | exact Nat.le_refl _⟩, ⟨by (with_reducible repeat (first | apply Kd.R_alloc | apply Kd.R_drewN | apply Kd.R_drew)); exact HO_5.out⟩, ⟨by (with_reducible repeat (first | apply Kd.R_alloc | apply Kd.R_drewN | apply Kd.R_drew)); exact HO_10.out⟩, ⟨qb HB⟩⟩
                ·rw [if_neg c42] at H; exact absurd H (by simp)
               ·rw [if_neg c40] at H; have c40b0 : decide ((wrap64 (x12_3 + 1)) < (t398.length : Int)) = false := decide_eq_false c40; clear c40
                (first | rw [c40b0] | (simp only [i64_w, i32_w]; rw [c40b0]) | skip)
                have H' := Aside0.mk H; clear H; obtain ⟨Ao44, co44, eo44⟩ := Kd.R_slice HO_10.out; subst eo44; go_wp2
                repeat (go_quiet (fail); try go_wp2)
                go_meet
                case rel => exact ⟨_, (false), (by first | rfl | (simp; done) | (simp [*]; done)), H', ⟨by have := HJ2.out; have := HJ15.out; have := HK3.out; first | omega | exact Nat.le_refl _⟩, ⟨by (with_reducible repeat (first | apply Kd.R_alloc | apply Kd.R_drewN | apply Kd.R_drew)); exact HO_5.out⟩, ⟨by (with_reducible repeat (first | apply Kd.R_alloc | apply Kd.R_drewN | apply Kd.R_drew)); exact HO_10.out⟩, ⟨qb HB⟩⟩
              case rest =>
               clear HC39; (try clear c1); (try clear c2); (try clear p2); (try clear c3); (try clear p3); (try clear q3); (try clear hx3); (try clear c4); (try clear c4b0); (try clear c4b1); (try clear p4); (try clear q4); (try clear hx4); (try clear qi4); (try clear c5); (try clear p6); (try clear c8); (try clear c8b0); (try clear c9); (try clear c9b0); (try clear c11); (try clear c11b0); (try clear c12); (try clear c12b0); (try clear c27); (try clear c28); (try clear c28b0); (try clear c28b1); (try clear c29); (try clear c29b0); (try clear c29b1); (try clear c29b2); (try clear c32); (try clear c32b0); (try clear c32b1); (try clear c37); (try clear c38); (try clear c38b0); (try clear p39); (try clear q39); (try clear hx39); (try clear c40); (try clear c40b0); (try clear p40); (try clear q40); (try clear hx40); (try clear qi40); (try clear c42); (try clear c42b0); (try clear hx390_0); (try clear hx395_0); (try clear hx403_0); (try clear hx403_1); (try clear hx404_0); (try clear hx404_1); (try clear p2); (try clear p3); (try clear p390); (try clear p395); (try clear p4); (try clear p403); (try clear p404); (try clear p6); (try clear q3); (try clear q390); (try clear q395); (try clear q4); (try clear q403); (try clear q404); obtain ⟨kq, x101_38, rfl, HA, HJ38, HO_5, HO_10, HB⟩ := hcut
               cases kq with
               | zero => exact absurd HA.out (by simp [laws_FnPrices.j3])
               | succ kj38 =>
                have H := HA.out; clear HA; simp only [laws_FnPrices.j3] at H; have HC45 := Aside0.mk H; clear H
                go_upto_if 101 with (fail)
                repeat (go_quiet (fail); go_upto_if 101 with (fail))
                go_cut [12] (fun v12 wc => ∃ (kq : Nat) (x12_44 : Int), v12 = .int .i64 x12_44 ∧ Aside0 (laws_FnPrices.j4 kq t383 (rdOf ByteArray.empty y386 t389) (rdOf ByteArray.empty y391 t394) (wrap64 ((wrap64 (t396 + 1)) + t397)) t398 x12_44 x13_3 = some r) ∧ Aside0 (kq ≤ kj38) ∧ Aside0 (Kd.R k44 44 wc w.heap.size (fun _ => True) (.slice Ao24 t383.length co24) t383) ∧ Aside0 (Kd.R k40 40 wc w.heap.size (fun _ => True) v400 t398) ∧ Aside0 (Below w.heap.size w wc))
                case first => as_aux_lemma =>
                 have H := HC45.out; clear HC45; by_cases c46 : x101_38 = true
                 ·subst c46
                  have H1 : (if 0 ≤ (wrap64 (x12_3 + 1)) then (if (wrap64 (x12_3 + 1)) < (t398.length : Int) then (if 0 ≤ (wrap64 ((wrap64 (x12_3 + 1)) - 1)) then (if (wrap64 ((wrap64 (x12_3 + 1)) - 1)) < (t398.length : Int) then (if ((rd_T40 t398 (wrap64 (x12_3 + 1))).f1) = ((rd_T40 t398 (wrap64 ((wrap64 (x12_3 + 1)) - 1))).f1) then (none) else (laws_FnPrices.j4 kj38 t383 (rdOf ByteArray.empty y386 t389) (rdOf ByteArray.empty y391 t394) (wrap64 ((wrap64 (t396 + 1)) + t397)) t398 (wrap64 (x12_3 + 1)) x13_3)) else (none)) else (none)) else (none)) else (none)) = some r := by rw [if_pos rfl] at H; exact H
                  clear H; have H := H1; clear H1; obtain ⟨ji47, hji47⟩ : ∃ j_ : Int, (wrap64 (x12_3 + 1)) = j_ := ⟨_, rfl⟩
                  replace H : (if 0 ≤ (ji47) then (if (ji47) < (t398.length : Int) then (if 0 ≤ (wrap64 ((ji47) - 1)) then (if (wrap64 ((ji47) - 1)) < (t398.length : Int) then (if ((rd_T40 t398 (ji47)).f1) = ((rd_T40 t398 (wrap64 ((ji47) - 1))).f1) then (none) else (laws_FnPrices.j4 kj38 t383 (rdOf ByteArray.empty y386 t389) (rdOf ByteArray.empty y391 t394) (wrap64 ((wrap64 (t396 + 1)) + t397)) t398 ji47 x13_3)) else (none)) else (none)) else (none)) else (none)) = some r := by first | (rw [hji47] at H; exact H) | (simp only [hji47] at H ⊢; exact H)
                  have hji47w : (IntKind.i64.wrap (x12_3 + 1)) = ji47 := (i64_w _).trans hji47; (try clear hji41w); (try clear hji41); by_cases c48 : 0 ≤ (ji47)
                  ·rw [if_pos c48] at H; have c48b0 : decide (0 ≤ (ji47)) = true := decide_eq_true c48; clear c48
                   (first | rw [c48b0] | (simp only [i64_w, i32_w]; rw [c48b0]) | skip)
                   by_cases c49 : (ji47) < (t398.length : Int)
                   ·rw [if_pos c49] at H; have c49b0 : decide ((ji47) < (t398.length : Int)) = true := decide_eq_true c49; clear c49; obtain ⟨ji50, hji50⟩ : ∃ j_ : Int, (wrap64 ((ji47) - 1)) = j_ := ⟨_, rfl⟩
                    replace H : (if 0 ≤ (ji50) then (if (ji50) < (t398.length : Int) then (if ((rd_T40 t398 (ji47)).f1) = ((rd_T40 t398 (ji50)).f1) then (none) else (laws_FnPrices.j4 kj38 t383 (rdOf ByteArray.empty y386 t389) (rdOf ByteArray.empty y391 t394) (wrap64 ((wrap64 (t396 + 1)) + t397)) t398 ji47 x13_3)) else (none)) else (none)) = some r := by first | (rw [hji50] at H; exact H) | (simp only [hji50] at H ⊢; exact H)
                    have hji50w : (IntKind.i64.wrap ((ji47) - 1)) = ji50 := (i64_w _).trans hji50; by_cases c51 : 0 ≤ (ji50)
                    ·rw [if_pos c51] at H; have c51b0 : decide (0 ≤ (ji50)) = true := decide_eq_true c51; clear c51; by_cases c52 : (ji50) < (t398.length : Int)
                     ·rw [if_pos c52] at H; have c52b0 : decide ((ji50) < (t398.length : Int)) = true := decide_eq_true c52; clear c52; by_cases c53 : ((rd_T40 t398 (ji47)).f1) = ((rd_T40 t398 (ji50)).f1)
                      ·rw [if_pos c53] at H; exact absurd H (by simp [laws_FnPrices.n1, laws_FnPrices.n5, laws_FnPrices.n9])
                      ·rw [if_neg c53] at H; have c53b0 : (((rd_T40 t398 (ji47)).f1) == ((rd_T40 t398 (ji50)).f1)) = false := beq_eq_false_iff_ne.mpr c53; have c53b1 : (((rd_T40 t398 (ji47)).f1) != ((rd_T40 t398 (ji50)).f1)) = true := bne_iff_ne.mpr c53; have H' := Aside0.mk H; clear H; obtain ⟨Ao55, co55, eo55⟩ := Kd.R_slice HO_10.out; subst eo55; have p405 : 0 ≤ ((ji47) : Int) := of_decide_eq_true (by first | (with_reducible assumption) | assumption); have q405 : (ji47) < (t398.length : Int) := of_decide_eq_true (by first | (with_reducible assumption) | assumption); obtain ⟨ad405, e405, hx405_0, hx405_1⟩ := at_T40 (Kd.R_reads' HO_10.out).2.2 (ji47) p405 q405
                       cases e405
                       replace p405 := eq_true p405; replace q405 := eq_true q405; have p406 : 0 ≤ ((ji50) : Int) := of_decide_eq_true (by first | (with_reducible assumption) | assumption); have q406 : (ji50) < (t398.length : Int) := of_decide_eq_true (by first | (with_reducible assumption) | assumption); obtain ⟨ad406, e406, hx406_0, hx406_1⟩ := at_T40 (Kd.R_reads' HO_10.out).2.2 (ji50) p406 q406; obtain rfl : ad405 = ad406 := (by injection e406); replace p406 := eq_true p406; replace q406 := eq_true q406; go_wp2
                       repeat (go_quiet (fail); try go_wp2)
                       go_meet
                       case rel => exact ⟨_, (ji47), (by first | rfl | (simp; done) | (simp only [← hji47] <;> (first | rfl | simp)) | (simp [*]; done)), H', ⟨by have := HJ2.out; have := HJ15.out; have := HK3.out; have := HJ38.out; first | omega | exact Nat.le_refl _⟩, ⟨by (with_reducible repeat (first | apply Kd.R_alloc | apply Kd.R_drewN | apply Kd.R_drew)); exact HO_5.out⟩, ⟨by (with_reducible repeat (first | apply Kd.R_alloc | apply Kd.R_drewN | apply Kd.R_drew)); exact HO_10.out⟩, ⟨qb HB⟩⟩
                     ·rw [if_neg c52] at H; exact absurd H (by simp)
                    ·rw [if_neg c51] at H; exact absurd H (by simp)
                   ·rw [if_neg c49] at H; exact absurd H (by simp)
                  ·rw [if_neg c48] at H; exact absurd H (by simp)
                 ·replace c46 := Bool.eq_false_iff.mpr c46; subst c46
                  have H1 : (laws_FnPrices.j4 kj38 t383 (rdOf ByteArray.empty y386 t389) (rdOf ByteArray.empty y391 t394) (wrap64 ((wrap64 (t396 + 1)) + t397)) t398 x12_3 x13_3) = some r := by rw [if_neg (show ¬ (false = true) by decide)] at H; exact H
                  clear H; have H := H1; clear H1; have H' := Aside0.mk H; clear H; go_wp2
                  repeat (go_quiet (fail); try go_wp2)
                  go_meet
                  case rel => exact ⟨_, (x12_3), (by first | rfl | (simp; done) | (simp [*]; done)), H', ⟨by have := HJ2.out; have := HJ15.out; have := HK3.out; have := HJ38.out; first | omega | exact Nat.le_refl _⟩, ⟨by (with_reducible repeat (first | apply Kd.R_alloc | apply Kd.R_drewN | apply Kd.R_drew)); exact HO_5.out⟩, ⟨by (with_reducible repeat (first | apply Kd.R_alloc | apply Kd.R_drewN | apply Kd.R_drew)); exact HO_10.out⟩, ⟨qb HB⟩⟩
                case rest =>
                 clear HC45; (try clear c1); (try clear c2); (try clear p2); (try clear c3); (try clear p3); (try clear q3); (try clear hx3); (try clear c4); (try clear c4b0); (try clear c4b1); (try clear p4); (try clear q4); (try clear hx4); (try clear qi4); (try clear c5); (try clear p6); (try clear c8); (try clear c8b0); (try clear c9); (try clear c9b0); (try clear c11); (try clear c11b0); (try clear c12); (try clear c12b0); (try clear c27); (try clear c28); (try clear c28b0); (try clear c28b1); (try clear c29); (try clear c29b0); (try clear c29b1); (try clear c29b2); (try clear c32); (try clear c32b0); (try clear c32b1); (try clear c37); (try clear c38); (try clear c38b0); (try clear p39); (try clear q39); (try clear hx39); (try clear c40); (try clear c40b0); (try clear p40); (try clear q40); (try clear hx40); (try clear qi40); (try clear c42); (try clear c42b0); (try clear c46); (try clear c48); (try clear c48b0); (try clear c49); (try clear c49b0); (try clear c51); (try clear c51b0); (try clear c52); (try clear c52b0); (try clear c53); (try clear c53b0); (try clear c53b1); (try clear hx390_0); (try clear hx395_0); (try clear hx403_0); (try clear hx403_1); (try clear hx404_0); (try clear hx404_1); (try clear hx405_0); (try clear hx405_1); (try clear hx406_0); (try clear hx406_1); (try clear p2); (try clear p3); (try clear p39); (try clear p390); (try clear p395); (try clear p4); (try clear p40); (try clear p403); (try clear p404); (try clear p405); (try clear p406); (try clear p6); (try clear q3); (try clear q39); (try clear q390); (try clear q395); (try clear q4); (try clear q40); (try clear q403); (try clear q404); (try clear q405); (try clear q406); obtain ⟨kq, x12_44, rfl, HA, HJ44, HO_5, HO_10, HB⟩ := hcut
                 cases kq with
                 | zero => exact absurd HA.out (by simp [laws_FnPrices.j4])
                 | succ kj44 =>
                  have H := HA.out; clear HA; simp only [laws_FnPrices.j4] at H; replace H := Option.bind_eq_some_iff.mp H; obtain ⟨⟨t407, t408, t409⟩, A560, H⟩ := H; replace H : ((spec_PriceAt.f kj44 t383 (rdOf ByteArray.empty y386 t389) (rdOf ByteArray.empty y391 t394) x13_3).bind fun bt410 => (if t409 = bt410.2.2 then (if t407 = bt410.1 then (laws_FnPrices.j5 kj44 t383 (rdOf ByteArray.empty y386 t389) (rdOf ByteArray.empty y391 t394) (wrap64 ((wrap64 (t396 + 1)) + t397)) t398 x12_44 x13_3 t407 t409 (t408 != bt410.2.1)) else (laws_FnPrices.j5 kj44 t383 (rdOf ByteArray.empty y386 t389) (rdOf ByteArray.empty y391 t394) (wrap64 ((wrap64 (t396 + 1)) + t397)) t398 x12_44 x13_3 t407 t409 true)) else (laws_FnPrices.j5 kj44 t383 (rdOf ByteArray.empty y386 t389) (rdOf ByteArray.empty y391 t394) (wrap64 ((wrap64 (t396 + 1)) + t397)) t398 x12_44 x13_3 t407 t409 true))) = some r := H; have A56 := Aside0.mk A560; clear A560; replace H := Option.bind_eq_some_iff.mp H; obtain ⟨⟨t410, t411, t412⟩, A570, H⟩ := H; replace H : (if t409 = t412 then (if t407 = t410 then (laws_FnPrices.j5 kj44 t383 (rdOf ByteArray.empty y386 t389) (rdOf ByteArray.empty y391 t394) (wrap64 ((wrap64 (t396 + 1)) + t397)) t398 x12_44 x13_3 t407 t409 (t408 != t411)) else (laws_FnPrices.j5 kj44 t383 (rdOf ByteArray.empty y386 t389) (rdOf ByteArray.empty y391 t394) (wrap64 ((wrap64 (t396 + 1)) + t397)) t398 x12_44 x13_3 t407 t409 true)) else (laws_FnPrices.j5 kj44 t383 (rdOf ByteArray.empty y386 t389) (rdOf ByteArray.empty y391 t394) (wrap64 ((wrap64 (t396 + 1)) + t397)) t398 x12_44 x13_3 t407 t409 true)) = some r := H; have A57 := Aside0.mk A570; clear A570; have HC58 := Aside0.mk H; clear H
                  go_upto_region 21 with (first | (go_at_call 17; (with_reducible refine (impl_PriceAt.calls kj44 _ _ t383 (rdOf ByteArray.empty y386 t389) (rdOf ByteArray.empty y391 t394) x13_3 t407 t408 t409 _ ?side1 ?side2 A56.out).mono ?_); (case side1 => repeat (first | exact (Kd.R_reads' HO_5.out).2.2 | (with_reducible refine Kd.C_alloc ?_ _) | (with_reducible refine Kd.C_drewN ?_ _) | (with_reducible refine Kd.C_drew ?_))); (case side2 => exact (Kd.R_reads' HO_5.out).2.1); rintro e w59 ⟨rfl, hb⟩; have n0_ := Aside0.mk (Kd.R_below (qr HO_5) hb); have n1_ := Aside0.mk (Kd.R_below (qr HO_10) hb); have n2_ := Aside0.mk (below_step (qb HB) hb); clear HO_5; clear HO_10; clear HB; have HO_5 := n0_; have HO_10 := n1_; have HB := n2_; clear n0_ n1_ n2_; (try clear hb); (try clear hb2); (try clear hk); (try clear hi)) | (go_at_call 18; (with_reducible refine (spec_PriceAt.calls kj44 _ _ t383 (rdOf ByteArray.empty y386 t389) (rdOf ByteArray.empty y391 t394) x13_3 t410 t411 t412 _ ?side1 ?side2 A57.out).mono ?_); (case side1 => repeat (first | exact (Kd.R_reads' HO_5.out).2.2 | (with_reducible refine Kd.C_alloc ?_ _) | (with_reducible refine Kd.C_drewN ?_ _) | (with_reducible refine Kd.C_drew ?_))); (case side2 => exact (Kd.R_reads' HO_5.out).2.1); rintro e w60 ⟨rfl, hb⟩; have n0_ := Aside0.mk (Kd.R_below (qr HO_5) hb); have n1_ := Aside0.mk (Kd.R_below (qr HO_10) hb); have n2_ := Aside0.mk (below_step (qb HB) hb); clear HO_5; clear HO_10; clear HB; have HO_5 := n0_; have HO_10 := n1_; have HB := n2_; clear n0_ n1_ n2_; (try clear hb); (try clear hb2); (try clear hk); (try clear hi)))
                  repeat (go_quiet (first | (go_at_call 17; (with_reducible refine (impl_PriceAt.calls kj44 _ _ t383 (rdOf ByteArray.empty y386 t389) (rdOf ByteArray.empty y391 t394) x13_3 t407 t408 t409 _ ?side1 ?side2 A56.out).mono ?_); (case side1 => repeat (first | exact (Kd.R_reads' HO_5.out).2.2 | (with_reducible refine Kd.C_alloc ?_ _) | (with_reducible refine Kd.C_drewN ?_ _) | (with_reducible refine Kd.C_drew ?_))); (case side2 => exact (Kd.R_reads' HO_5.out).2.1); rintro e w59 ⟨rfl, hb⟩; have n0_ := Aside0.mk (Kd.R_below (qr HO_5) hb); have n1_ := Aside0.mk (Kd.R_below (qr HO_10) hb); have n2_ := Aside0.mk (below_step (qb HB) hb); clear HO_5; clear HO_10; clear HB; have HO_5 := n0_; have HO_10 := n1_; have HB := n2_; clear n0_ n1_ n2_; (try clear hb); (try clear hb2); (try clear hk); (try clear hi)) | (go_at_call 18; (with_reducible refine (spec_PriceAt.calls kj44 _ _ t383 (rdOf ByteArray.empty y386 t389) (rdOf ByteArray.empty y391 t394) x13_3 t410 t411 t412 _ ?side1 ?side2 A57.out).mono ?_); (case side1 => repeat (first | exact (Kd.R_reads' HO_5.out).2.2 | (with_reducible refine Kd.C_alloc ?_ _) | (with_reducible refine Kd.C_drewN ?_ _) | (with_reducible refine Kd.C_drew ?_))); (case side2 => exact (Kd.R_reads' HO_5.out).2.1); rintro e w60 ⟨rfl, hb⟩; have n0_ := Aside0.mk (Kd.R_below (qr HO_5) hb); have n1_ := Aside0.mk (Kd.R_below (qr HO_10) hb); have n2_ := Aside0.mk (below_step (qb HB) hb); clear HO_5; clear HO_10; clear HB; have HO_5 := n0_; have HO_10 := n1_; have HB := n2_; clear n0_ n1_ n2_; (try clear hb); (try clear hb2); (try clear hk); (try clear hi))); go_upto_region 21 with (first | (go_at_call 17; (with_reducible refine (impl_PriceAt.calls kj44 _ _ t383 (rdOf ByteArray.empty y386 t389) (rdOf ByteArray.empty y391 t394) x13_3 t407 t408 t409 _ ?side1 ?side2 A56.out).mono ?_); (case side1 => repeat (first | exact (Kd.R_reads' HO_5.out).2.2 | (with_reducible refine Kd.C_alloc ?_ _) | (with_reducible refine Kd.C_drewN ?_ _) | (with_reducible refine Kd.C_drew ?_))); (case side2 => exact (Kd.R_reads' HO_5.out).2.1); rintro e w59 ⟨rfl, hb⟩; have n0_ := Aside0.mk (Kd.R_below (qr HO_5) hb); have n1_ := Aside0.mk (Kd.R_below (qr HO_10) hb); have n2_ := Aside0.mk (below_step (qb HB) hb); clear HO_5; clear HO_10; clear HB; have HO_5 := n0_; have HO_10 := n1_; have HB := n2_; clear n0_ n1_ n2_; (try clear hb); (try clear hb2); (try clear hk); (try clear hi)) | (go_at_call 18; (with_reducible refine (spec_PriceAt.calls kj44 _ _ t383 (rdOf ByteArray.empty y386 t389) (rdOf ByteArray.empty y391 t394) x13_3 t410 t411 t412 _ ?side1 ?side2 A57.out).mono ?_); (case side1 => repeat (first | exact (Kd.R_reads' HO_5.out).2.2 | (with_reducible refine Kd.C_alloc ?_ _) | (with_reducible refine Kd.C_drewN ?_ _) | (with_reducible refine Kd.C_drew ?_))); (case side2 => exact (Kd.R_reads' HO_5.out).2.1); rintro e w60 ⟨rfl, hb⟩; have n0_ := Aside0.mk (Kd.R_below (qr HO_5) hb); have n1_ := Aside0.mk (Kd.R_below (qr HO_10) hb); have n2_ := Aside0.mk (below_step (qb HB) hb); clear HO_5; clear HO_10; clear HB; have HO_5 := n0_; have HO_10 := n1_; have HB := n2_; clear n0_ n1_ n2_; (try clear hb); (try clear hb2); (try clear hk); (try clear hi))))
                  (try simp only [Act.put, sA, s0, sS])
                  go_cut [146] (fun v146 wc => ∃ (kq : Nat) (x146_57 : Bool), v146 = .bool x146_57 ∧ Aside0 (laws_FnPrices.j5 kq t383 (rdOf ByteArray.empty y386 t389) (rdOf ByteArray.empty y391 t394) (wrap64 ((wrap64 (t396 + 1)) + t397)) t398 x12_44 x13_3 t407 t409 x146_57 = some r) ∧ Aside0 (kq ≤ kj44) ∧ Aside0 (Kd.R k44 44 wc w.heap.size (fun _ => True) (.slice Ao24 t383.length co24) t383) ∧ Aside0 (Kd.R k40 40 wc w.heap.size (fun _ => True) v400 t398) ∧ Aside0 (Below w.heap.size w wc))
                  case first => as_aux_lemma =>
                   have H := HC58.out; clear HC58; by_cases c61 : t409 = t412
                   ·rw [if_pos c61] at H; have c61b0 : (t409 == t412) = true := beq_iff_eq.mpr c61; have c61b1 : (t409 != t412) = false := bne_eq_false_iff_eq.mpr c61; clear c61
                    (first | rw [c61b0] | (simp only [i64_w, i32_w]; rw [c61b0]) | skip)
                    by_cases c62 : t407 = t410
                    ·rw [if_pos c62] at H; have c62b0 : (t407 == t410) = true := beq_iff_eq.mpr c62; have c62b1 : (t407 != t410) = false := bne_eq_false_iff_eq.mpr c62; clear c62; have H' := Aside0.mk H; clear H; go_wp2
                     repeat (go_quiet (fail); try go_wp2)
                     go_meet
                     case rel => exact ⟨_, ((t408 != t411)), (by first | rfl | (simp; done) | (simp [*]; done)), H', ⟨by have := HJ2.out; have := HJ15.out; have := HK3.out; have := HJ38.out; have := HJ44.out; first | omega | exact Nat.le_refl _⟩, ⟨by (with_reducible repeat (first | apply Kd.R_alloc | apply Kd.R_drewN | apply Kd.R_drew)); exact HO_5.out⟩, ⟨by (with_reducible repeat (first | apply Kd.R_alloc | apply Kd.R_drewN | apply Kd.R_drew)); exact HO_10.out⟩, ⟨qb HB⟩⟩
                    ·rw [if_neg c62] at H; exact absurd H (by simp [laws_FnPrices.n1, laws_FnPrices.n5, laws_FnPrices.n9])
                   ·rw [if_neg c61] at H; exact absurd H (by simp [laws_FnPrices.n1, laws_FnPrices.n5, laws_FnPrices.n9])
                  case rest =>
                   clear HC58; (try clear c1); (try clear c2); (try clear p2); (try clear c3); (try clear p3); (try clear q3); (try clear hx3); (try clear c4); (try clear c4b0); (try clear c4b1); (try clear p4); (try clear q4); (try clear hx4); (try clear qi4); (try clear c5); (try clear c6); (try clear p6); (try clear c8); (try clear c8b0); (try clear c9); (try clear c9b0); (try clear c11); (try clear c11b0); (try clear c12); (try clear c12b0); (try clear c27); (try clear c28); (try clear c28b0); (try clear c28b1); (try clear c29); (try clear c29b0); (try clear c29b1); (try clear c29b2); (try clear c32); (try clear c32b0); (try clear c32b1); (try clear c37); (try clear c38); (try clear c38b0); (try clear p39); (try clear q39); (try clear hx39); (try clear c40); (try clear c40b0); (try clear p40); (try clear q40); (try clear hx40); (try clear qi40); (try clear c42); (try clear c42b0); (try clear c46); (try clear c48); (try clear c48b0); (try clear c49); (try clear c49b0); (try clear c51); (try clear c51b0); (try clear c52); (try clear c52b0); (try clear c53); (try clear c53b0); (try clear c53b1); (try clear c61); (try clear c61b0); (try clear c61b1); (try clear c62); (try clear c62b0); (try clear c62b1); (try clear hx390_0); (try clear hx395_0); (try clear hx403_0); (try clear hx403_1); (try clear hx404_0); (try clear hx404_1); (try clear hx405_0); (try clear hx405_1); (try clear hx406_0); (try clear hx406_1); (try clear p2); (try clear p3); (try clear p39); (try clear p390); (try clear p395); (try clear p4); (try clear p40); (try clear p403); (try clear p404); (try clear p405); (try clear p406); (try clear p6); (try clear q3); (try clear q39); (try clear q390); (try clear q395); (try clear q4); (try clear q40); (try clear q403); (try clear q404); (try clear q405); (try clear q406); obtain ⟨kq, x146_57, rfl, HA, HJ57, HO_5, HO_10, HB⟩ := hcut
                   cases kq with
                   | zero => exact absurd HA.out (by simp [laws_FnPrices.j5])
                   | succ kj57 =>
                    have H := HA.out; clear HA; simp only [laws_FnPrices.j5] at H; by_cases c63 : x146_57 = true
                    ·subst c63
                     have H1 : (none) = some r := by rw [if_pos rfl] at H; exact H
                     exact absurd H1 (by simp [laws_FnPrices.n1, laws_FnPrices.n5, laws_FnPrices.n9])
                    ·replace c63 := Bool.eq_false_iff.mpr c63; subst c63
                     have H1 : (if t409 = 0 then (laws_FnPrices.j6 kj57 t383 (rdOf ByteArray.empty y386 t389) (rdOf ByteArray.empty y391 t394) (wrap64 ((wrap64 (t396 + 1)) + t397)) t398 x12_44 x13_3 t407 t409) else (laws_FnPrices.j6 kj57 t383 (rdOf ByteArray.empty y386 t389) (rdOf ByteArray.empty y391 t394) (wrap64 ((wrap64 (t396 + 1)) + t397)) t398 x12_44 x13_3 (-1) t409)) = some r := by rw [if_neg (show ¬ (false = true) by decide)] at H; exact H
                     clear H; have H := H1; clear H1; have HC64 := Aside0.mk H; clear H
                     go_upto_if 148 with (fail)
                     repeat (go_quiet (fail); go_upto_if 148 with (fail))
                     go_cut [14] (fun v14 wc => ∃ (kq : Nat) (x14_63 : Int), v14 = .int .i64 x14_63 ∧ Aside0 (laws_FnPrices.j6 kq t383 (rdOf ByteArray.empty y386 t389) (rdOf ByteArray.empty y391 t394) (wrap64 ((wrap64 (t396 + 1)) + t397)) t398 x12_44 x13_3 x14_63 t409 = some r) ∧ Aside0 (kq ≤ kj57) ∧ Aside0 (Kd.R k44 44 wc w.heap.size (fun _ => True) (.slice Ao24 t383.length co24) t383) ∧ Aside0 (Kd.R k40 40 wc w.heap.size (fun _ => True) v400 t398) ∧ Aside0 (Below w.heap.size w wc))
                     case first => as_aux_lemma =>
                      have H := HC64.out; clear HC64; by_cases c65 : t409 = 0
                      ·rw [if_pos c65] at H; have c65b0 : (t409 == 0) = true := beq_iff_eq.mpr c65; have c65b1 : (t409 != 0) = false := bne_eq_false_iff_eq.mpr c65; clear c65
                       (first | rw [c65b0] | (simp only [i64_w, i32_w]; rw [c65b0]) | skip)
                       have H' := Aside0.mk H; clear H; go_wp2
                       repeat (go_quiet (fail); try go_wp2)
                       go_meet
                       case rel => exact ⟨_, (t407), (by first | rfl | (simp; done) | (simp [*]; done)), H', ⟨by have := HJ2.out; have := HJ15.out; have := HK3.out; have := HJ38.out; have := HJ44.out; have := HJ57.out; first | omega | exact Nat.le_refl _⟩, ⟨by (with_reducible repeat (first | apply Kd.R_alloc | apply Kd.R_drewN | apply Kd.R_drew)); exact HO_5.out⟩, ⟨by (with_reducible repeat (first | apply Kd.R_alloc | apply Kd.R_drewN | apply Kd.R_drew)); exact HO_10.out⟩, ⟨qb HB⟩⟩
                      ·rw [if_neg c65] at H; have c65b0 : (t409 == 0) = false := beq_eq_false_iff_ne.mpr c65; have c65b1 : (t409 != 0) = true := bne_iff_ne.mpr c65
                       (first | rw [c65b0] | (simp only [i64_w, i32_w]; rw [c65b0]) | skip)
                       have H' := Aside0.mk H; clear H; go_wp2
                       repeat (go_quiet (fail); try go_wp2)
                       go_meet
                       case rel => exact ⟨_, ((-1)), (by first | rfl | (simp; done) | (simp [*]; done)), H', ⟨by have := HJ2.out; have := HJ15.out; have := HK3.out; have := HJ38.out; have := HJ44.out; have := HJ57.out; first | omega | exact Nat.le_refl _⟩, ⟨by (with_reducible repeat (first | apply Kd.R_alloc | apply Kd.R_drewN | apply Kd.R_drew)); exact HO_5.out⟩, ⟨by (with_reducible repeat (first | apply Kd.R_alloc | apply Kd.R_drewN | apply Kd.R_drew)); exact HO_10.out⟩, ⟨qb HB⟩⟩
                     case rest =>
                      clear HC64; (try clear c1); (try clear c2); (try clear p2); (try clear c3); (try clear p3); (try clear q3); (try clear hx3); (try clear c4); (try clear c4b0); (try clear c4b1); (try clear p4); (try clear q4); (try clear hx4); (try clear qi4); (try clear c5); (try clear c6); (try clear p6); (try clear c8); (try clear c8b0); (try clear c9); (try clear c9b0); (try clear c11); (try clear c11b0); (try clear c12); (try clear c12b0); (try clear c27); (try clear c28); (try clear c28b0); (try clear c28b1); (try clear c29); (try clear c29b0); (try clear c29b1); (try clear c29b2); (try clear c32); (try clear c32b0); (try clear c32b1); (try clear c37); (try clear c38); (try clear c38b0); (try clear p39); (try clear q39); (try clear hx39); (try clear c40); (try clear c40b0); (try clear p40); (try clear q40); (try clear hx40); (try clear qi40); (try clear c42); (try clear c42b0); (try clear c46); (try clear c48); (try clear c48b0); (try clear c49); (try clear c49b0); (try clear c51); (try clear c51b0); (try clear c52); (try clear c52b0); (try clear c53); (try clear c53b0); (try clear c53b1); (try clear c61); (try clear c61b0); (try clear c61b1); (try clear c62); (try clear c62b0); (try clear c62b1); (try clear c63); (try clear p64); (try clear c65); (try clear c65b0); (try clear c65b1); (try clear hx390_0); (try clear hx395_0); (try clear hx403_0); (try clear hx403_1); (try clear hx404_0); (try clear hx404_1); (try clear hx405_0); (try clear hx405_1); (try clear hx406_0); (try clear hx406_1); (try clear p2); (try clear p3); (try clear p39); (try clear p390); (try clear p395); (try clear p4); (try clear p40); (try clear p403); (try clear p404); (try clear p405); (try clear p406); (try clear p6); (try clear q3); (try clear q39); (try clear q390); (try clear q395); (try clear q4); (try clear q40); (try clear q403); (try clear q404); (try clear q405); (try clear q406); obtain ⟨kq, x14_63, rfl, HA, HJ63, HO_5, HO_10, HB⟩ := hcut
                      cases kq with
                      | zero => exact absurd HA.out (by simp [laws_FnPrices.j6])
                      | succ kj63 =>
                       have H := HA.out; clear HA; simp only [laws_FnPrices.j6] at H; by_cases c66 : 0 ≤ x12_44
                       ·rw [if_pos c66] at H; have c66b0 : decide (0 ≤ x12_44) = true := decide_eq_true c66; clear c66; by_cases c67 : x12_44 < (t398.length : Int)
                        ·rw [if_pos c67] at H; have c67b0 : decide (x12_44 < (t398.length : Int)) = true := decide_eq_true c67; clear c67; by_cases c68 : x14_63 = ((rd_T40 t398 x12_44).f1)
                         ·rw [if_pos c68] at H; have c68b0 : (x14_63 == ((rd_T40 t398 x12_44).f1)) = true := beq_iff_eq.mpr c68; have c68b1 : (x14_63 != ((rd_T40 t398 x12_44).f1)) = false := bne_eq_false_iff_eq.mpr c68; clear c68; obtain ⟨y414, hy414⟩ : ∃ y_ : List (S44), y_ = (([] : List (S44))) := ⟨_, rfl⟩
                          replace H : (laws_FnPrices.l1 kj63 t383 (rdOf ByteArray.empty y386 t389) (rdOf ByteArray.empty y391 t394) (wrap64 ((wrap64 (t396 + 1)) + t397)) t398 x12_44 x13_3 x14_63 t409 y414 0) = some r := by first | (rw [hy414]; with_reducible exact H) | (have H2_ := (Option.bind_some _ _).symm.trans H; rw [hy414]; with_reducible exact H2_) | (have H2_ := (Option.bind_some _ _).symm.trans H; with_reducible exact H2_) | with_reducible exact H | (rw [hy414]; exact H) | exact H
                          have Ny414 := Aside0.mk hy414; clear hy414; have H' := Aside0.mk H; clear H; obtain ⟨Ao69, co69, eo69⟩ := Kd.R_slice HO_10.out; subst eo69; have p413 : 0 ≤ (x12_44 : Int) := of_decide_eq_true (by first | (with_reducible assumption) | assumption); have q413 : x12_44 < (t398.length : Int) := of_decide_eq_true (by first | (with_reducible assumption) | assumption); obtain ⟨ad413, e413, hx413_0, hx413_1⟩ := at_T40 (Kd.R_reads' HO_10.out).2.2 x12_44 p413 q413
                          cases e413
                          replace p413 := eq_true p413; replace q413 := eq_true q413
                          go_wp2_with (first | ((with_reducible refine gate_dst (N := 156) rfl ?_); (try (refine gate_guard (by rfl) ?_; dsimp only)); refine Kd.R_lit k44 _ 44 ?hg (N := 156) ?hd (xs := ([] : List (S44))) (inner := []) (ok := fun _ => True) (okp := fun _ => True) ?hr ?hp (fun _ hk => hk) trivial (Below.refl _ _) (Nat.le_refl _) (by simp) ?_; (case hd => rfl); (case hg => rfl); (case hr => first | (go_simp; done) | (go_simp; rfl)); (case hp => exact (Reps.none _ _)); intro v415 w70 ho71 hb hg_ hnew_; clear hg_ hnew_; (first | rw [← Ny414.out] at ho71 | (simp only [Int.reduceToNat] at ho71; rw [← Ny414.out] at ho71)); have n0_ := Aside0.mk (Kd.R_elder' (qr HO_5) (Kd.R_base ho71) hb); have n1_ := Aside0.mk (Kd.R_below (qr HO_10) hb); have n2_ := Aside0.mk (Kd.R_lower (Kd.R_new' ho71 (Kd.R_lt (qr HO_5))) (below_size (qb HB))); have n3_ := Aside0.mk (below_step (qb HB) hb); clear HO_5; clear HO_10; clear HB; have HO_5 := n0_; have HO_10 := n1_; have HO416 := n2_; have HB := n3_; clear n0_ n1_ n2_ n3_; clear hb ho71))
                          repeat (go_quiet (first | ((with_reducible refine gate_dst (N := 156) rfl ?_); (try (refine gate_guard (by rfl) ?_; dsimp only)); refine Kd.R_lit k44 _ 44 ?hg (N := 156) ?hd (xs := ([] : List (S44))) (inner := []) (ok := fun _ => True) (okp := fun _ => True) ?hr ?hp (fun _ hk => hk) trivial (Below.refl _ _) (Nat.le_refl _) (by simp) ?_; (case hd => rfl); (case hg => rfl); (case hr => first | (go_simp; done) | (go_simp; rfl)); (case hp => exact (Reps.none _ _)); intro v415 w70 ho71 hb hg_ hnew_; clear hg_ hnew_; (first | rw [← Ny414.out] at ho71 | (simp only [Int.reduceToNat] at ho71; rw [← Ny414.out] at ho71)); have n0_ := Aside0.mk (Kd.R_elder' (qr HO_5) (Kd.R_base ho71) hb); have n1_ := Aside0.mk (Kd.R_below (qr HO_10) hb); have n2_ := Aside0.mk (Kd.R_lower (Kd.R_new' ho71 (Kd.R_lt (qr HO_5))) (below_size (qb HB))); have n3_ := Aside0.mk (below_step (qb HB) hb); clear HO_5; clear HO_10; clear HB; have HO_5 := n0_; have HO_10 := n1_; have HO416 := n2_; have HB := n3_; clear n0_ n1_ n2_ n3_; clear hb ho71)); try go_wp2_with (first | ((with_reducible refine gate_dst (N := 156) rfl ?_); (try (refine gate_guard (by rfl) ?_; dsimp only)); refine Kd.R_lit k44 _ 44 ?hg (N := 156) ?hd (xs := ([] : List (S44))) (inner := []) (ok := fun _ => True) (okp := fun _ => True) ?hr ?hp (fun _ hk => hk) trivial (Below.refl _ _) (Nat.le_refl _) (by simp) ?_; (case hd => rfl); (case hg => rfl); (case hr => first | (go_simp; done) | (go_simp; rfl)); (case hp => exact (Reps.none _ _)); intro v415 w70 ho71 hb hg_ hnew_; clear hg_ hnew_; (first | rw [← Ny414.out] at ho71 | (simp only [Int.reduceToNat] at ho71; rw [← Ny414.out] at ho71)); have n0_ := Aside0.mk (Kd.R_elder' (qr HO_5) (Kd.R_base ho71) hb); have n1_ := Aside0.mk (Kd.R_below (qr HO_10) hb); have n2_ := Aside0.mk (Kd.R_lower (Kd.R_new' ho71 (Kd.R_lt (qr HO_5))) (below_size (qb HB))); have n3_ := Aside0.mk (below_step (qb HB) hb); clear HO_5; clear HO_10; clear HB; have HO_5 := n0_; have HO_10 := n1_; have HO416 := n2_; have HB := n3_; clear n0_ n1_ n2_ n3_; clear hb ho71)))
                          go_loopg [20, 21] kj63 (fun kq v20 v21 w' => ∃ (x20_8 : List (S44)) (x21_8 : Int), v21 = .int .i64 x21_8 ∧ Aside0 (laws_FnPrices.l1 kq t383 (rdOf ByteArray.empty y386 t389) (rdOf ByteArray.empty y391 t394) (wrap64 ((wrap64 (t396 + 1)) + t397)) t398 x12_44 x13_3 x14_63 t409 x20_8 x21_8 = some r) ∧ Aside0 (kq ≤ kj63) ∧ Aside0 (Kd.R k44 44 w' w.heap.size (fun k_ => some k_ ≠ (v20 : Value).ownBlock) (.slice Ao24 t383.length co24) t383) ∧ Aside0 (Kd.R k40 40 w' w.heap.size (fun _ => True) (.slice (some ad413) t398.length co69) t398) ∧ Aside0 (Kd.R k44 44 w' w.heap.size (fun k_ => some k_ ≠ ((.slice Ao24 t383.length co24) : Value).ownBlock) v20 x20_8) ∧ Aside0 (Below w.heap.size w w'))
                          case atStart => exact ⟨(y414), (0), (by first | rfl | (simp; done) | (simp [*]; done)), H', ⟨Nat.le_refl _⟩, ⟨by (with_reducible repeat (first | apply Kd.R_alloc | apply Kd.R_drewN | apply Kd.R_drew)); exact Kd.R_mono HO_5.out (fun _ hk => hk.2)⟩, ⟨by (with_reducible repeat (first | apply Kd.R_alloc | apply Kd.R_drewN | apply Kd.R_drew)); exact HO_10.out⟩, ⟨by (with_reducible repeat (first | apply Kd.R_alloc | apply Kd.R_drewN | apply Kd.R_drew)); exact Kd.R_mono HO416.out (fun _ hk => hk.2)⟩, ⟨qb HB⟩⟩
                          case round =>
                           clear H'; (try clear c1); (try clear c2); (try clear p2); (try clear c3); (try clear p3); (try clear q3); (try clear hx3); (try clear c4); (try clear c4b0); (try clear c4b1); (try clear p4); (try clear q4); (try clear hx4); (try clear qi4); (try clear c5); (try clear c6); (try clear p6); (try clear c8); (try clear c8b0); (try clear c9); (try clear c9b0); (try clear c11); (try clear c11b0); (try clear c12); (try clear c12b0); (try clear c27); (try clear c28); (try clear c28b0); (try clear c28b1); (try clear c29); (try clear c29b0); (try clear c29b1); (try clear c29b2); (try clear c32); (try clear c32b0); (try clear c32b1); (try clear c37); (try clear c38); (try clear c38b0); (try clear p39); (try clear q39); (try clear hx39); (try clear c40); (try clear c40b0); (try clear p40); (try clear q40); (try clear hx40); (try clear qi40); (try clear p41); (try clear q41); (try clear hx41); (try clear c42); (try clear c42b0); (try clear c46); (try clear c48); (try clear c48b0); (try clear c49); (try clear c49b0); (try clear c51); (try clear c51b0); (try clear c52); (try clear c52b0); (try clear c53); (try clear c53b0); (try clear c53b1); (try clear c61); (try clear c61b0); (try clear c61b1); (try clear c62); (try clear c62b0); (try clear c62b1); (try clear c63); (try clear p64); (try clear c65); (try clear c65b0); (try clear c65b1); (try clear c66); (try clear c66b0); (try clear c67); (try clear c67b0); (try clear c68); (try clear c68b0); (try clear c68b1); (try clear hx390_0); (try clear hx395_0); (try clear hx403_0); (try clear hx403_1); (try clear hx404_0); (try clear hx404_1); (try clear hx405_0); (try clear hx405_1); (try clear hx406_0); (try clear hx406_1); (try clear hx413_0); (try clear hx413_1); (try clear p2); (try clear p3); (try clear p39); (try clear p390); (try clear p395); (try clear p4); (try clear p40); (try clear p403); (try clear p404); (try clear p405); (try clear p406); (try clear p413); (try clear p6); (try clear p64); (try clear q3); (try clear q39); (try clear q390); (try clear q395); (try clear q4); (try clear q40); (try clear q403); (try clear q404); (try clear q405); (try clear q406); (try clear q413); obtain ⟨x20_8, x21_8, rfl, HA, HK8, HO_5, HO_10, HO_20, HB⟩ := hrel
                           cases gk with
                           | zero => exact absurd HA.out (by simp [laws_FnPrices.l1])
                           | succ k8 =>
                            have H := HA.out; clear HA; simp only [laws_FnPrices.l1] at H; by_cases c72 : x21_8 < (t383.length : Int)
                            ·rw [if_pos c72] at H; have c72b0 : decide (x21_8 < (t383.length : Int)) = true := decide_eq_true c72; clear c72; have HC73 := Aside0.mk H; clear H
                             go_upto_region 31 with (fail)
                             repeat (go_quiet (fail); go_upto_region 31 with (fail))
                             go_cut [187] (fun v187 wc => ∃ (kq : Nat) (x187_72 : Bool), v187 = .bool x187_72 ∧ Aside0 (laws_FnPrices.j8 kq t383 (rdOf ByteArray.empty y386 t389) (rdOf ByteArray.empty y391 t394) (wrap64 ((wrap64 (t396 + 1)) + t397)) t398 x12_44 x13_3 x14_63 t409 x20_8 x21_8 x187_72 = some r) ∧ Aside0 (kq ≤ k8) ∧ Aside0 (Kd.R k44 44 wc w.heap.size (fun k_ => some k_ ≠ (u20 : Value).ownBlock) (.slice Ao24 t383.length co24) t383) ∧ Aside0 (Kd.R k40 40 wc w.heap.size (fun _ => True) (.slice (some ad413) t398.length co69) t398) ∧ Aside0 (Kd.R k44 44 wc w.heap.size (fun k_ => some k_ ≠ ((.slice Ao24 t383.length co24) : Value).ownBlock) u20 x20_8) ∧ Aside0 (Below w.heap.size w wc))
                             case first => as_aux_lemma =>
                              have H := HC73.out; clear HC73; by_cases c74 : 0 ≤ x21_8
                              ·rw [if_pos c74] at H; have c74b0 : decide (0 ≤ x21_8) = true := decide_eq_true c74; clear c74
                               (first | rw [c74b0] | (simp only [i64_w, i32_w]; rw [c74b0]) | skip)
                               by_cases c75 : ((rd_T44 t383 x21_8).f0).toList = (rdOf ByteArray.empty y386 t389).toList
                               ·rw [if_pos c75] at H; have c75b0 : (((rd_T44 t383 x21_8).f0).toList == (rdOf ByteArray.empty y386 t389).toList) = true := beq_iff_eq.mpr c75; have c75b1 : (((rd_T44 t383 x21_8).f0).toList != (rdOf ByteArray.empty y386 t389).toList) = false := bne_eq_false_iff_eq.mpr c75; clear c75; by_cases c76 : ((rd_T44 t383 x21_8).f3) ≤ x13_3
                                ·rw [if_pos c76] at H; have c76b0 : decide (((rd_T44 t383 x21_8).f3) ≤ x13_3) = true := decide_eq_true c76; clear c76; have H' := Aside0.mk H; clear H; have p417 : 0 ≤ (x21_8 : Int) := of_decide_eq_true (by first | (with_reducible assumption) | assumption); have q417 : x21_8 < (t383.length : Int) := of_decide_eq_true (by first | (with_reducible assumption) | assumption); obtain ⟨ad417, e417, hx417_0, hx417_1, hx417_2, hx417_3, hx417_4, hx417_5⟩ := at_T44 (Kd.R_reads' HO_5.out).2.2 x21_8 p417 q417
                                 cases e417
                                 replace p417 := eq_true p417; replace q417 := eq_true q417; have p418 : 0 ≤ (x21_8 : Int) := of_decide_eq_true (by first | (with_reducible assumption) | assumption); have q418 : x21_8 < (t383.length : Int) := of_decide_eq_true (by first | (with_reducible assumption) | assumption); obtain ⟨ad418, e418, hx418_0, hx418_1, hx418_2, hx418_3, hx418_4, hx418_5⟩ := at_T44 (Kd.R_reads' HO_5.out).2.2 x21_8 p418 q418; obtain rfl : ad417 = ad418 := (by injection e418); replace p418 := eq_true p418; replace q418 := eq_true q418; have p419 : 0 ≤ (x21_8 : Int) := of_decide_eq_true (by first | (with_reducible assumption) | assumption); have q419 : x21_8 < (t383.length : Int) := of_decide_eq_true (by first | (with_reducible assumption) | assumption); obtain ⟨ad419, e419, hx419_0, hx419_1, hx419_2, hx419_3, hx419_4, hx419_5⟩ := at_T44 (Kd.R_reads' HO_5.out).2.2 x21_8 p419 q419; obtain rfl : ad417 = ad419 := (by injection e419); replace p419 := eq_true p419; replace q419 := eq_true q419; go_wp2
                                 repeat (go_quiet (fail); try go_wp2)
                                 go_meet
                                 case rel => exact ⟨_, (decide (x13_3 < ((rd_T44 t383 x21_8).f4))), (by first | rfl | (simp; done) | (simp [*]; done)), H', ⟨by have := HJ2.out; have := HJ15.out; have := HK3.out; have := HJ38.out; have := HJ44.out; have := HJ57.out; have := HJ63.out; have := HK8.out; first | omega | exact Nat.le_refl _⟩, ⟨by (with_reducible repeat (first | apply Kd.R_alloc | apply Kd.R_drewN | apply Kd.R_drew)); exact HO_5.out⟩, ⟨by (with_reducible repeat (first | apply Kd.R_alloc | apply Kd.R_drewN | apply Kd.R_drew)); exact HO_10.out⟩, ⟨by (with_reducible repeat (first | apply Kd.R_alloc | apply Kd.R_drewN | apply Kd.R_drew)); exact HO_20.out⟩, ⟨qb HB⟩⟩
                                ·rw [if_neg c76] at H; have c76b0 : decide (((rd_T44 t383 x21_8).f3) ≤ x13_3) = false := decide_eq_false c76; clear c76; have H' := Aside0.mk H; clear H; have p417 : 0 ≤ (x21_8 : Int) := of_decide_eq_true (by first | (with_reducible assumption) | assumption); have q417 : x21_8 < (t383.length : Int) := of_decide_eq_true (by first | (with_reducible assumption) | assumption); obtain ⟨ad417, e417, hx417_0, hx417_1, hx417_2, hx417_3, hx417_4, hx417_5⟩ := at_T44 (Kd.R_reads' HO_5.out).2.2 x21_8 p417 q417
                                 cases e417
                                 replace p417 := eq_true p417; replace q417 := eq_true q417; have p418 : 0 ≤ (x21_8 : Int) := of_decide_eq_true (by first | (with_reducible assumption) | assumption); have q418 : x21_8 < (t383.length : Int) := of_decide_eq_true (by first | (with_reducible assumption) | assumption); obtain ⟨ad418, e418, hx418_0, hx418_1, hx418_2, hx418_3, hx418_4, hx418_5⟩ := at_T44 (Kd.R_reads' HO_5.out).2.2 x21_8 p418 q418; obtain rfl : ad417 = ad418 := (by injection e418); replace p418 := eq_true p418; replace q418 := eq_true q418; go_wp2
                                 repeat (go_quiet (fail); try go_wp2)
                                 go_meet
                                 case rel => exact ⟨_, (false), (by first | rfl | (simp; done) | (simp [*]; done)), H', ⟨by have := HJ2.out; have := HJ15.out; have := HK3.out; have := HJ38.out; have := HJ44.out; have := HJ57.out; have := HJ63.out; have := HK8.out; first | omega | exact Nat.le_refl _⟩, ⟨by (with_reducible repeat (first | apply Kd.R_alloc | apply Kd.R_drewN | apply Kd.R_drew)); exact HO_5.out⟩, ⟨by (with_reducible repeat (first | apply Kd.R_alloc | apply Kd.R_drewN | apply Kd.R_drew)); exact HO_10.out⟩, ⟨by (with_reducible repeat (first | apply Kd.R_alloc | apply Kd.R_drewN | apply Kd.R_drew)); exact HO_20.out⟩, ⟨qb HB⟩⟩
                               ·rw [if_neg c75] at H; have c75b0 : (((rd_T44 t383 x21_8).f0).toList == (rdOf ByteArray.empty y386 t389).toList) = false := beq_eq_false_iff_ne.mpr c75; have c75b1 : (((rd_T44 t383 x21_8).f0).toList != (rdOf ByteArray.empty y386 t389).toList) = true := bne_iff_ne.mpr c75; have H' := Aside0.mk H; clear H; have p417 : 0 ≤ (x21_8 : Int) := of_decide_eq_true (by first | (with_reducible assumption) | assumption); have q417 : x21_8 < (t383.length : Int) := of_decide_eq_true (by first | (with_reducible assumption) | assumption); obtain ⟨ad417, e417, hx417_0, hx417_1, hx417_2, hx417_3, hx417_4, hx417_5⟩ := at_T44 (Kd.R_reads' HO_5.out).2.2 x21_8 p417 q417
                                cases e417
                                replace p417 := eq_true p417; replace q417 := eq_true q417; go_wp2
                                repeat (go_quiet (fail); try go_wp2)
                                go_meet
                                case rel => exact ⟨_, (false), (by first | rfl | (simp; done) | (simp [*]; done)), H', ⟨by have := HJ2.out; have := HJ15.out; have := HK3.out; have := HJ38.out; have := HJ44.out; have := HJ57.out; have := HJ63.out; have := HK8.out; first | omega | exact Nat.le_refl _⟩, ⟨by (with_reducible repeat (first | apply Kd.R_alloc | apply Kd.R_drewN | apply Kd.R_drew)); exact HO_5.out⟩, ⟨by (with_reducible repeat (first | apply Kd.R_alloc | apply Kd.R_drewN | apply Kd.R_drew)); exact HO_10.out⟩, ⟨by (with_reducible repeat (first | apply Kd.R_alloc | apply Kd.R_drewN | apply Kd.R_drew)); exact HO_20.out⟩, ⟨qb HB⟩⟩
                              ·rw [if_neg c74] at H; exact absurd H (by simp)
                             case rest =>
                              clear HC73; (try clear c1); (try clear c2); (try clear p2); (try clear c3); (try clear p3); (try clear q3); (try clear hx3); (try clear c4); (try clear c4b0); (try clear c4b1); (try clear p4); (try clear q4); (try clear hx4); (try clear qi4); (try clear c5); (try clear c6); (try clear p6); (try clear c7); (try clear c8); (try clear c8b0); (try clear c9); (try clear c9b0); (try clear c11); (try clear c11b0); (try clear c12); (try clear c12b0); (try clear c27); (try clear c28); (try clear c28b0); (try clear c28b1); (try clear c29); (try clear c29b0); (try clear c29b1); (try clear c29b2); (try clear c32); (try clear c32b0); (try clear c32b1); (try clear c37); (try clear c38); (try clear c38b0); (try clear p39); (try clear q39); (try clear hx39); (try clear c40); (try clear c40b0); (try clear p40); (try clear q40); (try clear hx40); (try clear qi40); (try clear p41); (try clear q41); (try clear hx41); (try clear c42); (try clear c42b0); (try clear c46); (try clear c48); (try clear c48b0); (try clear c49); (try clear c49b0); (try clear c51); (try clear c51b0); (try clear c52); (try clear c52b0); (try clear c53); (try clear c53b0); (try clear c53b1); (try clear c61); (try clear c61b0); (try clear c61b1); (try clear c62); (try clear c62b0); (try clear c62b1); (try clear c63); (try clear p64); (try clear c65); (try clear c65b0); (try clear c65b1); (try clear c66); (try clear c66b0); (try clear c67); (try clear c67b0); (try clear c68); (try clear c68b0); (try clear c68b1); (try clear c72); (try clear c72b0); (try clear c74); (try clear c74b0); (try clear c75); (try clear c75b0); (try clear c75b1); (try clear c76); (try clear c76b0); (try clear hx390_0); (try clear hx395_0); (try clear hx403_0); (try clear hx403_1); (try clear hx404_0); (try clear hx404_1); (try clear hx405_0); (try clear hx405_1); (try clear hx406_0); (try clear hx406_1); (try clear hx413_0); (try clear hx413_1); (try clear hx417_0); (try clear hx417_1); (try clear hx417_2); (try clear hx417_3); (try clear hx417_4); (try clear hx417_5); (try clear hx418_0); (try clear hx418_1); (try clear hx418_2); (try clear hx418_3); (try clear hx418_4); (try clear hx418_5); (try clear hx419_0); (try clear hx419_1); (try clear hx419_2); (try clear hx419_3); (try clear hx419_4); (try clear hx419_5); (try clear p2); (try clear p3); (try clear p39); (try clear p390); (try clear p395); (try clear p4); (try clear p40); (try clear p403); (try clear p404); (try clear p405); (try clear p406); (try clear p41); (try clear p413); (try clear p417); (try clear p418); (try clear p419); (try clear p6); (try clear p64); (try clear q3); (try clear q39); (try clear q390); (try clear q395); (try clear q4); (try clear q40); (try clear q403); (try clear q404); (try clear q405); (try clear q406); (try clear q41); (try clear q413); (try clear q417); (try clear q418); (try clear q419); obtain ⟨kq, x187_72, rfl, HA, HJ72, HO_5, HO_10, HO_20, HB⟩ := hcut
                              cases kq with
                              | zero => exact absurd HA.out (by simp [laws_FnPrices.j8])
                              | succ kj72 =>
                               have H := HA.out; clear HA; simp only [laws_FnPrices.j8] at H; by_cases c77 : x187_72 = true
                               ·subst c77
                                have H1 : (if 0 ≤ x21_8 then (if x21_8 < (t383.length : Int) then (if x20_8.length < 2199023255552 then (laws_FnPrices.l1 kj72 t383 (rdOf ByteArray.empty y386 t389) (rdOf ByteArray.empty y391 t394) (wrap64 ((wrap64 (t396 + 1)) + t397)) t398 x12_44 x13_3 x14_63 t409 (x20_8 ++ [(⟨(rd_T44 t383 x21_8).f0, (rd_T44 t383 x21_8).f1, (rd_T44 t383 x21_8).f2, (rd_T44 t383 x21_8).f3, (rd_T44 t383 x21_8).f4, (rd_T44 t383 x21_8).f5⟩ : S44)]) (wrap64 (x21_8 + 1))) else (none)) else (none)) else (none)) = some r := by rw [if_pos rfl] at H; exact H
                                clear H; have H := H1; clear H1; by_cases c78 : 0 ≤ x21_8
                                ·rw [if_pos c78] at H; have c78b0 : decide (0 ≤ x21_8) = true := decide_eq_true c78; clear c78; by_cases c79 : x21_8 < (t383.length : Int)
                                 ·rw [if_pos c79] at H; have c79b0 : decide (x21_8 < (t383.length : Int)) = true := decide_eq_true c79; clear c79; by_cases c80 : x20_8.length < 2199023255552
                                  ·rw [if_pos c80] at H; have LMc80 := Aside0.mk c80; clear c80; obtain ⟨y421, hy421⟩ : ∃ y_ : List (S44), y_ = (x20_8 ++ [(⟨(rd_T44 t383 x21_8).f0, (rd_T44 t383 x21_8).f1, (rd_T44 t383 x21_8).f2, (rd_T44 t383 x21_8).f3, (rd_T44 t383 x21_8).f4, (rd_T44 t383 x21_8).f5⟩ : S44)]) := ⟨_, rfl⟩
                                   replace H : (laws_FnPrices.l1 kj72 t383 (rdOf ByteArray.empty y386 t389) (rdOf ByteArray.empty y391 t394) (wrap64 ((wrap64 (t396 + 1)) + t397)) t398 x12_44 x13_3 x14_63 t409 y421 (wrap64 (x21_8 + 1))) = some r := by first | (rw [hy421]; with_reducible exact H) | (have H2_ := (Option.bind_some _ _).symm.trans H; rw [hy421]; with_reducible exact H2_) | (have H2_ := (Option.bind_some _ _).symm.trans H; with_reducible exact H2_) | with_reducible exact H | (rw [hy421]; exact H) | exact H
                                   have Ny421 := Aside0.mk hy421; clear hy421; have H' := Aside0.mk H; clear H; have p420 : 0 ≤ (x21_8 : Int) := of_decide_eq_true (by first | (with_reducible assumption) | assumption); have q420 : x21_8 < (t383.length : Int) := of_decide_eq_true (by first | (with_reducible assumption) | assumption); obtain ⟨ad420, e420, hx420_0, hx420_1, hx420_2, hx420_3, hx420_4, hx420_5⟩ := at_T44 (Kd.R_reads' HO_5.out).2.2 x21_8 p420 q420
                                   cases e420
                                   replace p420 := eq_true p420; replace q420 := eq_true q420
                                   go_wp2_with (first | ((with_reducible refine gate_builtin (b := .append) (xs := #[.tmp 188, .tmp 193]) rfl ?_); (try (refine gate_guard (by rfl) ?_; dsimp only)); at_builtin; refine Kd.R_append k44 (w0 := w) w.heap.size rfl (.tmp 188) (.tmp 193) 27 44 (.agg #[(.string ⟨#[]⟩), (.string ⟨#[]⟩), (.int .i64 0), (.int .i64 0), (.int .i64 0), (.int .i64 0)]) 64 rfl Try.underlying27 info44 rfl (by decide) (by omega) u20 x20_8 (⟨(rd_T44 t383 x21_8).f0, (rd_T44 t383 x21_8).f1, (rd_T44 t383 x21_8).f2, (rd_T44 t383 x21_8).f3, (rd_T44 t383 x21_8).f4, (rd_T44 t383 x21_8).f5⟩ : S44) [.string ((rd_T44 t383 x21_8).f0), .string ((rd_T44 t383 x21_8).f1), .int .i64 ((rd_T44 t383 x21_8).f2), .int .i64 ((rd_T44 t383 x21_8).f3), .int .i64 ((rd_T44 t383 x21_8).f4), .int .i64 ((rd_T44 t383 x21_8).f5)] (fun k_ => some k_ ≠ (.slice (some ad420) t383.length co24 : Value).ownBlock) (fun _ => False) rfl rfl ?aP (fun _ hk => hk.elim) ?aF ?aO ?aB ?aS ?aL ?_; (case aP => exact k44_mkM _ _ _ (⟨(rd_T44 t383 x21_8).f0, (rd_T44 t383 x21_8).f1, (rd_T44 t383 x21_8).f2, (rd_T44 t383 x21_8).f3, (rd_T44 t383 x21_8).f4, (rd_T44 t383 x21_8).f5⟩ : S44)); (case aB => exact (qb HB)); (case aF => exact (fun k_ hk => Kd.fresh' (Kd.R_lt (qr HO_5)) k_ hk)); (case aO => exact (qr HO_20)); (case aS => exact (below_size (qb HB))); (case aL => have := LMc80.out; omega); intro v422 w81 ho hb hg hat; rw [← Ny421.out] at ho; have n0_ := Aside0.mk (Kd.R_after (ok := (fun _ => True)) (by (with_reducible repeat (first | apply Kd.R_alloc | apply Kd.R_drewN | apply Kd.R_drew)); exact Kd.R_mono HO_5.out (fun _ hk => ⟨trivial, hk⟩)) hg hat); have n1_ := Aside0.mk (Kd.R_over' (qr HO_10) (Kd.R_typed (qr HO_20)) (by decide) hg); have n2_ := Aside0.mk (hb); have n3_ := Aside0.mk (ho); clear HO_5; clear HO_10; clear HB; clear HO_20; have HO_5 := n0_; have HO_10 := n1_; have HB := n2_; have HO423 := n3_; clear n0_ n1_ n2_ n3_; clear ho hb hg hat))
                                   repeat (go_quiet (first | ((with_reducible refine gate_builtin (b := .append) (xs := #[.tmp 188, .tmp 193]) rfl ?_); (try (refine gate_guard (by rfl) ?_; dsimp only)); at_builtin; refine Kd.R_append k44 (w0 := w) w.heap.size rfl (.tmp 188) (.tmp 193) 27 44 (.agg #[(.string ⟨#[]⟩), (.string ⟨#[]⟩), (.int .i64 0), (.int .i64 0), (.int .i64 0), (.int .i64 0)]) 64 rfl Try.underlying27 info44 rfl (by decide) (by omega) u20 x20_8 (⟨(rd_T44 t383 x21_8).f0, (rd_T44 t383 x21_8).f1, (rd_T44 t383 x21_8).f2, (rd_T44 t383 x21_8).f3, (rd_T44 t383 x21_8).f4, (rd_T44 t383 x21_8).f5⟩ : S44) [.string ((rd_T44 t383 x21_8).f0), .string ((rd_T44 t383 x21_8).f1), .int .i64 ((rd_T44 t383 x21_8).f2), .int .i64 ((rd_T44 t383 x21_8).f3), .int .i64 ((rd_T44 t383 x21_8).f4), .int .i64 ((rd_T44 t383 x21_8).f5)] (fun k_ => some k_ ≠ (.slice (some ad420) t383.length co24 : Value).ownBlock) (fun _ => False) rfl rfl ?aP (fun _ hk => hk.elim) ?aF ?aO ?aB ?aS ?aL ?_; (case aP => exact k44_mkM _ _ _ (⟨(rd_T44 t383 x21_8).f0, (rd_T44 t383 x21_8).f1, (rd_T44 t383 x21_8).f2, (rd_T44 t383 x21_8).f3, (rd_T44 t383 x21_8).f4, (rd_T44 t383 x21_8).f5⟩ : S44)); (case aB => exact (qb HB)); (case aF => exact (fun k_ hk => Kd.fresh' (Kd.R_lt (qr HO_5)) k_ hk)); (case aO => exact (qr HO_20)); (case aS => exact (below_size (qb HB))); (case aL => have := LMc80.out; omega); intro v422 w81 ho hb hg hat; rw [← Ny421.out] at ho; have n0_ := Aside0.mk (Kd.R_after (ok := (fun _ => True)) (by (with_reducible repeat (first | apply Kd.R_alloc | apply Kd.R_drewN | apply Kd.R_drew)); exact Kd.R_mono HO_5.out (fun _ hk => ⟨trivial, hk⟩)) hg hat); have n1_ := Aside0.mk (Kd.R_over' (qr HO_10) (Kd.R_typed (qr HO_20)) (by decide) hg); have n2_ := Aside0.mk (hb); have n3_ := Aside0.mk (ho); clear HO_5; clear HO_10; clear HB; clear HO_20; have HO_5 := n0_; have HO_10 := n1_; have HB := n2_; have HO423 := n3_; clear n0_ n1_ n2_ n3_; clear ho hb hg hat)); try go_wp2_with (first | ((with_reducible refine gate_builtin (b := .append) (xs := #[.tmp 188, .tmp 193]) rfl ?_); (try (refine gate_guard (by rfl) ?_; dsimp only)); at_builtin; refine Kd.R_append k44 (w0 := w) w.heap.size rfl (.tmp 188) (.tmp 193) 27 44 (.agg #[(.string ⟨#[]⟩), (.string ⟨#[]⟩), (.int .i64 0), (.int .i64 0), (.int .i64 0), (.int .i64 0)]) 64 rfl Try.underlying27 info44 rfl (by decide) (by omega) u20 x20_8 (⟨(rd_T44 t383 x21_8).f0, (rd_T44 t383 x21_8).f1, (rd_T44 t383 x21_8).f2, (rd_T44 t383 x21_8).f3, (rd_T44 t383 x21_8).f4, (rd_T44 t383 x21_8).f5⟩ : S44) [.string ((rd_T44 t383 x21_8).f0), .string ((rd_T44 t383 x21_8).f1), .int .i64 ((rd_T44 t383 x21_8).f2), .int .i64 ((rd_T44 t383 x21_8).f3), .int .i64 ((rd_T44 t383 x21_8).f4), .int .i64 ((rd_T44 t383 x21_8).f5)] (fun k_ => some k_ ≠ (.slice (some ad420) t383.length co24 : Value).ownBlock) (fun _ => False) rfl rfl ?aP (fun _ hk => hk.elim) ?aF ?aO ?aB ?aS ?aL ?_; (case aP => exact k44_mkM _ _ _ (⟨(rd_T44 t383 x21_8).f0, (rd_T44 t383 x21_8).f1, (rd_T44 t383 x21_8).f2, (rd_T44 t383 x21_8).f3, (rd_T44 t383 x21_8).f4, (rd_T44 t383 x21_8).f5⟩ : S44)); (case aB => exact (qb HB)); (case aF => exact (fun k_ hk => Kd.fresh' (Kd.R_lt (qr HO_5)) k_ hk)); (case aO => exact (qr HO_20)); (case aS => exact (below_size (qb HB))); (case aL => have := LMc80.out; omega); intro v422 w81 ho hb hg hat; rw [← Ny421.out] at ho; have n0_ := Aside0.mk (Kd.R_after (ok := (fun _ => True)) (by (with_reducible repeat (first | apply Kd.R_alloc | apply Kd.R_drewN | apply Kd.R_drew)); exact Kd.R_mono HO_5.out (fun _ hk => ⟨trivial, hk⟩)) hg hat); have n1_ := Aside0.mk (Kd.R_over' (qr HO_10) (Kd.R_typed (qr HO_20)) (by decide) hg); have n2_ := Aside0.mk (hb); have n3_ := Aside0.mk (ho); clear HO_5; clear HO_10; clear HB; clear HO_20; have HO_5 := n0_; have HO_10 := n1_; have HB := n2_; have HO423 := n3_; clear n0_ n1_ n2_ n3_; clear ho hb hg hat)))
                                   go_roundg kj72
                                   case measure => have := HJ2.out; have := HJ15.out; have := HK3.out; have := HJ38.out; have := HJ44.out; have := HJ57.out; have := HJ63.out; have := HK8.out; have := HJ72.out; omega
                                   case rel => exact ⟨(y421), (wrap64 (x21_8 + 1)), (by first | rfl | (simp; done) | (simp [*]; done)), H', ⟨by have := HJ2.out; have := HJ15.out; have := HK3.out; have := HJ38.out; have := HJ44.out; have := HJ57.out; have := HJ63.out; have := HK8.out; have := HJ72.out; omega⟩, ⟨by (with_reducible repeat (first | apply Kd.R_alloc | apply Kd.R_drewN | apply Kd.R_drew)); exact Kd.R_mono HO_5.out (fun _ hk => hk.2)⟩, ⟨by (with_reducible repeat (first | apply Kd.R_alloc | apply Kd.R_drewN | apply Kd.R_drew)); exact HO_10.out⟩, ⟨by (with_reducible repeat (first | apply Kd.R_alloc | apply Kd.R_drewN | apply Kd.R_drew)); exact HO423.out⟩, ⟨qb HB⟩⟩
                                  ·rw [if_neg c80] at H; exact absurd H (by simp)
                                 ·rw [if_neg c79] at H; exact absurd H (by simp)
                                ·rw [if_neg c78] at H; exact absurd H (by simp)
                               ·replace c77 := Bool.eq_false_iff.mpr c77; subst c77
                                have H1 : (laws_FnPrices.l1 kj72 t383 (rdOf ByteArray.empty y386 t389) (rdOf ByteArray.empty y391 t394) (wrap64 ((wrap64 (t396 + 1)) + t397)) t398 x12_44 x13_3 x14_63 t409 x20_8 (wrap64 (x21_8 + 1))) = some r := by rw [if_neg (show ¬ (false = true) by decide)] at H; exact H
                                clear H; have H := H1; clear H1; have H' := Aside0.mk H; clear H; go_wp2
                                repeat (go_quiet (fail); try go_wp2)
                                go_roundg kj72
                                case measure => have := HJ2.out; have := HJ15.out; have := HK3.out; have := HJ38.out; have := HJ44.out; have := HJ57.out; have := HJ63.out; have := HK8.out; have := HJ72.out; omega
                                case rel => exact ⟨(x20_8), (wrap64 (x21_8 + 1)), (by first | rfl | (simp; done) | (simp [*]; done)), H', ⟨by have := HJ2.out; have := HJ15.out; have := HK3.out; have := HJ38.out; have := HJ44.out; have := HJ57.out; have := HJ63.out; have := HK8.out; have := HJ72.out; omega⟩, ⟨by (with_reducible repeat (first | apply Kd.R_alloc | apply Kd.R_drewN | apply Kd.R_drew)); exact HO_5.out⟩, ⟨by (with_reducible repeat (first | apply Kd.R_alloc | apply Kd.R_drewN | apply Kd.R_drew)); exact HO_10.out⟩, ⟨by (with_reducible repeat (first | apply Kd.R_alloc | apply Kd.R_drewN | apply Kd.R_drew)); exact HO_20.out⟩, ⟨qb HB⟩⟩
                            ·rw [if_neg c72] at H; have c72b0 : decide (x21_8 < (t383.length : Int)) = false := decide_eq_false c72; clear c72; replace H := Option.bind_eq_some_iff.mp H; obtain ⟨⟨t424, t425, t426⟩, A820, H⟩ := H; replace H : (if t426 = t409 then (if t426 = 0 then (laws_FnPrices.j9 k8 t383 (rdOf ByteArray.empty y386 t389) (rdOf ByteArray.empty y391 t394) (wrap64 ((wrap64 (t396 + 1)) + t397)) t398 x12_44 x13_3 (t424 != x14_63)) else (laws_FnPrices.j9 k8 t383 (rdOf ByteArray.empty y386 t389) (rdOf ByteArray.empty y391 t394) (wrap64 ((wrap64 (t396 + 1)) + t397)) t398 x12_44 x13_3 false)) else (laws_FnPrices.j9 k8 t383 (rdOf ByteArray.empty y386 t389) (rdOf ByteArray.empty y391 t394) (wrap64 ((wrap64 (t396 + 1)) + t397)) t398 x12_44 x13_3 true)) = some r := H; have A82 := Aside0.mk A820; clear A820; have HC83 := Aside0.mk H; clear H; obtain ⟨Ao84, co84, eo84⟩ := Kd.R_slice HO_20.out; subst eo84
                             go_upto_region 34 with (first | (go_at_call 17; (with_reducible refine (impl_PriceAt.calls k8 _ _ x20_8 (rdOf ByteArray.empty y386 t389) (rdOf ByteArray.empty y391 t394) x13_3 t424 t425 t426 _ ?side1 ?side2 A82.out).mono ?_); (case side1 => repeat (first | exact (Kd.R_reads' HO_20.out).2.2 | (with_reducible refine Kd.C_alloc ?_ _) | (with_reducible refine Kd.C_drewN ?_ _) | (with_reducible refine Kd.C_drew ?_))); (case side2 => exact (Kd.R_reads' HO_20.out).2.1); rintro e w85 ⟨rfl, hb⟩; have n0_ := Aside0.mk (Kd.R_below (qr HO_5) hb); have n1_ := Aside0.mk (Kd.R_below (qr HO_10) hb); have n2_ := Aside0.mk (Kd.R_below (qr HO_20) hb); have n3_ := Aside0.mk (below_step (qb HB) hb); clear HO_5; clear HO_10; clear HO_20; clear HB; have HO_5 := n0_; have HO_10 := n1_; have HO_20 := n2_; have HB := n3_; clear n0_ n1_ n2_ n3_; (try clear hb); (try clear hb2); (try clear hk); (try clear hi)))
                             repeat (go_quiet (first | (go_at_call 17; (with_reducible refine (impl_PriceAt.calls k8 _ _ x20_8 (rdOf ByteArray.empty y386 t389) (rdOf ByteArray.empty y391 t394) x13_3 t424 t425 t426 _ ?side1 ?side2 A82.out).mono ?_); (case side1 => repeat (first | exact (Kd.R_reads' HO_20.out).2.2 | (with_reducible refine Kd.C_alloc ?_ _) | (with_reducible refine Kd.C_drewN ?_ _) | (with_reducible refine Kd.C_drew ?_))); (case side2 => exact (Kd.R_reads' HO_20.out).2.1); rintro e w85 ⟨rfl, hb⟩; have n0_ := Aside0.mk (Kd.R_below (qr HO_5) hb); have n1_ := Aside0.mk (Kd.R_below (qr HO_10) hb); have n2_ := Aside0.mk (Kd.R_below (qr HO_20) hb); have n3_ := Aside0.mk (below_step (qb HB) hb); clear HO_5; clear HO_10; clear HO_20; clear HB; have HO_5 := n0_; have HO_10 := n1_; have HO_20 := n2_; have HB := n3_; clear n0_ n1_ n2_ n3_; (try clear hb); (try clear hb2); (try clear hk); (try clear hi))); go_upto_region 34 with (first | (go_at_call 17; (with_reducible refine (impl_PriceAt.calls k8 _ _ x20_8 (rdOf ByteArray.empty y386 t389) (rdOf ByteArray.empty y391 t394) x13_3 t424 t425 t426 _ ?side1 ?side2 A82.out).mono ?_); (case side1 => repeat (first | exact (Kd.R_reads' HO_20.out).2.2 | (with_reducible refine Kd.C_alloc ?_ _) | (with_reducible refine Kd.C_drewN ?_ _) | (with_reducible refine Kd.C_drew ?_))); (case side2 => exact (Kd.R_reads' HO_20.out).2.1); rintro e w85 ⟨rfl, hb⟩; have n0_ := Aside0.mk (Kd.R_below (qr HO_5) hb); have n1_ := Aside0.mk (Kd.R_below (qr HO_10) hb); have n2_ := Aside0.mk (Kd.R_below (qr HO_20) hb); have n3_ := Aside0.mk (below_step (qb HB) hb); clear HO_5; clear HO_10; clear HO_20; clear HB; have HO_5 := n0_; have HO_10 := n1_; have HO_20 := n2_; have HB := n3_; clear n0_ n1_ n2_ n3_; (try clear hb); (try clear hb2); (try clear hk); (try clear hi))))
                             (try simp only [Act.put, sA, s0, sS])
                             go_cut [215] (fun v215 wc => ∃ (kq : Nat) (x215_82 : Bool), v215 = .bool x215_82 ∧ Aside0 (laws_FnPrices.j9 kq t383 (rdOf ByteArray.empty y386 t389) (rdOf ByteArray.empty y391 t394) (wrap64 ((wrap64 (t396 + 1)) + t397)) t398 x12_44 x13_3 x215_82 = some r) ∧ Aside0 (kq ≤ k8) ∧ Aside0 (Kd.R k44 44 wc w.heap.size (fun _ => True) (.slice Ao24 t383.length co24) t383) ∧ Aside0 (Kd.R k40 40 wc w.heap.size (fun _ => True) (.slice (some ad413) t398.length co69) t398) ∧ Aside0 (Below w.heap.size w wc))
                             case first => as_aux_lemma =>
                              have H := HC83.out; clear HC83; by_cases c86 : t426 = t409
                              ·rw [if_pos c86] at H; have c86b0 : (t426 == t409) = true := beq_iff_eq.mpr c86; have c86b1 : (t426 != t409) = false := bne_eq_false_iff_eq.mpr c86; clear c86
                               (first | rw [c86b0] | (simp only [i64_w, i32_w]; rw [c86b0]) | skip)
                               by_cases c87 : t426 = 0
                               ·rw [if_pos c87] at H; have c87b0 : (t426 == 0) = true := beq_iff_eq.mpr c87; have c87b1 : (t426 != 0) = false := bne_eq_false_iff_eq.mpr c87; clear c87; have H' := Aside0.mk H; clear H; go_wp2
                                repeat (go_quiet (fail); try go_wp2)
                                go_meet
                                case rel => exact ⟨_, ((t424 != x14_63)), (by first | rfl | (simp; done) | (simp [*]; done)), H', ⟨by have := HJ2.out; have := HJ15.out; have := HK3.out; have := HJ38.out; have := HJ44.out; have := HJ57.out; have := HJ63.out; have := HK8.out; first | omega | exact Nat.le_refl _⟩, ⟨by (with_reducible repeat (first | apply Kd.R_alloc | apply Kd.R_drewN | apply Kd.R_drew)); exact Kd.R_mono HO_5.out (fun _ hk => trivial)⟩, ⟨by (with_reducible repeat (first | apply Kd.R_alloc | apply Kd.R_drewN | apply Kd.R_drew)); exact HO_10.out⟩, ⟨qb HB⟩⟩
                               ·rw [if_neg c87] at H; have c87b0 : (t426 == 0) = false := beq_eq_false_iff_ne.mpr c87; have c87b1 : (t426 != 0) = true := bne_iff_ne.mpr c87; have H' := Aside0.mk H; clear H; go_wp2
                                repeat (go_quiet (fail); try go_wp2)
                                go_meet
                                case rel => exact ⟨_, (false), (by first | rfl | (simp; done) | (simp [*]; done)), H', ⟨by have := HJ2.out; have := HJ15.out; have := HK3.out; have := HJ38.out; have := HJ44.out; have := HJ57.out; have := HJ63.out; have := HK8.out; first | omega | exact Nat.le_refl _⟩, ⟨by (with_reducible repeat (first | apply Kd.R_alloc | apply Kd.R_drewN | apply Kd.R_drew)); exact Kd.R_mono HO_5.out (fun _ hk => trivial)⟩, ⟨by (with_reducible repeat (first | apply Kd.R_alloc | apply Kd.R_drewN | apply Kd.R_drew)); exact HO_10.out⟩, ⟨qb HB⟩⟩
                              ·rw [if_neg c86] at H; exact absurd H (by simp [laws_FnPrices.n1, laws_FnPrices.n5, laws_FnPrices.n9])
                             case rest =>
                              clear HC83; (try clear c1); (try clear c2); (try clear p2); (try clear c3); (try clear p3); (try clear q3); (try clear hx3); (try clear c4); (try clear c4b0); (try clear c4b1); (try clear p4); (try clear q4); (try clear hx4); (try clear qi4); (try clear c5); (try clear c6); (try clear p6); (try clear c7); (try clear c8); (try clear c8b0); (try clear c9); (try clear c9b0); (try clear c11); (try clear c11b0); (try clear c12); (try clear c12b0); (try clear c27); (try clear c28); (try clear c28b0); (try clear c28b1); (try clear c29); (try clear c29b0); (try clear c29b1); (try clear c29b2); (try clear c32); (try clear c32b0); (try clear c32b1); (try clear c37); (try clear c38); (try clear c38b0); (try clear p39); (try clear q39); (try clear hx39); (try clear c40); (try clear c40b0); (try clear p40); (try clear q40); (try clear hx40); (try clear qi40); (try clear p41); (try clear q41); (try clear hx41); (try clear c42); (try clear c42b0); (try clear p42); (try clear q42); (try clear hx42); (try clear c46); (try clear c48); (try clear c48b0); (try clear c49); (try clear c49b0); (try clear c51); (try clear c51b0); (try clear c52); (try clear c52b0); (try clear c53); (try clear c53b0); (try clear c53b1); (try clear c61); (try clear c61b0); (try clear c61b1); (try clear c62); (try clear c62b0); (try clear c62b1); (try clear c63); (try clear p64); (try clear c65); (try clear c65b0); (try clear c65b1); (try clear c66); (try clear c66b0); (try clear c67); (try clear c67b0); (try clear c68); (try clear c68b0); (try clear c68b1); (try clear c72); (try clear c72b0); (try clear c74); (try clear c74b0); (try clear c75); (try clear c75b0); (try clear c75b1); (try clear c76); (try clear c76b0); (try clear c77); (try clear c78); (try clear c78b0); (try clear c79); (try clear c79b0); (try clear c80); (try clear c86); (try clear c86b0); (try clear c86b1); (try clear c87); (try clear c87b0); (try clear c87b1); (try clear hx390_0); (try clear hx395_0); (try clear hx403_0); (try clear hx403_1); (try clear hx404_0); (try clear hx404_1); (try clear hx405_0); (try clear hx405_1); (try clear hx406_0); (try clear hx406_1); (try clear hx413_0); (try clear hx413_1); (try clear hx417_0); (try clear hx417_1); (try clear hx417_2); (try clear hx417_3); (try clear hx417_4); (try clear hx417_5); (try clear hx418_0); (try clear hx418_1); (try clear hx418_2); (try clear hx418_3); (try clear hx418_4); (try clear hx418_5); (try clear hx419_0); (try clear hx419_1); (try clear hx419_2); (try clear hx419_3); (try clear hx419_4); (try clear hx419_5); (try clear hx420_0); (try clear hx420_1); (try clear hx420_2); (try clear hx420_3); (try clear hx420_4); (try clear hx420_5); (try clear p2); (try clear p3); (try clear p39); (try clear p390); (try clear p395); (try clear p4); (try clear p40); (try clear p403); (try clear p404); (try clear p405); (try clear p406); (try clear p41); (try clear p413); (try clear p417); (try clear p418); (try clear p419); (try clear p420); (try clear p6); (try clear p64); (try clear q3); (try clear q39); (try clear q390); (try clear q395); (try clear q4); (try clear q40); (try clear q403); (try clear q404); (try clear q405); (try clear q406); (try clear q41); (try clear q413); (try clear q417); (try clear q418); (try clear q419); (try clear q420); obtain ⟨kq, x215_82, rfl, HA, HJ82, HO_5, HO_10, HB⟩ := hcut
                              cases kq with
                              | zero => exact absurd HA.out (by simp [laws_FnPrices.j9])
                              | succ kj82 =>
                               have H := HA.out; clear HA; simp only [laws_FnPrices.j9] at H; by_cases c88 : x215_82 = true
                               ·subst c88
                                have H1 : (none) = some r := by rw [if_pos rfl] at H; exact H
                                exact absurd H1 (by simp [laws_FnPrices.n1, laws_FnPrices.n5, laws_FnPrices.n9])
                               ·replace c88 := Bool.eq_false_iff.mpr c88; subst c88
                                have H1 : (laws_FnPrices.l0 kj82 t383 (rdOf ByteArray.empty y386 t389) (rdOf ByteArray.empty y391 t394) (wrap64 ((wrap64 (t396 + 1)) + t397)) t398 x12_44 (wrap64 (x13_3 + 1))) = some r := by rw [if_neg (show ¬ (false = true) by decide)] at H; exact H
                                clear H; have H := H1; clear H1; have H' := Aside0.mk H; clear H; go_wp2
                                repeat (go_quiet (fail); try go_wp2)
                                go_roundg kj82
                                case measure => have := HJ2.out; have := HJ15.out; have := HK3.out; have := HJ38.out; have := HJ44.out; have := HJ57.out; have := HJ63.out; have := HK8.out; have := HJ82.out; omega
                                case rel => exact ⟨(x12_44), (wrap64 (x13_3 + 1)), (by first | rfl | (simp; done) | (simp [*]; done)), (by first | rfl | (simp; done) | (simp [*]; done)), H', ⟨by have := HJ2.out; have := HJ15.out; have := HK3.out; have := HJ38.out; have := HJ44.out; have := HJ57.out; have := HJ63.out; have := HK8.out; have := HJ82.out; omega⟩, ⟨by (with_reducible repeat (first | apply Kd.R_alloc | apply Kd.R_drewN | apply Kd.R_drew)); exact HO_5.out⟩, ⟨by (with_reducible repeat (first | apply Kd.R_alloc | apply Kd.R_drewN | apply Kd.R_drew)); exact HO_10.out⟩, ⟨qb HB⟩⟩
                         ·rw [if_neg c68] at H; exact absurd H (by simp [laws_FnPrices.n1, laws_FnPrices.n5, laws_FnPrices.n9])
                        ·rw [if_neg c67] at H; exact absurd H (by simp)
                       ·rw [if_neg c66] at H; exact absurd H (by simp)
             ·rw [if_neg c38] at H; have c38b0 : decide (x13_3 < (wrap64 ((wrap64 (t396 + 1)) + t397))) = false := decide_eq_false c38; clear c38; obtain rfl := Option.some.inj H; obtain ⟨Ao90, co90, eo90⟩ := Kd.R_slice HO_10.out; subst eo90; go_wp2
              repeat (go_quiet (fail); try go_wp2)
              go_ret; exact ⟨eqq, qb HB⟩
       ·rw [if_neg c12] at H; exact absurd H (by simp)
      ·rw [if_neg c11] at H; exact absurd H (by simp)
     ·rw [if_neg c9] at H; exact absurd H (by simp)
    ·rw [if_neg c8] at H; exact absurd H (by simp)

/-- THE ONE PURE STATEMENT of laws_FnPrices: yours. -/
def laws_FnPrices.Pure : Prop := ∀ (l0 : List Int) (l1 : List Int), l0.length ≤ maxLen → l0.length * 1 ≤ 140737488351232 → (∀ x ∈ l0, (Lit.int .u8 x).wf = true) → l1.length ≤ maxLen → l1.length * 1 ≤ 140737488351232 → (∀ x ∈ l1, (Lit.int .u8 x).wf = true) → ∃ k, laws_FnPrices.f k l0 l1 = some true
theorem laws_FnPrices.walk (P : laws_FnPrices.Pure) (a0 : Option Addr) (len0 cap0 : Nat) (z0 : List Int) (a1 : Option Addr) (len1 cap1 : Nat) (z1 : List Int) (w : World) (w0 : (a0 = none ∧ len0 = 0 ∧ cap0 = 0 ∧ z0 = []) ∨ ∃ x, a0 = some x ∧ len0 ≤ cap0 ∧ cap0 ≤ maxLen ∧ z0.length = cap0 ∧ (∀ i, i < z0.length → w.cell? (x.add i) = some (.int .u8 (z0.getD i 0))) ∧ ∀ n ∈ z0, (Lit.int .u8 n).wf = true) (y0 : len0 * 1 ≤ 140737488351232) (w1 : (a1 = none ∧ len1 = 0 ∧ cap1 = 0 ∧ z1 = []) ∨ ∃ x, a1 = some x ∧ len1 ≤ cap1 ∧ cap1 ≤ maxLen ∧ z1.length = cap1 ∧ (∀ i, i < z1.length → w.cell? (x.add i) = some (.int .u8 (z1.getD i 0))) ∧ ∀ n ∈ z1, (Lit.int .u8 n).wf = true) (y1 : len1 * 1 ≤ 140737488351232) :
  Calls Try.prog 4 #[.slice a0 len0 cap0, .slice a1 len1 cap1] w fun e w' => e = .returned (.bool true) ∧ Below w.heap.size w w' := by
 obtain ⟨l0, rfl, hr0, hm0, hw0, hc0⟩ := ReadsInt.ofRowC w0; obtain ⟨l1, rfl, hr1, hm1, hw1, hc1⟩ := ReadsInt.ofRowC w1; obtain ⟨k, h⟩ := P l0 l1 hm0 y0 hw0 hm1 y1 hw1; refine (laws_FnPrices.calls k _ _ l0 _ _ l1 true w (Kd.C_of_reads (d := (0 : Int)) (h1 := fun _ => rfl) hr0) hc0 (Kd.C_of_reads (d := (0 : Int)) (h1 := fun _ => rfl) hr1) hc1 h).mono ?_; rintro e w' ⟨rfl, hd⟩; exact ⟨rfl, hd⟩

end Go.Proofs.Ytembklbofdgmgaa.PAll
