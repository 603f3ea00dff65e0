/-
  The ballot's Commit: clone, sort falling, index: by the shelf's contracts.
-/
import Derived.Test.YtoddbmbifgoliaaSmall
import Derived.Test.YtoddbmbifgoliaaShelf
import Derived.Shelf.SlSortCmp.NoneTotal
import Derived.Shelf.Slices.Clone
import Derived.Lib.OwnBridge
namespace Go.Proofs.Ytoddbmbifgoliaa
open Go.RowKit Go.Shelf Go.Lib Go.Sort

theorem ltD (x y : Int) : ltOf cfD x y = decide (y < x) := by
  unfold ltOf cfD
  by_cases h1 : y < x
  · simp [h1]
  · by_cases h2 : x < y <;> simp [h1, h2]
theorem swoD : SWO (ltOf cfD) where
  irrefl x := by rw [ltD]; simp
  trans x y z h1 h2 := by rw [ltD] at *; simp at *; omega
  ntrans x y z h1 h2 := by rw [ltD] at *; simp at *; omega
theorem totD (x y : Int) (h1 : ltOf cfD x y = false) (h2 : ltOf cfD y x = false) : x = y := by rw [ltD] at *; simp at *; omega
theorem geD : (fun x y : Int => !ltOf cfD y x) = fun x y => decide (y ≤ x) := by
  funext x y
  rw [ltD]
  by_cases h : y ≤ x
  · have h' : ¬ x < y := by omega
    simp [h, h']
  · have h' : x < y := by omega
    simp [h, h']
theorem cmpReads20 (blk off size : Nat) (w : World) : CmpReads Try.prog 20 #[] (Value.int .i64) cfD blk off size w := fun _ _ _ _ x y => closure20 x y _
end Go.Proofs.Ytoddbmbifgoliaa
