/- The chapter's examples, reckoned. -/
import Derived.Test.YtjiacdihfbbfjaaLit
namespace Go.Proofs.Ytjiacdihfbbfjaa
open Go.RowKit
theorem ex1 : checkErr (gridL 1 1 1 []) = 0 ∧ movesOut (gridL 1 1 1 []) = [[0]] := ⟨by kernel_rfl, by kernel_rfl⟩
theorem ex2 : checkErr (gridL 1 2 2 [3]) = 0 ∧ movesOut (gridL 1 2 2 [3]) = [[0, 1, 2], [0, 2, 1]] := ⟨by kernel_rfl, by kernel_rfl⟩
theorem ex3 : checkErr (gridL 2 3 3 [0, 6]) = 0 ∧ (movesOut (gridL 2 3 3 [0, 6])).length = 12 := ⟨by kernel_rfl, by kernel_rfl⟩
theorem ex4 : checkErr (gridL 1 2 2 []) = 0 ∧ isOut (gridL 1 2 2 []) [1, 2, 3, 0] = false ∧ isOut (gridL 1 2 2 []) [1, 3, 0, 2] = true := ⟨by kernel_rfl, by kernel_rfl, by kernel_rfl⟩
theorem ex5 : swapsErr 3 [[0, 1], [1, 2]] = 0 ∧ swapsOut 3 [[0, 1], [1, 2]] = [] := ⟨by kernel_rfl, by kernel_rfl⟩
theorem ex6 : swapsErr 4 [[0, 1], [3, 2]] = 0 ∧ swapsOut 4 [[0, 1], [3, 2]] = [[3, 2, 1, 0]] := ⟨by kernel_rfl, by kernel_rfl⟩
theorem ex7 : swapsErr 257 [] = 140 ∧ swapsOut 257 [] = [] := ⟨by kernel_rfl, by kernel_rfl⟩
theorem ex8 : checkErr zeroGrid = 130 ∧ movesOut zeroGrid = [] := ⟨by kernel_rfl, by kernel_rfl⟩
end Go.Proofs.Ytjiacdihfbbfjaa
