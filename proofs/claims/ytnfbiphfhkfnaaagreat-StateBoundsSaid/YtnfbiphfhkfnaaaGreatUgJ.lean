/-
  The statement StateBounds: of a state that may be, of no line more is authorised, received or paid back than was shipped and paid, without any condition.
-/
import Derived.Test.YtnfbiphfhkfnaaaGreatUgI
import Derived.Test.YtnfbiphfhkfnaaaGreatUgA
import Derived.Test.YtnfbiphfhkfnaaaGreatAwK
import Derived.Test.YtnfbiphfhkfnaaaGreatAwL
set_option linter.unusedSimpArgs false
set_option linter.unusedVariables false
set_option linter.unusedSimpArgs false
set_option linter.unusedVariables false
set_option maxHeartbeats 4000000
set_option maxRecDepth 8000
namespace Go.Aw.U1
open Go Go.Proofs

/-- what the walk asks of a state -/
structure Wf (s : Sta) : Prop where
  ids : idsOk s
  ords : ∀ o ∈ s.orders, ∀ x ∈ o.ls, ∀ y ∈ x.ss, sOk y
  rmas : ∀ r ∈ s.rmas, rmOk r
  units : ∀ u ∈ s.units, sOk u.s
  works : ∀ u ∈ s.works, sOk u.s
  claims : ∀ u ∈ s.claims, ssOk u.ss
  memos : ∀ u ∈ s.memos, ssOk u.ss ∧ u.am.length ≤ 9223372036854775807
theorem Wf.sta {s : Sta} (h : Wf s) (f : FewOk s) : StaOk s where
  items := by have := f.items; omega
  orders := ⟨by have := f.orders; omega, fun o ho => ⟨by have := (f.lines o ho).1; omega, fun x hx => ⟨⟨by have := ((f.lines o ho).2 x hx).1; omega, fun y hy => h.ords o ho x hx y hy⟩, by have := ((f.lines o ho).2 x hx).1; omega⟩⟩⟩
  rmas := ⟨by have := f.rmas; omega, h.rmas⟩
  units := ⟨by have := f.units; omega, h.units⟩
  works := ⟨by have := f.works; omega, h.works⟩
  claims := ⟨by have := f.claims; omega, h.claims⟩
  memos := ⟨by have := f.memos; omega, h.memos⟩
  moves := f.moves
  asks := by have := f.asks; omega
  cuts := by have := f.cuts; omega
  fees := by have := f.fees; omega
  rows := by have := f.rows; omega
  keys := by have := f.keys; omega
end Go.Aw.U1

/-
  The orders of this cut's regions.
-/
namespace Go.Aw.U1
open Go
def pls : List (Nat × List (Nat × Rp)) := [
  (5, [(24, .pl (.one 0 (.one 1 (.one 3 (.one 8 (.one 10 (.imm 2 (.one 4 (.one 5 (.imm 6 (.one 7 (.one 9 (.one 11 (.one 12 (.one 13 (.one 14 (.one 15 (.one 16 (.one 17 .nil))))))))))))))))))), (28, .pl (.one 0 (.one 1 (.one 3 (.one 9 (.one 11 (.imm 2 (.one 4 (.one 5 (.imm 6 (.one 7 (.one 8 (.one 10 (.one 12 (.one 13 (.one 14 (.one 15 (.one 16 (.one 17 (.one 18 (.one 19 .nil)))))))))))))))))))))]),
  (7, [(7, .pl (.one 0 (.one 1 (.one 2 (.one 3 (.one 4 (.one 5 (.one 6 (.one 7 (.one 8 (.one 9 (.one 10 (.one 11 (.one 12 (.one 13 (.one 14 (.one 15 (.one 16 (.one 17 (.one 18 (.one 19 (.one 20 (.one 21 (.one 22 (.one 23 (.one 24 (.one 25 (.one 26 (.one 27 (.one 28 (.one 29 (.one 30 (.one 31 (.one 32 (.one 33 (.one 34 (.one 35 (.one 36 (.one 37 (.one 38 (.one 39 (.one 40 (.one 41 (.one 42 (.one 43 (.one 44 (.one 45 (.one 46 (.one 47 (.one 48 (.one 49 (.one 50 (.one 51 (.fork 52 (.one 53 .nil) 53 (.one 52 .nil) (.one 54 (.one 55 (.one 56 (.one 57 (.one 58 (.one 59 (.one 60 (.one 61 (.one 62 (.one 63 (.one 64 (.one 65 (.one 66 (.one 67 (.one 68 (.one 69 (.one 70 (.one 71 (.one 72 .nil)))))))))))))))))))))))))))))))))))))))))))))))))))))))))))))))))))))))))]),
  (13, [(12, .pl (.one 0 (.one 2 (.one 6 (.one 1 (.one 3 (.one 4 (.one 5 (.one 7 (.one 8 .nil))))))))))]),
  (29, [(4, .pl (.one 0 (.one 2 (.one 8 (.one 9 (.imm 1 (.one 3 (.one 4 (.imm 5 (.one 6 (.one 7 (.one 10 (.one 11 (.one 12 .nil))))))))))))))]),
  (32, [(1, .od (.one 0 (.one 3 (.one 6 (.one 1 (.alt 2 (.one 4 (.alt 5 (.one 7 (.one 9 (.one 8 (.one 10 (.one 11 (.one 12 (.one 13 (.one 14 .done)))))))) (.alt 7 (.one 9 (.one 5 (.one 8 (.one 10 (.one 11 (.one 12 (.one 13 (.one 14 .done)))))))) .no))) (.alt 4 (.alt 2 (.alt 5 (.one 7 (.one 9 (.one 8 (.one 10 (.one 11 (.one 12 (.one 13 (.one 14 .done)))))))) (.alt 7 (.one 9 (.one 5 (.one 8 (.one 10 (.one 11 (.one 12 (.one 13 (.one 14 .done)))))))) .no)) (.alt 7 (.one 2 (.one 9 (.one 5 (.one 8 (.one 10 (.one 11 (.one 12 (.one 13 (.one 14 .done))))))))) .no)) (.alt 7 (.alt 2 (.one 4 (.one 9 (.one 5 (.one 8 (.one 10 (.one 11 (.one 12 (.one 13 (.one 14 .done))))))))) (.alt 4 (.one 2 (.one 9 (.one 5 (.one 8 (.one 10 (.one 11 (.one 12 (.one 13 (.one 14 .done))))))))) .no)) .no)))))))), (2, .od (.one 0 (.one 3 (.one 1 (.alt 2 (.one 4 (.one 6 (.one 5 (.one 7 (.one 8 (.one 9 .done)))))) (.alt 4 (.one 2 (.one 6 (.one 5 (.one 7 (.one 8 (.one 9 .done)))))) .no)))))), (8, .od (.one 0 (.one 3 (.one 6 (.one 9 (.one 1 (.alt 2 (.one 4 (.alt 5 (.one 7 (.alt 8 (.one 10 (.one 11 (.one 12 (.one 13 (.one 14 .done))))) (.alt 10 (.one 8 (.one 11 (.one 12 (.one 13 (.one 14 .done))))) .no))) (.alt 7 (.alt 5 (.alt 8 (.one 10 (.one 11 (.one 12 (.one 13 (.one 14 .done))))) (.alt 10 (.one 8 (.one 11 (.one 12 (.one 13 (.one 14 .done))))) .no)) (.alt 10 (.one 5 (.one 8 (.one 11 (.one 12 (.one 13 (.one 14 .done)))))) .no)) (.alt 10 (.alt 5 (.one 7 (.one 8 (.one 11 (.one 12 (.one 13 (.one 14 .done)))))) (.alt 7 (.one 5 (.one 8 (.one 11 (.one 12 (.one 13 (.one 14 .done)))))) .no)) .no)))) (.alt 4 (.alt 2 (.alt 5 (.one 7 (.alt 8 (.one 10 (.one 11 (.one 12 (.one 13 (.one 14 .done))))) (.alt 10 (.one 8 (.one 11 (.one 12 (.one 13 (.one 14 .done))))) .no))) (.alt 7 (.alt 5 (.alt 8 (.one 10 (.one 11 (.one 12 (.one 13 (.one 14 .done))))) (.alt 10 (.one 8 (.one 11 (.one 12 (.one 13 (.one 14 .done))))) .no)) (.alt 10 (.one 5 (.one 8 (.one 11 (.one 12 (.one 13 (.one 14 .done)))))) .no)) (.alt 10 (.alt 5 (.one 7 (.one 8 (.one 11 (.one 12 (.one 13 (.one 14 .done)))))) (.alt 7 (.one 5 (.one 8 (.one 11 (.one 12 (.one 13 (.one 14 .done)))))) .no)) .no))) (.alt 7 (.alt 2 (.alt 5 (.alt 8 (.one 10 (.one 11 (.one 12 (.one 13 (.one 14 .done))))) (.alt 10 (.one 8 (.one 11 (.one 12 (.one 13 (.one 14 .done))))) .no)) (.alt 10 (.one 5 (.one 8 (.one 11 (.one 12 (.one 13 (.one 14 .done)))))) .no)) (.alt 10 (.one 2 (.one 5 (.one 8 (.one 11 (.one 12 (.one 13 (.one 14 .done))))))) .no)) (.alt 10 (.alt 2 (.alt 5 (.one 7 (.one 8 (.one 11 (.one 12 (.one 13 (.one 14 .done)))))) (.alt 7 (.one 5 (.one 8 (.one 11 (.one 12 (.one 13 (.one 14 .done)))))) .no)) (.alt 7 (.one 2 (.one 5 (.one 8 (.one 11 (.one 12 (.one 13 (.one 14 .done))))))) .no)) .no))) (.alt 7 (.alt 2 (.one 4 (.alt 5 (.alt 8 (.one 10 (.one 11 (.one 12 (.one 13 (.one 14 .done))))) (.alt 10 (.one 8 (.one 11 (.one 12 (.one 13 (.one 14 .done))))) .no)) (.alt 10 (.one 5 (.one 8 (.one 11 (.one 12 (.one 13 (.one 14 .done)))))) .no))) (.alt 4 (.alt 2 (.alt 5 (.alt 8 (.one 10 (.one 11 (.one 12 (.one 13 (.one 14 .done))))) (.alt 10 (.one 8 (.one 11 (.one 12 (.one 13 (.one 14 .done))))) .no)) (.alt 10 (.one 5 (.one 8 (.one 11 (.one 12 (.one 13 (.one 14 .done)))))) .no)) (.alt 10 (.one 2 (.one 5 (.one 8 (.one 11 (.one 12 (.one 13 (.one 14 .done))))))) .no)) (.alt 10 (.alt 2 (.one 4 (.one 5 (.one 8 (.one 11 (.one 12 (.one 13 (.one 14 .done))))))) (.alt 4 (.one 2 (.one 5 (.one 8 (.one 11 (.one 12 (.one 13 (.one 14 .done))))))) .no)) .no))) (.alt 10 (.alt 2 (.one 4 (.alt 5 (.one 7 (.one 8 (.one 11 (.one 12 (.one 13 (.one 14 .done)))))) (.alt 7 (.one 5 (.one 8 (.one 11 (.one 12 (.one 13 (.one 14 .done)))))) .no))) (.alt 4 (.alt 2 (.alt 5 (.one 7 (.one 8 (.one 11 (.one 12 (.one 13 (.one 14 .done)))))) (.alt 7 (.one 5 (.one 8 (.one 11 (.one 12 (.one 13 (.one 14 .done)))))) .no)) (.alt 7 (.one 2 (.one 5 (.one 8 (.one 11 (.one 12 (.one 13 (.one 14 .done))))))) .no)) (.alt 7 (.alt 2 (.one 4 (.one 5 (.one 8 (.one 11 (.one 12 (.one 13 (.one 14 .done))))))) (.alt 4 (.one 2 (.one 5 (.one 8 (.one 11 (.one 12 (.one 13 (.one 14 .done))))))) .no)) .no))) .no))))))))))]),
  (47, [(10, .pl (.one 1 (.one 3 (.one 2 (.one 4 (.one 0 (.one 5 (.fork 6 (.one 7 (.one 8 (.one 9 (.one 10 .nil)))) 10 (.one 6 (.one 7 (.one 8 (.one 9 .nil)))) (.one 11 (.one 12 .nil)))))))))), (15, .pl (.one 0 (.one 1 (.one 2 (.one 4 (.one 6 (.one 5 (.one 7 (.one 3 (.one 8 (.one 9 .nil)))))))))))]),
  (73, [(7, .pl (.one 0 (.one 1 (.one 2 (.one 3 (.one 4 (.one 5 (.one 6 (.one 7 (.one 11 (.one 8 (.one 9 (.fork 10 (.one 12 .nil) 12 (.one 10 .nil) (.one 13 (.one 14 .nil)))))))))))))))]),
  (74, [(10, .pl (.one 0 (.one 2 (.one 6 (.one 8 (.one 9 (.one 10 (.one 12 (.one 1 (.one 3 (.one 4 (.one 5 (.one 7 (.one 11 (.one 13 (.one 14 (.one 15 (.one 16 (.one 17 (.one 18 (.one 19 .nil)))))))))))))))))))))]),
  (80, [(6, .pl (.one 0 (.one 1 (.one 2 (.one 4 (.one 5 (.one 6 (.one 3 (.one 7 (.one 8 .nil))))))))))]),
  (81, [(6, .pl (.one 0 (.one 1 (.one 2 (.one 4 (.one 5 (.one 6 (.one 3 (.one 7 (.one 8 .nil))))))))))]),
  (82, [(6, .pl (.one 0 (.one 1 (.one 2 (.one 4 (.one 5 (.one 6 (.one 3 (.one 7 (.one 8 .nil))))))))))]),
  (83, [(6, .pl (.one 0 (.one 1 (.one 2 (.one 4 (.one 5 (.one 6 (.one 3 (.one 7 (.one 8 .nil))))))))))]),
  (84, [(6, .pl (.one 0 (.one 1 (.one 2 (.one 4 (.one 5 (.one 6 (.one 3 (.one 7 (.one 8 .nil))))))))))]),
  (110, [(1, .pl (.one 0 (.one 3 (.one 1 (.imm 4 (.one 2 (.one 6 (.one 5 (.one 7 (.one 8 (.one 9 .nil)))))))))))]),
  (113, [(2, .pl (.one 0 (.one 2 (.one 1 (.one 3 .nil)))))]),
  (115, [(17, .pl (.one 0 (.one 1 (.one 2 (.one 3 (.one 4 (.one 5 (.one 6 (.one 7 (.one 9 (.one 10 (.one 11 (.one 8 (.one 12 (.one 13 (.one 14 (.one 15 (.one 16 .nil))))))))))))))))))]),
  (123, [(8, .pl (.one 0 (.one 1 (.one 4 (.one 5 (.one 2 (.imm 6 (.one 3 (.one 7 (.one 8 (.one 9 .nil))))))))))), (9, .pl (.one 0 (.one 1 (.one 3 (.one 4 (.one 2 (.one 5 .nil)))))))]),
  (134, [(1, .pl (.one 0 (.one 2 (.one 3 (.one 4 (.one 1 (.one 5 (.one 6 (.one 7 (.one 9 (.one 11 (.one 10 (.one 12 (.one 13 (.one 14 (.one 15 (.one 16 (.one 8 (.one 17 (.one 18 (.one 19 .nil)))))))))))))))))))))]),
  (138, [(4, .pl (.one 0 (.one 2 (.one 4 (.one 3 (.one 5 (.one 6 (.one 7 (.one 1 (.one 8 (.fork 9 (.one 10 (.one 11 (.one 12 (.one 13 .nil)))) 13 (.one 9 (.one 10 (.one 11 (.one 12 .nil)))) (.one 14 (.one 15 .nil)))))))))))))]),
  (142, [(6, .pl (.one 0 (.one 1 (.one 2 (.one 4 (.one 5 (.one 6 (.one 3 (.one 7 (.one 8 .nil))))))))))]),
  (143, [(6, .pl (.one 0 (.one 1 (.one 2 (.one 4 (.one 5 (.one 6 (.one 3 (.one 7 (.one 8 .nil))))))))))]),
  (144, [(6, .pl (.one 0 (.one 1 (.one 2 (.one 4 (.one 5 (.one 6 (.one 3 (.one 7 (.one 8 .nil))))))))))]),
  (145, [(6, .pl (.one 0 (.one 1 (.one 2 (.one 4 (.one 5 (.one 6 (.one 3 (.one 7 (.one 8 .nil))))))))))]),
  (147, [(4, .pl (.one 0 (.one 1 (.one 2 (.one 3 (.one 4 (.one 5 (.one 6 (.one 7 (.one 9 (.one 10 (.one 11 (.one 12 (.one 8 (.one 13 (.one 14 (.one 15 (.one 16 .nil)))))))))))))))))), (6, .pl (.one 0 (.one 1 (.one 2 (.one 3 (.one 4 (.one 5 (.one 6 (.one 7 (.one 8 (.one 10 (.one 11 (.one 12 (.one 9 (.one 13 (.one 14 (.one 15 (.one 16 (.one 17 .nil)))))))))))))))))))]),
  (148, [(10, .pl (.one 0 (.one 1 (.one 2 (.one 3 (.one 4 (.one 5 (.one 6 (.one 7 (.one 8 (.one 9 (.one 10 (.one 12 (.one 13 (.one 14 (.one 11 (.one 15 (.one 16 (.one 17 (.one 18 (.one 19 .nil)))))))))))))))))))))]),
  (149, [(10, .pl (.one 0 (.one 1 (.one 2 (.one 3 (.one 4 (.one 5 (.one 6 (.one 7 (.one 8 (.one 9 (.one 10 (.one 12 (.one 13 (.one 14 (.one 11 (.one 15 (.one 16 (.one 17 (.one 18 (.one 19 .nil)))))))))))))))))))))]),
  (151, [(3, .pl (.one 0 (.one 1 (.one 2 (.one 3 (.one 4 (.one 5 (.one 6 (.one 8 (.one 9 (.one 10 (.one 7 (.one 11 (.one 12 (.one 13 (.one 14 (.one 15 .nil)))))))))))))))))]),
  (152, [(5, .pl (.one 0 (.one 1 (.one 2 (.one 3 (.one 4 (.one 5 (.one 6 (.one 7 (.one 9 (.one 10 (.one 11 (.one 12 (.one 8 (.one 13 (.one 14 (.one 15 (.one 16 (.one 17 .nil))))))))))))))))))), (11, .pl (.one 0 (.one 1 (.one 2 (.one 3 (.one 4 (.one 5 (.one 6 (.one 7 (.one 8 (.one 10 (.one 11 (.one 12 (.one 9 (.one 13 (.one 14 (.one 15 (.one 16 (.one 17 .nil))))))))))))))))))), (16, .pl (.one 0 (.one 1 (.one 2 (.one 3 (.one 5 (.one 6 (.one 7 (.one 8 (.one 4 (.one 9 (.one 10 (.one 11 (.one 12 .nil)))))))))))))), (17, .pl (.one 0 (.one 1 (.one 2 (.one 3 (.one 4 (.one 5 (.one 6 (.one 7 (.one 8 (.one 10 (.one 11 (.one 12 (.one 9 (.one 13 (.one 14 (.one 15 (.one 16 (.one 17 .nil))))))))))))))))))), (22, .pl (.one 0 (.one 1 (.one 2 (.one 3 (.one 5 (.one 6 (.one 7 (.one 8 (.one 4 (.one 9 (.one 10 (.one 11 (.one 12 .nil)))))))))))))), (23, .pl (.one 0 (.one 1 (.one 2 (.one 3 (.one 4 (.one 5 (.one 6 (.one 7 (.one 8 (.one 10 (.one 11 (.one 12 (.one 9 (.one 13 (.one 14 (.one 15 (.one 16 (.one 17 .nil)))))))))))))))))))]),
  (153, [(1, .pl (.one 0 (.one 1 (.one 2 (.one 3 (.one 4 (.one 5 (.one 6 (.one 8 (.one 9 (.one 10 (.one 7 (.one 11 (.one 12 (.one 13 (.one 14 (.one 15 .nil))))))))))))))))), (3, .pl (.one 0 (.one 1 (.one 2 (.one 3 (.one 4 (.one 5 (.one 6 (.one 7 (.one 9 (.one 10 (.one 11 (.one 8 (.one 12 (.one 13 (.one 14 (.one 15 (.one 16 .nil)))))))))))))))))), (5, .pl (.one 0 (.one 1 (.one 2 (.one 3 (.one 4 (.one 5 (.one 6 (.one 7 (.one 9 (.one 10 (.one 11 (.one 8 (.one 12 (.one 13 (.one 14 (.one 15 .nil))))))))))))))))), (8, .pl (.one 0 (.one 1 (.one 2 (.one 3 (.one 4 (.one 5 (.one 6 (.one 8 (.one 9 (.one 10 (.one 7 (.one 11 (.one 12 (.one 13 (.one 14 (.one 15 .nil)))))))))))))))))]),
  (154, [(1, .pl (.one 0 (.one 1 (.one 2 (.one 3 (.one 4 (.one 5 (.one 6 (.one 8 (.one 9 (.one 10 (.one 7 (.one 11 (.one 12 (.one 13 (.one 14 (.one 15 .nil))))))))))))))))), (3, .pl (.one 0 (.one 1 (.one 2 (.one 3 (.one 4 (.one 5 (.one 6 (.one 7 (.one 9 (.one 10 (.one 11 (.one 8 (.one 12 (.one 13 (.one 14 (.one 15 .nil))))))))))))))))), (5, .pl (.one 0 (.one 1 (.one 2 (.one 3 (.one 4 (.one 5 (.one 6 (.one 7 (.one 9 (.one 10 (.one 11 (.one 8 (.one 12 (.one 13 (.one 14 (.one 15 (.one 16 .nil)))))))))))))))))), (8, .pl (.one 0 (.one 1 (.one 2 (.one 3 (.one 4 (.one 5 (.one 6 (.one 8 (.one 9 (.one 10 (.one 7 (.one 11 (.one 12 (.one 13 (.one 14 (.one 15 .nil))))))))))))))))), (10, .pl (.one 0 (.one 1 (.one 2 (.one 3 (.one 4 (.one 5 (.one 6 (.one 8 (.one 9 (.one 10 (.one 7 (.one 11 (.one 12 (.one 13 (.one 14 (.one 15 .nil))))))))))))))))), (13, .pl (.one 0 (.one 1 (.one 2 (.one 3 (.one 4 (.one 5 (.one 6 (.one 7 (.one 9 (.one 10 (.one 11 (.one 8 (.one 12 (.one 13 (.one 14 (.one 15 .nil))))))))))))))))), (15, .pl (.one 0 (.one 1 (.one 2 (.one 3 (.one 4 (.one 5 (.one 6 (.one 7 (.one 9 (.one 10 (.one 11 (.one 8 (.one 12 (.one 13 (.one 14 (.one 15 (.one 16 .nil)))))))))))))))))), (18, .pl (.one 0 (.one 1 (.one 2 (.one 3 (.one 4 (.one 5 (.one 6 (.one 8 (.one 9 (.one 10 (.one 7 (.one 11 (.one 12 (.one 13 (.one 14 (.one 15 .nil))))))))))))))))), (21, .pl (.one 0 (.one 1 (.one 2 (.one 3 (.one 4 (.one 5 (.one 6 (.one 8 (.one 9 (.one 10 (.one 7 (.one 11 (.one 12 (.one 13 (.one 14 (.one 15 .nil)))))))))))))))))]),
  (167, [(4, .pl (.one 0 (.one 1 (.one 2 (.one 4 (.one 5 (.one 6 (.one 7 (.one 3 (.one 8 (.one 9 .nil)))))))))))]),
  (180, [(3, .pl (.one 0 (.one 1 (.one 2 (.one 3 (.one 4 (.one 5 (.one 6 (.one 7 (.one 8 (.one 9 (.one 10 (.one 12 (.one 13 (.one 14 (.one 15 (.one 16 (.one 17 (.one 11 (.one 18 (.one 19 (.one 20 (.one 21 .nil))))))))))))))))))))))), (5, .pl (.one 0 (.one 1 (.one 2 (.one 3 (.one 4 (.one 5 (.one 7 (.one 8 (.one 9 (.one 10 (.one 11 (.one 6 (.one 12 (.one 13 (.one 14 (.one 15 .nil))))))))))))))))), (6, .pl (.one 0 (.one 1 (.one 2 (.one 3 (.one 4 (.one 5 (.one 6 (.one 7 (.one 8 (.one 9 (.one 10 (.one 11 (.one 12 (.one 14 (.one 15 (.one 16 (.one 17 (.one 18 (.one 13 (.one 19 (.one 20 (.one 21 (.one 22 (.one 23 .nil)))))))))))))))))))))))))]),
  (182, [(1, .pl (.one 0 (.one 1 (.one 3 (.one 4 (.one 5 (.one 6 (.one 2 (.one 7 (.one 8 (.one 9 .nil))))))))))), (2, .pl (.one 0 (.one 1 (.one 3 (.one 4 (.one 5 (.one 6 (.one 2 (.one 7 (.one 8 (.one 9 .nil))))))))))), (3, .pl (.one 0 (.one 1 (.one 3 (.one 4 (.one 5 (.one 6 (.one 2 (.one 7 (.one 8 (.one 9 .nil)))))))))))]),
  (194, [(9, .pl (.one 0 (.one 1 (.one 2 (.one 4 (.one 6 (.one 5 (.one 7 (.one 8 (.one 3 (.one 9 (.one 10 (.one 11 (.one 12 .nil))))))))))))))]),
  (195, [(8, .pl (.one 0 (.one 1 (.one 2 (.one 5 (.one 3 (.one 4 (.one 6 .nil))))))))]),
  (199, [(1, .pl (.one 0 (.one 1 (.one 2 (.one 3 (.one 5 (.one 6 (.one 7 (.one 4 (.one 8 (.one 9 (.one 10 .nil))))))))))))]),
  (217, [(1, .pl (.one 1 (.one 4 (.one 0 (.imm 3 (.one 2 (.one 5 (.one 6 (.one 7 .nil)))))))))]),
  (223, [(17, .pl (.one 0 (.one 1 (.one 2 (.one 3 (.one 4 (.one 5 (.one 6 (.one 7 (.one 9 (.one 10 (.one 11 (.one 8 (.one 12 (.one 13 (.one 14 (.one 15 (.one 16 .nil))))))))))))))))))]),
  (224, [(6, .pl (.one 1 (.imm 0 (.one 2 (.one 3 (.one 4 (.one 5 (.one 6 (.one 8 (.fork 7 (.one 9 .nil) 9 (.one 7 .nil) (.one 10 (.one 11 .nil))))))))))))]),
  (226, [(4, .pl (.one 0 (.one 1 (.one 2 (.one 3 (.one 4 (.one 5 (.one 6 (.one 7 (.one 9 (.one 10 (.one 11 (.one 12 (.one 8 (.one 13 (.one 14 (.one 15 (.one 16 .nil)))))))))))))))))), (6, .pl (.one 0 (.one 1 (.one 2 (.one 3 (.one 4 (.one 5 (.one 6 (.one 7 (.one 8 (.one 10 (.one 11 (.one 12 (.one 9 (.one 13 (.one 14 (.one 15 (.one 16 (.one 17 .nil)))))))))))))))))))]),
  (227, [(10, .pl (.one 0 (.one 1 (.one 2 (.one 3 (.one 4 (.one 5 (.one 6 (.one 7 (.one 8 (.one 9 (.one 10 (.one 12 (.one 13 (.one 14 (.one 11 (.one 15 (.one 16 (.one 17 (.one 18 (.one 19 .nil)))))))))))))))))))))]),
  (228, [(10, .pl (.one 0 (.one 1 (.one 2 (.one 3 (.one 4 (.one 5 (.one 6 (.one 7 (.one 8 (.one 9 (.one 10 (.one 12 (.one 13 (.one 14 (.one 11 (.one 15 (.one 16 (.one 17 (.one 18 (.one 19 .nil)))))))))))))))))))))]),
  (230, [(3, .pl (.one 0 (.one 1 (.one 2 (.one 3 (.one 4 (.one 5 (.one 6 (.one 8 (.one 9 (.one 10 (.one 7 (.one 11 (.one 12 (.one 13 (.one 14 (.one 15 .nil)))))))))))))))))]),
  (231, [(5, .pl (.one 0 (.one 1 (.one 2 (.one 3 (.one 4 (.one 5 (.one 6 (.one 7 (.one 9 (.one 10 (.one 11 (.one 12 (.one 8 (.one 13 (.one 14 (.one 15 (.one 16 (.one 17 .nil))))))))))))))))))), (11, .pl (.one 0 (.one 1 (.one 2 (.one 3 (.one 4 (.one 5 (.one 6 (.one 7 (.one 8 (.one 10 (.one 11 (.one 12 (.one 9 (.one 13 (.one 14 (.one 15 (.one 16 (.one 17 .nil))))))))))))))))))), (16, .pl (.one 0 (.one 1 (.one 2 (.one 3 (.one 5 (.one 6 (.one 7 (.one 8 (.one 4 (.one 9 (.one 10 (.one 11 (.one 12 .nil)))))))))))))), (17, .pl (.one 0 (.one 1 (.one 2 (.one 3 (.one 4 (.one 5 (.one 6 (.one 7 (.one 8 (.one 10 (.one 11 (.one 12 (.one 9 (.one 13 (.one 14 (.one 15 (.one 16 (.one 17 .nil))))))))))))))))))), (22, .pl (.one 0 (.one 1 (.one 2 (.one 3 (.one 5 (.one 6 (.one 7 (.one 8 (.one 4 (.one 9 (.one 10 (.one 11 (.one 12 .nil)))))))))))))), (23, .pl (.one 0 (.one 1 (.one 2 (.one 3 (.one 4 (.one 5 (.one 6 (.one 7 (.one 8 (.one 10 (.one 11 (.one 12 (.one 9 (.one 13 (.one 14 (.one 15 (.one 16 (.one 17 .nil)))))))))))))))))))]),
  (232, [(1, .pl (.one 0 (.one 1 (.one 2 (.one 3 (.one 4 (.one 5 (.one 6 (.one 8 (.one 9 (.one 10 (.one 7 (.one 11 (.one 12 (.one 13 (.one 14 (.one 15 .nil))))))))))))))))), (3, .pl (.one 0 (.one 1 (.one 2 (.one 3 (.one 4 (.one 5 (.one 6 (.one 7 (.one 9 (.one 10 (.one 11 (.one 8 (.one 12 (.one 13 (.one 14 (.one 15 (.one 16 .nil)))))))))))))))))), (5, .pl (.one 0 (.one 1 (.one 2 (.one 3 (.one 4 (.one 5 (.one 6 (.one 7 (.one 9 (.one 10 (.one 11 (.one 8 (.one 12 (.one 13 (.one 14 (.one 15 .nil))))))))))))))))), (8, .pl (.one 0 (.one 1 (.one 2 (.one 3 (.one 4 (.one 5 (.one 6 (.one 8 (.one 9 (.one 10 (.one 7 (.one 11 (.one 12 (.one 13 (.one 14 (.one 15 .nil)))))))))))))))))]),
  (233, [(1, .pl (.one 0 (.one 1 (.one 2 (.one 3 (.one 4 (.one 5 (.one 6 (.one 8 (.one 9 (.one 10 (.one 7 (.one 11 (.one 12 (.one 13 (.one 14 (.one 15 .nil))))))))))))))))), (3, .pl (.one 0 (.one 1 (.one 2 (.one 3 (.one 4 (.one 5 (.one 6 (.one 7 (.one 9 (.one 10 (.one 11 (.one 8 (.one 12 (.one 13 (.one 14 (.one 15 .nil))))))))))))))))), (5, .pl (.one 0 (.one 1 (.one 2 (.one 3 (.one 4 (.one 5 (.one 6 (.one 7 (.one 9 (.one 10 (.one 11 (.one 8 (.one 12 (.one 13 (.one 14 (.one 15 (.one 16 .nil)))))))))))))))))), (8, .pl (.one 0 (.one 1 (.one 2 (.one 3 (.one 4 (.one 5 (.one 6 (.one 8 (.one 9 (.one 10 (.one 7 (.one 11 (.one 12 (.one 13 (.one 14 (.one 15 .nil))))))))))))))))), (10, .pl (.one 0 (.one 1 (.one 2 (.one 3 (.one 4 (.one 5 (.one 6 (.one 8 (.one 9 (.one 10 (.one 7 (.one 11 (.one 12 (.one 13 (.one 14 (.one 15 .nil))))))))))))))))), (13, .pl (.one 0 (.one 1 (.one 2 (.one 3 (.one 4 (.one 5 (.one 6 (.one 7 (.one 9 (.one 10 (.one 11 (.one 8 (.one 12 (.one 13 (.one 14 (.one 15 .nil))))))))))))))))), (15, .pl (.one 0 (.one 1 (.one 2 (.one 3 (.one 4 (.one 5 (.one 6 (.one 7 (.one 9 (.one 10 (.one 11 (.one 8 (.one 12 (.one 13 (.one 14 (.one 15 (.one 16 .nil)))))))))))))))))), (18, .pl (.one 0 (.one 1 (.one 2 (.one 3 (.one 4 (.one 5 (.one 6 (.one 8 (.one 9 (.one 10 (.one 7 (.one 11 (.one 12 (.one 13 (.one 14 (.one 15 .nil))))))))))))))))), (21, .pl (.one 0 (.one 1 (.one 2 (.one 3 (.one 4 (.one 5 (.one 6 (.one 8 (.one 9 (.one 10 (.one 7 (.one 11 (.one 12 (.one 13 (.one 14 (.one 15 .nil)))))))))))))))))]),
  (236, [(6, .pl (.one 0 (.one 1 (.one 2 (.one 3 (.one 4 (.one 5 (.one 6 (.one 7 .nil)))))))))]),
  (237, [(4, .pl (.one 0 (.one 1 (.one 2 (.one 3 (.one 4 (.one 5 (.one 6 (.one 7 (.one 9 (.one 10 (.one 11 (.one 12 (.one 8 (.one 13 (.one 14 (.one 15 (.one 16 .nil)))))))))))))))))), (6, .pl (.one 0 (.one 1 (.one 2 (.one 3 (.one 4 (.one 5 (.one 6 (.one 7 (.one 8 (.one 10 (.one 11 (.one 12 (.one 9 (.one 13 (.one 14 (.one 15 (.one 16 (.one 17 .nil)))))))))))))))))))]),
  (238, [(5, .pl (.one 0 (.one 1 (.one 2 (.one 3 (.one 5 (.one 6 (.one 7 (.one 4 (.one 8 (.one 9 (.one 10 .nil)))))))))))), (11, .pl (.one 0 (.one 1 (.one 2 (.one 3 (.one 4 (.one 5 (.one 6 (.one 7 (.one 8 (.one 10 (.one 11 (.one 12 (.one 9 (.one 13 (.one 14 (.one 15 (.one 16 (.one 17 .nil))))))))))))))))))), (17, .pl (.one 0 (.one 1 (.one 2 (.one 3 (.one 5 (.one 6 (.one 7 (.one 4 (.one 8 (.one 9 (.one 10 (.one 11 .nil))))))))))))), (23, .pl (.one 0 (.one 1 (.one 2 (.one 3 (.one 4 (.one 5 (.one 6 (.one 7 (.one 8 (.one 10 (.one 11 (.one 12 (.one 9 (.one 13 (.one 14 (.one 15 (.one 16 (.one 17 .nil))))))))))))))))))), (35, .pl (.one 0 (.one 1 (.one 2 (.one 3 (.one 4 (.one 5 (.one 7 (.one 8 (.one 9 (.one 6 (.one 10 (.one 11 (.one 12 (.one 13 .nil)))))))))))))))]),
  (239, [(3, .pl (.one 0 (.one 1 (.one 2 (.one 3 (.one 4 (.one 5 (.one 6 (.one 7 (.one 8 (.one 9 (.one 10 (.one 12 (.one 13 (.one 14 (.one 15 (.one 16 (.one 17 (.one 11 (.one 18 (.one 19 (.one 20 (.one 21 .nil))))))))))))))))))))))), (5, .pl (.one 0 (.one 1 (.one 2 (.one 3 (.one 4 (.one 5 (.one 7 (.one 8 (.one 9 (.one 10 (.one 11 (.one 6 (.one 12 (.one 13 (.one 14 (.one 15 .nil))))))))))))))))), (6, .pl (.one 0 (.one 1 (.one 2 (.one 3 (.one 4 (.one 5 (.one 6 (.one 7 (.one 8 (.one 9 (.one 10 (.one 11 (.one 12 (.one 14 (.one 15 (.one 16 (.one 17 (.one 18 (.one 13 (.one 19 (.one 20 (.one 21 (.one 22 (.one 23 .nil)))))))))))))))))))))))))]),
  (245, [(1, .pl (.one 0 (.one 1 (.one 2 (.one 3 (.one 5 (.one 6 (.one 7 (.one 4 (.one 8 (.one 9 (.one 10 .nil))))))))))))]),
  (246, [(3, .pl (.one 0 (.one 1 (.one 2 (.one 3 (.one 4 (.one 5 (.one 6 (.one 7 (.one 8 (.one 9 (.one 10 (.one 11 (.one 12 (.one 14 (.one 15 (.one 16 (.one 17 (.one 18 (.one 13 (.one 19 (.one 20 (.one 21 (.one 22 (.one 23 .nil)))))))))))))))))))))))))])]
def pl (f i : Nat) : Option Rp := plk pls f i
end Go.Aw.U1

set_option linter.unusedSimpArgs false
set_option linter.unusedVariables false
set_option maxHeartbeats 4000000
set_option maxRecDepth 20000
namespace Go.Aw.U1
open Go Go.Proofs

def sA : ByteArray := ⟨#[65]⟩
def sB : ByteArray := ⟨#[66]⟩
def emp (n : Int) : Sta := ⟨0, n, n, n, n, [], [], [], [], [], [], [], [], ⟨[], [], [], []⟩, []⟩
def sml (n : Int) : Sta := ⟨0, n, 1, 1, 1, [⟨1, 2, 10, 10⟩], [⟨3, 0, [⟨1, 9, 9, 0, [sA, sB]⟩]⟩], [⟨1, 3, 5, 1, [⟨0, 1, 0⟩]⟩], [], [], [], [], [], ⟨[], [], [], []⟩, []⟩
def nl : AV := .v (.slice none 0 0)
def rE (n : Int) : AV := .agg [nV 0, nV n, nV n, nV n, nV n, nl, nl, nl, nl, nl, nl, nl, nl, nl, nl, nl, nl, nl]
def rS (n : Int) : AV := .agg [nV 0, nV n, nV 1, nV 1, nV 1, .vx 4 1 [nV 1, nV 2, nV 10, nV 10], .vx 3 1 [nV 3, nV 0, .vx 5 1 [nV 1, nV 9, nV 9, nV 0, .vx 1 2 [sV sA, sV sB]]], .vx 5 1 [nV 1, nV 3, nV 5, nV 1, .vx 3 1 [nV 0, nV 1, nV 0]], nl, nl, nl, nl, nl, nl, nl, nl, nl, nl]
theorem wkE (n : Int) : WkL [rE n] [stA (emp n)] :=
  .cons (.agg (.cons .same (.cons .same (.cons .same (.cons .same (.cons .same (.cons .nil (.cons .nil (.cons .nil (.cons .nil (.cons .nil (.cons .nil (.cons .nil (.cons .nil (.cons .nil (.cons .nil (.cons .nil (.cons .nil (.cons .nil .nil))))))))))))))))))) .nil
theorem wkS (n : Int) : WkL [rS n] [stA (sml n)] :=
  .cons (.agg (.cons .same (.cons .same (.cons .same (.cons .same (.cons .same (.cons (.vx (WkL.refl _)) (.cons (.vx (.cons .same (.cons .same (.cons (.vx (.cons .same (.cons .same (.cons .same (.cons .same (.cons (.vx (WkL.refl _)) .nil)))))) .nil)))) (.cons (.vx (.cons .same (.cons .same (.cons .same (.cons .same (.cons (.vx (WkL.refl _)) .nil)))))) (.cons .nil (.cons .nil (.cons .nil (.cons .nil (.cons .nil (.cons .nil (.cons .nil (.cons .nil (.cons .nil (.cons .nil .nil))))))))))))))))))) .nil
theorem okE (n : Int) : StaOk (emp n) := by
  constructor <;> simp [emp, odsOk, rmsOk]
theorem odS : odOk ⟨3, 0, [⟨1, 9, 9, 0, [sA, sB]⟩]⟩ :=
  ⟨by decide, fun x hx => by
    have e : x = ⟨1, 9, 9, 0, [sA, sB]⟩ := by simpa using hx
    subst e
    refine ⟨⟨by decide, fun y hy => ?_⟩, by decide⟩
    have e : y = sA ∨ y = sB := by simpa using hy
    rcases e with rfl | rfl <;> decide⟩
theorem okS (n : Int) : StaOk (sml n) where
  items := by simp [sml]
  orders := ⟨by simp [sml], fun o ho => by
    have e : o = ⟨3, 0, [⟨1, 9, 9, 0, [sA, sB]⟩]⟩ := by simpa [sml] using ho
    subst e
    exact odS⟩
  rmas := ⟨by simp [sml], fun r hr => by
    have e : r = ⟨1, 3, 5, 1, [⟨0, 1, 0⟩]⟩ := by simpa [sml] using hr
    subst e
    show 1 ≤ 9223372036854775807
    decide⟩
  units := ⟨by simp [sml], fun u hu => by cases hu⟩
  works := ⟨by simp [sml], fun u hu => by cases hu⟩
  claims := ⟨by simp [sml], fun u hu => by cases hu⟩
  memos := ⟨by simp [sml], fun u hu => by cases hu⟩
  moves := by simp [sml]
  asks := by simp [sml]
  cuts := by simp [sml]
  fees := by simp [sml]
  rows := by simp [sml]
  keys := by simp [sml]
theorem idE (n : Int) : idsOk (emp n) := by simp [idsOk, emp]
theorem idS (n : Int) : idsOk (sml n) := by
  intro r hr
  simp only [sml, List.mem_singleton] at hr
  subst hr
  exact ⟨nOk_of (by decide) (by decide), fun w hw => by simp only [List.mem_singleton] at hw; subst hw; exact nOk_of (by decide) (by decide)⟩
theorem serA : serC sA = 0 := by
  have h1 : sA.toList = [65] := by rw [ByteArray.toList_eq]; rfl
  have h2 : (foldF sA) = (sA, 0) := by decide +kernel
  simp [serC, h2]
theorem easyE : Easy (emp 1) where
  tab := by rfl
  keys := by rfl
  ships := by rfl
  rules := by rfl
  auth := by rfl
  works := by rfl
  claims := by rfl
  units := rfl
  memos := rfl
  moves := rfl
  got := by simp [emp]
theorem serB : serC sB = 0 := by
  have h2 : (foldF sB) = (sB, 0) := by decide +kernel
  simp [serC, h2]
theorem ltAB : ltB (some sA) sB = true := by
  simp only [ltB, ByteArray.toList_eq]
  decide +kernel
theorem rowS : rowF [sA, sB] = 0 := by
  simp only [rowF, rowT, serA, serB, ltAB]
  rfl
theorem lineS : lineC ⟨1, 9, 9, 0, [sA, sB]⟩ = 0 := by
  simp only [lineC, rowS]
  decide
theorem twlS : twL [⟨1, 9, 9, 0, [sA, sB]⟩] (fun _ => false) = false := by
  have h : ¬ sB = sA := by decide
  simp [twL, twS, upd, h]
theorem ordS : ordC ⟨3, 0, [⟨1, 9, 9, 0, [sA, sB]⟩]⟩ = 0 := by
  have h1 : headB ⟨3, 0, [⟨1, 9, 9, 0, [sA, sB]⟩]⟩ = true := by decide
  have h2 : (totT [⟨1, 9, 9, 0, [sA, sB]⟩] 0).2 = 0 := by decide
  simp [ordC, ordB, h1, h2, lineS, twlS]
theorem easyS : Easy (sml 2) where
  tab := by rfl
  keys := by rfl
  ships := by
    have h : ¬ sB = sA := by decide
    simp only [shipsB, sml, shipsT, ordS, serF]
    simp [shipsM, twS, upd, h, itB, idB, timeB, hasI]
  rules := by rfl
  auth := by
    simp only [authB, sml, List.all_cons, List.all_nil, Bool.and_true]
    simp [rmaFits, freeOk, fitsB, ordS]
    exact ⟨⟨by decide, by decide⟩, by decide⟩
  works := by rfl
  claims := by rfl
  units := rfl
  memos := rfl
  moves := rfl
  got := by
    intro r hr w hw
    have e : r = ⟨1, 3, 5, 1, [⟨0, 1, 0⟩]⟩ := by simpa [sml] using hr
    subst e
    have e : w = ⟨0, 1, 0⟩ := by simpa using hw
    subst e
    rfl
theorem c6E : Fun P 6 [stA (emp 1)] (nV 0) :=
  (f6 (emp 1) (okE 1) (idE 1)).mono fun r H ⟨⟨n, h1, _, h2, _⟩, h3⟩ => ⟨by rw [h1, h2 easyE], h3⟩
theorem c6Z : Fun P 6 [stA (emp 0)] (nV 40) :=
  (f6 (emp 0) (okE 0) (idE 0)).mono fun r H ⟨⟨n, h1, _, _, h2⟩, h3⟩ => ⟨by rw [h1, h2 (by rfl)], h3⟩
theorem c6S : Fun P 6 [stA (sml 2)] (nV 0) :=
  (f6 (sml 2) (okS 2) (idS 2)).mono fun r H ⟨⟨n, h1, _, h2, _⟩, h3⟩ => ⟨by rw [h1, h2 easyS], h3⟩
theorem c6B : Fun P 6 [stA (sml 1)] (nV 40) :=
  (f6 (sml 1) (okS 1) (idS 1)).mono fun r H ⟨⟨n, h1, _, _, h2⟩, h3⟩ => ⟨by rw [h1, h2 (by rfl)], h3⟩
theorem ok6 : callOk P 6 = true := by kernel_rfl
theorem r6 {s : Sta} {x r : AV} {H : List ABlk} (h : Fun P 6 [stA s] r) (hw : WkL [x] [stA s]) (hr : ∀ ρ, r.ren ρ = r) : Spec P 6 [x] H (fun r' H' => r' = r ∧ H' = H) :=
  (Fun.any ok6 h (fun ρ => by simp only [renL, AV.ren, stC_ren]) hr).wk hw
/-- what Check answers to the states of the probe -/
noncomputable def ck6 (x : AV) : Option AV :=
  match eqAV x (rE 1) with
  | true => some (nV 0)
  | false => match eqAV x (rS 2) with
    | true => some (nV 0)
    | false => match eqAV x (rS 1) with
      | true => some (nV 40)
      | false => match eqAV x (rE 0) with
        | true => some (nV 40)
        | false => none
theorem ck6_s {x r : AV} {H : List ABlk} (h : ck6 x = some r) : Spec P 6 [x] H (fun r' H' => r' = r ∧ H' = H) := by
  unfold ck6 at h
  split at h
  · rename_i e; cases h; rw [eqAV_s _ _ e]; exact r6 c6E (wkE 1) (fun _ => rfl)
  split at h
  · rename_i e; cases h; rw [eqAV_s _ _ e]; exact r6 c6S (wkS 2) (fun _ => rfl)
  split at h
  · rename_i e; cases h; rw [eqAV_s _ _ e]; exact r6 c6B (wkS 1) (fun _ => rfl)
  split at h
  · rename_i e; cases h; rw [eqAV_s _ _ e]; exact r6 c6Z (wkE 0) (fun _ => rfl)
  · cases h
theorem ok29 : callOk P 29 = true := by kernel_rfl
theorem c29 (n k : Int) (hk : freeF (sml 2) n 0 = k) : Fun P 29 [stA (sml 2), nV n, nV 0] (nV k) := by
  rw [← hk]; exact f29 (sml 2) n 0 (okS 2).rmas (okS 2).orders
theorem r29 {n k : Int} {H : List ABlk} (hk : freeF (sml 2) n 0 = k) : Spec P 29 [rS 2, nV n, nV 0] H (fun r' H' => r' = nV k ∧ H' = H) :=
  (Fun.any ok29 (c29 n k hk) (fun ρ => by simp only [renL, AV.ren, stC_ren]) (fun _ => rfl)).wk (match wkS 2 with | .cons h .nil => .cons h (.cons .same (.cons .same .nil)))
noncomputable def ck29 (x y z : AV) : Option AV :=
  match eqAV x (rS 2) with
  | true => match eqAV z (nV 0) with
    | true => match eqAV y (nV 3) with
      | true => some (nV 1)
      | false => match eqAV y (nV 4) with
        | true => some (nV 0)
        | false => none
    | false => none
  | false => none
theorem ck29_s {x y z r : AV} {H : List ABlk} (h : ck29 x y z = some r) : Spec P 29 [x, y, z] H (fun r' H' => r' = r ∧ H' = H) := by
  unfold ck29 at h
  split at h
  · rename_i e1
    split at h
    · rename_i e2
      rw [eqAV_s _ _ e1, eqAV_s _ _ e2]
      split at h
      · rename_i e3; cases h; rw [eqAV_s _ _ e3]; exact r29 (by decide)
      split at h
      · rename_i e3; cases h; rw [eqAV_s _ _ e3]; exact r29 (by decide)
      · cases h
    · cases h
  · cases h
noncomputable def call6 (f : Nat) (args : List AV) (H : List ABlk) : Option (AV × List ABlk) :=
  match Nat.beq f 6 with
  | true => match args with
    | [x] => match ck6 x with
      | some r => some (r, H)
      | none => none
    | _ => none
  | false => match Nat.beq f 29 with
    | true => match args with
      | [x, y, z] => match ck29 x y z with
        | some r => some (r, H)
        | none => none
      | _ => none
    | false => none
noncomputable def x6 : Xt := ⟨fun f => Nat.beq f 6 || Nat.beq f 29, fun _ => true, call6, mapX P T (fun _ => false)⟩
theorem x6_ok : XtOk P T x6 where
  call := fun f args H r H' h0 => by
    have h : call6 f args H = some (r, H') := h0
    clear h0
    unfold call6 at h
    split at h
    · rename_i e
      obtain rfl := Nat.eq_of_beq_eq_true e
      split at h
      · split at h
        · rename_i e2
          cases h
          exact ck6_s e2
        · cases h
      · cases h
    split at h
    · rename_i e
      obtain rfl := Nat.eq_of_beq_eq_true e
      split at h
      · split at h
        · rename_i e2
          cases h
          exact ck29_s e2
        · cases h
      · cases h
    · cases h
  op := (mapXt_ok hT (dk := fun _ => false) (gc := fun _ => true) (fun _ h => by cases h)).op
end Go.Aw.U1

set_option linter.unusedSimpArgs false
set_option linter.unusedVariables false
set_option maxHeartbeats 4000000
set_option maxRecDepth 20000
namespace Go.Aw.U1
open Go Go.Proofs
theorem f7 : Fun P 7 [] (bV true) := Spec.run hT hm x6_ok pl 100000 200 (by kernel_rfl)
end Go.Aw.U1

