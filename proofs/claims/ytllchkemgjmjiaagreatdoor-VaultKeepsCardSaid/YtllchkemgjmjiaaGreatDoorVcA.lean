/-
  The statement VaultKeeps: opened again, a vault tells the text that was laid last, and all bodies behind that, without any condition.
-/
import Derived.Test.YtllchkemgjmjiaaGreatDoorAwG
import Derived.Test.YtllchkemgjmjiaaGreatDoorProg
import Derived.KernelRfl
set_option linter.unusedSimpArgs false
set_option linter.unusedVariables false
/-
  The types of this cut, in short.
-/
set_option linter.unusedSimpArgs false
set_option linter.unusedVariables false
namespace Go.Aw.V1
open Go

noncomputable def tbl : List (Nat × TI) := [(1, ⟨.fn, 1, 8, .v .nilFunc⟩),
  (2, ⟨.int .i64, 1, 8, .v (.int .i64 0)⟩),
  (3, ⟨.int .i64, 1, 8, .v (.int .i64 0)⟩),
  (4, ⟨.bool, 1, 1, .v (.bool false)⟩),
  (5, ⟨.int .u8, 1, 1, .v (.int .u8 0)⟩),
  (9, ⟨.str, 1, 16, .v (.string ⟨#[]⟩)⟩),
  (12, ⟨.int .u64, 1, 8, .v (.int .u64 0)⟩),
  (21, ⟨.int .i32, 1, 4, .v (.int .i32 0)⟩),
  (22, ⟨.fn, 1, 8, .v .nilFunc⟩),
  (23, ⟨.ptr 26, 1, 8, .v (.pointer none)⟩),
  (24, ⟨.ptr 97, 1, 8, .v (.pointer none)⟩),
  (25, ⟨.struct [(0, false, 1), (1, false, 1), (2, false, 1), (3, false, 1), (4, false, 1), (5, false, 1)], 6, 48, .agg [.v (.pointer none), .v (.int .i64 0), .v (.int .i64 0), .v (.int .i64 0), .v (.int .i64 0), .v (.bool false)]⟩),
  (26, ⟨.struct [(0, false, 1), (1, false, 1), (2, false, 1), (3, false, 1), (4, false, 1), (5, false, 1)], 6, 48, .agg [.v (.pointer none), .v (.int .i64 0), .v (.int .i64 0), .v (.int .i64 0), .v (.int .i64 0), .v (.bool false)]⟩),
  (27, ⟨.slice 23, 1, 24, .v (.slice none 0 0)⟩),
  (28, ⟨.int .i64, 1, 8, .v (.int .i64 0)⟩),
  (29, ⟨.fn, 1, 8, .v .nilFunc⟩),
  (30, ⟨.fn, 1, 8, .v .nilFunc⟩),
  (31, ⟨.fn, 1, 8, .v .nilFunc⟩),
  (32, ⟨.slice 9, 1, 24, .v (.slice none 0 0)⟩),
  (34, ⟨.fn, 1, 8, .v .nilFunc⟩),
  (35, ⟨.fn, 1, 8, .v .nilFunc⟩),
  (36, ⟨.slice 4, 1, 24, .v (.slice none 0 0)⟩),
  (37, ⟨.struct [(0, false, 1), (1, false, 1), (2, false, 1)], 3, 40, .agg [.v (.slice none 0 0), .v (.int .i64 0), .v (.int .i64 0)]⟩),
  (38, ⟨.struct [(0, false, 1), (1, false, 1), (2, false, 1)], 3, 40, .agg [.v (.slice none 0 0), .v (.int .i64 0), .v (.int .i64 0)]⟩),
  (39, ⟨.fn, 1, 8, .v .nilFunc⟩),
  (41, ⟨.fn, 1, 8, .v .nilFunc⟩),
  (42, ⟨.struct [(0, false, 1), (1, false, 1)], 2, 16, .agg [.v (.int .i64 0), .v (.int .i64 0)]⟩),
  (43, ⟨.struct [(0, false, 1), (1, false, 1)], 2, 16, .agg [.v (.int .i64 0), .v (.int .i64 0)]⟩),
  (45, ⟨.fn, 1, 8, .v .nilFunc⟩),
  (46, ⟨.struct [(0, false, 1), (1, false, 1), (2, false, 1)], 3, 32, .agg [.v (.int .i64 0), .v (.int .i64 0), .v (.string ⟨#[]⟩)]⟩),
  (47, ⟨.struct [(0, false, 1), (1, false, 1), (2, false, 1)], 3, 32, .agg [.v (.int .i64 0), .v (.int .i64 0), .v (.string ⟨#[]⟩)]⟩),
  (48, ⟨.fn, 1, 8, .v .nilFunc⟩),
  (49, ⟨.fn, 1, 8, .v .nilFunc⟩),
  (50, ⟨.fn, 1, 8, .v .nilFunc⟩),
  (52, ⟨.fn, 1, 8, .v .nilFunc⟩),
  (53, ⟨.fn, 1, 8, .v .nilFunc⟩),
  (54, ⟨.fn, 1, 8, .v .nilFunc⟩),
  (55, ⟨.struct [(0, false, 1), (1, true, 3)], 4, 48, .agg [.v (.int .i64 0), .v (.slice none 0 0), .v (.int .i64 0), .v (.int .i64 0)]⟩),
  (56, ⟨.struct [(0, false, 1), (1, true, 3)], 4, 48, .agg [.v (.int .i64 0), .v (.slice none 0 0), .v (.int .i64 0), .v (.int .i64 0)]⟩),
  (58, ⟨.fn, 1, 8, .v .nilFunc⟩),
  (59, ⟨.fn, 1, 8, .v .nilFunc⟩),
  (60, ⟨.fn, 1, 8, .v .nilFunc⟩),
  (61, ⟨.fn, 1, 8, .v .nilFunc⟩),
  (62, ⟨.fn, 1, 8, .v .nilFunc⟩),
  (63, ⟨.fn, 1, 8, .v .nilFunc⟩),
  (64, ⟨.fn, 1, 8, .v .nilFunc⟩),
  (65, ⟨.slice 70, 1, 24, .v (.slice none 0 0)⟩),
  (66, ⟨.fn, 1, 8, .v .nilFunc⟩),
  (67, ⟨.struct [(0, false, 1), (1, false, 1), (2, false, 1), (3, false, 1), (4, true, 3)], 7, 72, .agg [.v (.int .i64 0), .v (.int .i64 0), .v (.int .i64 0), .v (.int .u8 0), .v (.slice none 0 0), .v (.int .i64 0), .v (.int .i64 0)]⟩),
  (68, ⟨.struct [(0, false, 1), (1, false, 1), (2, false, 1), (3, false, 1), (4, true, 3)], 7, 72, .agg [.v (.int .i64 0), .v (.int .i64 0), .v (.int .i64 0), .v (.int .u8 0), .v (.slice none 0 0), .v (.int .i64 0), .v (.int .i64 0)]⟩),
  (69, ⟨.struct [(0, false, 1), (1, false, 1), (2, true, 7)], 9, 96, .agg [.v (.int .i64 0), .v (.string ⟨#[]⟩), .v (.int .i64 0), .v (.int .i64 0), .v (.int .i64 0), .v (.int .u8 0), .v (.slice none 0 0), .v (.int .i64 0), .v (.int .i64 0)]⟩),
  (70, ⟨.struct [(0, false, 1), (1, false, 1), (2, true, 7)], 9, 96, .agg [.v (.int .i64 0), .v (.string ⟨#[]⟩), .v (.int .i64 0), .v (.int .i64 0), .v (.int .i64 0), .v (.int .u8 0), .v (.slice none 0 0), .v (.int .i64 0), .v (.int .i64 0)]⟩),
  (71, ⟨.fn, 1, 8, .v .nilFunc⟩),
  (72, ⟨.struct [(0, false, 1), (1, false, 1), (2, true, 3), (5, true, 3)], 8, 96, .agg [.v (.int .i64 0), .v (.int .i64 0), .v (.slice none 0 0), .v (.int .i64 0), .v (.int .i64 0), .v (.slice none 0 0), .v (.int .i64 0), .v (.int .i64 0)]⟩),
  (73, ⟨.struct [(0, false, 1), (1, false, 1), (2, true, 3), (5, true, 3)], 8, 96, .agg [.v (.int .i64 0), .v (.int .i64 0), .v (.slice none 0 0), .v (.int .i64 0), .v (.int .i64 0), .v (.slice none 0 0), .v (.int .i64 0), .v (.int .i64 0)]⟩),
  (74, ⟨.fn, 1, 8, .v .nilFunc⟩),
  (75, ⟨.fn, 1, 8, .v .nilFunc⟩),
  (76, ⟨.slice 5, 1, 24, .v (.slice none 0 0)⟩),
  (77, ⟨.fn, 1, 8, .v .nilFunc⟩),
  (78, ⟨.ptr 28, 1, 8, .v (.pointer none)⟩),
  (79, ⟨.fn, 1, 8, .v .nilFunc⟩),
  (81, ⟨.fn, 1, 8, .v .nilFunc⟩),
  (83, ⟨.fn, 1, 8, .v .nilFunc⟩),
  (84, ⟨.fn, 1, 8, .v .nilFunc⟩),
  (85, ⟨.fn, 1, 8, .v .nilFunc⟩),
  (86, ⟨.fn, 1, 8, .v .nilFunc⟩),
  (87, ⟨.struct [(0, false, 1), (1, false, 1)], 2, 24, .agg [.v (.int .i64 0), .v (.string ⟨#[]⟩)]⟩),
  (88, ⟨.struct [(0, false, 1), (1, false, 1)], 2, 24, .agg [.v (.int .i64 0), .v (.string ⟨#[]⟩)]⟩),
  (90, ⟨.fn, 1, 8, .v .nilFunc⟩),
  (91, ⟨.fn, 1, 8, .v .nilFunc⟩),
  (92, ⟨.fn, 1, 8, .v .nilFunc⟩),
  (93, ⟨.fn, 1, 8, .v .nilFunc⟩),
  (94, ⟨.slice 103, 1, 24, .v (.slice none 0 0)⟩),
  (95, ⟨.map 3 103, 1, 8, .v (.map none)⟩),
  (96, ⟨.struct [(0, false, 1), (1, false, 1), (2, false, 1), (3, false, 1), (4, false, 1)], 5, 56, .agg [.v (.slice none 0 0), .v (.map none), .v (.int .i64 0), .v (.int .i64 0), .v (.bool false)]⟩),
  (97, ⟨.struct [(0, false, 1), (1, false, 1), (2, false, 1), (3, false, 1), (4, false, 1)], 5, 56, .agg [.v (.slice none 0 0), .v (.map none), .v (.int .i64 0), .v (.int .i64 0), .v (.bool false)]⟩),
  (98, ⟨.fn, 1, 8, .v .nilFunc⟩),
  (99, ⟨.fn, 1, 8, .v .nilFunc⟩),
  (100, ⟨.slice 3, 1, 24, .v (.slice none 0 0)⟩),
  (101, ⟨.fn, 1, 8, .v .nilFunc⟩),
  (102, ⟨.arr 64 5, 64, 64, .agg (List.replicate 64 (.v (.int .u8 0)))⟩),
  (103, ⟨.arr 64 5, 64, 64, .agg (List.replicate 64 (.v (.int .u8 0)))⟩),
  (105, ⟨.fn, 1, 8, .v .nilFunc⟩),
  (106, ⟨.fn, 1, 8, .v .nilFunc⟩),
  (107, ⟨.ptr 109, 1, 8, .v (.pointer none)⟩),
  (108, ⟨.struct [(0, false, 1), (1, false, 1)], 2, 32, .agg [.v (.pointer none), .v (.slice none 0 0)]⟩),
  (109, ⟨.struct [(0, false, 1), (1, false, 1)], 2, 32, .agg [.v (.pointer none), .v (.slice none 0 0)]⟩),
  (112, ⟨.fn, 1, 8, .v .nilFunc⟩),
  (114, ⟨.fn, 1, 8, .v .nilFunc⟩),
  (115, ⟨.fn, 1, 8, .v .nilFunc⟩),
  (116, ⟨.fn, 1, 8, .v .nilFunc⟩),
  (117, ⟨.fn, 1, 8, .v .nilFunc⟩),
  (118, ⟨.fn, 1, 8, .v .nilFunc⟩),
  (119, ⟨.fn, 1, 8, .v .nilFunc⟩),
  (120, ⟨.fn, 1, 8, .v .nilFunc⟩),
  (122, ⟨.fn, 1, 8, .v .nilFunc⟩),
  (123, ⟨.fn, 1, 8, .v .nilFunc⟩),
  (124, ⟨.slice 68, 1, 24, .v (.slice none 0 0)⟩),
  (125, ⟨.fn, 1, 8, .v .nilFunc⟩),
  (126, ⟨.fn, 1, 8, .v .nilFunc⟩),
  (127, ⟨.fn, 1, 8, .v .nilFunc⟩),
  (128, ⟨.arr 2 9, 2, 32, .agg [.v (.string ⟨#[]⟩), .v (.string ⟨#[]⟩)]⟩),
  (130, ⟨.fn, 1, 8, .v .nilFunc⟩),
  (131, ⟨.slice 49, 1, 24, .v (.slice none 0 0)⟩),
  (132, ⟨.fn, 1, 8, .v .nilFunc⟩),
  (133, ⟨.fn, 1, 8, .v .nilFunc⟩),
  (134, ⟨.fn, 1, 8, .v .nilFunc⟩),
  (135, ⟨.fn, 1, 8, .v .nilFunc⟩),
  (136, ⟨.fn, 1, 8, .v .nilFunc⟩),
  (137, ⟨.fn, 1, 8, .v .nilFunc⟩),
  (138, ⟨.fn, 1, 8, .v .nilFunc⟩),
  (139, ⟨.int .u64, 1, 8, .v (.int .u64 0)⟩),
  (141, ⟨.fn, 1, 8, .v .nilFunc⟩),
  (142, ⟨.fn, 1, 8, .v .nilFunc⟩),
  (143, ⟨.fn, 1, 8, .v .nilFunc⟩),
  (144, ⟨.ptr 5, 1, 8, .v (.pointer none)⟩),
  (146, ⟨.fn, 1, 8, .v .nilFunc⟩),
  (147, ⟨.fn, 1, 8, .v .nilFunc⟩),
  (149, ⟨.fn, 1, 8, .v .nilFunc⟩),
  (150, ⟨.fn, 1, 8, .v .nilFunc⟩),
  (151, ⟨.fn, 1, 8, .v .nilFunc⟩),
  (152, ⟨.fn, 1, 8, .v .nilFunc⟩),
  (153, ⟨.fn, 1, 8, .v .nilFunc⟩),
  (154, ⟨.int .u32, 1, 4, .v (.int .u32 0)⟩),
  (155, ⟨.fn, 1, 8, .v .nilFunc⟩),
  (157, ⟨.fn, 1, 8, .v .nilFunc⟩),
  (158, ⟨.fn, 1, 8, .v .nilFunc⟩),
  (159, ⟨.fn, 1, 8, .v .nilFunc⟩),
  (161, ⟨.fn, 1, 8, .v .nilFunc⟩),
  (163, ⟨.fn, 1, 8, .v .nilFunc⟩),
  (164, ⟨.int .u64, 1, 8, .v (.int .u64 0)⟩),
  (166, ⟨.fn, 1, 8, .v .nilFunc⟩),
  (167, ⟨.arr 3 3, 3, 24, .agg [.v (.int .i64 0), .v (.int .i64 0), .v (.int .i64 0)]⟩),
  (168, ⟨.struct [(0, false, 1), (1, false, 1)], 2, 16, .agg [.v (.int .i64 0), .v (.int .i64 0)]⟩),
  (169, ⟨.struct [(0, false, 1), (1, false, 1)], 2, 16, .agg [.v (.int .i64 0), .v (.int .i64 0)]⟩),
  (171, ⟨.fn, 1, 8, .v .nilFunc⟩),
  (172, ⟨.fn, 1, 8, .v .nilFunc⟩),
  (173, ⟨.arr 256 4, 256, 256, .agg (List.replicate 256 (.v (.bool false)))⟩),
  (174, ⟨.arr 256 4, 256, 256, .agg (List.replicate 256 (.v (.bool false)))⟩),
  (176, ⟨.fn, 1, 8, .v .nilFunc⟩),
  (177, ⟨.fn, 1, 8, .v .nilFunc⟩),
  (178, ⟨.ptr 174, 1, 8, .v (.pointer none)⟩),
  (179, ⟨.fn, 1, 8, .v .nilFunc⟩),
  (180, ⟨.fn, 1, 8, .v .nilFunc⟩),
  (181, ⟨.fn, 1, 8, .v .nilFunc⟩),
  (182, ⟨.fn, 1, 8, .v .nilFunc⟩),
  (183, ⟨.fn, 1, 8, .v .nilFunc⟩),
  (184, ⟨.fn, 1, 8, .v .nilFunc⟩),
  (185, ⟨.fn, 1, 8, .v .nilFunc⟩),
  (186, ⟨.fn, 1, 8, .v .nilFunc⟩),
  (188, ⟨.fn, 1, 8, .v .nilFunc⟩),
  (189, ⟨.fn, 1, 8, .v .nilFunc⟩),
  (190, ⟨.fn, 1, 8, .v .nilFunc⟩),
  (191, ⟨.fn, 1, 8, .v .nilFunc⟩),
  (192, ⟨.fn, 1, 8, .v .nilFunc⟩),
  (193, ⟨.int .i64, 1, 8, .v (.int .i64 0)⟩),
  (195, ⟨.fn, 1, 8, .v .nilFunc⟩),
  (196, ⟨.fn, 1, 8, .v .nilFunc⟩),
  (197, ⟨.fn, 1, 8, .v .nilFunc⟩),
  (199, ⟨.fn, 1, 8, .v .nilFunc⟩),
  (200, ⟨.fn, 1, 8, .v .nilFunc⟩),
  (201, ⟨.fn, 1, 8, .v .nilFunc⟩),
  (202, ⟨.fn, 1, 8, .v .nilFunc⟩),
  (203, ⟨.arr 16 154, 16, 64, .agg (List.replicate 16 (.v (.int .u32 0)))⟩),
  (204, ⟨.fn, 1, 8, .v .nilFunc⟩),
  (205, ⟨.int .u64, 1, 8, .v (.int .u64 0)⟩),
  (206, ⟨.fn, 1, 8, .v .nilFunc⟩),
  (207, ⟨.fn, 1, 8, .v .nilFunc⟩),
  (208, ⟨.fn, 1, 8, .v .nilFunc⟩),
  (209, ⟨.ptr 3, 1, 8, .v (.pointer none)⟩),
  (210, ⟨.fn, 1, 8, .v .nilFunc⟩),
  (211, ⟨.arr 256 5, 256, 256, .agg (List.replicate 256 (.v (.int .u8 0)))⟩),
  (212, ⟨.struct [(0, false, 1), (1, false, 1)], 2, 2, .agg [.v (.int .u8 0), .v (.int .u8 0)]⟩),
  (213, ⟨.struct [(0, false, 1), (1, false, 1)], 2, 2, .agg [.v (.int .u8 0), .v (.int .u8 0)]⟩),
  (214, ⟨.arr 16 213, 32, 32, .agg (List.replicate 32 (.v (.int .u8 0)))⟩),
  (215, ⟨.fn, 1, 8, .v .nilFunc⟩),
  (216, ⟨.fn, 1, 8, .v .nilFunc⟩),
  (217, ⟨.fn, 1, 8, .v .nilFunc⟩),
  (218, ⟨.ptr 205, 1, 8, .v (.pointer none)⟩),
  (219, ⟨.fn, 1, 8, .v .nilFunc⟩),
  (227, ⟨.fn, 1, 8, .v .nilFunc⟩)]

noncomputable abbrev P : Program := Go.Proofs.Tryz.prog
noncomputable abbrev T : Nat → TI := tab tbl
theorem hT : TOk P T := tok_of P tbl (by kernel_rfl)
theorem hm : P.follows .mixedOrders = true := by kernel_rfl
end Go.Aw.V1

namespace Go.Aw.VE
open Go
noncomputable abbrev P : Program := Go.Proofs.Tryz.prog
noncomputable abbrev T : Nat → TI := tab Go.Aw.V1.tbl
theorem hT : TOk P T := Go.Aw.V1.hT
theorem hm : P.follows .mixedOrders = true := Go.Aw.V1.hm
noncomputable def body (f : Func) : Code := match f.body with | some c => c | none => .skip
end Go.Aw.VE

set_option linter.unusedSimpArgs false
set_option linter.unusedVariables false
set_option maxHeartbeats 4000000
namespace Go.Aw.VE
open Go

abbrev nV (n : Int) : AV := .v (.int .i64 n)
abbrev sV (s : ByteArray) : AV := .v (.string s)
def cA (b : List UInt8) : AV := .agg (b.map byteC)
def nKV (n : Int) : Value := .int .i64 n
def nOk (n : Int) : Prop := (Lit.int .i64 n).wf = true
theorem und3 : P.underlying 3 = some (.int .i64) := by kernel_rfl
theorem nK : KEnc P 3 nKV nV nOk where
  keyed := Go.Maps.int_keyed und3
  lit := fun a h => ⟨_, Go.Maps.keyOf_int_mk und3 h⟩
  inj := by intro a b h; simpa [nKV] using h
  rep := by intro w m I a y h; simp only [nV, Rep] at h; exact h

/-- a device -/
structure Dd where
  n : Nat
  o : Int
  a : Int
  f : Bool
  cs : List UInt8
  L : List (Int × List UInt8)

def dD (lc lm : Nat) (x : Dd) : ABlk := .cells 97 [.ms 64 lc 0 x.n, .mp lm, nV x.o, nV x.a, .v (.bool x.f)]
def dC (x : Dd) : ABlk := .cells 103 (x.cs.map byteC)
def dM (x : Dd) (bs : List Nat) (ck : Nat) : ABlk := .map (em nV cA x.L) bs ck
def dvH (x : Dd) (bs : List Nat) (ck : Nat) : List ABlk := [dD 1 2 x, dC x, dM x bs ck]

def DSpec (f : Nat) (args : List AV) (x : Dd) (R : AV → Dd → Prop) : Prop :=
  ∀ bs ck, Spec P f (.ptr 0 0 :: args) (dvH x bs ck) fun r H' => ∃ y bs' ck', R r y ∧ H' = dvH y bs' ck'

theorem bytes_ren (ρ : Nat → Nat) (l : List UInt8) : renL ρ (l.map byteC) = l.map byteC := by
  rw [renL_map, List.map_map]; rfl
theorem cA_ren (ρ : Nat → Nat) (l : List UInt8) : (cA l).ren ρ = cA l := by
  simp only [cA, AV.ren, bytes_ren]
theorem em_ren (ρ : Nat → Nat) (L : List (Int × List UInt8)) : (em nV cA L).map (fun x => (x.1.ren ρ, x.2.ren ρ)) = em nV cA L := by
  simp only [em, List.map_map]
  refine List.map_congr_left fun p _ => ?_
  simp only [Function.comp, cA_ren]; rfl
theorem dC_ren (ρ : Nat → Nat) (x : Dd) : (dC x).ren ρ = dC x := by simp only [dC, ABlk.ren, bytes_ren]
theorem dM_ren (ρ : Nat → Nat) (x : Dd) (bs : List Nat) (ck : Nat) : (dM x bs ck).ren ρ = dM x bs ck := by simp only [dM, ABlk.ren, em_ren]
theorem dD_ren (ρ : Nat → Nat) (x : Dd) (a b : Nat) : (dD a b x).ren ρ = dD (ρ a) (ρ b) x := by simp only [dD, ABlk.ren, renL, AV.ren]

theorem ACall.dev {f : Nat} {args : List AV} {x : Dd} {R : AV → Dd → Prop} {H : List ABlk} {K : AV → List ABlk → Prop} {l lc lm : Nat} {bs : List Nat} {ck : Nat} (hc : callOk P f = true) (h : DSpec f args x R)
    (h1 : H[l]? = some (dD lc lm x)) (h2 : H[lc]? = some (dC x)) (h3 : H[lm]? = some (dM x bs ck)) (hn : [l, lc, lm].Nodup) (ha : ∀ ρ, renL ρ args = args) (hr : ∀ r y, R r y → ∀ ρ, r.ren ρ = r)
    (k : ∀ r y bs' ck', R r y → K r (((H.set l (dD lc lm y)).set lc (dC y)).set lm (dM y bs' ck'))) : ACall P f (.ptr l 0 :: args) H K := by
  refine ACall.of hc (h bs ck) [l, lc, lm] [] hn ?_ (by simp) (by simp) ?_ (.inl rfl) ?_
  · refine .same ?_ (.same ?_ (.same ?_ .nil))
    · rw [h1, dD_ren]; rfl
    · rw [h2, dC_ren]
    · rw [h3, dM_ren]
  · have := LendL.same (H := H) (B := []) (ρ := nm [l, lc, lm] H.length) (.ptr 0 0 :: args)
    simp only [renL, ha] at this
    exact this
  · rintro r _ ⟨y, bs', ck', hR, rfl⟩
    rw [hr r y hR]
    have := k r y bs' ck' hR
    simp only [dvH, mergeH, dD_ren, dC_ren, dM_ren, List.map_nil, List.append_nil]
    exact this

theorem f51 (x : Dd) (hn : 0 < x.n) : DSpec 51 [] x fun r y => r = .v (.bool true) ∧ y = x := by
  intro bs ck
  refine spec_of hT (f := 51) (fn := Go.Proofs.Tryz.f51) (c := body Go.Proofs.Tryz.f51) (by kernel_rfl) (by kernel_rfl) ?_
  conv => whnf
  repeat ((first | refine AO.cons hT ?_ | refine AO.nil ?_ | refine AW.seq ?_ | refine AW.region ?_ | refine AW.cond ?_ | refine AW.block ?_ | refine AW.loop ?_ | refine AW.skip ?_ | refine AW.exit ?_ | refine AW.ret ?_ | refine AW.label ?_ | refine AW.scope ?_ | refine AF.one hT rfl ?_ | refine AF.nil ?_ | refine AF.imm hT rfl rfl rfl ?_ | refine AH.of hT rfl ?_ | refine AD.cons hT rfl ?_ | refine AD.nil ?_ | refine AQ.cons hT rfl ?_ | refine AQ.nil ?_); conv => whnf)
  refine ASplit.yes rfl ?_
  conv => whnf
  repeat ((first | refine AO.cons hT ?_ | refine AO.nil ?_ | refine AW.seq ?_ | refine AW.region ?_ | refine AW.cond ?_ | refine AW.block ?_ | refine AW.loop ?_ | refine AW.skip ?_ | refine AW.exit ?_ | refine AW.ret ?_ | refine AW.label ?_ | refine AW.scope ?_ | refine AF.one hT rfl ?_ | refine AF.nil ?_ | refine AF.imm hT rfl rfl rfl ?_ | refine AH.of hT rfl ?_ | refine AD.cons hT rfl ?_ | refine AD.nil ?_ | refine AQ.cons hT rfl ?_ | refine AQ.nil ?_); conv => whnf)
  refine AFin.mk ⟨x, bs, ck, ⟨?_, rfl⟩, rfl⟩
  rw [decide_eq_true (by omega)]

def upE (x : Dd) : Int := if x.f then 20 else 0
theorem f60 (x : Dd) (hn : 0 < x.n) : DSpec 60 [] x fun r y => r = nV (upE x) ∧ y = x := by
  intro bs ck
  refine spec_of hT (f := 60) (fn := Go.Proofs.Tryz.f60) (c := body Go.Proofs.Tryz.f60) (by kernel_rfl) (by kernel_rfl) ?_
  conv => whnf
  repeat ((first | refine AO.cons hT ?_ | refine AO.nil ?_ | refine AW.seq ?_ | refine AW.region ?_ | refine AW.cond ?_ | refine AW.block ?_ | refine AW.loop ?_ | refine AW.skip ?_ | refine AW.exit ?_ | refine AW.ret ?_ | refine AW.label ?_ | refine AW.scope ?_ | refine AF.one hT rfl ?_ | refine AF.nil ?_ | refine AF.imm hT rfl rfl rfl ?_ | refine AH.of hT rfl ?_ | refine AD.cons hT rfl ?_ | refine AD.nil ?_ | refine AQ.cons hT rfl ?_ | refine AQ.nil ?_); conv => whnf)
  refine ACall.dev (by kernel_rfl) (f51 x hn) rfl rfl rfl (by decide) (fun _ => rfl) (by rintro _ _ ⟨rfl, _⟩ _; rfl) ?_
  rintro _ x bs' ck' ⟨rfl, rfl⟩
  conv => whnf
  repeat (first | (refine AW.label ?_; conv => whnf) | (refine AW.scope ?_; conv => whnf) | (refine AO.cons hT ?_; conv => whnf) | (refine AO.nil ?_; conv => whnf) | (refine AW.seq ?_; conv => whnf) | (refine AW.region ?_; conv => whnf) | (refine AW.cond ?_; conv => whnf) | (refine AW.block ?_; conv => whnf) | (refine AW.loop ?_; conv => whnf) | (refine AW.skip ?_; conv => whnf) | (refine AW.exit ?_; conv => whnf) | (refine AW.ret ?_; conv => whnf) | (refine AF.one hT rfl ?_; conv => whnf) | (refine AF.nil ?_; conv => whnf) | (refine AF.imm hT rfl rfl rfl ?_; conv => whnf) | (refine AH.of hT rfl ?_; conv => whnf) | (refine ASplit.yes rfl ?_; conv => whnf) | (refine ACond.yes rfl ?_; conv => whnf) | (refine ASplit.no rfl ?_; conv => whnf) | (refine ACond.no rfl ?_; conv => whnf) | (refine ASplit.yes (by decide) ?_; conv => whnf) | (refine ACond.yes (by decide) ?_; conv => whnf) | (refine AReq.mk (by decide) ?_; conv => whnf) | (refine AIdx.iff.2 ⟨by decide, ?_⟩; conv => whnf))
  unfold upE
  obtain ⟨n, o, a, f, cs, L⟩ := x
  cases f with
  | true =>
    conv => whnf
    repeat (first | (refine AW.label ?_; conv => whnf) | (refine AW.scope ?_; conv => whnf) | (refine AO.cons hT ?_; conv => whnf) | (refine AO.nil ?_; conv => whnf) | (refine AW.seq ?_; conv => whnf) | (refine AW.region ?_; conv => whnf) | (refine AW.cond ?_; conv => whnf) | (refine AW.block ?_; conv => whnf) | (refine AW.loop ?_; conv => whnf) | (refine AW.skip ?_; conv => whnf) | (refine AW.exit ?_; conv => whnf) | (refine AW.ret ?_; conv => whnf) | (refine AF.one hT rfl ?_; conv => whnf) | (refine AF.nil ?_; conv => whnf) | (refine AF.imm hT rfl rfl rfl ?_; conv => whnf) | (refine AH.of hT rfl ?_; conv => whnf) | (refine ASplit.yes rfl ?_; conv => whnf) | (refine ACond.yes rfl ?_; conv => whnf) | (refine ASplit.no rfl ?_; conv => whnf) | (refine ACond.no rfl ?_; conv => whnf) | (refine ASplit.yes (by decide) ?_; conv => whnf) | (refine ACond.yes (by decide) ?_; conv => whnf) | (refine AReq.mk (by decide) ?_; conv => whnf) | (refine AIdx.iff.2 ⟨by decide, ?_⟩; conv => whnf))
    exact AFin.mk ⟨_, bs', ck', ⟨rfl, rfl⟩, rfl⟩
  | false =>
    conv => whnf
    repeat (first | (refine AW.label ?_; conv => whnf) | (refine AW.scope ?_; conv => whnf) | (refine AO.cons hT ?_; conv => whnf) | (refine AO.nil ?_; conv => whnf) | (refine AW.seq ?_; conv => whnf) | (refine AW.region ?_; conv => whnf) | (refine AW.cond ?_; conv => whnf) | (refine AW.block ?_; conv => whnf) | (refine AW.loop ?_; conv => whnf) | (refine AW.skip ?_; conv => whnf) | (refine AW.exit ?_; conv => whnf) | (refine AW.ret ?_; conv => whnf) | (refine AF.one hT rfl ?_; conv => whnf) | (refine AF.nil ?_; conv => whnf) | (refine AF.imm hT rfl rfl rfl ?_; conv => whnf) | (refine AH.of hT rfl ?_; conv => whnf) | (refine ASplit.yes rfl ?_; conv => whnf) | (refine ACond.yes rfl ?_; conv => whnf) | (refine ASplit.no rfl ?_; conv => whnf) | (refine ACond.no rfl ?_; conv => whnf) | (refine ASplit.yes (by decide) ?_; conv => whnf) | (refine ACond.yes (by decide) ?_; conv => whnf) | (refine AReq.mk (by decide) ?_; conv => whnf) | (refine AIdx.iff.2 ⟨by decide, ?_⟩; conv => whnf))
    exact AFin.mk ⟨_, bs', ck', ⟨rfl, rfl⟩, rfl⟩

theorem f61 (x : Dd) (at_ n : Int) (hx : x.n ≤ 1000000) (h1 : (Lit.int .i64 at_).wf = true) : DSpec 61 [nV at_, nV n] x fun r y => r = .v (.bool (decide (0 ≤ at_ ∧ at_ < x.n ∧ n ≤ x.n - at_))) ∧ y = x := by
  intro bs ck
  refine spec_of hT (f := 61) (fn := Go.Proofs.Tryz.f61) (c := body Go.Proofs.Tryz.f61) (by kernel_rfl) (by kernel_rfl) ?_
  conv => whnf
  repeat ((first | refine AO.cons hT ?_ | refine AO.nil ?_ | refine AW.seq ?_ | refine AW.region ?_ | refine AW.cond ?_ | refine AW.block ?_ | refine AW.loop ?_ | refine AW.skip ?_ | refine AW.exit ?_ | refine AW.ret ?_ | refine AW.label ?_ | refine AW.scope ?_ | refine AF.one hT rfl ?_ | refine AF.nil ?_ | refine AF.imm hT rfl rfl rfl ?_ | refine AH.of hT rfl ?_ | refine AD.cons hT rfl ?_ | refine AD.nil ?_ | refine AQ.cons hT rfl ?_ | refine AQ.nil ?_); conv => whnf)
  refine ASplit.dec (fun g1 => ?_) (fun g1 => ?_)
  · conv => whnf
    repeat ((first | refine AO.cons hT ?_ | refine AO.nil ?_ | refine AW.seq ?_ | refine AW.region ?_ | refine AW.cond ?_ | refine AW.block ?_ | refine AW.loop ?_ | refine AW.skip ?_ | refine AW.exit ?_ | refine AW.ret ?_ | refine AW.label ?_ | refine AW.scope ?_ | refine AF.one hT rfl ?_ | refine AF.nil ?_ | refine AF.imm hT rfl rfl rfl ?_ | refine AH.of hT rfl ?_ | refine AD.cons hT rfl ?_ | refine AD.nil ?_ | refine AQ.cons hT rfl ?_ | refine AQ.nil ?_); conv => whnf)
    refine ASplit.dec (fun g2 => ?_) (fun g2 => ?_)
    · conv => whnf
      repeat ((first | refine AO.cons hT ?_ | refine AO.nil ?_ | refine AW.seq ?_ | refine AW.region ?_ | refine AW.cond ?_ | refine AW.block ?_ | refine AW.loop ?_ | refine AW.skip ?_ | refine AW.exit ?_ | refine AW.ret ?_ | refine AW.label ?_ | refine AW.scope ?_ | refine AF.one hT rfl ?_ | refine AF.nil ?_ | refine AF.imm hT rfl rfl rfl ?_ | refine AH.of hT rfl ?_ | refine AD.cons hT rfl ?_ | refine AD.nil ?_ | refine AQ.cons hT rfl ?_ | refine AQ.nil ?_); conv => whnf)
      rw [wrap_i64 ((x.n : Int) - at_) (by omega) (by omega)]
      refine AFin.mk ⟨x, bs, ck, ⟨?_, rfl⟩, rfl⟩
      congr 3
      exact propext ⟨fun h => ⟨g1, g2, h⟩, fun h => h.2.2⟩
    · conv => whnf
      repeat ((first | refine AO.cons hT ?_ | refine AO.nil ?_ | refine AW.seq ?_ | refine AW.region ?_ | refine AW.cond ?_ | refine AW.block ?_ | refine AW.loop ?_ | refine AW.skip ?_ | refine AW.exit ?_ | refine AW.ret ?_ | refine AW.label ?_ | refine AW.scope ?_ | refine AF.one hT rfl ?_ | refine AF.nil ?_ | refine AF.imm hT rfl rfl rfl ?_ | refine AH.of hT rfl ?_ | refine AD.cons hT rfl ?_ | refine AD.nil ?_ | refine AQ.cons hT rfl ?_ | refine AQ.nil ?_); conv => whnf)
      refine AFin.mk ⟨x, bs, ck, ⟨?_, rfl⟩, rfl⟩
      rw [decide_eq_false (p := 0 ≤ at_ ∧ at_ < x.n ∧ n ≤ x.n - at_) (fun h => g2 h.2.1)]
  · conv => whnf
    repeat (first | (refine AW.label ?_; conv => whnf) | (refine AW.scope ?_; conv => whnf) | (refine AO.cons hT ?_; conv => whnf) | (refine AO.nil ?_; conv => whnf) | (refine AW.seq ?_; conv => whnf) | (refine AW.region ?_; conv => whnf) | (refine AW.cond ?_; conv => whnf) | (refine AW.block ?_; conv => whnf) | (refine AW.loop ?_; conv => whnf) | (refine AW.skip ?_; conv => whnf) | (refine AW.exit ?_; conv => whnf) | (refine AW.ret ?_; conv => whnf) | (refine AF.one hT rfl ?_; conv => whnf) | (refine AF.nil ?_; conv => whnf) | (refine AF.imm hT rfl rfl rfl ?_; conv => whnf) | (refine AH.of hT rfl ?_; conv => whnf) | (refine ASplit.yes rfl ?_; conv => whnf) | (refine ACond.yes rfl ?_; conv => whnf) | (refine ASplit.no rfl ?_; conv => whnf) | (refine ACond.no rfl ?_; conv => whnf) | (refine ASplit.yes (by decide) ?_; conv => whnf) | (refine ACond.yes (by decide) ?_; conv => whnf) | (refine AReq.mk (by decide) ?_; conv => whnf) | (refine AIdx.iff.2 ⟨by decide, ?_⟩; conv => whnf))
    have h0 : decide (0 ≤ at_ ∧ at_ < x.n ∧ n ≤ x.n - at_) = false := decide_eq_false (fun h => g1 h.1)
    rw [h0]
    exact AFin.mk ⟨x, bs, ck, ⟨rfl, rfl⟩, rfl⟩

def lastD (x : Dd) : Dd :=
  if x.a = 0 then { x with o := IntKind.wrap .i64 (x.o + 1) } else { x with o := IntKind.wrap .i64 (x.o + 1), a := IntKind.wrap .i64 (x.a - 1), f := decide (IntKind.wrap .i64 (x.a - 1) = 0) }
def lastB (x : Dd) : Bool := if x.a = 0 then false else decide (IntKind.wrap .i64 (x.a - 1) = 0)
theorem f62 (x : Dd) : DSpec 62 [] x fun r y => r = .v (.bool (lastB x)) ∧ y = lastD x := by
  intro bs ck
  refine spec_of hT (f := 62) (fn := Go.Proofs.Tryz.f62) (c := body Go.Proofs.Tryz.f62) (by kernel_rfl) (by kernel_rfl) ?_
  obtain ⟨n, o, a, f, cs, L⟩ := x
  unfold lastB lastD
  conv => whnf
  repeat ((first | refine AO.cons hT ?_ | refine AO.nil ?_ | refine AW.seq ?_ | refine AW.region ?_ | refine AW.cond ?_ | refine AW.block ?_ | refine AW.loop ?_ | refine AW.skip ?_ | refine AW.exit ?_ | refine AW.ret ?_ | refine AW.label ?_ | refine AW.scope ?_ | refine AF.one hT rfl ?_ | refine AF.nil ?_ | refine AF.imm hT rfl rfl rfl ?_ | refine AH.of hT rfl ?_ | refine AD.cons hT rfl ?_ | refine AD.nil ?_ | refine AQ.cons hT rfl ?_ | refine AQ.nil ?_); conv => whnf)
  refine ACond.dec (fun h => ?_) (fun h => ?_)
  · conv => whnf
    repeat ((first | refine AO.cons hT ?_ | refine AO.nil ?_ | refine AW.seq ?_ | refine AW.region ?_ | refine AW.cond ?_ | refine AW.block ?_ | refine AW.loop ?_ | refine AW.skip ?_ | refine AW.exit ?_ | refine AW.ret ?_ | refine AW.label ?_ | refine AW.scope ?_ | refine AF.one hT rfl ?_ | refine AF.nil ?_ | refine AF.imm hT rfl rfl rfl ?_ | refine AH.of hT rfl ?_ | refine AD.cons hT rfl ?_ | refine AD.nil ?_ | refine AQ.cons hT rfl ?_ | refine AQ.nil ?_); conv => whnf)
    have h' : a = 0 := h
    rw [if_pos h', if_pos h']
    exact AFin.mk ⟨_, bs, ck, ⟨rfl, rfl⟩, rfl⟩
  · conv => whnf
    repeat ((first | refine AO.cons hT ?_ | refine AO.nil ?_ | refine AW.seq ?_ | refine AW.region ?_ | refine AW.cond ?_ | refine AW.block ?_ | refine AW.loop ?_ | refine AW.skip ?_ | refine AW.exit ?_ | refine AW.ret ?_ | refine AW.label ?_ | refine AW.scope ?_ | refine AF.one hT rfl ?_ | refine AF.nil ?_ | refine AF.imm hT rfl rfl rfl ?_ | refine AH.of hT rfl ?_ | refine AD.cons hT rfl ?_ | refine AD.nil ?_ | refine AQ.cons hT rfl ?_ | refine AQ.nil ?_); conv => whnf)
    have h' : ¬ a = 0 := h
    rw [if_neg h', if_neg h']
    exact AFin.mk ⟨_, bs, ck, ⟨rfl, rfl⟩, rfl⟩

theorem f44 (x : Dd) (hn : 0 < x.n) : DSpec 44 [] x fun r y => r = nV x.n ∧ y = x := by
  intro bs ck
  refine spec_of hT (f := 44) (fn := Go.Proofs.Tryz.f44) (c := body Go.Proofs.Tryz.f44) (by kernel_rfl) (by kernel_rfl) ?_
  conv => whnf
  repeat ((first | refine AO.cons hT ?_ | refine AO.nil ?_ | refine AW.seq ?_ | refine AW.region ?_ | refine AW.cond ?_ | refine AW.block ?_ | refine AW.loop ?_ | refine AW.skip ?_ | refine AW.exit ?_ | refine AW.ret ?_ | refine AW.label ?_ | refine AW.scope ?_ | refine AF.one hT rfl ?_ | refine AF.nil ?_ | refine AF.imm hT rfl rfl rfl ?_ | refine AH.of hT rfl ?_ | refine AD.cons hT rfl ?_ | refine AD.nil ?_ | refine AQ.cons hT rfl ?_ | refine AQ.nil ?_); conv => whnf)
  refine ACall.dev (by kernel_rfl) (f51 x hn) rfl rfl rfl (by decide) (fun _ => rfl) (by rintro _ _ ⟨rfl, _⟩ _; rfl) ?_
  rintro _ x bs' ck' ⟨rfl, rfl⟩
  conv => whnf
  repeat (first | (refine AW.label ?_; conv => whnf) | (refine AW.scope ?_; conv => whnf) | (refine AO.cons hT ?_; conv => whnf) | (refine AO.nil ?_; conv => whnf) | (refine AW.seq ?_; conv => whnf) | (refine AW.region ?_; conv => whnf) | (refine AW.cond ?_; conv => whnf) | (refine AW.block ?_; conv => whnf) | (refine AW.loop ?_; conv => whnf) | (refine AW.skip ?_; conv => whnf) | (refine AW.exit ?_; conv => whnf) | (refine AW.ret ?_; conv => whnf) | (refine AF.one hT rfl ?_; conv => whnf) | (refine AF.nil ?_; conv => whnf) | (refine AF.imm hT rfl rfl rfl ?_; conv => whnf) | (refine AH.of hT rfl ?_; conv => whnf) | (refine ASplit.yes rfl ?_; conv => whnf) | (refine ACond.yes rfl ?_; conv => whnf) | (refine ASplit.no rfl ?_; conv => whnf) | (refine ACond.no rfl ?_; conv => whnf) | (refine ASplit.yes (by decide) ?_; conv => whnf) | (refine ACond.yes (by decide) ?_; conv => whnf) | (refine AReq.mk (by decide) ?_; conv => whnf) | (refine AIdx.iff.2 ⟨by decide, ?_⟩; conv => whnf))
  exact AFin.mk ⟨_, bs', ck', ⟨rfl, rfl⟩, rfl⟩
theorem f22 (x : Dd) (hn : 0 < x.n) : DSpec 22 [] x fun r y => r = nV 0 ∧ y = { x with f := true, a := 0 } := by
  intro bs ck
  refine spec_of hT (f := 22) (fn := Go.Proofs.Tryz.f22) (c := body Go.Proofs.Tryz.f22) (by kernel_rfl) (by kernel_rfl) ?_
  conv => whnf
  repeat ((first | refine AO.cons hT ?_ | refine AO.nil ?_ | refine AW.seq ?_ | refine AW.region ?_ | refine AW.cond ?_ | refine AW.block ?_ | refine AW.loop ?_ | refine AW.skip ?_ | refine AW.exit ?_ | refine AW.ret ?_ | refine AW.label ?_ | refine AW.scope ?_ | refine AF.one hT rfl ?_ | refine AF.nil ?_ | refine AF.imm hT rfl rfl rfl ?_ | refine AH.of hT rfl ?_ | refine AD.cons hT rfl ?_ | refine AD.nil ?_ | refine AQ.cons hT rfl ?_ | refine AQ.nil ?_); conv => whnf)
  refine ACall.dev (by kernel_rfl) (f51 x hn) rfl rfl rfl (by decide) (fun _ => rfl) (by rintro _ _ ⟨rfl, _⟩ _; rfl) ?_
  rintro _ x bs' ck' ⟨rfl, rfl⟩
  conv => whnf
  repeat (first | (refine AW.label ?_; conv => whnf) | (refine AW.scope ?_; conv => whnf) | (refine AO.cons hT ?_; conv => whnf) | (refine AO.nil ?_; conv => whnf) | (refine AW.seq ?_; conv => whnf) | (refine AW.region ?_; conv => whnf) | (refine AW.cond ?_; conv => whnf) | (refine AW.block ?_; conv => whnf) | (refine AW.loop ?_; conv => whnf) | (refine AW.skip ?_; conv => whnf) | (refine AW.exit ?_; conv => whnf) | (refine AW.ret ?_; conv => whnf) | (refine AF.one hT rfl ?_; conv => whnf) | (refine AF.nil ?_; conv => whnf) | (refine AF.imm hT rfl rfl rfl ?_; conv => whnf) | (refine AH.of hT rfl ?_; conv => whnf) | (refine ASplit.yes rfl ?_; conv => whnf) | (refine ACond.yes rfl ?_; conv => whnf) | (refine ASplit.no rfl ?_; conv => whnf) | (refine ACond.no rfl ?_; conv => whnf) | (refine ASplit.yes (by decide) ?_; conv => whnf) | (refine ACond.yes (by decide) ?_; conv => whnf) | (refine AReq.mk (by decide) ?_; conv => whnf) | (refine AIdx.iff.2 ⟨by decide, ?_⟩; conv => whnf))
  exact AFin.mk ⟨_, bs', ck', ⟨rfl, rfl⟩, rfl⟩
end Go.Aw.VE

set_option linter.unusedSimpArgs false
set_option linter.unusedVariables false
set_option maxHeartbeats 4000000
namespace Go.Aw.VE
open Go

def cellOf (cs : List UInt8) (k : Nat) : List UInt8 := (cs.drop (64 * k)).take 64
def putC (cs : List UInt8) (k : Nat) (t : List UInt8) : List UInt8 := cs.take (64 * k) ++ t ++ cs.drop (64 * k + t.length)
def addL (L : List (Int × List UInt8)) (k : Int) (c : List UInt8) : List (Int × List UInt8) := if L.any (fun p => p.1 == k) then L else L ++ [(k, c)]
def putD (x : Dd) (k : Nat) (t : List UInt8) : Dd := { x with cs := putC x.cs k t, L := addL x.L k (cellOf x.cs k) }

theorem any_iff {L : List (Int × List UInt8)} {k : Int} : L.any (fun p => p.1 == k) = true ↔ ∃ p ∈ L, p.1 = k := by simp
theorem addL_yes {L : List (Int × List UInt8)} {k : Int} {c : List UInt8} (h : ∃ p ∈ L, p.1 = k) : addL L k c = L := by unfold addL; rw [if_pos (any_iff.2 h)]
theorem addL_no {L : List (Int × List UInt8)} {k : Int} {c : List UInt8} (h : ∀ p ∈ L, p.1 ≠ k) : addL L k c = L ++ [(k, c)] := by
  unfold addL; rw [if_neg (fun e => let ⟨p, h1, h2⟩ := any_iff.1 e; h p h1 h2)]

theorem AIdx.cell {cs : List UInt8} {i k : Nat} {K : List AV → Prop} (e : i = k) (h : 64 * k + 64 ≤ cs.length) (q : K ((cellOf cs k).map byteC)) : AIdx (cs.map byteC) 64 i K := by
  subst e
  rw [AIdx.iff, List.length_map]
  refine ⟨by omega, ?_⟩
  rw [← List.map_drop, ← List.map_take, Nat.mul_comm]
  exact q
theorem cellOf_len {cs : List UInt8} {k : Nat} (h : 64 * k + 64 ≤ cs.length) : (cellOf cs k).length = 64 := by
  unfold cellOf; rw [List.length_take, List.length_drop]; omega
theorem spl_put (cs t : List UInt8) (k : Nat) (h : 64 * k + t.length ≤ cs.length) : spl (cs.map byteC) (64 * k) (t.map byteC) = (putC cs k t).map byteC := by
  unfold spl putC
  simp only [List.map_append, List.map_take, List.map_drop, List.length_map]

theorem size_list (s : ByteArray) : s.data.toList.length = s.size := by simp

structure Dok (x : Dd) : Prop where
  pos : 0 < x.n
  le : x.n ≤ 2000
  len : x.cs.length = 64 * x.n
  keys : ∀ p ∈ x.L, 0 ≤ p.1 ∧ p.1 < x.n ∧ p.2.length = 64
  nd : (x.L.map (·.1)).Nodup

theorem nOk_of {n : Int} (h : -9223372036854775808 ≤ n) (h2 : n ≤ 9223372036854775807) : nOk n := by
  unfold nOk Lit.wf; simp [IntKind.min, IntKind.max, IntKind.bits, IntKind.signed]; omega

theorem Dok.ok {x : Dd} (h : Dok x) : ∀ p ∈ x.L, nOk p.1 := fun p hp => by
  have := h.keys p hp; have := h.le; exact nOk_of (by omega) (by omega)
theorem und60 : P.underlying 95 = some (.map 3 103) := by kernel_rfl
theorem ne71 : (T 103).u ≠ .other := by intro h; cases h

theorem AUpd.full {xs cs : List AV} {K : List AV → Prop} (h : cs.length = xs.length) (k : K cs) : AUpd xs 0 cs K := by
  rw [AUpd.iff]
  refine ⟨by omega, ?_⟩
  have : spl xs 0 cs = cs := by unfold spl; simp [h]
  rw [this]; exact k
theorem ACut.cell {cs : List UInt8} {n : Nat} {K : List AV → Prop} (h : cs.length = n) (k : K (cs.map byteC)) : ACut (cs.map byteC) 0 n K := ACut.all (by rw [List.length_map, h]) k
theorem AUpd.put {cs t : List UInt8} {i k : Nat} {K : List AV → Prop} (e : i = 64 * k) (h : 64 * k + t.length ≤ cs.length) (q : K ((putC cs k t).map byteC)) : AUpd (cs.map byteC) i (t.map byteC) K := by
  subst e
  rw [AUpd.iff, List.length_map, List.length_map, spl_put _ _ _ h]
  exact ⟨h, q⟩

/-- a method's end: its own memory is given up -/
theorem AFin.dev {r : AV} {y : Dd} {bs : List Nat} {ck : Nat} {G : List ABlk} {K : AV → List ABlk → Prop} (hr : ∀ ρ, r.ren ρ = r) (h : K r (dvH y bs ck)) : AFin 3 r (dD 1 2 y :: dC y :: dM y bs ck :: G) K := by
  refine AFin.to r (dvH y bs ck) (Conv.ren [0, 1, 2] [r] (by intro i hi; rcases i with _ | _ | _ | i <;> first | rfl | omega) (by decide) (by simp only [renL]; rw [hr]; exact Fit.refl _) (.same rfl (.same ?_ (.same ?_ .nil)))) h
  · rw [dC_ren]; rfl
  · rw [dM_ren]; rfl

theorem f63 (x : Dd) (hx : Dok x) (k : Nat) (hk : k < x.n) (s : ByteArray) (hs : s.size = 64) : DSpec 63 [nV k, sV s] x fun r y => r = .tup [] ∧ y = putD x k s.data.toList := by
  intro bs ck
  have hle := hx.le
  have hlen := hx.len
  have hsl := size_list s
  refine spec_of hT (f := 63) (fn := Go.Proofs.Tryz.f63) (c := body Go.Proofs.Tryz.f63) (by kernel_rfl) (by kernel_rfl) ?_
  conv => whnf
  repeat ((first | refine AO.cons hT ?_ | refine AO.nil ?_ | refine AW.cond ?_ | refine AW.block ?_ | refine AW.loop ?_ | refine AW.skip ?_ | refine AW.exit ?_ | refine AW.ret ?_ | refine AW.label ?_ | refine AW.scope ?_ | refine AF.one hT rfl ?_ | refine AF.nil ?_ | refine AF.imm hT rfl rfl rfl ?_ | refine AH.of hT rfl ?_ | refine AD.cons hT rfl ?_ | refine AD.nil ?_ | refine AQ.cons hT rfl ?_ | refine AQ.nil ?_); conv => whnf)
  refine AW.seqJ (fun E H => ∃ z bs ck, E = pad [.ptr 0 0, nV k, sV s] 40 ∧ H = [dD 1 2 x, dC x, .map (em nV cA (putD x k s.data.toList).L) bs ck, .cells 103 z]) ?_ ?_
  · conv => whnf
    repeat ((first | refine AO.cons hT ?_ | refine AO.nil ?_ | refine AW.seq ?_ | refine AW.region ?_ | refine AW.cond ?_ | refine AW.block ?_ | refine AW.loop ?_ | refine AW.skip ?_ | refine AW.exit ?_ | refine AW.ret ?_ | refine AW.label ?_ | refine AW.scope ?_ | refine AF.one hT rfl ?_ | refine AF.nil ?_ | refine AF.imm hT rfl rfl rfl ?_ | refine AH.of hT rfl ?_ | refine AD.cons hT rfl ?_ | refine AD.nil ?_ | refine AQ.cons hT rfl ?_ | refine AQ.nil ?_); conv => whnf)
    refine AOp.lookup (a := (k : Int)) hT nK und60 ne71 rfl rfl rfl hx.ok (nOk_of (by omega) (by omega)) (fun hno => ?_) (fun j b hj => ?_)
    · have hL : (putD x k s.data.toList).L = x.L ++ [((k : Int), cellOf x.cs k)] := addL_no hno
      rw [hL]
      conv => whnf
      repeat ((first | refine AO.cons hT ?_ | refine AO.nil ?_ | refine AW.seq ?_ | refine AW.region ?_ | refine AW.cond ?_ | refine AW.block ?_ | refine AW.loop ?_ | refine AW.skip ?_ | refine AW.exit ?_ | refine AW.ret ?_ | refine AW.label ?_ | refine AW.scope ?_ | refine AF.one hT rfl ?_ | refine AF.nil ?_ | refine AF.imm hT rfl rfl rfl ?_ | refine AH.of hT rfl ?_ | refine AD.cons hT rfl ?_ | refine AD.nil ?_ | refine AQ.cons hT rfl ?_ | refine AQ.nil ?_); conv => whnf)
      refine AReq.mk rfl ?_
      conv => whnf
      repeat ((first | refine AO.cons hT ?_ | refine AO.nil ?_ | refine AW.seq ?_ | refine AW.region ?_ | refine AW.cond ?_ | refine AW.block ?_ | refine AW.loop ?_ | refine AW.skip ?_ | refine AW.exit ?_ | refine AW.ret ?_ | refine AW.label ?_ | refine AW.scope ?_ | refine AF.one hT rfl ?_ | refine AF.nil ?_ | refine AF.imm hT rfl rfl rfl ?_ | refine AH.of hT rfl ?_ | refine AD.cons hT rfl ?_ | refine AD.nil ?_ | refine AQ.cons hT rfl ?_ | refine AQ.nil ?_); conv => whnf)
      refine AUpd.full rfl ?_
      conv => whnf
      repeat ((first | refine AO.cons hT ?_ | refine AO.nil ?_ | refine AW.seq ?_ | refine AW.region ?_ | refine AW.cond ?_ | refine AW.block ?_ | refine AW.loop ?_ | refine AW.skip ?_ | refine AW.exit ?_ | refine AW.ret ?_ | refine AW.label ?_ | refine AW.scope ?_ | refine AF.one hT rfl ?_ | refine AF.nil ?_ | refine AF.imm hT rfl rfl rfl ?_ | refine AH.of hT rfl ?_ | refine AD.cons hT rfl ?_ | refine AD.nil ?_ | refine AQ.cons hT rfl ?_ | refine AQ.nil ?_); conv => whnf)
      refine ACond.yes rfl ?_
      conv => whnf
      refine AW.orders hm (by kernel_rfl) 13 rfl ?_
      refine AG.one hT 0 rfl (by kernel_rfl) ?_
      conv => whnf
      refine AG.one hT 4 rfl (by kernel_rfl) ?_
      conv => whnf
      refine AG.one hT 5 rfl (by kernel_rfl) ?_
      conv => whnf
      refine AG.one hT 9 rfl (by kernel_rfl) ?_
      conv => whnf
      refine AG.alt 1 [6] (by kernel_rfl) ?_
      refine AGs.cons hT rfl ?_ ?_
      · skip
        conv => whnf
        refine AG.one hT 2 rfl (by kernel_rfl) ?_
        conv => whnf
        refine AG.alt 3 [6] (by kernel_rfl) ?_
        refine AGs.cons hT rfl ?_ ?_
        · skip
          conv => whnf
          refine AG.one hT 6 rfl (by kernel_rfl) ?_
          conv => whnf
          refine AG.one hT 7 rfl (by kernel_rfl) ?_
          conv => whnf
          refine AG.one hT 8 rfl (by kernel_rfl) ?_
          conv => whnf
          refine AG.one hT 10 rfl (by kernel_rfl) ?_
          conv => whnf
          refine AReq.mk ⟨by omega, by omega⟩ ?_
          conv => whnf
          refine AG.one hT 11 rfl (by kernel_rfl) ?_
          conv => whnf
          refine AIdx.cell rfl (by omega) ?_
          conv => whnf
          conv => whnf
          conv => whnf
          refine ACut.cell (cellOf_len (by omega)) ?_
          conv => whnf
          refine AG.one hT 12 rfl (by kernel_rfl) ?_
          conv => whnf
          refine AOp.mapUpdate (a := (k : Int)) (b' := cellOf x.cs k) nK und60 rfl rfl rfl rfl hx.ok (nOk_of (by omega) (by omega)) (fun _ => ?_) (fun j b hj => absurd rfl (hno _ (List.mem_of_getElem? hj)))
          conv => whnf
          refine AG.done (by kernel_rfl) ?_
          conv => whnf
          exact AOut.to _ _ (Conv.fit (by repeat' (first | exact Fit.nil | refine Fit.any ?_ | refine Fit.same ?_))) ⟨_, _, _, rfl, rfl⟩
        refine AGs.cons hT rfl ?_ ?_
        · skip
          conv => whnf
          refine AG.one hT 7 rfl (by kernel_rfl) ?_
          conv => whnf
          refine AG.alt 3 [8] (by kernel_rfl) ?_
          refine AGs.cons hT rfl ?_ ?_
          · skip
            conv => whnf
            refine AG.one hT 8 rfl (by kernel_rfl) ?_
            conv => whnf
            refine AG.one hT 10 rfl (by kernel_rfl) ?_
            conv => whnf
            refine AReq.mk ⟨by omega, by omega⟩ ?_
            conv => whnf
            refine AG.one hT 11 rfl (by kernel_rfl) ?_
            conv => whnf
            refine AIdx.cell rfl (by omega) ?_
            conv => whnf
            conv => whnf
            conv => whnf
            refine ACut.cell (cellOf_len (by omega)) ?_
            conv => whnf
            refine AG.one hT 12 rfl (by kernel_rfl) ?_
            conv => whnf
            refine AOp.mapUpdate (a := (k : Int)) (b' := cellOf x.cs k) nK und60 rfl rfl rfl rfl hx.ok (nOk_of (by omega) (by omega)) (fun _ => ?_) (fun j b hj => absurd rfl (hno _ (List.mem_of_getElem? hj)))
            conv => whnf
            refine AG.done (by kernel_rfl) ?_
            conv => whnf
            exact AOut.to _ _ (Conv.fit (by repeat' (first | exact Fit.nil | refine Fit.any ?_ | refine Fit.same ?_))) ⟨_, _, _, rfl, rfl⟩
          refine AGs.cons hT rfl ?_ ?_
          · skip
            conv => whnf
            refine AG.one hT 10 rfl (by kernel_rfl) ?_
            conv => whnf
            refine AReq.mk ⟨by omega, by omega⟩ ?_
            conv => whnf
            refine AG.alt 3 [11] (by kernel_rfl) ?_
            refine AGs.cons hT rfl ?_ ?_
            · skip
              conv => whnf
              refine AG.one hT 11 rfl (by kernel_rfl) ?_
              conv => whnf
              refine AIdx.cell rfl (by omega) ?_
              conv => whnf
              conv => whnf
              conv => whnf
              refine ACut.cell (cellOf_len (by omega)) ?_
              conv => whnf
              refine AG.one hT 12 rfl (by kernel_rfl) ?_
              conv => whnf
              refine AOp.mapUpdate (a := (k : Int)) (b' := cellOf x.cs k) nK und60 rfl rfl rfl rfl hx.ok (nOk_of (by omega) (by omega)) (fun _ => ?_) (fun j b hj => absurd rfl (hno _ (List.mem_of_getElem? hj)))
              conv => whnf
              refine AG.done (by kernel_rfl) ?_
              conv => whnf
              exact AOut.to _ _ (Conv.fit (by repeat' (first | exact Fit.nil | refine Fit.any ?_ | refine Fit.same ?_))) ⟨_, _, _, rfl, rfl⟩
            refine AGs.cons hT rfl ?_ ?_
            · skip
              conv => whnf
              refine AIdx.cell rfl (by omega) ?_
              conv => whnf
              conv => whnf
              conv => whnf
              refine ACut.cell (cellOf_len (by omega)) ?_
              conv => whnf
              refine AG.one hT 3 rfl (by kernel_rfl) ?_
              conv => whnf
              refine AG.one hT 12 rfl (by kernel_rfl) ?_
              conv => whnf
              refine AOp.mapUpdate (a := (k : Int)) (b' := cellOf x.cs k) nK und60 rfl rfl rfl rfl hx.ok (nOk_of (by omega) (by omega)) (fun _ => ?_) (fun j b hj => absurd rfl (hno _ (List.mem_of_getElem? hj)))
              conv => whnf
              refine AG.done (by kernel_rfl) ?_
              conv => whnf
              exact AOut.to _ _ (Conv.fit (by repeat' (first | exact Fit.nil | refine Fit.any ?_ | refine Fit.same ?_))) ⟨_, _, _, rfl, rfl⟩
            exact AGs.nil
          exact AGs.nil
        exact AGs.nil
      refine AGs.cons hT rfl ?_ ?_
      · skip
        conv => whnf
        refine AG.one hT 7 rfl (by kernel_rfl) ?_
        conv => whnf
        refine AG.alt 1 [8] (by kernel_rfl) ?_
        refine AGs.cons hT rfl ?_ ?_
        · skip
          conv => whnf
          refine AG.one hT 2 rfl (by kernel_rfl) ?_
          conv => whnf
          refine AG.alt 3 [8] (by kernel_rfl) ?_
          refine AGs.cons hT rfl ?_ ?_
          · skip
            conv => whnf
            refine AG.one hT 8 rfl (by kernel_rfl) ?_
            conv => whnf
            refine AG.one hT 10 rfl (by kernel_rfl) ?_
            conv => whnf
            refine AReq.mk ⟨by omega, by omega⟩ ?_
            conv => whnf
            refine AG.one hT 11 rfl (by kernel_rfl) ?_
            conv => whnf
            refine AIdx.cell rfl (by omega) ?_
            conv => whnf
            conv => whnf
            conv => whnf
            refine ACut.cell (cellOf_len (by omega)) ?_
            conv => whnf
            refine AG.one hT 12 rfl (by kernel_rfl) ?_
            conv => whnf
            refine AOp.mapUpdate (a := (k : Int)) (b' := cellOf x.cs k) nK und60 rfl rfl rfl rfl hx.ok (nOk_of (by omega) (by omega)) (fun _ => ?_) (fun j b hj => absurd rfl (hno _ (List.mem_of_getElem? hj)))
            conv => whnf
            refine AG.done (by kernel_rfl) ?_
            conv => whnf
            exact AOut.to _ _ (Conv.fit (by repeat' (first | exact Fit.nil | refine Fit.any ?_ | refine Fit.same ?_))) ⟨_, _, _, rfl, rfl⟩
          refine AGs.cons hT rfl ?_ ?_
          · skip
            conv => whnf
            refine AG.one hT 10 rfl (by kernel_rfl) ?_
            conv => whnf
            refine AReq.mk ⟨by omega, by omega⟩ ?_
            conv => whnf
            refine AG.alt 3 [11] (by kernel_rfl) ?_
            refine AGs.cons hT rfl ?_ ?_
            · skip
              conv => whnf
              refine AG.one hT 11 rfl (by kernel_rfl) ?_
              conv => whnf
              refine AIdx.cell rfl (by omega) ?_
              conv => whnf
              conv => whnf
              conv => whnf
              refine ACut.cell (cellOf_len (by omega)) ?_
              conv => whnf
              refine AG.one hT 12 rfl (by kernel_rfl) ?_
              conv => whnf
              refine AOp.mapUpdate (a := (k : Int)) (b' := cellOf x.cs k) nK und60 rfl rfl rfl rfl hx.ok (nOk_of (by omega) (by omega)) (fun _ => ?_) (fun j b hj => absurd rfl (hno _ (List.mem_of_getElem? hj)))
              conv => whnf
              refine AG.done (by kernel_rfl) ?_
              conv => whnf
              exact AOut.to _ _ (Conv.fit (by repeat' (first | exact Fit.nil | refine Fit.any ?_ | refine Fit.same ?_))) ⟨_, _, _, rfl, rfl⟩
            refine AGs.cons hT rfl ?_ ?_
            · skip
              conv => whnf
              refine AIdx.cell rfl (by omega) ?_
              conv => whnf
              conv => whnf
              conv => whnf
              refine ACut.cell (cellOf_len (by omega)) ?_
              conv => whnf
              refine AG.one hT 3 rfl (by kernel_rfl) ?_
              conv => whnf
              refine AG.one hT 12 rfl (by kernel_rfl) ?_
              conv => whnf
              refine AOp.mapUpdate (a := (k : Int)) (b' := cellOf x.cs k) nK und60 rfl rfl rfl rfl hx.ok (nOk_of (by omega) (by omega)) (fun _ => ?_) (fun j b hj => absurd rfl (hno _ (List.mem_of_getElem? hj)))
              conv => whnf
              refine AG.done (by kernel_rfl) ?_
              conv => whnf
              exact AOut.to _ _ (Conv.fit (by repeat' (first | exact Fit.nil | refine Fit.any ?_ | refine Fit.same ?_))) ⟨_, _, _, rfl, rfl⟩
            exact AGs.nil
          exact AGs.nil
        refine AGs.cons hT rfl ?_ ?_
        · skip
          conv => whnf
          refine AG.one hT 10 rfl (by kernel_rfl) ?_
          conv => whnf
          refine AReq.mk ⟨by omega, by omega⟩ ?_
          conv => whnf
          refine AG.alt 1 [11] (by kernel_rfl) ?_
          refine AGs.cons hT rfl ?_ ?_
          · skip
            conv => whnf
            refine AG.one hT 2 rfl (by kernel_rfl) ?_
            conv => whnf
            refine AG.alt 3 [11] (by kernel_rfl) ?_
            refine AGs.cons hT rfl ?_ ?_
            · skip
              conv => whnf
              refine AG.one hT 11 rfl (by kernel_rfl) ?_
              conv => whnf
              refine AIdx.cell rfl (by omega) ?_
              conv => whnf
              conv => whnf
              conv => whnf
              refine ACut.cell (cellOf_len (by omega)) ?_
              conv => whnf
              refine AG.one hT 12 rfl (by kernel_rfl) ?_
              conv => whnf
              refine AOp.mapUpdate (a := (k : Int)) (b' := cellOf x.cs k) nK und60 rfl rfl rfl rfl hx.ok (nOk_of (by omega) (by omega)) (fun _ => ?_) (fun j b hj => absurd rfl (hno _ (List.mem_of_getElem? hj)))
              conv => whnf
              refine AG.done (by kernel_rfl) ?_
              conv => whnf
              exact AOut.to _ _ (Conv.fit (by repeat' (first | exact Fit.nil | refine Fit.any ?_ | refine Fit.same ?_))) ⟨_, _, _, rfl, rfl⟩
            refine AGs.cons hT rfl ?_ ?_
            · skip
              conv => whnf
              refine AIdx.cell rfl (by omega) ?_
              conv => whnf
              conv => whnf
              conv => whnf
              refine ACut.cell (cellOf_len (by omega)) ?_
              conv => whnf
              refine AG.one hT 3 rfl (by kernel_rfl) ?_
              conv => whnf
              refine AG.one hT 12 rfl (by kernel_rfl) ?_
              conv => whnf
              refine AOp.mapUpdate (a := (k : Int)) (b' := cellOf x.cs k) nK und60 rfl rfl rfl rfl hx.ok (nOk_of (by omega) (by omega)) (fun _ => ?_) (fun j b hj => absurd rfl (hno _ (List.mem_of_getElem? hj)))
              conv => whnf
              refine AG.done (by kernel_rfl) ?_
              conv => whnf
              exact AOut.to _ _ (Conv.fit (by repeat' (first | exact Fit.nil | refine Fit.any ?_ | refine Fit.same ?_))) ⟨_, _, _, rfl, rfl⟩
            exact AGs.nil
          refine AGs.cons hT rfl ?_ ?_
          · skip
            conv => whnf
            refine AIdx.cell rfl (by omega) ?_
            conv => whnf
            conv => whnf
            conv => whnf
            refine ACut.cell (cellOf_len (by omega)) ?_
            conv => whnf
            refine AG.one hT 1 rfl (by kernel_rfl) ?_
            conv => whnf
            refine AG.one hT 2 rfl (by kernel_rfl) ?_
            conv => whnf
            refine AG.one hT 3 rfl (by kernel_rfl) ?_
            conv => whnf
            refine AG.one hT 12 rfl (by kernel_rfl) ?_
            conv => whnf
            refine AOp.mapUpdate (a := (k : Int)) (b' := cellOf x.cs k) nK und60 rfl rfl rfl rfl hx.ok (nOk_of (by omega) (by omega)) (fun _ => ?_) (fun j b hj => absurd rfl (hno _ (List.mem_of_getElem? hj)))
            conv => whnf
            refine AG.done (by kernel_rfl) ?_
            conv => whnf
            exact AOut.to _ _ (Conv.fit (by repeat' (first | exact Fit.nil | refine Fit.any ?_ | refine Fit.same ?_))) ⟨_, _, _, rfl, rfl⟩
          exact AGs.nil
        exact AGs.nil
      exact AGs.nil
    · have hb := (hx.keys _ (List.mem_of_getElem? hj)).2.2
      have hL : (putD x k s.data.toList).L = x.L := addL_yes ⟨_, List.mem_of_getElem? hj, rfl⟩
      rw [hL]
      conv => whnf
      repeat ((first | refine AO.cons hT ?_ | refine AO.nil ?_ | refine AW.seq ?_ | refine AW.region ?_ | refine AW.cond ?_ | refine AW.block ?_ | refine AW.loop ?_ | refine AW.skip ?_ | refine AW.exit ?_ | refine AW.ret ?_ | refine AW.label ?_ | refine AW.scope ?_ | refine AF.one hT rfl ?_ | refine AF.nil ?_ | refine AF.imm hT rfl rfl rfl ?_ | refine AH.of hT rfl ?_ | refine AD.cons hT rfl ?_ | refine AD.nil ?_ | refine AQ.cons hT rfl ?_ | refine AQ.nil ?_); conv => whnf)
      refine AReq.mk (by rw [List.length_map, hb]; rfl) ?_
      conv => whnf
      repeat ((first | refine AO.cons hT ?_ | refine AO.nil ?_ | refine AW.seq ?_ | refine AW.region ?_ | refine AW.cond ?_ | refine AW.block ?_ | refine AW.loop ?_ | refine AW.skip ?_ | refine AW.exit ?_ | refine AW.ret ?_ | refine AW.label ?_ | refine AW.scope ?_ | refine AF.one hT rfl ?_ | refine AF.nil ?_ | refine AF.imm hT rfl rfl rfl ?_ | refine AH.of hT rfl ?_ | refine AD.cons hT rfl ?_ | refine AD.nil ?_ | refine AQ.cons hT rfl ?_ | refine AQ.nil ?_); conv => whnf)
      refine AUpd.full (by rw [List.length_map, hb, List.length_replicate]) ?_
      conv => whnf
      repeat ((first | refine AO.cons hT ?_ | refine AO.nil ?_ | refine AW.seq ?_ | refine AW.region ?_ | refine AW.cond ?_ | refine AW.block ?_ | refine AW.loop ?_ | refine AW.skip ?_ | refine AW.exit ?_ | refine AW.ret ?_ | refine AW.label ?_ | refine AW.scope ?_ | refine AF.one hT rfl ?_ | refine AF.nil ?_ | refine AF.imm hT rfl rfl rfl ?_ | refine AH.of hT rfl ?_ | refine AD.cons hT rfl ?_ | refine AD.nil ?_ | refine AQ.cons hT rfl ?_ | refine AQ.nil ?_); conv => whnf)
      refine ACond.no rfl ?_
      conv => whnf
      repeat ((first | refine AO.cons hT ?_ | refine AO.nil ?_ | refine AW.seq ?_ | refine AW.region ?_ | refine AW.cond ?_ | refine AW.block ?_ | refine AW.loop ?_ | refine AW.skip ?_ | refine AW.exit ?_ | refine AW.ret ?_ | refine AW.label ?_ | refine AW.scope ?_ | refine AF.one hT rfl ?_ | refine AF.nil ?_ | refine AF.imm hT rfl rfl rfl ?_ | refine AH.of hT rfl ?_ | refine AD.cons hT rfl ?_ | refine AD.nil ?_ | refine AQ.cons hT rfl ?_ | refine AQ.nil ?_); conv => whnf)
      exact AOut.to _ _ (Conv.fit (by repeat' (first | exact Fit.nil | refine Fit.any ?_ | refine Fit.same ?_))) ⟨_, _, _, rfl, rfl⟩
  rintro _ _ ⟨z, bs, ck, rfl, rfl⟩
  conv => whnf
  repeat ((first | refine AO.cons hT ?_ | refine AO.nil ?_ | refine AW.seq ?_ | refine AW.region ?_ | refine AW.cond ?_ | refine AW.block ?_ | refine AW.loop ?_ | refine AW.skip ?_ | refine AW.exit ?_ | refine AW.ret ?_ | refine AW.label ?_ | refine AW.scope ?_ | refine AF.one hT rfl ?_ | refine AF.nil ?_ | refine AF.imm hT rfl rfl rfl ?_ | refine AH.of hT rfl ?_ | refine AD.cons hT rfl ?_ | refine AD.nil ?_ | refine AQ.cons hT rfl ?_ | refine AQ.nil ?_); conv => whnf)
  refine AReq.mk ⟨by omega, by omega⟩ ?_
  conv => whnf
  repeat ((first | refine AO.cons hT ?_ | refine AO.nil ?_ | refine AW.seq ?_ | refine AW.region ?_ | refine AW.cond ?_ | refine AW.block ?_ | refine AW.loop ?_ | refine AW.skip ?_ | refine AW.exit ?_ | refine AW.ret ?_ | refine AW.label ?_ | refine AW.scope ?_ | refine AF.one hT rfl ?_ | refine AF.nil ?_ | refine AF.imm hT rfl rfl rfl ?_ | refine AH.of hT rfl ?_ | refine AD.cons hT rfl ?_ | refine AD.nil ?_ | refine AQ.cons hT rfl ?_ | refine AQ.nil ?_); conv => whnf)
  refine AReq.mk (by rw [List.length_map, hlen]; show 0 + k * 64 + 0 + 64 * 1 ≤ _; omega) ?_
  conv => whnf
  repeat ((first | refine AO.cons hT ?_ | refine AO.nil ?_ | refine AW.seq ?_ | refine AW.region ?_ | refine AW.cond ?_ | refine AW.block ?_ | refine AW.loop ?_ | refine AW.skip ?_ | refine AW.exit ?_ | refine AW.ret ?_ | refine AW.label ?_ | refine AW.scope ?_ | refine AF.one hT rfl ?_ | refine AF.nil ?_ | refine AF.imm hT rfl rfl rfl ?_ | refine AH.of hT rfl ?_ | refine AD.cons hT rfl ?_ | refine AD.nil ?_ | refine AQ.cons hT rfl ?_ | refine AQ.nil ?_); conv => whnf)
  refine ACut.all (by rw [List.length_map, hsl, hs]; rfl) ?_
  conv => whnf
  repeat ((first | refine AO.cons hT ?_ | refine AO.nil ?_ | refine AW.seq ?_ | refine AW.region ?_ | refine AW.cond ?_ | refine AW.block ?_ | refine AW.loop ?_ | refine AW.skip ?_ | refine AW.exit ?_ | refine AW.ret ?_ | refine AW.label ?_ | refine AW.scope ?_ | refine AF.one hT rfl ?_ | refine AF.nil ?_ | refine AF.imm hT rfl rfl rfl ?_ | refine AH.of hT rfl ?_ | refine AD.cons hT rfl ?_ | refine AD.nil ?_ | refine AQ.cons hT rfl ?_ | refine AQ.nil ?_); conv => whnf)
  refine AUpd.put (k := k) (by omega) (by omega) ?_
  conv => whnf
  repeat ((first | refine AO.cons hT ?_ | refine AO.nil ?_ | refine AW.seq ?_ | refine AW.region ?_ | refine AW.cond ?_ | refine AW.block ?_ | refine AW.loop ?_ | refine AW.skip ?_ | refine AW.exit ?_ | refine AW.ret ?_ | refine AW.label ?_ | refine AW.scope ?_ | refine AF.one hT rfl ?_ | refine AF.nil ?_ | refine AF.imm hT rfl rfl rfl ?_ | refine AH.of hT rfl ?_ | refine AD.cons hT rfl ?_ | refine AD.nil ?_ | refine AQ.cons hT rfl ?_ | refine AQ.nil ?_); conv => whnf)
  exact AFin.dev (y := putD x k s.data.toList) (fun _ => rfl) ⟨_, bs, ck, ⟨rfl, rfl⟩, rfl⟩
end Go.Aw.VE

set_option linter.unusedSimpArgs false
set_option linter.unusedVariables false
set_option maxHeartbeats 4000000
namespace Go.Aw.VE
open Go

theorem upE_t {x : Dd} (h : x.f = true) : upE x = 20 := by unfold upE; rw [if_pos h]
theorem upE_f {x : Dd} (h : x.f = false) : upE x = 0 := by unfold upE; rw [if_neg (by simp [h])]
theorem lastD_n (x : Dd) : (lastD x).n = x.n := by unfold lastD; split <;> rfl
theorem lastD_cs (x : Dd) : (lastD x).cs = x.cs := by unfold lastD; split <;> rfl
theorem lastD_L (x : Dd) : (lastD x).L = x.L := by unfold lastD; split <;> rfl

def flushD (x : Dd) : Dd := if x.f then x else if lastB x then lastD x else { lastD x with L := [] }
def flushE (x : Dd) : Int := if x.f then 20 else if lastB x then 20 else 0
theorem f28 (x : Dd) (hn : 0 < x.n) : DSpec 28 [] x fun r y => r = nV (flushE x) ∧ y = flushD x := by
  intro bs ck
  refine spec_of hT (f := 28) (fn := Go.Proofs.Tryz.f28) (c := body Go.Proofs.Tryz.f28) (by kernel_rfl) (by kernel_rfl) ?_
  conv => whnf
  repeat ((first | refine AO.cons hT ?_ | refine AO.nil ?_ | refine AW.seq ?_ | refine AW.region ?_ | refine AW.cond ?_ | refine AW.block ?_ | refine AW.loop ?_ | refine AW.skip ?_ | refine AW.exit ?_ | refine AW.ret ?_ | refine AW.label ?_ | refine AW.scope ?_ | refine AF.one hT rfl ?_ | refine AF.nil ?_ | refine AF.imm hT rfl rfl rfl ?_ | refine AH.of hT rfl ?_ | refine AD.cons hT rfl ?_ | refine AD.nil ?_ | refine AQ.cons hT rfl ?_ | refine AQ.nil ?_); conv => whnf)
  refine ACall.dev (by kernel_rfl) (f60 x hn) rfl rfl rfl (by decide) (fun _ => rfl) (by rintro _ _ ⟨rfl, _⟩ _; rfl) ?_
  rintro _ x bs' ck' ⟨rfl, rfl⟩
  unfold flushD flushE
  rcases Bool.eq_false_or_eq_true x.f with hf | hf
  · rw [upE_t hf]
    simp only [hf, if_true]
    conv => whnf
    repeat (first | (refine AW.label ?_; conv => whnf) | (refine AW.scope ?_; conv => whnf) | (refine AO.cons hT ?_; conv => whnf) | (refine AO.nil ?_; conv => whnf) | (refine AW.seq ?_; conv => whnf) | (refine AW.region ?_; conv => whnf) | (refine AW.cond ?_; conv => whnf) | (refine AW.block ?_; conv => whnf) | (refine AW.loop ?_; conv => whnf) | (refine AW.skip ?_; conv => whnf) | (refine AW.exit ?_; conv => whnf) | (refine AW.ret ?_; conv => whnf) | (refine AF.one hT rfl ?_; conv => whnf) | (refine AF.nil ?_; conv => whnf) | (refine AF.imm hT rfl rfl rfl ?_; conv => whnf) | (refine AH.of hT rfl ?_; conv => whnf) | (refine ASplit.yes rfl ?_; conv => whnf) | (refine ACond.yes rfl ?_; conv => whnf) | (refine ASplit.no rfl ?_; conv => whnf) | (refine ACond.no rfl ?_; conv => whnf) | (refine ASplit.yes (by decide) ?_; conv => whnf) | (refine ACond.yes (by decide) ?_; conv => whnf) | (refine AReq.mk (by decide) ?_; conv => whnf) | (refine AIdx.iff.2 ⟨by decide, ?_⟩; conv => whnf))
    exact AFin.mk ⟨_, bs', ck', ⟨rfl, rfl⟩, rfl⟩
  · rw [upE_f hf]
    simp only [hf, Bool.false_eq_true, if_false]
    conv => whnf
    repeat (first | (refine AW.label ?_; conv => whnf) | (refine AW.scope ?_; conv => whnf) | (refine AO.cons hT ?_; conv => whnf) | (refine AO.nil ?_; conv => whnf) | (refine AW.seq ?_; conv => whnf) | (refine AW.region ?_; conv => whnf) | (refine AW.cond ?_; conv => whnf) | (refine AW.block ?_; conv => whnf) | (refine AW.loop ?_; conv => whnf) | (refine AW.skip ?_; conv => whnf) | (refine AW.exit ?_; conv => whnf) | (refine AW.ret ?_; conv => whnf) | (refine AF.one hT rfl ?_; conv => whnf) | (refine AF.nil ?_; conv => whnf) | (refine AF.imm hT rfl rfl rfl ?_; conv => whnf) | (refine AH.of hT rfl ?_; conv => whnf) | (refine ASplit.yes rfl ?_; conv => whnf) | (refine ACond.yes rfl ?_; conv => whnf) | (refine ASplit.no rfl ?_; conv => whnf) | (refine ACond.no rfl ?_; conv => whnf) | (refine ASplit.yes (by decide) ?_; conv => whnf) | (refine ACond.yes (by decide) ?_; conv => whnf) | (refine AReq.mk (by decide) ?_; conv => whnf) | (refine AIdx.iff.2 ⟨by decide, ?_⟩; conv => whnf))
    refine ACall.dev (by kernel_rfl) (f62 x) rfl rfl rfl (by decide) (fun _ => rfl) (by rintro _ _ ⟨rfl, _⟩ _; rfl) ?_
    rintro _ _ bs'' ck'' ⟨rfl, rfl⟩
    conv => whnf
    repeat ((first | refine AO.cons hT ?_ | refine AO.nil ?_ | refine AW.seq ?_ | refine AW.region ?_ | refine AW.cond ?_ | refine AW.block ?_ | refine AW.loop ?_ | refine AW.skip ?_ | refine AW.exit ?_ | refine AW.ret ?_ | refine AW.label ?_ | refine AW.scope ?_ | refine AF.one hT rfl ?_ | refine AF.nil ?_ | refine AF.imm hT rfl rfl rfl ?_ | refine AH.of hT rfl ?_ | refine AD.cons hT rfl ?_ | refine AD.nil ?_ | refine AQ.cons hT rfl ?_ | refine AQ.nil ?_); conv => whnf)
    refine ACond.mk (fun h => ?_) (fun h => ?_)
    · conv => whnf
      repeat ((first | refine AO.cons hT ?_ | refine AO.nil ?_ | refine AW.seq ?_ | refine AW.region ?_ | refine AW.cond ?_ | refine AW.block ?_ | refine AW.loop ?_ | refine AW.skip ?_ | refine AW.exit ?_ | refine AW.ret ?_ | refine AW.label ?_ | refine AW.scope ?_ | refine AF.one hT rfl ?_ | refine AF.nil ?_ | refine AF.imm hT rfl rfl rfl ?_ | refine AH.of hT rfl ?_ | refine AD.cons hT rfl ?_ | refine AD.nil ?_ | refine AQ.cons hT rfl ?_ | refine AQ.nil ?_); conv => whnf)
      simp only [h, if_true]
      exact AFin.mk ⟨_, bs'', ck'', ⟨rfl, rfl⟩, rfl⟩
    · conv => whnf
      repeat ((first | refine AO.cons hT ?_ | refine AO.nil ?_ | refine AW.seq ?_ | refine AW.region ?_ | refine AW.cond ?_ | refine AW.block ?_ | refine AW.loop ?_ | refine AW.skip ?_ | refine AW.exit ?_ | refine AW.ret ?_ | refine AW.label ?_ | refine AW.scope ?_ | refine AF.one hT rfl ?_ | refine AF.nil ?_ | refine AF.imm hT rfl rfl rfl ?_ | refine AH.of hT rfl ?_ | refine AD.cons hT rfl ?_ | refine AD.nil ?_ | refine AQ.cons hT rfl ?_ | refine AQ.nil ?_); conv => whnf)
      simp only [h, Bool.false_eq_true, if_false]
      refine AOp.clear und60 rfl rfl rfl rfl ?_
      conv => whnf
      repeat ((first | refine AO.cons hT ?_ | refine AO.nil ?_ | refine AW.seq ?_ | refine AW.region ?_ | refine AW.cond ?_ | refine AW.block ?_ | refine AW.loop ?_ | refine AW.skip ?_ | refine AW.exit ?_ | refine AW.ret ?_ | refine AW.label ?_ | refine AW.scope ?_ | refine AF.one hT rfl ?_ | refine AF.nil ?_ | refine AF.imm hT rfl rfl rfl ?_ | refine AH.of hT rfl ?_ | refine AD.cons hT rfl ?_ | refine AD.nil ?_ | refine AQ.cons hT rfl ?_ | refine AQ.nil ?_); conv => whnf)
      exact AFin.mk ⟨_, [], ck'', ⟨rfl, rfl⟩, rfl⟩

def newD (n : Nat) : Dd := ⟨n, 0, 0, false, List.replicate (64 * n) 0, []⟩
theorem flat_rep (k n : Nat) (a : AV) : (List.replicate n (List.replicate k a)).flatten = List.replicate (n * k) a := by
  induction n with
  | zero => simp
  | succ n ih => rw [List.replicate_succ, List.flatten_cons, ih, List.replicate_append_replicate, Nat.add_mul, Nat.one_mul, Nat.add_comm]

theorem f19 (n : Int) (h : nOk n) : Spec P 19 [nV n] [] fun r H' => if n < 1 ∨ n > 2000 then r = .tup [.v (.pointer none), nV 2] ∧ H' = [] else r = .tup [.ptr 0 0, nV 0] ∧ H' = dvH (newD n.toNat) [] 0 := by
  refine spec_of hT (f := 19) (fn := Go.Proofs.Tryz.f19) (c := body Go.Proofs.Tryz.f19) (by kernel_rfl) (by kernel_rfl) ?_
  conv => whnf
  repeat ((first | refine AO.cons hT ?_ | refine AO.nil ?_ | refine AW.seq ?_ | refine AW.region ?_ | refine AW.cond ?_ | refine AW.block ?_ | refine AW.loop ?_ | refine AW.skip ?_ | refine AW.exit ?_ | refine AW.ret ?_ | refine AW.label ?_ | refine AW.scope ?_ | refine AF.one hT rfl ?_ | refine AF.nil ?_ | refine AF.imm hT rfl rfl rfl ?_ | refine AH.of hT rfl ?_ | refine AD.cons hT rfl ?_ | refine AD.nil ?_ | refine AQ.cons hT rfl ?_ | refine AQ.nil ?_); conv => whnf)
  have hbad : n < 1 ∨ n > 2000 → AFin 0 (.tup [.v (.pointer none), nV 2]) [] (fun r H' => if n < 1 ∨ n > 2000 then r = .tup [.v (.pointer none), nV 2] ∧ H' = [] else r = .tup [.ptr 0 0, nV 0] ∧ H' = dvH (newD n.toNat) [] 0) := by
    intro h
    exact AFin.mk (by rw [if_pos h]; exact ⟨rfl, rfl⟩)
  refine ASplit.dec (fun g1 => ?_) (fun g1 => ?_)
  · conv => whnf
    repeat (first | (refine AW.label ?_; conv => whnf) | (refine AW.scope ?_; conv => whnf) | (refine AO.cons hT ?_; conv => whnf) | (refine AO.nil ?_; conv => whnf) | (refine AW.seq ?_; conv => whnf) | (refine AW.region ?_; conv => whnf) | (refine AW.cond ?_; conv => whnf) | (refine AW.block ?_; conv => whnf) | (refine AW.loop ?_; conv => whnf) | (refine AW.skip ?_; conv => whnf) | (refine AW.exit ?_; conv => whnf) | (refine AW.ret ?_; conv => whnf) | (refine AF.one hT rfl ?_; conv => whnf) | (refine AF.nil ?_; conv => whnf) | (refine AF.imm hT rfl rfl rfl ?_; conv => whnf) | (refine AH.of hT rfl ?_; conv => whnf) | (refine ASplit.yes rfl ?_; conv => whnf) | (refine ACond.yes rfl ?_; conv => whnf) | (refine ASplit.no rfl ?_; conv => whnf) | (refine ACond.no rfl ?_; conv => whnf) | (refine ASplit.yes (by decide) ?_; conv => whnf) | (refine ACond.yes (by decide) ?_; conv => whnf) | (refine AReq.mk (by decide) ?_; conv => whnf) | (refine AIdx.iff.2 ⟨by decide, ?_⟩; conv => whnf))
    exact hbad (.inl g1)
  · conv => whnf
    repeat ((first | refine AO.cons hT ?_ | refine AO.nil ?_ | refine AW.seq ?_ | refine AW.region ?_ | refine AW.cond ?_ | refine AW.block ?_ | refine AW.loop ?_ | refine AW.skip ?_ | refine AW.exit ?_ | refine AW.ret ?_ | refine AW.label ?_ | refine AW.scope ?_ | refine AF.one hT rfl ?_ | refine AF.nil ?_ | refine AF.imm hT rfl rfl rfl ?_ | refine AH.of hT rfl ?_ | refine AD.cons hT rfl ?_ | refine AD.nil ?_ | refine AQ.cons hT rfl ?_ | refine AQ.nil ?_); conv => whnf)
    refine ACond.dec (fun g2 => ?_) (fun g2 => ?_)
    · conv => whnf
      repeat (first | (refine AW.label ?_; conv => whnf) | (refine AW.scope ?_; conv => whnf) | (refine AO.cons hT ?_; conv => whnf) | (refine AO.nil ?_; conv => whnf) | (refine AW.seq ?_; conv => whnf) | (refine AW.region ?_; conv => whnf) | (refine AW.cond ?_; conv => whnf) | (refine AW.block ?_; conv => whnf) | (refine AW.loop ?_; conv => whnf) | (refine AW.skip ?_; conv => whnf) | (refine AW.exit ?_; conv => whnf) | (refine AW.ret ?_; conv => whnf) | (refine AF.one hT rfl ?_; conv => whnf) | (refine AF.nil ?_; conv => whnf) | (refine AF.imm hT rfl rfl rfl ?_; conv => whnf) | (refine AH.of hT rfl ?_; conv => whnf) | (refine ASplit.yes rfl ?_; conv => whnf) | (refine ACond.yes rfl ?_; conv => whnf) | (refine ASplit.no rfl ?_; conv => whnf) | (refine ACond.no rfl ?_; conv => whnf) | (refine ASplit.yes (by decide) ?_; conv => whnf) | (refine ACond.yes (by decide) ?_; conv => whnf) | (refine AReq.mk (by decide) ?_; conv => whnf) | (refine AIdx.iff.2 ⟨by decide, ?_⟩; conv => whnf))
      exact hbad (.inr (by omega))
    · conv => whnf
      repeat ((first | refine AO.cons hT ?_ | refine AO.nil ?_ | refine AW.seq ?_ | refine AW.region ?_ | refine AW.cond ?_ | refine AW.block ?_ | refine AW.loop ?_ | refine AW.skip ?_ | refine AW.exit ?_ | refine AW.ret ?_ | refine AW.label ?_ | refine AW.scope ?_ | refine AF.one hT rfl ?_ | refine AF.nil ?_ | refine AF.imm hT rfl rfl rfl ?_ | refine AH.of hT rfl ?_ | refine AD.cons hT rfl ?_ | refine AD.nil ?_ | refine AQ.cons hT rfl ?_ | refine AQ.nil ?_); conv => whnf)
      refine AReq.mk ⟨by omega, by omega, by show n * 64 ≤ _; omega, by omega⟩ ?_
      conv => whnf
      repeat ((first | refine AO.cons hT ?_ | refine AO.nil ?_ | refine AW.seq ?_ | refine AW.region ?_ | refine AW.cond ?_ | refine AW.block ?_ | refine AW.loop ?_ | refine AW.skip ?_ | refine AW.exit ?_ | refine AW.ret ?_ | refine AW.label ?_ | refine AW.scope ?_ | refine AF.one hT rfl ?_ | refine AF.nil ?_ | refine AF.imm hT rfl rfl rfl ?_ | refine AH.of hT rfl ?_ | refine AD.cons hT rfl ?_ | refine AD.nil ?_ | refine AQ.cons hT rfl ?_ | refine AQ.nil ?_); conv => whnf)
      refine AOp.makeMap ?_
      conv => whnf
      repeat ((first | refine AO.cons hT ?_ | refine AO.nil ?_ | refine AW.seq ?_ | refine AW.region ?_ | refine AW.cond ?_ | refine AW.block ?_ | refine AW.loop ?_ | refine AW.skip ?_ | refine AW.exit ?_ | refine AW.ret ?_ | refine AW.label ?_ | refine AW.scope ?_ | refine AF.one hT rfl ?_ | refine AF.nil ?_ | refine AF.imm hT rfl rfl rfl ?_ | refine AH.of hT rfl ?_ | refine AD.cons hT rfl ?_ | refine AD.nil ?_ | refine AQ.cons hT rfl ?_ | refine AQ.nil ?_); conv => whnf)
      refine AFin.to (.tup [.ptr 0 0, nV 0]) (dvH (newD n.toNat) [] 0) (Conv.ren [2, 0, 1] [.tup [.ptr 0 0, nV 0]] (by simp) (by decide) (Fit.refl _) (.same ?_ (.same ?_ (.same ?_ .nil)))) (by rw [if_neg (by omega)]; exact ⟨rfl, rfl⟩)
      · rw [dD_ren]; rfl
      · rw [dC_ren, flat_rep]
        show some (ABlk.cells 103 _) = some (ABlk.cells 103 _)
        unfold newD
        rw [List.map_replicate, Nat.mul_comm]; rfl
      · rw [dM_ren]; rfl
end Go.Aw.VE

set_option linter.unusedSimpArgs false
set_option linter.unusedVariables false
set_option maxHeartbeats 4000000
namespace Go.Aw.VE
open Go

theorem ext_list (s : ByteArray) (a b : Nat) : (s.extract a b).data.toList = (s.data.toList.drop a).take (b - a) := by
  rw [ByteArray.data_extract, Array.toList_extract]
def ofL (l : List UInt8) : ByteArray := ⟨l.toArray⟩
theorem ofL_list (l : List UInt8) : (ofL l).data.toList = l := rfl
theorem ofL_size (l : List UInt8) : (ofL l).size = l.length := by rw [← size_list, ofL_list]
theorem putC_len {cs t : List UInt8} {k : Nat} (h : 64 * k + t.length ≤ cs.length) : (putC cs k t).length = cs.length := by
  unfold putC
  rw [List.length_append, List.length_append, List.length_take, List.length_drop]; omega
theorem addL_mem {L : List (Int × List UInt8)} {k : Int} {c : List UInt8} {p : Int × List UInt8} (h : p ∈ addL L k c) : p ∈ L ∨ p = (k, c) := by
  unfold addL at h
  split at h
  · exact .inl h
  · simpa using h
theorem addL_nd {L : List (Int × List UInt8)} {k : Int} {c : List UInt8} (h : (L.map (·.1)).Nodup) : ((addL L k c).map (·.1)).Nodup := by
  unfold addL
  split
  · exact h
  · rename_i g
    rw [List.map_append, List.nodup_append]
    refine ⟨h, by simp, ?_⟩
    intro a ha b hb e
    simp at hb
    subst hb; subst e
    obtain ⟨p, h1, h2⟩ := List.mem_map.1 ha
    exact g (any_iff.2 ⟨p, h1, h2⟩)
theorem Dok.last {x : Dd} (h : Dok x) : Dok (lastD x) := ⟨by rw [lastD_n]; exact h.pos, by rw [lastD_n]; exact h.le, by rw [lastD_cs, lastD_n]; exact h.len, by rw [lastD_L, lastD_n]; exact h.keys, by rw [lastD_L]; exact h.nd⟩
theorem Dok.put {x : Dd} (h : Dok x) {k : Nat} {t : List UInt8} (hk : k < x.n) (ht : t.length = 64) : Dok (putD x k t) := by
  have hl := h.len
  refine ⟨h.pos, h.le, ?_, ?_, addL_nd h.nd⟩
  · show (putC x.cs k t).length = _
    rw [putC_len (by omega)]; exact hl
  · intro p hp
    rcases addL_mem hp with hp | rfl
    · exact h.keys p hp
    · exact ⟨by show (0 : Int) ≤ k; omega, by show (k : Int) < x.n; omega, cellOf_len (by omega)⟩

/-- m sectors are written, from k on -/
def wrF : Nat → Dd → Nat → List UInt8 → Dd × Int
  | 0, x, _, _ => (x, 0)
  | m + 1, x, k, t => if lastB x then (putD (lastD x) k (t.take 64), 20) else wrF m (putD (lastD x) k (t.take 64)) (k + 1) (t.drop 64)
def writeF (x : Dd) (at_ : Int) (s : ByteArray) : Dd × Int :=
  if x.f then (x, 20) else if s.size / 64 = 0 ∨ s.size % 64 ≠ 0 then (x, 2) else if 0 ≤ at_ ∧ at_ < x.n ∧ ((s.size / 64 : Nat) : Int) ≤ x.n - at_ then wrF (s.size / 64) x at_.toNat s.data.toList else (x, 21)

theorem wrap_i64' {n : Int} (h1 : -9223372036854775808 ≤ n) (h2 : n ≤ 9223372036854775807) : IntKind.wrap .i64 n = n := wrap_i64 n h1 h2

theorem f27 (x : Dd) (hx : Dok x) (at_ : Int) (s : ByteArray) (ha : (Lit.int .i64 at_).wf = true) (hs : s.size ≤ 9223372036854775807) : DSpec 27 [nV at_, sV s] x fun r y => r = nV (writeF x at_ s).2 ∧ y = (writeF x at_ s).1 := by
  intro bs ck
  have hle := hx.le
  have hpos := hx.pos
  have hsl := size_list s
  refine spec_of hT (f := 27) (fn := Go.Proofs.Tryz.f27) (c := body Go.Proofs.Tryz.f27) (by kernel_rfl) (by kernel_rfl) ?_
  conv => whnf
  repeat ((first | refine AO.cons hT ?_ | refine AO.nil ?_ | refine AW.seq ?_ | refine AW.region ?_ | refine AW.cond ?_ | refine AW.block ?_ | refine AW.loop ?_ | refine AW.skip ?_ | refine AW.exit ?_ | refine AW.ret ?_ | refine AW.label ?_ | refine AW.scope ?_ | refine AF.one hT rfl ?_ | refine AF.nil ?_ | refine AF.imm hT rfl rfl rfl ?_ | refine AH.of hT rfl ?_ | refine AD.cons hT rfl ?_ | refine AD.nil ?_ | refine AQ.cons hT rfl ?_ | refine AQ.nil ?_); conv => whnf)
  refine ACall.dev (by kernel_rfl) (f60 x hpos) rfl rfl rfl (by decide) (fun _ => rfl) (by rintro _ _ ⟨rfl, _⟩ _; rfl) ?_
  rintro _ x bs' ck' ⟨rfl, rfl⟩
  unfold writeF
  rcases Bool.eq_false_or_eq_true x.f with hf | hf
  · rw [upE_t hf]
    simp only [hf, if_true]
    conv => whnf
    repeat (first | (refine AW.label ?_; conv => whnf) | (refine AW.scope ?_; conv => whnf) | (refine AO.cons hT ?_; conv => whnf) | (refine AO.nil ?_; conv => whnf) | (refine AW.seq ?_; conv => whnf) | (refine AW.region ?_; conv => whnf) | (refine AW.cond ?_; conv => whnf) | (refine AW.block ?_; conv => whnf) | (refine AW.loop ?_; conv => whnf) | (refine AW.skip ?_; conv => whnf) | (refine AW.exit ?_; conv => whnf) | (refine AW.ret ?_; conv => whnf) | (refine AF.one hT rfl ?_; conv => whnf) | (refine AF.nil ?_; conv => whnf) | (refine AF.imm hT rfl rfl rfl ?_; conv => whnf) | (refine AH.of hT rfl ?_; conv => whnf) | (refine ASplit.yes rfl ?_; conv => whnf) | (refine ACond.yes rfl ?_; conv => whnf) | (refine ASplit.no rfl ?_; conv => whnf) | (refine ACond.no rfl ?_; conv => whnf) | (refine ASplit.yes (by decide) ?_; conv => whnf) | (refine ACond.yes (by decide) ?_; conv => whnf) | (refine AReq.mk (by decide) ?_; conv => whnf) | (refine AIdx.iff.2 ⟨by decide, ?_⟩; conv => whnf))
    exact AFin.mk ⟨_, bs', ck', ⟨rfl, rfl⟩, rfl⟩
  rw [upE_f hf]
  simp only [hf, Bool.false_eq_true, if_false]
  conv => whnf
  repeat (first | (refine AW.label ?_; conv => whnf) | (refine AW.scope ?_; conv => whnf) | (refine AO.cons hT ?_; conv => whnf) | (refine AO.nil ?_; conv => whnf) | (refine AW.seq ?_; conv => whnf) | (refine AW.region ?_; conv => whnf) | (refine AW.cond ?_; conv => whnf) | (refine AW.block ?_; conv => whnf) | (refine AW.loop ?_; conv => whnf) | (refine AW.skip ?_; conv => whnf) | (refine AW.exit ?_; conv => whnf) | (refine AW.ret ?_; conv => whnf) | (refine AF.one hT rfl ?_; conv => whnf) | (refine AF.nil ?_; conv => whnf) | (refine AF.imm hT rfl rfl rfl ?_; conv => whnf) | (refine AH.of hT rfl ?_; conv => whnf) | (refine ASplit.yes rfl ?_; conv => whnf) | (refine ACond.yes rfl ?_; conv => whnf) | (refine ASplit.no rfl ?_; conv => whnf) | (refine ACond.no rfl ?_; conv => whnf) | (refine ASplit.yes (by decide) ?_; conv => whnf) | (refine ACond.yes (by decide) ?_; conv => whnf) | (refine AReq.mk (by decide) ?_; conv => whnf) | (refine AIdx.iff.2 ⟨by decide, ?_⟩; conv => whnf))
  have e1 : IntKind.wrap .i64 ((s.size : Int).tdiv 64) = ((s.size / 64 : Nat) : Int) := by
    have : (s.size : Int).tdiv 64 = (s.size : Int) / 64 := Int.tdiv_eq_ediv_of_nonneg (by omega)
    rw [this, wrap_i64' (by omega) (by omega)]; omega
  have e2 : (s.size : Int).tmod 64 = ((s.size % 64 : Nat) : Int) := by
    have : (s.size : Int).tmod 64 = (s.size : Int) % 64 := Int.tmod_eq_emod_of_nonneg (by omega)
    rw [this]; omega
  rw [e1]
  have hbad : (s.size / 64 = 0 ∨ s.size % 64 ≠ 0) → AFin 3 (nV 2) (dvH x bs' ck') (fun r H' => ∃ y bs' ck', (fun r y => r = nV (if s.size / 64 = 0 ∨ s.size % 64 ≠ 0 then (x, (2 : Int)) else if 0 ≤ at_ ∧ at_ < x.n ∧ ((s.size / 64 : Nat) : Int) ≤ x.n - at_ then wrF (s.size / 64) x at_.toNat s.data.toList else (x, 21)).2 ∧
      y = (if s.size / 64 = 0 ∨ s.size % 64 ≠ 0 then (x, (2 : Int)) else if 0 ≤ at_ ∧ at_ < x.n ∧ ((s.size / 64 : Nat) : Int) ≤ x.n - at_ then wrF (s.size / 64) x at_.toNat s.data.toList else (x, 21)).1) r y ∧ H' = dvH y bs' ck') := by
    intro h
    rw [if_pos h]
    exact AFin.mk ⟨_, bs', ck', ⟨rfl, rfl⟩, rfl⟩
  refine ASplit.dec (fun h1 => ?_) (fun h1 => ?_)
  · conv => whnf
    repeat (first | (refine AW.label ?_; conv => whnf) | (refine AW.scope ?_; conv => whnf) | (refine AO.cons hT ?_; conv => whnf) | (refine AO.nil ?_; conv => whnf) | (refine AW.seq ?_; conv => whnf) | (refine AW.region ?_; conv => whnf) | (refine AW.cond ?_; conv => whnf) | (refine AW.block ?_; conv => whnf) | (refine AW.loop ?_; conv => whnf) | (refine AW.skip ?_; conv => whnf) | (refine AW.exit ?_; conv => whnf) | (refine AW.ret ?_; conv => whnf) | (refine AF.one hT rfl ?_; conv => whnf) | (refine AF.nil ?_; conv => whnf) | (refine AF.imm hT rfl rfl rfl ?_; conv => whnf) | (refine AH.of hT rfl ?_; conv => whnf) | (refine ASplit.yes rfl ?_; conv => whnf) | (refine ACond.yes rfl ?_; conv => whnf) | (refine ASplit.no rfl ?_; conv => whnf) | (refine ACond.no rfl ?_; conv => whnf) | (refine ASplit.yes (by decide) ?_; conv => whnf) | (refine ACond.yes (by decide) ?_; conv => whnf) | (refine AReq.mk (by decide) ?_; conv => whnf) | (refine AIdx.iff.2 ⟨by decide, ?_⟩; conv => whnf))
    exact hbad (.inl (by omega))
  conv => whnf
  repeat ((first | refine AO.cons hT ?_ | refine AO.nil ?_ | refine AW.seq ?_ | refine AW.region ?_ | refine AW.cond ?_ | refine AW.block ?_ | refine AW.loop ?_ | refine AW.skip ?_ | refine AW.exit ?_ | refine AW.ret ?_ | refine AW.label ?_ | refine AW.scope ?_ | refine AF.one hT rfl ?_ | refine AF.nil ?_ | refine AF.imm hT rfl rfl rfl ?_ | refine AH.of hT rfl ?_ | refine AD.cons hT rfl ?_ | refine AD.nil ?_ | refine AQ.cons hT rfl ?_ | refine AQ.nil ?_); conv => whnf)
  refine AReq.mk (by decide) ?_
  conv => whnf
  repeat ((first | refine AO.cons hT ?_ | refine AO.nil ?_ | refine AW.seq ?_ | refine AW.region ?_ | refine AW.cond ?_ | refine AW.block ?_ | refine AW.loop ?_ | refine AW.skip ?_ | refine AW.exit ?_ | refine AW.ret ?_ | refine AW.label ?_ | refine AW.scope ?_ | refine AF.one hT rfl ?_ | refine AF.nil ?_ | refine AF.imm hT rfl rfl rfl ?_ | refine AH.of hT rfl ?_ | refine AD.cons hT rfl ?_ | refine AD.nil ?_ | refine AQ.cons hT rfl ?_ | refine AQ.nil ?_); conv => whnf)
  rw [e2]
  refine ACond.ndec (fun h2 => ?_) (fun h2 => ?_)
  · conv => whnf
    repeat (first | (refine AW.label ?_; conv => whnf) | (refine AW.scope ?_; conv => whnf) | (refine AO.cons hT ?_; conv => whnf) | (refine AO.nil ?_; conv => whnf) | (refine AW.seq ?_; conv => whnf) | (refine AW.region ?_; conv => whnf) | (refine AW.cond ?_; conv => whnf) | (refine AW.block ?_; conv => whnf) | (refine AW.loop ?_; conv => whnf) | (refine AW.skip ?_; conv => whnf) | (refine AW.exit ?_; conv => whnf) | (refine AW.ret ?_; conv => whnf) | (refine AF.one hT rfl ?_; conv => whnf) | (refine AF.nil ?_; conv => whnf) | (refine AF.imm hT rfl rfl rfl ?_; conv => whnf) | (refine AH.of hT rfl ?_; conv => whnf) | (refine ASplit.yes rfl ?_; conv => whnf) | (refine ACond.yes rfl ?_; conv => whnf) | (refine ASplit.no rfl ?_; conv => whnf) | (refine ACond.no rfl ?_; conv => whnf) | (refine ASplit.yes (by decide) ?_; conv => whnf) | (refine ACond.yes (by decide) ?_; conv => whnf) | (refine AReq.mk (by decide) ?_; conv => whnf) | (refine AIdx.iff.2 ⟨by decide, ?_⟩; conv => whnf))
    exact hbad (.inr (by omega))
  clear hbad
  rw [if_neg (by omega)]
  conv => whnf
  repeat ((first | refine AO.cons hT ?_ | refine AO.nil ?_ | refine AW.seq ?_ | refine AW.region ?_ | refine AW.cond ?_ | refine AW.block ?_ | refine AW.loop ?_ | refine AW.skip ?_ | refine AW.exit ?_ | refine AW.ret ?_ | refine AW.label ?_ | refine AW.scope ?_ | refine AF.one hT rfl ?_ | refine AF.nil ?_ | refine AF.imm hT rfl rfl rfl ?_ | refine AH.of hT rfl ?_ | refine AD.cons hT rfl ?_ | refine AD.nil ?_ | refine AQ.cons hT rfl ?_ | refine AQ.nil ?_); conv => whnf)
  refine ACall.dev (by kernel_rfl) (f61 x at_ _ (by omega) ha) rfl rfl rfl (by decide) (fun _ => rfl) (by rintro _ _ ⟨rfl, _⟩ _; rfl) ?_
  rintro _ x bs2 ck2 ⟨rfl, rfl⟩
  conv => whnf
  repeat ((first | refine AO.cons hT ?_ | refine AO.nil ?_ | refine AW.seq ?_ | refine AW.region ?_ | refine AW.cond ?_ | refine AW.block ?_ | refine AW.loop ?_ | refine AW.skip ?_ | refine AW.exit ?_ | refine AW.ret ?_ | refine AW.label ?_ | refine AW.scope ?_ | refine AF.one hT rfl ?_ | refine AF.nil ?_ | refine AF.imm hT rfl rfl rfl ?_ | refine AH.of hT rfl ?_ | refine AD.cons hT rfl ?_ | refine AD.nil ?_ | refine AQ.cons hT rfl ?_ | refine AQ.nil ?_); conv => whnf)
  refine ACond.ndec (fun h3 => ?_) (fun h3 => ?_)
  · rw [if_neg h3]
    conv => whnf
    repeat (first | (refine AW.label ?_; conv => whnf) | (refine AW.scope ?_; conv => whnf) | (refine AO.cons hT ?_; conv => whnf) | (refine AO.nil ?_; conv => whnf) | (refine AW.seq ?_; conv => whnf) | (refine AW.region ?_; conv => whnf) | (refine AW.cond ?_; conv => whnf) | (refine AW.block ?_; conv => whnf) | (refine AW.loop ?_; conv => whnf) | (refine AW.skip ?_; conv => whnf) | (refine AW.exit ?_; conv => whnf) | (refine AW.ret ?_; conv => whnf) | (refine AF.one hT rfl ?_; conv => whnf) | (refine AF.nil ?_; conv => whnf) | (refine AF.imm hT rfl rfl rfl ?_; conv => whnf) | (refine AH.of hT rfl ?_; conv => whnf) | (refine ASplit.yes rfl ?_; conv => whnf) | (refine ACond.yes rfl ?_; conv => whnf) | (refine ASplit.no rfl ?_; conv => whnf) | (refine ACond.no rfl ?_; conv => whnf) | (refine ASplit.yes (by decide) ?_; conv => whnf) | (refine ACond.yes (by decide) ?_; conv => whnf) | (refine AReq.mk (by decide) ?_; conv => whnf) | (refine AIdx.iff.2 ⟨by decide, ?_⟩; conv => whnf))
    exact AFin.mk ⟨_, bs2, ck2, ⟨rfl, rfl⟩, rfl⟩
  rw [if_pos h3]
  obtain ⟨g1, g2, g3⟩ := h3
  obtain ⟨a, rfl⟩ : ∃ a : Nat, at_ = a := ⟨at_.toNat, by omega⟩
  rw [show Int.toNat (a : Int) = a by omega]
  generalize hm : s.size / 64 = M at *
  conv => whnf
  repeat ((first | refine AO.cons hT ?_ | refine AO.nil ?_ | refine AW.seq ?_ | refine AW.region ?_ | refine AW.cond ?_ | refine AW.block ?_ | refine AW.loop ?_ | refine AW.skip ?_ | refine AW.exit ?_ | refine AW.ret ?_ | refine AW.label ?_ | refine AW.scope ?_ | refine AF.one hT rfl ?_ | refine AF.nil ?_ | refine AF.imm hT rfl rfl rfl ?_ | refine AH.of hT rfl ?_ | refine AD.cons hT rfl ?_ | refine AD.nil ?_ | refine AQ.cons hT rfl ?_ | refine AQ.nil ?_); conv => whnf)
  refine ALoop.mk (fun j E H => ∃ (i : Nat) (y : Dd) (bs : List Nat) (ck : Nat), j + i = M ∧ Dok y ∧ y.n = x.n ∧ wrF j y (a + i) (s.data.toList.drop (64 * i)) = wrF M x a s.data.toList ∧ E = pad ([.ptr 0 0, nV a, sV s, .any, .any, .any, nV 0, .any, nV M] ++ List.replicate 23 .any ++ [nV M, nV i]) 52 ∧ H = dvH y bs ck)
    (n := M) _ _ ⟨0, x, bs2, ck2, by omega, hx, rfl, by rw [Nat.mul_zero, List.drop_zero, Nat.add_zero], rfl, rfl⟩ (Conv.fit ?_) ?_
  · repeat' (first | exact Fit.nil | refine Fit.any ?_ | refine Fit.same ?_)
  rintro j _ _ ⟨i, y, bs3, ck3, hj, hy, hyn, hwr, rfl, rfl⟩
  conv => whnf
  repeat ((first | refine AO.cons hT ?_ | refine AO.nil ?_ | refine AW.seq ?_ | refine AW.region ?_ | refine AW.cond ?_ | refine AW.block ?_ | refine AW.loop ?_ | refine AW.skip ?_ | refine AW.exit ?_ | refine AW.ret ?_ | refine AW.label ?_ | refine AW.scope ?_ | refine AF.one hT rfl ?_ | refine AF.nil ?_ | refine AF.imm hT rfl rfl rfl ?_ | refine AH.of hT rfl ?_ | refine AD.cons hT rfl ?_ | refine AD.nil ?_ | refine AQ.cons hT rfl ?_ | refine AQ.nil ?_); conv => whnf)
  refine ACond.dec (fun h4 => ?_) (fun h4 => ?_)
  · obtain ⟨j, rfl⟩ : ∃ i, j = i + 1 := ⟨j - 1, by omega⟩
    conv => whnf
    repeat ((first | refine AO.cons hT ?_ | refine AO.nil ?_ | refine AW.seq ?_ | refine AW.region ?_ | refine AW.cond ?_ | refine AW.block ?_ | refine AW.loop ?_ | refine AW.skip ?_ | refine AW.exit ?_ | refine AW.ret ?_ | refine AW.label ?_ | refine AW.scope ?_ | refine AF.one hT rfl ?_ | refine AF.nil ?_ | refine AF.imm hT rfl rfl rfl ?_ | refine AH.of hT rfl ?_ | refine AD.cons hT rfl ?_ | refine AD.nil ?_ | refine AQ.cons hT rfl ?_ | refine AQ.nil ?_); conv => whnf)
    refine ACall.dev (by kernel_rfl) (f62 y) rfl rfl rfl (by decide) (fun _ => rfl) (by rintro _ _ ⟨rfl, _⟩ _; rfl) ?_
    rintro _ _ bs4 ck4 ⟨rfl, rfl⟩
    conv => whnf
    repeat ((first | refine AO.cons hT ?_ | refine AO.nil ?_ | refine AW.seq ?_ | refine AW.region ?_ | refine AW.cond ?_ | refine AW.block ?_ | refine AW.loop ?_ | refine AW.skip ?_ | refine AW.exit ?_ | refine AW.ret ?_ | refine AW.label ?_ | refine AW.scope ?_ | refine AF.one hT rfl ?_ | refine AF.nil ?_ | refine AF.imm hT rfl rfl rfl ?_ | refine AH.of hT rfl ?_ | refine AD.cons hT rfl ?_ | refine AD.nil ?_ | refine AQ.cons hT rfl ?_ | refine AQ.nil ?_); conv => whnf)
    have w1 : IntKind.wrap .i64 ((i : Int) + 1) = i + 1 := wrap_i64 _ (by omega) (by omega)
    have w2 : IntKind.wrap .i64 ((i : Int) * 64) = (64 * i : Nat) := by rw [wrap_i64 _ (by omega) (by omega)]; omega
    have w3 : IntKind.wrap .i64 (((i : Int) + 1) * 64) = (64 * i + 64 : Nat) := by rw [wrap_i64 _ (by omega) (by omega)]; omega
    have w4 : IntKind.wrap .i64 ((a : Int) + i) = (a + i : Nat) := by rw [wrap_i64 _ (by omega) (by omega)]; omega
    rw [w1, w2, w3]
    refine AReq.mk ⟨by omega, by omega, by omega⟩ ?_
    conv => whnf
    repeat ((first | refine AO.cons hT ?_ | refine AO.nil ?_ | refine AW.seq ?_ | refine AW.region ?_ | refine AW.cond ?_ | refine AW.block ?_ | refine AW.loop ?_ | refine AW.skip ?_ | refine AW.exit ?_ | refine AW.ret ?_ | refine AW.label ?_ | refine AW.scope ?_ | refine AF.one hT rfl ?_ | refine AF.nil ?_ | refine AF.imm hT rfl rfl rfl ?_ | refine AH.of hT rfl ?_ | refine AD.cons hT rfl ?_ | refine AD.nil ?_ | refine AQ.cons hT rfl ?_ | refine AQ.nil ?_); conv => whnf)
    rw [w4, Int.toNat_natCast, Int.toNat_natCast]
    have hsz : (s.extract (64 * i) (64 * i + 64)).size = 64 := by rw [ByteArray.size_extract]; omega
    have hxs : (s.extract (64 * i) (64 * i + 64)).data.toList = (s.data.toList.drop (64 * i)).take 64 := by rw [ext_list, show 64 * i + 64 - 64 * i = 64 by omega]
    have hlt : a + i < (lastD y).n := by rw [lastD_n]; omega
    refine ACall.dev (by kernel_rfl) (f63 (lastD y) hy.last (a + i) hlt _ hsz) rfl rfl rfl (by decide) (fun _ => rfl) (by rintro _ _ ⟨rfl, _⟩ _; rfl) ?_
    rintro _ _ bs5 ck5 ⟨rfl, rfl⟩
    rw [hxs]
    rw [wrF] at hwr
    have hok := hy.last.put (t := (s.data.toList.drop (64 * i)).take 64) hlt (by rw [← hxs, size_list, hsz])
    conv => whnf
    repeat ((first | refine AO.cons hT ?_ | refine AO.nil ?_ | refine AW.seq ?_ | refine AW.region ?_ | refine AW.cond ?_ | refine AW.block ?_ | refine AW.loop ?_ | refine AW.skip ?_ | refine AW.exit ?_ | refine AW.ret ?_ | refine AW.label ?_ | refine AW.scope ?_ | refine AF.one hT rfl ?_ | refine AF.nil ?_ | refine AF.imm hT rfl rfl rfl ?_ | refine AH.of hT rfl ?_ | refine AD.cons hT rfl ?_ | refine AD.nil ?_ | refine AQ.cons hT rfl ?_ | refine AQ.nil ?_); conv => whnf)
    refine ACond.mk (fun h => ?_) (fun h => ?_)
    · rw [if_pos h] at hwr
      rw [← hwr]
      conv => whnf
      repeat ((first | refine AO.cons hT ?_ | refine AO.nil ?_ | refine AW.seq ?_ | refine AW.region ?_ | refine AW.cond ?_ | refine AW.block ?_ | refine AW.loop ?_ | refine AW.skip ?_ | refine AW.exit ?_ | refine AW.ret ?_ | refine AW.label ?_ | refine AW.scope ?_ | refine AF.one hT rfl ?_ | refine AF.nil ?_ | refine AF.imm hT rfl rfl rfl ?_ | refine AH.of hT rfl ?_ | refine AD.cons hT rfl ?_ | refine AD.nil ?_ | refine AQ.cons hT rfl ?_ | refine AQ.nil ?_); conv => whnf)
      refine AOut.stay ?_
      conv => whnf
      repeat ((first | refine AO.cons hT ?_ | refine AO.nil ?_ | refine AW.seq ?_ | refine AW.region ?_ | refine AW.cond ?_ | refine AW.block ?_ | refine AW.loop ?_ | refine AW.skip ?_ | refine AW.exit ?_ | refine AW.ret ?_ | refine AW.label ?_ | refine AW.scope ?_ | refine AF.one hT rfl ?_ | refine AF.nil ?_ | refine AF.imm hT rfl rfl rfl ?_ | refine AH.of hT rfl ?_ | refine AD.cons hT rfl ?_ | refine AD.nil ?_ | refine AQ.cons hT rfl ?_ | refine AQ.nil ?_); conv => whnf)
      exact AFin.mk ⟨_, bs5, ck5, ⟨rfl, rfl⟩, rfl⟩
    · rw [if_neg (by simp [h])] at hwr
      conv => whnf
      repeat ((first | refine AO.cons hT ?_ | refine AO.nil ?_ | refine AW.seq ?_ | refine AW.region ?_ | refine AW.cond ?_ | refine AW.block ?_ | refine AW.loop ?_ | refine AW.skip ?_ | refine AW.exit ?_ | refine AW.ret ?_ | refine AW.label ?_ | refine AW.scope ?_ | refine AF.one hT rfl ?_ | refine AF.nil ?_ | refine AF.imm hT rfl rfl rfl ?_ | refine AH.of hT rfl ?_ | refine AD.cons hT rfl ?_ | refine AD.nil ?_ | refine AQ.cons hT rfl ?_ | refine AQ.nil ?_); conv => whnf)
      rw [w1]
      refine AHead.mk j _ _ (by omega) ⟨i + 1, _, bs5, ck5, by omega, hok, (lastD_n y).trans hyn, ?_, rfl, rfl⟩ (Conv.fit ?_)
      · rw [← hwr, List.drop_drop, show 64 * i + 64 = 64 * (i + 1) by omega, Nat.add_assoc]
      · repeat' (first | exact Fit.nil | refine Fit.any ?_ | refine Fit.same ?_)
  · obtain rfl : j = 0 := by omega
    rw [wrF] at hwr
    rw [← hwr]
    conv => whnf
    repeat ((first | refine AO.cons hT ?_ | refine AO.nil ?_ | refine AW.seq ?_ | refine AW.region ?_ | refine AW.cond ?_ | refine AW.block ?_ | refine AW.loop ?_ | refine AW.skip ?_ | refine AW.exit ?_ | refine AW.ret ?_ | refine AW.label ?_ | refine AW.scope ?_ | refine AF.one hT rfl ?_ | refine AF.nil ?_ | refine AF.imm hT rfl rfl rfl ?_ | refine AH.of hT rfl ?_ | refine AD.cons hT rfl ?_ | refine AD.nil ?_ | refine AQ.cons hT rfl ?_ | refine AQ.nil ?_); conv => whnf)
    refine AOut.stay ?_
    conv => whnf
    repeat ((first | refine AO.cons hT ?_ | refine AO.nil ?_ | refine AW.seq ?_ | refine AW.region ?_ | refine AW.cond ?_ | refine AW.block ?_ | refine AW.loop ?_ | refine AW.skip ?_ | refine AW.exit ?_ | refine AW.ret ?_ | refine AW.label ?_ | refine AW.scope ?_ | refine AF.one hT rfl ?_ | refine AF.nil ?_ | refine AF.imm hT rfl rfl rfl ?_ | refine AH.of hT rfl ?_ | refine AD.cons hT rfl ?_ | refine AD.nil ?_ | refine AQ.cons hT rfl ?_ | refine AQ.nil ?_); conv => whnf)
    exact AFin.mk ⟨_, bs3, ck3, ⟨rfl, rfl⟩, rfl⟩
end Go.Aw.VE

set_option linter.unusedSimpArgs false
set_option linter.unusedVariables false
set_option maxHeartbeats 4000000
namespace Go.Aw.VE
open Go

def e0 : ByteArray := ⟨#[]⟩
def readF (x : Dd) (at_ n : Int) : ByteArray × Int :=
  if x.f then (e0, 20) else if n < 1 then (e0, 2) else if 0 ≤ at_ ∧ at_ < x.n ∧ n ≤ x.n - at_ then (ofL ((x.cs.drop (64 * at_.toNat)).take (64 * n.toNat)), 0) else (e0, 21)

theorem AIdx.cellAt {cs : List UInt8} {b i a : Nat} {K : List AV → Prop} (e : b = 64 * a) (h : 64 * (a + i) + 64 ≤ cs.length) (q : K ((cellOf cs (a + i)).map byteC)) : AIdx (drp (cs.map byteC) b) 64 i K := by
  subst e
  rw [drp_eq, AIdx.iff, List.length_drop, List.length_map]
  refine ⟨by omega, ?_⟩
  rw [List.drop_drop, ← List.map_drop, ← List.map_take]
  unfold cellOf at q
  rw [show 64 * (a + i) = 64 * a + i * 64 by omega] at q
  exact q

theorem grown {cs : List UInt8} {a i : Nat} : ((cs.drop (64 * a)).take (64 * i)).map byteC ++ (cellOf cs (a + i)).map byteC = ((cs.drop (64 * a)).take (64 * (i + 1))).map byteC := by
  rw [← List.map_append, show 64 * (i + 1) = 64 * i + 64 by omega, List.take_add, List.drop_drop]
  unfold cellOf
  rw [show 64 * (a + i) = 64 * a + 64 * i by omega]
theorem three {i : Nat} {l : List Nat} (h : i < 3) : (0 :: 1 :: 2 :: l)[i]? = some i := by rcases i with _ | _ | _ | i <;> first | rfl | omega

theorem f29 (x : Dd) (hx : Dok x) (at_ n : Int) (ha : (Lit.int .i64 at_).wf = true) (hnn : (Lit.int .i64 n).wf = true) : DSpec 29 [nV at_, nV n] x fun r y => r = .tup [sV (readF x at_ n).1, nV (readF x at_ n).2] ∧ y = x := by
  intro bs ck
  have hle := hx.le
  have hpos := hx.pos
  have hlen := hx.len
  refine spec_of hT (f := 29) (fn := Go.Proofs.Tryz.f29) (c := body Go.Proofs.Tryz.f29) (by kernel_rfl) (by kernel_rfl) ?_
  conv => whnf
  repeat ((first | refine AO.cons hT ?_ | refine AO.nil ?_ | refine AW.seq ?_ | refine AW.region ?_ | refine AW.cond ?_ | refine AW.block ?_ | refine AW.loop ?_ | refine AW.skip ?_ | refine AW.exit ?_ | refine AW.ret ?_ | refine AW.label ?_ | refine AW.scope ?_ | refine AF.one hT rfl ?_ | refine AF.nil ?_ | refine AF.imm hT rfl rfl rfl ?_ | refine AH.of hT rfl ?_ | refine AD.cons hT rfl ?_ | refine AD.nil ?_ | refine AQ.cons hT rfl ?_ | refine AQ.nil ?_); conv => whnf)
  refine ACall.dev (by kernel_rfl) (f60 x hpos) rfl rfl rfl (by decide) (fun _ => rfl) (by rintro _ _ ⟨rfl, _⟩ _; rfl) ?_
  rintro _ x bs' ck' ⟨rfl, rfl⟩
  unfold readF
  rcases Bool.eq_false_or_eq_true x.f with hf | hf
  · rw [upE_t hf]
    simp only [hf, if_true]
    conv => whnf
    repeat (first | (refine AW.label ?_; conv => whnf) | (refine AW.scope ?_; conv => whnf) | (refine AO.cons hT ?_; conv => whnf) | (refine AO.nil ?_; conv => whnf) | (refine AW.seq ?_; conv => whnf) | (refine AW.region ?_; conv => whnf) | (refine AW.cond ?_; conv => whnf) | (refine AW.block ?_; conv => whnf) | (refine AW.loop ?_; conv => whnf) | (refine AW.skip ?_; conv => whnf) | (refine AW.exit ?_; conv => whnf) | (refine AW.ret ?_; conv => whnf) | (refine AF.one hT rfl ?_; conv => whnf) | (refine AF.nil ?_; conv => whnf) | (refine AF.imm hT rfl rfl rfl ?_; conv => whnf) | (refine AH.of hT rfl ?_; conv => whnf) | (refine ASplit.yes rfl ?_; conv => whnf) | (refine ACond.yes rfl ?_; conv => whnf) | (refine ASplit.no rfl ?_; conv => whnf) | (refine ACond.no rfl ?_; conv => whnf) | (refine ASplit.yes (by decide) ?_; conv => whnf) | (refine ACond.yes (by decide) ?_; conv => whnf) | (refine AReq.mk (by decide) ?_; conv => whnf) | (refine AIdx.iff.2 ⟨by decide, ?_⟩; conv => whnf))
    exact AFin.mk ⟨_, bs', ck', ⟨rfl, rfl⟩, rfl⟩
  rw [upE_f hf]
  simp only [hf, Bool.false_eq_true, if_false]
  conv => whnf
  repeat (first | (refine AW.label ?_; conv => whnf) | (refine AW.scope ?_; conv => whnf) | (refine AO.cons hT ?_; conv => whnf) | (refine AO.nil ?_; conv => whnf) | (refine AW.seq ?_; conv => whnf) | (refine AW.region ?_; conv => whnf) | (refine AW.cond ?_; conv => whnf) | (refine AW.block ?_; conv => whnf) | (refine AW.loop ?_; conv => whnf) | (refine AW.skip ?_; conv => whnf) | (refine AW.exit ?_; conv => whnf) | (refine AW.ret ?_; conv => whnf) | (refine AF.one hT rfl ?_; conv => whnf) | (refine AF.nil ?_; conv => whnf) | (refine AF.imm hT rfl rfl rfl ?_; conv => whnf) | (refine AH.of hT rfl ?_; conv => whnf) | (refine ASplit.yes rfl ?_; conv => whnf) | (refine ACond.yes rfl ?_; conv => whnf) | (refine ASplit.no rfl ?_; conv => whnf) | (refine ACond.no rfl ?_; conv => whnf) | (refine ASplit.yes (by decide) ?_; conv => whnf) | (refine ACond.yes (by decide) ?_; conv => whnf) | (refine AReq.mk (by decide) ?_; conv => whnf) | (refine AIdx.iff.2 ⟨by decide, ?_⟩; conv => whnf))
  refine ACond.dec (fun h1 => ?_) (fun h1 => ?_)
  · rw [if_pos h1]
    conv => whnf
    repeat (first | (refine AW.label ?_; conv => whnf) | (refine AW.scope ?_; conv => whnf) | (refine AO.cons hT ?_; conv => whnf) | (refine AO.nil ?_; conv => whnf) | (refine AW.seq ?_; conv => whnf) | (refine AW.region ?_; conv => whnf) | (refine AW.cond ?_; conv => whnf) | (refine AW.block ?_; conv => whnf) | (refine AW.loop ?_; conv => whnf) | (refine AW.skip ?_; conv => whnf) | (refine AW.exit ?_; conv => whnf) | (refine AW.ret ?_; conv => whnf) | (refine AF.one hT rfl ?_; conv => whnf) | (refine AF.nil ?_; conv => whnf) | (refine AF.imm hT rfl rfl rfl ?_; conv => whnf) | (refine AH.of hT rfl ?_; conv => whnf) | (refine ASplit.yes rfl ?_; conv => whnf) | (refine ACond.yes rfl ?_; conv => whnf) | (refine ASplit.no rfl ?_; conv => whnf) | (refine ACond.no rfl ?_; conv => whnf) | (refine ASplit.yes (by decide) ?_; conv => whnf) | (refine ACond.yes (by decide) ?_; conv => whnf) | (refine AReq.mk (by decide) ?_; conv => whnf) | (refine AIdx.iff.2 ⟨by decide, ?_⟩; conv => whnf))
    exact AFin.mk ⟨_, bs', ck', ⟨rfl, rfl⟩, rfl⟩
  rw [if_neg h1]
  conv => whnf
  repeat ((first | refine AO.cons hT ?_ | refine AO.nil ?_ | refine AW.seq ?_ | refine AW.region ?_ | refine AW.cond ?_ | refine AW.block ?_ | refine AW.loop ?_ | refine AW.skip ?_ | refine AW.exit ?_ | refine AW.ret ?_ | refine AW.label ?_ | refine AW.scope ?_ | refine AF.one hT rfl ?_ | refine AF.nil ?_ | refine AF.imm hT rfl rfl rfl ?_ | refine AH.of hT rfl ?_ | refine AD.cons hT rfl ?_ | refine AD.nil ?_ | refine AQ.cons hT rfl ?_ | refine AQ.nil ?_); conv => whnf)
  refine ACall.dev (by kernel_rfl) (f61 x at_ n (by omega) ha) rfl rfl rfl (by decide) (fun _ => rfl) (by rintro _ _ ⟨rfl, _⟩ _; rfl) ?_
  rintro _ x bs2 ck2 ⟨rfl, rfl⟩
  conv => whnf
  repeat ((first | refine AO.cons hT ?_ | refine AO.nil ?_ | refine AW.seq ?_ | refine AW.region ?_ | refine AW.cond ?_ | refine AW.block ?_ | refine AW.loop ?_ | refine AW.skip ?_ | refine AW.exit ?_ | refine AW.ret ?_ | refine AW.label ?_ | refine AW.scope ?_ | refine AF.one hT rfl ?_ | refine AF.nil ?_ | refine AF.imm hT rfl rfl rfl ?_ | refine AH.of hT rfl ?_ | refine AD.cons hT rfl ?_ | refine AD.nil ?_ | refine AQ.cons hT rfl ?_ | refine AQ.nil ?_); conv => whnf)
  refine ACond.ndec (fun h3 => ?_) (fun h3 => ?_)
  · rw [if_neg h3]
    conv => whnf
    repeat (first | (refine AW.label ?_; conv => whnf) | (refine AW.scope ?_; conv => whnf) | (refine AO.cons hT ?_; conv => whnf) | (refine AO.nil ?_; conv => whnf) | (refine AW.seq ?_; conv => whnf) | (refine AW.region ?_; conv => whnf) | (refine AW.cond ?_; conv => whnf) | (refine AW.block ?_; conv => whnf) | (refine AW.loop ?_; conv => whnf) | (refine AW.skip ?_; conv => whnf) | (refine AW.exit ?_; conv => whnf) | (refine AW.ret ?_; conv => whnf) | (refine AF.one hT rfl ?_; conv => whnf) | (refine AF.nil ?_; conv => whnf) | (refine AF.imm hT rfl rfl rfl ?_; conv => whnf) | (refine AH.of hT rfl ?_; conv => whnf) | (refine ASplit.yes rfl ?_; conv => whnf) | (refine ACond.yes rfl ?_; conv => whnf) | (refine ASplit.no rfl ?_; conv => whnf) | (refine ACond.no rfl ?_; conv => whnf) | (refine ASplit.yes (by decide) ?_; conv => whnf) | (refine ACond.yes (by decide) ?_; conv => whnf) | (refine AReq.mk (by decide) ?_; conv => whnf) | (refine AIdx.iff.2 ⟨by decide, ?_⟩; conv => whnf))
    exact AFin.mk ⟨_, bs2, ck2, ⟨rfl, rfl⟩, rfl⟩
  rw [if_pos h3]
  obtain ⟨g1, g2, g3⟩ := h3
  obtain ⟨a, rfl⟩ : ∃ a : Nat, at_ = a := ⟨at_.toNat, by omega⟩
  obtain ⟨N, rfl⟩ : ∃ a : Nat, n = a := ⟨n.toNat, by omega⟩
  rw [Int.toNat_natCast, Int.toNat_natCast]
  have w1 : IntKind.wrap .i64 ((N : Int) * 64) = (64 * N : Nat) := by rw [wrap_i64 _ (by omega) (by omega)]; omega
  have w2 : IntKind.wrap .i64 ((a : Int) + N) = (a + N : Nat) := by rw [wrap_i64 _ (by omega) (by omega)]; omega
  conv => whnf
  repeat ((first | refine AO.cons hT ?_ | refine AO.nil ?_ | refine AW.seq ?_ | refine AW.region ?_ | refine AW.cond ?_ | refine AW.block ?_ | refine AW.loop ?_ | refine AW.skip ?_ | refine AW.exit ?_ | refine AW.ret ?_ | refine AW.label ?_ | refine AW.scope ?_ | refine AF.one hT rfl ?_ | refine AF.nil ?_ | refine AF.imm hT rfl rfl rfl ?_ | refine AH.of hT rfl ?_ | refine AD.cons hT rfl ?_ | refine AD.nil ?_ | refine AQ.cons hT rfl ?_ | refine AQ.nil ?_); conv => whnf)
  rw [w1]
  refine AReq.mk ⟨by omega, by omega, by show ((64 * N : Nat) : Int) * 1 ≤ _; omega, by omega⟩ ?_
  conv => whnf
  repeat ((first | refine AO.cons hT ?_ | refine AO.nil ?_ | refine AW.seq ?_ | refine AW.region ?_ | refine AW.cond ?_ | refine AW.block ?_ | refine AW.loop ?_ | refine AW.skip ?_ | refine AW.exit ?_ | refine AW.ret ?_ | refine AW.label ?_ | refine AW.scope ?_ | refine AF.one hT rfl ?_ | refine AF.nil ?_ | refine AF.imm hT rfl rfl rfl ?_ | refine AH.of hT rfl ?_ | refine AD.cons hT rfl ?_ | refine AD.nil ?_ | refine AQ.cons hT rfl ?_ | refine AQ.nil ?_); conv => whnf)
  rw [w2]
  refine AReq.mk ⟨by omega, by omega, by omega⟩ ?_
  conv => whnf
  repeat ((first | refine AO.cons hT ?_ | refine AO.nil ?_ | refine AW.seq ?_ | refine AW.region ?_ | refine AW.cond ?_ | refine AW.block ?_ | refine AW.loop ?_ | refine AW.skip ?_ | refine AW.exit ?_ | refine AW.ret ?_ | refine AW.label ?_ | refine AW.scope ?_ | refine AF.one hT rfl ?_ | refine AF.nil ?_ | refine AF.imm hT rfl rfl rfl ?_ | refine AH.of hT rfl ?_ | refine AD.cons hT rfl ?_ | refine AD.nil ?_ | refine AQ.cons hT rfl ?_ | refine AQ.nil ?_); conv => whnf)
  rw [Int.toNat_natCast, Int.toNat_natCast]
  rw [show a + N - a = N by omega]
  refine ALoop.mk (fun j E H => ∃ (i : Nat) (bs : List Nat) (ck : Nat), j + i = N ∧ E = pad ([.ptr 0 0, nV a, nV N, .any, .any, .any, sV e0, nV 0, .any, .ms 1 3 0 (64 * i)] ++ List.replicate 25 .any ++ [.ms 64 1 (0 + a * 64) N, nV N, nV i]) 47 ∧ H = dvH x bs ck ++ [.cells 5 (((x.cs.drop (64 * a)).take (64 * i)).map byteC)])
    (n := N) _ _ ⟨0, bs2, ck2, by omega, rfl, rfl⟩ (Conv.fit ?_) ?_
  · repeat' (first | exact Fit.nil | refine Fit.any ?_ | refine Fit.same ?_)
  rintro j _ _ ⟨i, bs3, ck3, hj, rfl, rfl⟩
  conv => whnf
  repeat ((first | refine AO.cons hT ?_ | refine AO.nil ?_ | refine AW.seq ?_ | refine AW.region ?_ | refine AW.cond ?_ | refine AW.block ?_ | refine AW.loop ?_ | refine AW.skip ?_ | refine AW.exit ?_ | refine AW.ret ?_ | refine AW.label ?_ | refine AW.scope ?_ | refine AF.one hT rfl ?_ | refine AF.nil ?_ | refine AF.imm hT rfl rfl rfl ?_ | refine AH.of hT rfl ?_ | refine AD.cons hT rfl ?_ | refine AD.nil ?_ | refine AQ.cons hT rfl ?_ | refine AQ.nil ?_); conv => whnf)
  refine ACond.dec (fun h4 => ?_) (fun h4 => ?_)
  · obtain ⟨j, rfl⟩ : ∃ i, j = i + 1 := ⟨j - 1, by omega⟩
    conv => whnf
    repeat ((first | refine AO.cons hT ?_ | refine AO.nil ?_ | refine AW.seq ?_ | refine AW.region ?_ | refine AW.cond ?_ | refine AW.block ?_ | refine AW.loop ?_ | refine AW.skip ?_ | refine AW.exit ?_ | refine AW.ret ?_ | refine AW.label ?_ | refine AW.scope ?_ | refine AF.one hT rfl ?_ | refine AF.nil ?_ | refine AF.imm hT rfl rfl rfl ?_ | refine AH.of hT rfl ?_ | refine AD.cons hT rfl ?_ | refine AD.nil ?_ | refine AQ.cons hT rfl ?_ | refine AQ.nil ?_); conv => whnf)
    refine AReq.mk ⟨by omega, by omega⟩ ?_
    conv => whnf
    repeat ((first | refine AO.cons hT ?_ | refine AO.nil ?_ | refine AW.seq ?_ | refine AW.region ?_ | refine AW.cond ?_ | refine AW.block ?_ | refine AW.loop ?_ | refine AW.skip ?_ | refine AW.exit ?_ | refine AW.ret ?_ | refine AW.label ?_ | refine AW.scope ?_ | refine AF.one hT rfl ?_ | refine AF.nil ?_ | refine AF.imm hT rfl rfl rfl ?_ | refine AH.of hT rfl ?_ | refine AD.cons hT rfl ?_ | refine AD.nil ?_ | refine AQ.cons hT rfl ?_ | refine AQ.nil ?_); conv => whnf)
    refine AIdx.cellAt (a := a) (by omega) (by omega) ?_
    conv => whnf
    repeat ((first | refine AO.cons hT ?_ | refine AO.nil ?_ | refine AW.seq ?_ | refine AW.region ?_ | refine AW.cond ?_ | refine AW.block ?_ | refine AW.loop ?_ | refine AW.skip ?_ | refine AW.exit ?_ | refine AW.ret ?_ | refine AW.label ?_ | refine AW.scope ?_ | refine AF.one hT rfl ?_ | refine AF.nil ?_ | refine AF.imm hT rfl rfl rfl ?_ | refine AH.of hT rfl ?_ | refine AD.cons hT rfl ?_ | refine AD.nil ?_ | refine AQ.cons hT rfl ?_ | refine AQ.nil ?_); conv => whnf)
    refine ACut.cell (cellOf_len (by omega)) ?_
    conv => whnf
    repeat ((first | refine AO.cons hT ?_ | refine AO.nil ?_ | refine AW.seq ?_ | refine AW.region ?_ | refine AW.cond ?_ | refine AW.block ?_ | refine AW.loop ?_ | refine AW.skip ?_ | refine AW.exit ?_ | refine AW.ret ?_ | refine AW.label ?_ | refine AW.scope ?_ | refine AF.one hT rfl ?_ | refine AF.nil ?_ | refine AF.imm hT rfl rfl rfl ?_ | refine AH.of hT rfl ?_ | refine AD.cons hT rfl ?_ | refine AD.nil ?_ | refine AQ.cons hT rfl ?_ | refine AQ.nil ?_); conv => whnf)
    refine AReq.mk (by rw [List.length_map, cellOf_len (by omega)]; rfl) ?_
    conv => whnf
    repeat ((first | refine AO.cons hT ?_ | refine AO.nil ?_ | refine AW.seq ?_ | refine AW.region ?_ | refine AW.cond ?_ | refine AW.block ?_ | refine AW.loop ?_ | refine AW.skip ?_ | refine AW.exit ?_ | refine AW.ret ?_ | refine AW.label ?_ | refine AW.scope ?_ | refine AF.one hT rfl ?_ | refine AF.nil ?_ | refine AF.imm hT rfl rfl rfl ?_ | refine AH.of hT rfl ?_ | refine AD.cons hT rfl ?_ | refine AD.nil ?_ | refine AQ.cons hT rfl ?_ | refine AQ.nil ?_); conv => whnf)
    refine AUpd.full (by rw [List.length_map, cellOf_len (by omega), List.length_replicate]) ?_
    conv => whnf
    repeat ((first | refine AO.cons hT ?_ | refine AO.nil ?_ | refine AW.seq ?_ | refine AW.region ?_ | refine AW.cond ?_ | refine AW.block ?_ | refine AW.loop ?_ | refine AW.skip ?_ | refine AW.exit ?_ | refine AW.ret ?_ | refine AW.label ?_ | refine AW.scope ?_ | refine AF.one hT rfl ?_ | refine AF.nil ?_ | refine AF.imm hT rfl rfl rfl ?_ | refine AH.of hT rfl ?_ | refine AD.cons hT rfl ?_ | refine AD.nil ?_ | refine AQ.cons hT rfl ?_ | refine AQ.nil ?_); conv => whnf)
    refine AReq.mk (by rw [List.length_map, cellOf_len (by omega)]; decide) ?_
    conv => whnf
    repeat ((first | refine AO.cons hT ?_ | refine AO.nil ?_ | refine AW.seq ?_ | refine AW.region ?_ | refine AW.cond ?_ | refine AW.block ?_ | refine AW.loop ?_ | refine AW.skip ?_ | refine AW.exit ?_ | refine AW.ret ?_ | refine AW.label ?_ | refine AW.scope ?_ | refine AF.one hT rfl ?_ | refine AF.nil ?_ | refine AF.imm hT rfl rfl rfl ?_ | refine AH.of hT rfl ?_ | refine AD.cons hT rfl ?_ | refine AD.nil ?_ | refine AQ.cons hT rfl ?_ | refine AQ.nil ?_); conv => whnf)
    refine ACut.all (by rw [List.length_map, cellOf_len (by omega)]; rfl) ?_
    conv => whnf
    repeat ((first | refine AO.cons hT ?_ | refine AO.nil ?_ | refine AW.seq ?_ | refine AW.region ?_ | refine AW.cond ?_ | refine AW.block ?_ | refine AW.loop ?_ | refine AW.skip ?_ | refine AW.exit ?_ | refine AW.ret ?_ | refine AW.label ?_ | refine AW.scope ?_ | refine AF.one hT rfl ?_ | refine AF.nil ?_ | refine AF.imm hT rfl rfl rfl ?_ | refine AH.of hT rfl ?_ | refine AD.cons hT rfl ?_ | refine AD.nil ?_ | refine AQ.cons hT rfl ?_ | refine AQ.nil ?_); conv => whnf)
    have hlt : ((x.cs.drop (64 * a)).take (64 * i)).length = 64 * i := by rw [List.length_take, List.length_drop]; omega
    refine AReq.mk ⟨by rw [List.length_map, hlt, Nat.mul_one], by rw [show (T 5).bytes = 1 from rfl]; omega⟩ ?_
    conv => whnf
    repeat ((first | refine AO.cons hT ?_ | refine AO.nil ?_ | refine AW.seq ?_ | refine AW.region ?_ | refine AW.cond ?_ | refine AW.block ?_ | refine AW.loop ?_ | refine AW.skip ?_ | refine AW.exit ?_ | refine AW.ret ?_ | refine AW.label ?_ | refine AW.scope ?_ | refine AF.one hT rfl ?_ | refine AF.nil ?_ | refine AF.imm hT rfl rfl rfl ?_ | refine AH.of hT rfl ?_ | refine AD.cons hT rfl ?_ | refine AD.nil ?_ | refine AQ.cons hT rfl ?_ | refine AQ.nil ?_); conv => whnf)
    rw [show Int.toNat (i : Int) = i by omega, grown, wrap_i64 ((i : Int) + 1) (by omega) (by omega)]
    refine AHead.mk j _ _ (by omega) ⟨i + 1, bs3, ck3, by omega, rfl, rfl⟩ (Conv.ren [0, 1, 2, 5] _ (fun _ h => three h) (by decide) (by repeat' (first | exact Fit.nil | refine Fit.any ?_ | refine Fit.same ?_)) (.same ?_ (.same ?_ (.same ?_ (.same ?_ .nil)))))
    · rw [dD_ren]; rfl
    · rw [dC_ren]; rfl
    · rw [dM_ren]; rfl
    · simp only [ABlk.ren, bytes_ren]; rfl
  · obtain rfl : i = N := by omega
    conv => whnf
    repeat ((first | refine AO.cons hT ?_ | refine AO.nil ?_ | refine AW.seq ?_ | refine AW.region ?_ | refine AW.cond ?_ | refine AW.block ?_ | refine AW.loop ?_ | refine AW.skip ?_ | refine AW.exit ?_ | refine AW.ret ?_ | refine AW.label ?_ | refine AW.scope ?_ | refine AF.one hT rfl ?_ | refine AF.nil ?_ | refine AF.imm hT rfl rfl rfl ?_ | refine AH.of hT rfl ?_ | refine AD.cons hT rfl ?_ | refine AD.nil ?_ | refine AQ.cons hT rfl ?_ | refine AQ.nil ?_); conv => whnf)
    refine AOut.stay ?_
    conv => whnf
    repeat ((first | refine AO.cons hT ?_ | refine AO.nil ?_ | refine AW.seq ?_ | refine AW.region ?_ | refine AW.cond ?_ | refine AW.block ?_ | refine AW.loop ?_ | refine AW.skip ?_ | refine AW.exit ?_ | refine AW.ret ?_ | refine AW.label ?_ | refine AW.scope ?_ | refine AF.one hT rfl ?_ | refine AF.nil ?_ | refine AF.imm hT rfl rfl rfl ?_ | refine AH.of hT rfl ?_ | refine AD.cons hT rfl ?_ | refine AD.nil ?_ | refine AQ.cons hT rfl ?_ | refine AQ.nil ?_); conv => whnf)
    have hlt : ((x.cs.drop (64 * a)).take (64 * i)).length = 64 * i := by rw [List.length_take, List.length_drop]; omega
    refine ACut.all (by rw [List.length_map, hlt, Nat.mul_one]) ?_
    conv => whnf
    repeat ((first | refine AO.cons hT ?_ | refine AO.nil ?_ | refine AW.seq ?_ | refine AW.region ?_ | refine AW.cond ?_ | refine AW.block ?_ | refine AW.loop ?_ | refine AW.skip ?_ | refine AW.exit ?_ | refine AW.ret ?_ | refine AW.label ?_ | refine AW.scope ?_ | refine AF.one hT rfl ?_ | refine AF.nil ?_ | refine AF.imm hT rfl rfl rfl ?_ | refine AH.of hT rfl ?_ | refine AD.cons hT rfl ?_ | refine AD.nil ?_ | refine AQ.cons hT rfl ?_ | refine AQ.nil ?_); conv => whnf)
    refine AStr.mk ?_
    conv => whnf
    repeat ((first | refine AO.cons hT ?_ | refine AO.nil ?_ | refine AW.seq ?_ | refine AW.region ?_ | refine AW.cond ?_ | refine AW.block ?_ | refine AW.loop ?_ | refine AW.skip ?_ | refine AW.exit ?_ | refine AW.ret ?_ | refine AW.label ?_ | refine AW.scope ?_ | refine AF.one hT rfl ?_ | refine AF.nil ?_ | refine AF.imm hT rfl rfl rfl ?_ | refine AH.of hT rfl ?_ | refine AD.cons hT rfl ?_ | refine AD.nil ?_ | refine AQ.cons hT rfl ?_ | refine AQ.nil ?_); conv => whnf)
    exact AFin.dev (y := x) (fun _ => rfl) ⟨_, bs3, ck3, ⟨rfl, rfl⟩, rfl⟩
end Go.Aw.VE

