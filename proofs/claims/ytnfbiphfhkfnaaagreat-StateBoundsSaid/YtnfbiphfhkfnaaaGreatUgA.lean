/-
  The statement StateBounds: of a state that may be, of no line more is authorised, received or paid back than was shipped and paid, without any condition.
-/
import Derived.Test.YtnfbiphfhkfnaaaGreatAwG
import Derived.Test.YtnfbiphfhkfnaaaGreatAwH
import Derived.Test.YtnfbiphfhkfnaaaGreatProg
import Derived.KernelRfl
set_option linter.unusedSimpArgs false
set_option linter.unusedVariables false
/-
  The types of this cut, in short.
-/
set_option linter.unusedSimpArgs false
set_option linter.unusedVariables false
namespace Go.Aw.U1
open Go

noncomputable def tbl : List (Nat × TI) := [(1, ⟨.fn, 1, 8, .v .nilFunc⟩),
  (2, ⟨.int .i64, 1, 8, .v (.int .i64 0)⟩),
  (3, ⟨.int .i64, 1, 8, .v (.int .i64 0)⟩),
  (4, ⟨.bool, 1, 1, .v (.bool false)⟩),
  (5, ⟨.int .u8, 1, 1, .v (.int .u8 0)⟩),
  (9, ⟨.str, 1, 16, .v (.string ⟨#[]⟩)⟩),
  (12, ⟨.int .u64, 1, 8, .v (.int .u64 0)⟩),
  (21, ⟨.int .i32, 1, 4, .v (.int .i32 0)⟩),
  (22, ⟨.slice 78, 1, 24, .v (.slice none 0 0)⟩),
  (23, ⟨.slice 46, 1, 24, .v (.slice none 0 0)⟩),
  (24, ⟨.slice 66, 1, 24, .v (.slice none 0 0)⟩),
  (25, ⟨.slice 50, 1, 24, .v (.slice none 0 0)⟩),
  (26, ⟨.slice 107, 1, 24, .v (.slice none 0 0)⟩),
  (27, ⟨.slice 68, 1, 24, .v (.slice none 0 0)⟩),
  (28, ⟨.slice 57, 1, 24, .v (.slice none 0 0)⟩),
  (29, ⟨.slice 144, 1, 24, .v (.slice none 0 0)⟩),
  (30, ⟨.slice 3, 1, 24, .v (.slice none 0 0)⟩),
  (31, ⟨.slice 175, 1, 24, .v (.slice none 0 0)⟩),
  (32, ⟨.struct [(0, false, 1), (1, false, 1), (2, false, 1), (3, false, 1)], 4, 96, .agg [.v (.slice none 0 0), .v (.slice none 0 0), .v (.slice none 0 0), .v (.slice none 0 0)]⟩),
  (33, ⟨.struct [(0, false, 1), (1, false, 1), (2, false, 1), (3, false, 1)], 4, 96, .agg [.v (.slice none 0 0), .v (.slice none 0 0), .v (.slice none 0 0), .v (.slice none 0 0)]⟩),
  (34, ⟨.slice 70, 1, 24, .v (.slice none 0 0)⟩),
  (35, ⟨.struct [(0, false, 1), (1, false, 1), (2, false, 1), (3, false, 1), (4, false, 1), (5, false, 1), (6, false, 1), (7, false, 1), (8, false, 1), (9, false, 1), (10, false, 1), (11, false, 1), (12, false, 1), (13, true, 4), (17, false, 1)], 18, 352, .agg [.v (.int .i64 0), .v (.int .i64 0), .v (.int .i64 0), .v (.int .i64 0), .v (.int .i64 0), .v (.slice none 0 0), .v (.slice none 0 0), .v (.slice none 0 0), .v (.slice none 0 0), .v (.slice none 0 0), .v (.slice none 0 0), .v (.slice none 0 0), .v (.slice none 0 0), .v (.slice none 0 0), .v (.slice none 0 0), .v (.slice none 0 0), .v (.slice none 0 0), .v (.slice none 0 0)]⟩),
  (36, ⟨.struct [(0, false, 1), (1, false, 1), (2, false, 1), (3, false, 1), (4, false, 1), (5, false, 1), (6, false, 1), (7, false, 1), (8, false, 1), (9, false, 1), (10, false, 1), (11, false, 1), (12, false, 1), (13, true, 4), (17, false, 1)], 18, 352, .agg [.v (.int .i64 0), .v (.int .i64 0), .v (.int .i64 0), .v (.int .i64 0), .v (.int .i64 0), .v (.slice none 0 0), .v (.slice none 0 0), .v (.slice none 0 0), .v (.slice none 0 0), .v (.slice none 0 0), .v (.slice none 0 0), .v (.slice none 0 0), .v (.slice none 0 0), .v (.slice none 0 0), .v (.slice none 0 0), .v (.slice none 0 0), .v (.slice none 0 0), .v (.slice none 0 0)]⟩),
  (37, ⟨.fn, 1, 8, .v .nilFunc⟩),
  (38, ⟨.int .i64, 1, 8, .v (.int .i64 0)⟩),
  (39, ⟨.fn, 1, 8, .v .nilFunc⟩),
  (40, ⟨.fn, 1, 8, .v .nilFunc⟩),
  (41, ⟨.slice 55, 1, 24, .v (.slice none 0 0)⟩),
  (43, ⟨.fn, 1, 8, .v .nilFunc⟩),
  (44, ⟨.slice 53, 1, 24, .v (.slice none 0 0)⟩),
  (45, ⟨.struct [(0, false, 1), (1, false, 1), (2, false, 1)], 3, 40, .agg [.v (.int .i64 0), .v (.int .i64 0), .v (.slice none 0 0)]⟩),
  (46, ⟨.struct [(0, false, 1), (1, false, 1), (2, false, 1)], 3, 40, .agg [.v (.int .i64 0), .v (.int .i64 0), .v (.slice none 0 0)]⟩),
  (48, ⟨.fn, 1, 8, .v .nilFunc⟩),
  (49, ⟨.struct [(0, false, 1), (1, false, 1), (2, false, 1), (3, false, 1), (4, false, 1), (5, false, 1), (6, false, 1), (7, false, 1), (8, false, 1), (9, false, 1)], 10, 88, .agg [.v (.string ⟨#[]⟩), .v (.int .i64 0), .v (.int .i64 0), .v (.int .i64 0), .v (.int .i64 0), .v (.int .i64 0), .v (.int .i64 0), .v (.int .i64 0), .v (.int .i64 0), .v (.int .i64 0)]⟩),
  (50, ⟨.struct [(0, false, 1), (1, false, 1), (2, false, 1), (3, false, 1), (4, false, 1), (5, false, 1), (6, false, 1), (7, false, 1), (8, false, 1), (9, false, 1)], 10, 88, .agg [.v (.string ⟨#[]⟩), .v (.int .i64 0), .v (.int .i64 0), .v (.int .i64 0), .v (.int .i64 0), .v (.int .i64 0), .v (.int .i64 0), .v (.int .i64 0), .v (.int .i64 0), .v (.int .i64 0)]⟩),
  (51, ⟨.slice 9, 1, 24, .v (.slice none 0 0)⟩),
  (52, ⟨.struct [(0, false, 1), (1, false, 1), (2, false, 1), (3, false, 1), (4, false, 1)], 5, 56, .agg [.v (.int .i64 0), .v (.int .i64 0), .v (.int .i64 0), .v (.int .i64 0), .v (.slice none 0 0)]⟩),
  (53, ⟨.struct [(0, false, 1), (1, false, 1), (2, false, 1), (3, false, 1), (4, false, 1)], 5, 56, .agg [.v (.int .i64 0), .v (.int .i64 0), .v (.int .i64 0), .v (.int .i64 0), .v (.slice none 0 0)]⟩),
  (54, ⟨.struct [(0, false, 1), (1, false, 1), (2, false, 1)], 3, 24, .agg [.v (.bool false), .v (.int .i64 0), .v (.int .i64 0)]⟩),
  (55, ⟨.struct [(0, false, 1), (1, false, 1), (2, false, 1)], 3, 24, .agg [.v (.bool false), .v (.int .i64 0), .v (.int .i64 0)]⟩),
  (56, ⟨.struct [(0, false, 1), (1, false, 1), (2, false, 1), (3, false, 1), (4, false, 1)], 5, 72, .agg [.v (.int .i64 0), .v (.int .i64 0), .v (.slice none 0 0), .v (.slice none 0 0), .v (.bool false)]⟩),
  (57, ⟨.struct [(0, false, 1), (1, false, 1), (2, false, 1), (3, false, 1), (4, false, 1)], 5, 72, .agg [.v (.int .i64 0), .v (.int .i64 0), .v (.slice none 0 0), .v (.slice none 0 0), .v (.bool false)]⟩),
  (59, ⟨.fn, 1, 8, .v .nilFunc⟩),
  (60, ⟨.fn, 1, 8, .v .nilFunc⟩),
  (62, ⟨.fn, 1, 8, .v .nilFunc⟩),
  (63, ⟨.fn, 1, 8, .v .nilFunc⟩),
  (64, ⟨.slice 133, 1, 24, .v (.slice none 0 0)⟩),
  (65, ⟨.struct [(0, false, 1), (1, false, 1), (2, false, 1), (3, false, 1), (4, false, 1)], 5, 56, .agg [.v (.int .i64 0), .v (.int .i64 0), .v (.int .i64 0), .v (.int .i64 0), .v (.slice none 0 0)]⟩),
  (66, ⟨.struct [(0, false, 1), (1, false, 1), (2, false, 1), (3, false, 1), (4, false, 1)], 5, 56, .agg [.v (.int .i64 0), .v (.int .i64 0), .v (.int .i64 0), .v (.int .i64 0), .v (.slice none 0 0)]⟩),
  (67, ⟨.struct [(0, false, 1), (1, false, 1), (2, false, 1), (3, false, 1)], 4, 48, .agg [.v (.int .i64 0), .v (.int .i64 0), .v (.int .i64 0), .v (.slice none 0 0)]⟩),
  (68, ⟨.struct [(0, false, 1), (1, false, 1), (2, false, 1), (3, false, 1)], 4, 48, .agg [.v (.int .i64 0), .v (.int .i64 0), .v (.int .i64 0), .v (.slice none 0 0)]⟩),
  (69, ⟨.struct [(0, false, 1), (1, false, 1), (2, false, 1)], 3, 40, .agg [.v (.int .i64 0), .v (.string ⟨#[]⟩), .v (.string ⟨#[]⟩)]⟩),
  (70, ⟨.struct [(0, false, 1), (1, false, 1), (2, false, 1)], 3, 40, .agg [.v (.int .i64 0), .v (.string ⟨#[]⟩), .v (.string ⟨#[]⟩)]⟩),
  (71, ⟨.struct [(0, true, 18)], 18, 352, .agg [.v (.int .i64 0), .v (.int .i64 0), .v (.int .i64 0), .v (.int .i64 0), .v (.int .i64 0), .v (.slice none 0 0), .v (.slice none 0 0), .v (.slice none 0 0), .v (.slice none 0 0), .v (.slice none 0 0), .v (.slice none 0 0), .v (.slice none 0 0), .v (.slice none 0 0), .v (.slice none 0 0), .v (.slice none 0 0), .v (.slice none 0 0), .v (.slice none 0 0), .v (.slice none 0 0)]⟩),
  (72, ⟨.struct [(0, true, 18)], 18, 352, .agg [.v (.int .i64 0), .v (.int .i64 0), .v (.int .i64 0), .v (.int .i64 0), .v (.int .i64 0), .v (.slice none 0 0), .v (.slice none 0 0), .v (.slice none 0 0), .v (.slice none 0 0), .v (.slice none 0 0), .v (.slice none 0 0), .v (.slice none 0 0), .v (.slice none 0 0), .v (.slice none 0 0), .v (.slice none 0 0), .v (.slice none 0 0), .v (.slice none 0 0), .v (.slice none 0 0)]⟩),
  (73, ⟨.slice 40, 1, 24, .v (.slice none 0 0)⟩),
  (74, ⟨.fn, 1, 8, .v .nilFunc⟩),
  (76, ⟨.fn, 1, 8, .v .nilFunc⟩),
  (77, ⟨.struct [(0, false, 1), (1, false, 1), (2, false, 1), (3, false, 1)], 4, 32, .agg [.v (.int .i64 0), .v (.int .i64 0), .v (.int .i64 0), .v (.int .i64 0)]⟩),
  (78, ⟨.struct [(0, false, 1), (1, false, 1), (2, false, 1), (3, false, 1)], 4, 32, .agg [.v (.int .i64 0), .v (.int .i64 0), .v (.int .i64 0), .v (.int .i64 0)]⟩),
  (80, ⟨.fn, 1, 8, .v .nilFunc⟩),
  (81, ⟨.fn, 1, 8, .v .nilFunc⟩),
  (82, ⟨.fn, 1, 8, .v .nilFunc⟩),
  (83, ⟨.fn, 1, 8, .v .nilFunc⟩),
  (84, ⟨.map 88 3, 1, 8, .v (.map none)⟩),
  (86, ⟨.fn, 1, 8, .v .nilFunc⟩),
  (87, ⟨.struct [(0, false, 1), (1, false, 1)], 2, 16, .agg [.v (.bool false), .v (.int .i64 0)]⟩),
  (88, ⟨.struct [(0, false, 1), (1, false, 1)], 2, 16, .agg [.v (.bool false), .v (.int .i64 0)]⟩),
  (89, ⟨.fn, 1, 8, .v .nilFunc⟩),
  (90, ⟨.fn, 1, 8, .v .nilFunc⟩),
  (91, ⟨.fn, 1, 8, .v .nilFunc⟩),
  (92, ⟨.fn, 1, 8, .v .nilFunc⟩),
  (93, ⟨.fn, 1, 8, .v .nilFunc⟩),
  (94, ⟨.fn, 1, 8, .v .nilFunc⟩),
  (95, ⟨.fn, 1, 8, .v .nilFunc⟩),
  (96, ⟨.fn, 1, 8, .v .nilFunc⟩),
  (97, ⟨.fn, 1, 8, .v .nilFunc⟩),
  (98, ⟨.fn, 1, 8, .v .nilFunc⟩),
  (99, ⟨.fn, 1, 8, .v .nilFunc⟩),
  (100, ⟨.slice 3, 1, 24, .v (.slice none 0 0)⟩),
  (101, ⟨.fn, 1, 8, .v .nilFunc⟩),
  (103, ⟨.fn, 1, 8, .v .nilFunc⟩),
  (104, ⟨.fn, 1, 8, .v .nilFunc⟩),
  (105, ⟨.fn, 1, 8, .v .nilFunc⟩),
  (106, ⟨.struct [(0, false, 1), (1, false, 1), (2, false, 1), (3, false, 1), (4, false, 1)], 5, 48, .agg [.v (.int .i64 0), .v (.string ⟨#[]⟩), .v (.int .i64 0), .v (.int .i64 0), .v (.int .i64 0)]⟩),
  (107, ⟨.struct [(0, false, 1), (1, false, 1), (2, false, 1), (3, false, 1), (4, false, 1)], 5, 48, .agg [.v (.int .i64 0), .v (.string ⟨#[]⟩), .v (.int .i64 0), .v (.int .i64 0), .v (.int .i64 0)]⟩),
  (108, ⟨.fn, 1, 8, .v .nilFunc⟩),
  (109, ⟨.fn, 1, 8, .v .nilFunc⟩),
  (110, ⟨.fn, 1, 8, .v .nilFunc⟩),
  (111, ⟨.fn, 1, 8, .v .nilFunc⟩),
  (112, ⟨.fn, 1, 8, .v .nilFunc⟩),
  (113, ⟨.fn, 1, 8, .v .nilFunc⟩),
  (114, ⟨.fn, 1, 8, .v .nilFunc⟩),
  (115, ⟨.fn, 1, 8, .v .nilFunc⟩),
  (116, ⟨.fn, 1, 8, .v .nilFunc⟩),
  (117, ⟨.fn, 1, 8, .v .nilFunc⟩),
  (118, ⟨.fn, 1, 8, .v .nilFunc⟩),
  (119, ⟨.fn, 1, 8, .v .nilFunc⟩),
  (120, ⟨.fn, 1, 8, .v .nilFunc⟩),
  (121, ⟨.fn, 1, 8, .v .nilFunc⟩),
  (122, ⟨.map 3 4, 1, 8, .v (.map none)⟩),
  (123, ⟨.fn, 1, 8, .v .nilFunc⟩),
  (124, ⟨.fn, 1, 8, .v .nilFunc⟩),
  (125, ⟨.fn, 1, 8, .v .nilFunc⟩),
  (126, ⟨.map 9 4, 1, 8, .v (.map none)⟩),
  (127, ⟨.fn, 1, 8, .v .nilFunc⟩),
  (128, ⟨.fn, 1, 8, .v .nilFunc⟩),
  (129, ⟨.fn, 1, 8, .v .nilFunc⟩),
  (130, ⟨.map 131 3, 1, 8, .v (.map none)⟩),
  (131, ⟨.arr 2 3, 2, 16, .agg [.v (.int .i64 0), .v (.int .i64 0)]⟩),
  (132, ⟨.struct [(0, false, 1), (1, false, 1), (2, false, 1)], 3, 24, .agg [.v (.int .i64 0), .v (.int .i64 0), .v (.int .i64 0)]⟩),
  (133, ⟨.struct [(0, false, 1), (1, false, 1), (2, false, 1)], 3, 24, .agg [.v (.int .i64 0), .v (.int .i64 0), .v (.int .i64 0)]⟩),
  (134, ⟨.fn, 1, 8, .v .nilFunc⟩),
  (135, ⟨.fn, 1, 8, .v .nilFunc⟩),
  (136, ⟨.fn, 1, 8, .v .nilFunc⟩),
  (137, ⟨.map 3 3, 1, 8, .v (.map none)⟩),
  (138, ⟨.fn, 1, 8, .v .nilFunc⟩),
  (139, ⟨.fn, 1, 8, .v .nilFunc⟩),
  (140, ⟨.fn, 1, 8, .v .nilFunc⟩),
  (141, ⟨.fn, 1, 8, .v .nilFunc⟩),
  (142, ⟨.fn, 1, 8, .v .nilFunc⟩),
  (143, ⟨.fn, 1, 8, .v .nilFunc⟩),
  (144, ⟨.struct [(0, false, 1), (1, false, 1), (2, false, 1)], 3, 24, .agg [.v (.bool false), .v (.int .i64 0), .v (.int .i64 0)]⟩),
  (145, ⟨.fn, 1, 8, .v .nilFunc⟩),
  (146, ⟨.fn, 1, 8, .v .nilFunc⟩),
  (147, ⟨.fn, 1, 8, .v .nilFunc⟩),
  (148, ⟨.fn, 1, 8, .v .nilFunc⟩),
  (149, ⟨.fn, 1, 8, .v .nilFunc⟩),
  (150, ⟨.fn, 1, 8, .v .nilFunc⟩),
  (151, ⟨.fn, 1, 8, .v .nilFunc⟩),
  (152, ⟨.fn, 1, 8, .v .nilFunc⟩),
  (153, ⟨.fn, 1, 8, .v .nilFunc⟩),
  (154, ⟨.fn, 1, 8, .v .nilFunc⟩),
  (155, ⟨.fn, 1, 8, .v .nilFunc⟩),
  (156, ⟨.fn, 1, 8, .v .nilFunc⟩),
  (157, ⟨.fn, 1, 8, .v .nilFunc⟩),
  (158, ⟨.fn, 1, 8, .v .nilFunc⟩),
  (159, ⟨.fn, 1, 8, .v .nilFunc⟩),
  (160, ⟨.fn, 1, 8, .v .nilFunc⟩),
  (161, ⟨.fn, 1, 8, .v .nilFunc⟩),
  (162, ⟨.fn, 1, 8, .v .nilFunc⟩),
  (163, ⟨.fn, 1, 8, .v .nilFunc⟩),
  (164, ⟨.fn, 1, 8, .v .nilFunc⟩),
  (165, ⟨.fn, 1, 8, .v .nilFunc⟩),
  (166, ⟨.fn, 1, 8, .v .nilFunc⟩),
  (167, ⟨.fn, 1, 8, .v .nilFunc⟩),
  (168, ⟨.fn, 1, 8, .v .nilFunc⟩),
  (169, ⟨.fn, 1, 8, .v .nilFunc⟩),
  (170, ⟨.fn, 1, 8, .v .nilFunc⟩),
  (171, ⟨.fn, 1, 8, .v .nilFunc⟩),
  (172, ⟨.fn, 1, 8, .v .nilFunc⟩),
  (173, ⟨.fn, 1, 8, .v .nilFunc⟩),
  (174, ⟨.struct [(0, false, 1), (1, false, 1), (2, false, 1), (3, false, 1), (4, false, 1)], 5, 40, .agg [.v (.int .i64 0), .v (.int .i64 0), .v (.int .i64 0), .v (.int .i64 0), .v (.int .i64 0)]⟩),
  (175, ⟨.struct [(0, false, 1), (1, false, 1), (2, false, 1), (3, false, 1), (4, false, 1)], 5, 40, .agg [.v (.int .i64 0), .v (.int .i64 0), .v (.int .i64 0), .v (.int .i64 0), .v (.int .i64 0)]⟩),
  (176, ⟨.fn, 1, 8, .v .nilFunc⟩),
  (178, ⟨.fn, 1, 8, .v .nilFunc⟩),
  (179, ⟨.fn, 1, 8, .v .nilFunc⟩),
  (180, ⟨.fn, 1, 8, .v .nilFunc⟩),
  (181, ⟨.fn, 1, 8, .v .nilFunc⟩),
  (182, ⟨.int .u64, 1, 8, .v (.int .u64 0)⟩),
  (183, ⟨.fn, 1, 8, .v .nilFunc⟩),
  (184, ⟨.fn, 1, 8, .v .nilFunc⟩),
  (185, ⟨.fn, 1, 8, .v .nilFunc⟩),
  (186, ⟨.struct [(0, false, 1), (1, false, 1)], 2, 16, .agg [.v (.int .i64 0), .v (.int .i64 0)]⟩),
  (187, ⟨.struct [(0, false, 1), (1, false, 1)], 2, 16, .agg [.v (.int .i64 0), .v (.int .i64 0)]⟩),
  (188, ⟨.struct [(0, false, 1), (1, false, 1), (2, false, 1), (3, false, 1), (4, false, 1)], 5, 56, .agg [.v (.int .i64 0), .v (.int .i64 0), .v (.int .i64 0), .v (.int .i64 0), .v (.slice none 0 0)]⟩),
  (189, ⟨.fn, 1, 8, .v .nilFunc⟩),
  (191, ⟨.fn, 1, 8, .v .nilFunc⟩),
  (192, ⟨.fn, 1, 8, .v .nilFunc⟩),
  (193, ⟨.fn, 1, 8, .v .nilFunc⟩),
  (194, ⟨.fn, 1, 8, .v .nilFunc⟩),
  (195, ⟨.fn, 1, 8, .v .nilFunc⟩),
  (196, ⟨.fn, 1, 8, .v .nilFunc⟩),
  (197, ⟨.fn, 1, 8, .v .nilFunc⟩),
  (198, ⟨.fn, 1, 8, .v .nilFunc⟩),
  (199, ⟨.fn, 1, 8, .v .nilFunc⟩),
  (201, ⟨.fn, 1, 8, .v .nilFunc⟩),
  (202, ⟨.fn, 1, 8, .v .nilFunc⟩),
  (203, ⟨.fn, 1, 8, .v .nilFunc⟩),
  (204, ⟨.fn, 1, 8, .v .nilFunc⟩),
  (205, ⟨.fn, 1, 8, .v .nilFunc⟩),
  (206, ⟨.fn, 1, 8, .v .nilFunc⟩),
  (207, ⟨.fn, 1, 8, .v .nilFunc⟩),
  (208, ⟨.fn, 1, 8, .v .nilFunc⟩),
  (209, ⟨.fn, 1, 8, .v .nilFunc⟩),
  (210, ⟨.fn, 1, 8, .v .nilFunc⟩),
  (211, ⟨.int .i64, 1, 8, .v (.int .i64 0)⟩),
  (213, ⟨.fn, 1, 8, .v .nilFunc⟩),
  (214, ⟨.fn, 1, 8, .v .nilFunc⟩),
  (215, ⟨.fn, 1, 8, .v .nilFunc⟩),
  (216, ⟨.fn, 1, 8, .v .nilFunc⟩),
  (217, ⟨.fn, 1, 8, .v .nilFunc⟩),
  (218, ⟨.int .u32, 1, 4, .v (.int .u32 0)⟩),
  (219, ⟨.fn, 1, 8, .v .nilFunc⟩),
  (220, ⟨.int .u64, 1, 8, .v (.int .u64 0)⟩),
  (222, ⟨.fn, 1, 8, .v .nilFunc⟩),
  (223, ⟨.fn, 1, 8, .v .nilFunc⟩),
  (225, ⟨.fn, 1, 8, .v .nilFunc⟩),
  (226, ⟨.fn, 1, 8, .v .nilFunc⟩),
  (227, ⟨.struct [(0, false, 1), (1, false, 1), (2, false, 1)], 3, 24, .agg [.v (.int .i64 0), .v (.bool false), .v (.int .i64 0)]⟩),
  (228, ⟨.struct [(0, false, 1), (1, false, 1), (2, false, 1)], 3, 24, .agg [.v (.int .i64 0), .v (.bool false), .v (.int .i64 0)]⟩),
  (230, ⟨.fn, 1, 8, .v .nilFunc⟩),
  (231, ⟨.fn, 1, 8, .v .nilFunc⟩),
  (232, ⟨.fn, 1, 8, .v .nilFunc⟩),
  (233, ⟨.fn, 1, 8, .v .nilFunc⟩),
  (234, ⟨.struct [(0, true, 10)], 10, 88, .agg [.v (.string ⟨#[]⟩), .v (.int .i64 0), .v (.int .i64 0), .v (.int .i64 0), .v (.int .i64 0), .v (.int .i64 0), .v (.int .i64 0), .v (.int .i64 0), .v (.int .i64 0), .v (.int .i64 0)]⟩),
  (235, ⟨.struct [(0, true, 10)], 10, 88, .agg [.v (.string ⟨#[]⟩), .v (.int .i64 0), .v (.int .i64 0), .v (.int .i64 0), .v (.int .i64 0), .v (.int .i64 0), .v (.int .i64 0), .v (.int .i64 0), .v (.int .i64 0), .v (.int .i64 0)]⟩),
  (236, ⟨.fn, 1, 8, .v .nilFunc⟩),
  (237, ⟨.struct [(0, false, 1), (1, false, 1)], 2, 16, .agg [.v (.int .i64 0), .v (.int .i64 0)]⟩),
  (238, ⟨.struct [(0, false, 1), (1, false, 1)], 2, 16, .agg [.v (.int .i64 0), .v (.int .i64 0)]⟩),
  (239, ⟨.fn, 1, 8, .v .nilFunc⟩),
  (240, ⟨.fn, 1, 8, .v .nilFunc⟩),
  (241, ⟨.fn, 1, 8, .v .nilFunc⟩),
  (242, ⟨.int .u64, 1, 8, .v (.int .u64 0)⟩),
  (243, ⟨.fn, 1, 8, .v .nilFunc⟩),
  (244, ⟨.fn, 1, 8, .v .nilFunc⟩),
  (245, ⟨.fn, 1, 8, .v .nilFunc⟩),
  (246, ⟨.ptr 3, 1, 8, .v (.pointer none)⟩),
  (247, ⟨.fn, 1, 8, .v .nilFunc⟩),
  (248, ⟨.fn, 1, 8, .v .nilFunc⟩),
  (249, ⟨.fn, 1, 8, .v .nilFunc⟩),
  (250, ⟨.int .i64, 1, 8, .v (.int .i64 0)⟩),
  (251, ⟨.fn, 1, 8, .v .nilFunc⟩),
  (252, ⟨.fn, 1, 8, .v .nilFunc⟩),
  (253, ⟨.fn, 1, 8, .v .nilFunc⟩),
  (254, ⟨.fn, 1, 8, .v .nilFunc⟩),
  (255, ⟨.fn, 1, 8, .v .nilFunc⟩),
  (256, ⟨.slice 21, 1, 24, .v (.slice none 0 0)⟩),
  (257, ⟨.fn, 1, 8, .v .nilFunc⟩),
  (258, ⟨.fn, 1, 8, .v .nilFunc⟩),
  (259, ⟨.fn, 1, 8, .v .nilFunc⟩),
  (260, ⟨.slice 265, 1, 24, .v (.slice none 0 0)⟩),
  (261, ⟨.arr 8 260, 8, 192, .agg (List.replicate 8 (.v (.slice none 0 0)))⟩),
  (262, ⟨.fn, 1, 8, .v .nilFunc⟩),
  (263, ⟨.fn, 1, 8, .v .nilFunc⟩),
  (264, ⟨.struct [(0, false, 1), (1, false, 1)], 2, 16, .agg [.v (.int .i64 0), .v (.int .i64 0)]⟩),
  (265, ⟨.struct [(0, false, 1), (1, false, 1)], 2, 16, .agg [.v (.int .i64 0), .v (.int .i64 0)]⟩),
  (266, ⟨.fn, 1, 8, .v .nilFunc⟩),
  (267, ⟨.fn, 1, 8, .v .nilFunc⟩),
  (268, ⟨.ptr 242, 1, 8, .v (.pointer none)⟩),
  (270, ⟨.fn, 1, 8, .v .nilFunc⟩),
  (271, ⟨.fn, 1, 8, .v .nilFunc⟩),
  (272, ⟨.fn, 1, 8, .v .nilFunc⟩),
  (274, ⟨.fn, 1, 8, .v .nilFunc⟩),
  (275, ⟨.fn, 1, 8, .v .nilFunc⟩),
  (276, ⟨.fn, 1, 8, .v .nilFunc⟩),
  (277, ⟨.fn, 1, 8, .v .nilFunc⟩),
  (278, ⟨.fn, 1, 8, .v .nilFunc⟩),
  (279, ⟨.fn, 1, 8, .v .nilFunc⟩),
  (280, ⟨.fn, 1, 8, .v .nilFunc⟩),
  (281, ⟨.fn, 1, 8, .v .nilFunc⟩),
  (282, ⟨.fn, 1, 8, .v .nilFunc⟩),
  (283, ⟨.struct [(0, false, 1), (1, false, 1), (2, false, 1), (3, false, 1), (4, false, 1)], 5, 40, .agg [.v (.int .i64 0), .v (.int .i64 0), .v (.int .i64 0), .v (.int .i64 0), .v (.int .i64 0)]⟩),
  (284, ⟨.fn, 1, 8, .v .nilFunc⟩),
  (285, ⟨.fn, 1, 8, .v .nilFunc⟩),
  (286, ⟨.fn, 1, 8, .v .nilFunc⟩),
  (287, ⟨.fn, 1, 8, .v .nilFunc⟩),
  (288, ⟨.fn, 1, 8, .v .nilFunc⟩),
  (289, ⟨.fn, 1, 8, .v .nilFunc⟩),
  (290, ⟨.fn, 1, 8, .v .nilFunc⟩),
  (291, ⟨.fn, 1, 8, .v .nilFunc⟩),
  (292, ⟨.struct [(0, false, 1), (1, false, 1)], 2, 16, .agg [.v (.int .u64 0), .v (.int .u64 0)]⟩),
  (293, ⟨.struct [(0, false, 1), (1, false, 1)], 2, 16, .agg [.v (.int .u64 0), .v (.int .u64 0)]⟩),
  (294, ⟨.fn, 1, 8, .v .nilFunc⟩),
  (295, ⟨.fn, 1, 8, .v .nilFunc⟩),
  (297, ⟨.fn, 1, 8, .v .nilFunc⟩),
  (298, ⟨.fn, 1, 8, .v .nilFunc⟩),
  (299, ⟨.fn, 1, 8, .v .nilFunc⟩),
  (300, ⟨.fn, 1, 8, .v .nilFunc⟩),
  (301, ⟨.fn, 1, 8, .v .nilFunc⟩),
  (302, ⟨.fn, 1, 8, .v .nilFunc⟩),
  (305, ⟨.fn, 1, 8, .v .nilFunc⟩),
  (306, ⟨.ptr 323, 1, 8, .v (.pointer none)⟩),
  (307, ⟨.fn, 1, 8, .v .nilFunc⟩),
  (313, ⟨.fn, 1, 8, .v .nilFunc⟩),
  (316, ⟨.fn, 1, 8, .v .nilFunc⟩),
  (317, ⟨.ptr 5, 1, 8, .v (.pointer none)⟩),
  (322, ⟨.struct [(0, false, 1)], 1, 16, .agg [.v (.string ⟨#[]⟩)]⟩),
  (323, ⟨.struct [(0, false, 1)], 1, 16, .agg [.v (.string ⟨#[]⟩)]⟩)]

noncomputable abbrev P : Program := Go.Proofs.Tryz.prog
noncomputable abbrev T : Nat → TI := tab tbl
theorem hT : TOk P T := tok_of P tbl (by kernel_rfl)
theorem hm : P.follows .mixedOrders = true := by kernel_rfl
noncomputable def body (f : Func) : Code := match f.body with | some c => c | none => .skip
end Go.Aw.U1

set_option linter.unusedSimpArgs false
set_option linter.unusedVariables false
namespace Go.Aw.U1
open Go Go.Proofs

abbrev nV (n : Int) : AV := .v (.int .i64 n)
abbrev bV (b : Bool) : AV := .v (.bool b)
abbrev sV (s : ByteArray) : AV := .v (.string s)
def iC (n : Int) : List AV := [nV n]
def sC (s : ByteArray) : List AV := [sV s]
theorem iC_len (n : Int) : (iC n).length = 1 := rfl
theorem sC_len (s : ByteArray) : (sC s).length = 1 := rfl
theorem flat_ren {α : Type} {enc : α → List AV} (h : ∀ ρ x, renL ρ (enc x) = enc x) (ρ : Nat → Nat) (l : List α) : renL ρ (l.flatMap enc) = l.flatMap enc := by
  induction l with
  | nil => rfl
  | cons a l ih => rw [List.flatMap_cons, renL_append, ih, h]
def isV (l : List Int) : AV := .vs 1 l.length (l.flatMap iC)
def ssV (l : List ByteArray) : AV := .vs 1 l.length (l.flatMap sC)
theorem isV_ren (ρ : Nat → Nat) (l : List Int) : (isV l).ren ρ = isV l := by simp only [isV, AV.ren, flat_ren (enc := iC) (fun _ _ => rfl)]
theorem ssV_ren (ρ : Nat → Nat) (l : List ByteArray) : (ssV l).ren ρ = ssV l := by simp only [ssV, AV.ren, flat_ren (enc := sC) (fun _ _ => rfl)]

structure It where
  id : Int
  vendor : Int
  window : Int
  warranty : Int
def itC (i : It) : List AV := [nV i.id, nV i.vendor, nV i.window, nV i.warranty]
theorem itC_len (i : It) : (itC i).length = 4 := rfl
abbrev itA (i : It) : AV := .agg (itC i)
def itsV (l : List It) : AV := .vs 4 l.length (l.flatMap itC)
theorem itsV_ren (ρ : Nat → Nat) (l : List It) : (itsV l).ren ρ = itsV l := by simp only [itsV, AV.ren, flat_ren (enc := itC) (fun _ _ => rfl)]

structure Ln where
  item : Int
  gross : Int
  net : Int
  tax : Int
  ss : List ByteArray
def lnC (l : Ln) : List AV := [nV l.item, nV l.gross, nV l.net, nV l.tax, ssV l.ss]
theorem lnC_len (l : Ln) : (lnC l).length = 5 := rfl
theorem lnC_ren (ρ : Nat → Nat) (l : Ln) : renL ρ (lnC l) = lnC l := by simp only [lnC, renL, AV.ren, ssV_ren]
abbrev lnA (l : Ln) : AV := .agg (lnC l)
def lnsV (l : List Ln) : AV := .vs 5 l.length (l.flatMap lnC)
theorem lnsV_ren (ρ : Nat → Nat) (l : List Ln) : (lnsV l).ren ρ = lnsV l := by simp only [lnsV, AV.ren, flat_ren lnC_ren]

structure Od where
  id : Int
  at_ : Int
  ls : List Ln
def odC (o : Od) : List AV := [nV o.id, nV o.at_, lnsV o.ls]
theorem odC_len (l : Od) : (odC l).length = 3 := rfl
theorem odC_ren (ρ : Nat → Nat) (l : Od) : renL ρ (odC l) = odC l := by simp only [odC, renL, AV.ren, lnsV_ren]
abbrev odA (o : Od) : AV := .agg (odC o)
def odsV (l : List Od) : AV := .vs 3 l.length (l.flatMap odC)
theorem odsV_ren (ρ : Nat → Nat) (l : List Od) : (odsV l).ren ρ = odsV l := by simp only [odsV, AV.ren, flat_ren odC_ren]

structure Wn where
  line : Int
  qty : Int
  got : Int
def wnC (w : Wn) : List AV := [nV w.line, nV w.qty, nV w.got]
theorem wnC_len (l : Wn) : (wnC l).length = 3 := rfl
abbrev wnA (o : Wn) : AV := .agg (wnC o)
def wnsV (l : List Wn) : AV := .vs 3 l.length (l.flatMap wnC)
theorem wnsV_ren (ρ : Nat → Nat) (l : List Wn) : (wnsV l).ren ρ = wnsV l := by simp only [wnsV, AV.ren, flat_ren (enc := wnC) (fun _ _ => rfl)]

structure Rm where
  id : Int
  order : Int
  until_ : Int
  state : Int
  ws : List Wn
def rmC (r : Rm) : List AV := [nV r.id, nV r.order, nV r.until_, nV r.state, wnsV r.ws]
theorem rmC_len (l : Rm) : (rmC l).length = 5 := rfl
theorem rmC_ren (ρ : Nat → Nat) (l : Rm) : renL ρ (rmC l) = rmC l := by simp only [rmC, renL, AV.ren, wnsV_ren]
abbrev rmA (o : Rm) : AV := .agg (rmC o)
def rmsV (l : List Rm) : AV := .vs 5 l.length (l.flatMap rmC)
theorem rmsV_ren (ρ : Nat → Nat) (l : List Rm) : (rmsV l).ren ρ = rmsV l := by simp only [rmsV, AV.ren, flat_ren rmC_ren]

structure Un where
  s : ByteArray
  order : Int
  line : Int
  place : Int
  rma : Int
  at_ : Int
  state : Int
  grade : Int
  way : Int
  in_ : Int
def unC (u : Un) : List AV := [sV u.s, nV u.order, nV u.line, nV u.place, nV u.rma, nV u.at_, nV u.state, nV u.grade, nV u.way, nV u.in_]
theorem unC_len (l : Un) : (unC l).length = 10 := rfl
abbrev unA (o : Un) : AV := .agg (unC o)
def unsV (l : List Un) : AV := .vs 10 l.length (l.flatMap unC)
theorem unsV_ren (ρ : Nat → Nat) (l : List Un) : (unsV l).ren ρ = unsV l := by simp only [unsV, AV.ren, flat_ren (enc := unC) (fun _ _ => rfl)]

structure Wk where
  id : Int
  s : ByteArray
  part : Int
  qty : Int
  state : Int
def wkC (u : Wk) : List AV := [nV u.id, sV u.s, nV u.part, nV u.qty, nV u.state]
theorem wkC_len (l : Wk) : (wkC l).length = 5 := rfl
def wksV (l : List Wk) : AV := .vs 5 l.length (l.flatMap wkC)
theorem wksV_ren (ρ : Nat → Nat) (l : List Wk) : (wksV l).ren ρ = wksV l := by simp only [wksV, AV.ren, flat_ren (enc := wkC) (fun _ _ => rfl)]

structure Cl where
  id : Int
  vendor : Int
  state : Int
  ss : List ByteArray
def clC (u : Cl) : List AV := [nV u.id, nV u.vendor, nV u.state, ssV u.ss]
theorem clC_len (l : Cl) : (clC l).length = 4 := rfl
theorem clC_ren (ρ : Nat → Nat) (l : Cl) : renL ρ (clC l) = clC l := by simp only [clC, renL, AV.ren, ssV_ren]
abbrev clA (o : Cl) : AV := .agg (clC o)
def clsV (l : List Cl) : AV := .vs 4 l.length (l.flatMap clC)
theorem clsV_ren (ρ : Nat → Nat) (l : List Cl) : (clsV l).ren ρ = clsV l := by simp only [clsV, AV.ren, flat_ren clC_ren]

structure Mo where
  id : Int
  order : Int
  ss : List ByteArray
  am : List Int
  void : Bool
def moC (u : Mo) : List AV := [nV u.id, nV u.order, ssV u.ss, isV u.am, bV u.void]
theorem moC_len (l : Mo) : (moC l).length = 5 := rfl
theorem moC_ren (ρ : Nat → Nat) (l : Mo) : renL ρ (moC l) = moC l := by simp only [moC, renL, AV.ren, ssV_ren, isV_ren]
abbrev moA (o : Mo) : AV := .agg (moC o)
def mosV (l : List Mo) : AV := .vs 5 l.length (l.flatMap moC)
theorem mosV_ren (ρ : Nat → Nat) (l : List Mo) : (mosV l).ren ρ = mosV l := by simp only [mosV, AV.ren, flat_ren moC_ren]

/-- a movement -/
structure Mv where
  p : Bool
  i : Int
  q : Int
deriving DecidableEq
def mvC (m : Mv) : List AV := [.v (.bool m.p), .v (.int .i64 m.i), .v (.int .i64 m.q)]
def mvs (l : List Mv) : AV := .vs 3 l.length (l.flatMap mvC)
theorem mvs_ren (ρ : Nat → Nat) (l : List Mv) : (mvs l).ren ρ = mvs l := by simp only [mvs, AV.ren, flat_ren (enc := mvC) (fun _ _ => rfl)]

structure Ro where
  g : Int
  w : Int
  lo : Int
  hi : Int
  way : Int
def roC (r : Ro) : List AV := [nV r.g, nV r.w, nV r.lo, nV r.hi, nV r.way]
theorem ros_ren (ρ : Nat → Nat) (l : List Ro) : renL ρ (l.flatMap roC) = l.flatMap roC := flat_ren (enc := roC) (fun _ _ => rfl) ρ l
def roV (l : List Ro) : AV := .vs 5 l.length (l.flatMap roC)
theorem roV_ren (ρ : Nat → Nat) (l : List Ro) : (roV l).ren ρ = roV l := by simp only [roV, AV.ren, ros_ren]
structure Dn where
  key : Int
  cmd : ByteArray
  reply : ByteArray
def dnC (d : Dn) : List AV := [nV d.key, sV d.cmd, sV d.reply]
theorem dnC_len (l : Dn) : (dnC l).length = 3 := rfl
def dnsV (l : List Dn) : AV := .vs 3 l.length (l.flatMap dnC)
theorem dnsV_ren (ρ : Nat → Nat) (l : List Dn) : (dnsV l).ren ρ = dnsV l := by simp only [dnsV, AV.ren, flat_ren (enc := dnC) (fun _ _ => rfl)]

structure Ru where
  asks : List Int
  cuts : List Int
  fees : List Int
  rows : List Ro
def ruC (r : Ru) : List AV := [isV r.asks, isV r.cuts, isV r.fees, roV r.rows]
theorem ruC_ren (ρ : Nat → Nat) (l : Ru) : renL ρ (ruC l) = ruC l := by simp only [ruC, renL, AV.ren, isV_ren, roV_ren]

structure Sta where
  now : Int
  nRma : Int
  nWork : Int
  nClaim : Int
  nMemo : Int
  items : List It
  orders : List Od
  rmas : List Rm
  units : List Un
  works : List Wk
  claims : List Cl
  memos : List Mo
  moves : List Mv
  rules : Ru
  keys : List Dn
def stC (s : Sta) : List AV := [nV s.now, nV s.nRma, nV s.nWork, nV s.nClaim, nV s.nMemo, itsV s.items, odsV s.orders, rmsV s.rmas, unsV s.units, wksV s.works, clsV s.claims, mosV s.memos, mvs s.moves,
  isV s.rules.asks, isV s.rules.cuts, isV s.rules.fees, roV s.rules.rows, dnsV s.keys]
theorem stC_ren (ρ : Nat → Nat) (s : Sta) : renL ρ (stC s) = stC s := by
  simp only [stC, renL, AV.ren, isV_ren, roV_ren, itsV_ren, odsV_ren, rmsV_ren, unsV_ren, wksV_ren, clsV_ren, mosV_ren, mvs_ren, dnsV_ren]
abbrev stA (s : Sta) : AV := .agg (stC s)


theorem fr_i (ρ : Nat → Nat) (l : List Int) : renL ρ (l.flatMap iC) = l.flatMap iC := flat_ren (enc := iC) (fun _ _ => rfl) ρ l
theorem fr_s (ρ : Nat → Nat) (l : List ByteArray) : renL ρ (l.flatMap sC) = l.flatMap sC := flat_ren (enc := sC) (fun _ _ => rfl) ρ l
theorem fr_it (ρ : Nat → Nat) (l : List It) : renL ρ (l.flatMap itC) = l.flatMap itC := flat_ren (enc := itC) (fun _ _ => rfl) ρ l
theorem fr_ln (ρ : Nat → Nat) (l : List Ln) : renL ρ (l.flatMap lnC) = l.flatMap lnC := flat_ren lnC_ren ρ l
theorem fr_od (ρ : Nat → Nat) (l : List Od) : renL ρ (l.flatMap odC) = l.flatMap odC := flat_ren odC_ren ρ l
theorem fr_wn (ρ : Nat → Nat) (l : List Wn) : renL ρ (l.flatMap wnC) = l.flatMap wnC := flat_ren (enc := wnC) (fun _ _ => rfl) ρ l
theorem fr_rm (ρ : Nat → Nat) (l : List Rm) : renL ρ (l.flatMap rmC) = l.flatMap rmC := flat_ren rmC_ren ρ l
theorem fr_un (ρ : Nat → Nat) (l : List Un) : renL ρ (l.flatMap unC) = l.flatMap unC := flat_ren (enc := unC) (fun _ _ => rfl) ρ l
theorem fr_wk (ρ : Nat → Nat) (l : List Wk) : renL ρ (l.flatMap wkC) = l.flatMap wkC := flat_ren (enc := wkC) (fun _ _ => rfl) ρ l
theorem fr_cl (ρ : Nat → Nat) (l : List Cl) : renL ρ (l.flatMap clC) = l.flatMap clC := flat_ren clC_ren ρ l
theorem fr_mo (ρ : Nat → Nat) (l : List Mo) : renL ρ (l.flatMap moC) = l.flatMap moC := flat_ren moC_ren ρ l
theorem fr_mv (ρ : Nat → Nat) (l : List Mv) : renL ρ (l.flatMap mvC) = l.flatMap mvC := flat_ren (enc := mvC) (fun _ _ => rfl) ρ l
theorem fr_dn (ρ : Nat → Nat) (l : List Dn) : renL ρ (l.flatMap dnC) = l.flatMap dnC := flat_ren (enc := dnC) (fun _ _ => rfl) ρ l
theorem itC_r (ρ : Nat → Nat) (x : It) : renL ρ (itC x) = itC x := rfl
theorem unC_r (ρ : Nat → Nat) (x : Un) : renL ρ (unC x) = unC x := rfl
theorem wnC_r (ρ : Nat → Nat) (x : Wn) : renL ρ (wnC x) = wnC x := rfl
theorem wkC_r (ρ : Nat → Nat) (x : Wk) : renL ρ (wkC x) = wkC x := rfl
theorem roC_r (ρ : Nat → Nat) (x : Ro) : renL ρ (roC x) = roC x := rfl
theorem dnC_r (ρ : Nat → Nat) (x : Dn) : renL ρ (dnC x) = dnC x := rfl
/-- what the numbers of own blocks do not touch -/
theorem rens : (∀ ρ l, (isV l).ren ρ = isV l) ∧ (∀ ρ l, (ssV l).ren ρ = ssV l) ∧ (∀ ρ l, (itsV l).ren ρ = itsV l) ∧ (∀ ρ l, (lnsV l).ren ρ = lnsV l) ∧ (∀ ρ l, (odsV l).ren ρ = odsV l) ∧ (∀ ρ l, (wnsV l).ren ρ = wnsV l) ∧ (∀ ρ l, (rmsV l).ren ρ = rmsV l) ∧ (∀ ρ l, (unsV l).ren ρ = unsV l) ∧ (∀ ρ l, (wksV l).ren ρ = wksV l) ∧ (∀ ρ l, (clsV l).ren ρ = clsV l) ∧ (∀ ρ l, (mosV l).ren ρ = mosV l) ∧ (∀ ρ l, (mvs l).ren ρ = mvs l) ∧ (∀ ρ l, (roV l).ren ρ = roV l) ∧ (∀ ρ l, (dnsV l).ren ρ = dnsV l) ∧
    (∀ ρ l, renL ρ (List.flatMap iC l) = List.flatMap iC l) ∧ (∀ ρ l, renL ρ (List.flatMap sC l) = List.flatMap sC l) ∧ (∀ ρ l, renL ρ (List.flatMap itC l) = List.flatMap itC l) ∧ (∀ ρ l, renL ρ (List.flatMap lnC l) = List.flatMap lnC l) ∧ (∀ ρ l, renL ρ (List.flatMap odC l) = List.flatMap odC l) ∧ (∀ ρ l, renL ρ (List.flatMap wnC l) = List.flatMap wnC l) ∧ (∀ ρ l, renL ρ (List.flatMap rmC l) = List.flatMap rmC l) ∧ (∀ ρ l, renL ρ (List.flatMap unC l) = List.flatMap unC l) ∧ (∀ ρ l, renL ρ (List.flatMap wkC l) = List.flatMap wkC l) ∧ (∀ ρ l, renL ρ (List.flatMap clC l) = List.flatMap clC l) ∧ (∀ ρ l, renL ρ (List.flatMap moC l) = List.flatMap moC l) ∧ (∀ ρ l, renL ρ (List.flatMap mvC l) = List.flatMap mvC l) ∧ (∀ ρ l, renL ρ (List.flatMap dnC l) = List.flatMap dnC l) ∧ (∀ ρ l, renL ρ (List.flatMap roC l) = List.flatMap roC l) ∧
    (∀ ρ x, renL ρ (lnC x) = lnC x) ∧ (∀ ρ x, renL ρ (odC x) = odC x) ∧ (∀ ρ x, renL ρ (rmC x) = rmC x) ∧ (∀ ρ x, renL ρ (clC x) = clC x) ∧ (∀ ρ x, renL ρ (moC x) = moC x) ∧ (∀ ρ x, renL ρ (ruC x) = ruC x) ∧ (∀ ρ x, renL ρ (stC x) = stC x) ∧ (∀ ρ x, renL ρ (itC x) = itC x) ∧ (∀ ρ x, renL ρ (unC x) = unC x) ∧ (∀ ρ x, renL ρ (wnC x) = wnC x) ∧ (∀ ρ x, renL ρ (wkC x) = wkC x) ∧ (∀ ρ x, renL ρ (roC x) = roC x) ∧ (∀ ρ x, renL ρ (dnC x) = dnC x) :=
  ⟨isV_ren, ssV_ren, itsV_ren, lnsV_ren, odsV_ren, wnsV_ren, rmsV_ren, unsV_ren, wksV_ren, clsV_ren, mosV_ren, mvs_ren, roV_ren, dnsV_ren, fr_i, fr_s, fr_it, fr_ln, fr_od, fr_wn, fr_rm, fr_un, fr_wk, fr_cl, fr_mo, fr_mv, fr_dn, ros_ren, lnC_ren, odC_ren, rmC_ren, clC_ren, moC_ren, ruC_ren, stC_ren, itC_r, unC_r, wnC_r, wkC_r, roC_r, dnC_r⟩
theorem nb1 {b : Bool} (h : (!b) = true) : b = false := by cases b <;> first | rfl | cases h
theorem nb0 {b : Bool} (h : (!b) = false) : b = true := by cases b <;> first | rfl | cases h
/-! ### what may be: small things -/
def timeB (n : Int) : Bool := decide (0 ≤ n) && decide (n ≤ 1000000)
def idB (n : Int) : Bool := decide (1 ≤ n) && decide (n ≤ 999999)
def inB (n : Int) : Bool := decide (-1000000000000 ≤ n) && decide (n ≤ 1000000000000)
def paidB (n : Int) : Bool := decide (0 ≤ n) && inB n
def spanB (a b n : Int) : Bool := decide (a ≤ n) && decide (n ≤ b)
end Go.Aw.U1

set_option linter.unusedSimpArgs false
set_option linter.unusedVariables false
set_option maxHeartbeats 1000000
namespace Go.Aw.U1
open Go Go.Proofs

theorem f120 (a b n : Int) : Fun P 120 [.agg [nV a, nV b], nV n] (bV (spanB a b n)) := by
  refine spec_of hT (f := 120) (fn := Go.Proofs.Tryz.f120) (c := body Go.Proofs.Tryz.f120) (by kernel_rfl) (by kernel_rfl) ?_
  conv => whnf
  repeat' (first | refine go ?_ | ((first | refine ASplit.yes rfl ?_ | refine ASplit.no rfl ?_ | refine ACond.yes rfl ?_ | refine ACond.no rfl ?_ | refine ASplit.dec (fun _ => ?_) (fun _ => ?_) | refine ASplit.ndec (fun _ => ?_) (fun _ => ?_) | refine ACond.dec (fun _ => ?_) (fun _ => ?_) | refine ACond.ndec (fun _ => ?_) (fun _ => ?_)) <;> conv => whnf))
  all_goals refine AFin.val rfl ⟨congrArg bV ?_, rfl⟩
  all_goals (simp_all [spanB] <;> (intros; omega))
theorem spanB_id (n : Int) : spanB 1 999999 n = idB n := rfl
theorem f40 (n : Int) : Fun P 40 [nV n] (bV (timeB n)) := by
  refine spec_of hT (f := 40) (fn := Go.Proofs.Tryz.f40) (c := body Go.Proofs.Tryz.f40) (by kernel_rfl) (by kernel_rfl) ?_
  conv => whnf
  repeat' (first | refine go ?_ | ((first | refine ASplit.yes rfl ?_ | refine ASplit.no rfl ?_ | refine ACond.yes rfl ?_ | refine ACond.no rfl ?_ | refine ASplit.dec (fun _ => ?_) (fun _ => ?_) | refine ASplit.ndec (fun _ => ?_) (fun _ => ?_) | refine ACond.dec (fun _ => ?_) (fun _ => ?_) | refine ACond.ndec (fun _ => ?_) (fun _ => ?_) | refine ACall.val (by kernel_rfl) (f120 _ _ _) rfl rfl ?_) <;> conv => whnf))
  all_goals refine AFin.val rfl ⟨rfl, rfl⟩
theorem f159 (n : Int) : Fun P 159 [nV n] (bV (inB n)) := by
  refine spec_of hT (f := 159) (fn := Go.Proofs.Tryz.f159) (c := body Go.Proofs.Tryz.f159) (by kernel_rfl) (by kernel_rfl) ?_
  conv => whnf
  repeat' (first | refine go ?_ | ((first | refine ASplit.yes rfl ?_ | refine ASplit.no rfl ?_ | refine ACond.yes rfl ?_ | refine ACond.no rfl ?_ | refine ASplit.dec (fun _ => ?_) (fun _ => ?_) | refine ASplit.ndec (fun _ => ?_) (fun _ => ?_) | refine ACond.dec (fun _ => ?_) (fun _ => ?_) | refine ACond.ndec (fun _ => ?_) (fun _ => ?_)) <;> conv => whnf))
  all_goals refine AFin.val rfl ⟨congrArg bV ?_, rfl⟩
  all_goals (simp_all [inB] <;> (intros; omega))
theorem f158 (n : Int) : Fun P 158 [nV n] (bV (paidB n)) := by
  refine spec_of hT (f := 158) (fn := Go.Proofs.Tryz.f158) (c := body Go.Proofs.Tryz.f158) (by kernel_rfl) (by kernel_rfl) ?_
  conv => whnf
  repeat' (first | refine go ?_ | ((first | refine ASplit.yes rfl ?_ | refine ASplit.no rfl ?_ | refine ACond.yes rfl ?_ | refine ACond.no rfl ?_ | refine ASplit.dec (fun _ => ?_) (fun _ => ?_) | refine ASplit.ndec (fun _ => ?_) (fun _ => ?_) | refine ACond.dec (fun _ => ?_) (fun _ => ?_) | refine ACond.ndec (fun _ => ?_) (fun _ => ?_) | refine ACall.val (by kernel_rfl) (f159 _) rfl rfl ?_) <;> conv => whnf))
  all_goals refine AFin.val rfl ⟨congrArg bV ?_, rfl⟩
  all_goals (simp_all [paidB] <;> (intros; omega))
theorem f163 (n : Int) : Fun P 163 [nV n] (bV (idB n)) := by
  refine spec_of hT (f := 163) (fn := Go.Proofs.Tryz.f163) (c := body Go.Proofs.Tryz.f163) (by kernel_rfl) (by kernel_rfl) ?_
  conv => whnf
  repeat' (first | refine go ?_ | ((first | refine ASplit.yes rfl ?_ | refine ASplit.no rfl ?_ | refine ACond.yes rfl ?_ | refine ACond.no rfl ?_ | refine ASplit.dec (fun _ => ?_) (fun _ => ?_) | refine ASplit.ndec (fun _ => ?_) (fun _ => ?_) | refine ACond.dec (fun _ => ?_) (fun _ => ?_) | refine ACond.ndec (fun _ => ?_) (fun _ => ?_)) <;> conv => whnf))
  all_goals refine AFin.val rfl ⟨congrArg bV ?_, rfl⟩
  all_goals (simp_all [idB] <;> (intros; omega))
theorem f198 (n : Int) : Fun P 198 [nV n] (bV (idB n)) := by
  refine spec_of hT (f := 198) (fn := Go.Proofs.Tryz.f198) (c := body Go.Proofs.Tryz.f198) (by kernel_rfl) (by kernel_rfl) ?_
  conv => whnf
  repeat' (first | refine go ?_ | ((first | refine ASplit.yes rfl ?_ | refine ASplit.no rfl ?_ | refine ACond.yes rfl ?_ | refine ACond.no rfl ?_ | refine ASplit.dec (fun _ => ?_) (fun _ => ?_) | refine ASplit.ndec (fun _ => ?_) (fun _ => ?_) | refine ACond.dec (fun _ => ?_) (fun _ => ?_) | refine ACond.ndec (fun _ => ?_) (fun _ => ?_)) <;> conv => whnf))
  all_goals refine AFin.val rfl ⟨congrArg bV ?_, rfl⟩
  all_goals (simp_all [idB] <;> (intros; omega))
def basisB (n : Int) : Bool := decide (0 ≤ n) && decide (n ≤ 10000)
theorem f168 (n : Int) : Fun P 168 [nV n] (bV (basisB n)) := by
  refine spec_of hT (f := 168) (fn := Go.Proofs.Tryz.f168) (c := body Go.Proofs.Tryz.f168) (by kernel_rfl) (by kernel_rfl) ?_
  conv => whnf
  repeat' (first | refine go ?_ | ((first | refine ASplit.yes rfl ?_ | refine ASplit.no rfl ?_ | refine ACond.yes rfl ?_ | refine ACond.no rfl ?_ | refine ASplit.dec (fun _ => ?_) (fun _ => ?_) | refine ASplit.ndec (fun _ => ?_) (fun _ => ?_) | refine ACond.dec (fun _ => ?_) (fun _ => ?_) | refine ACond.ndec (fun _ => ?_) (fun _ => ?_)) <;> conv => whnf))
  all_goals refine AFin.val rfl ⟨congrArg bV ?_, rfl⟩
  all_goals (simp_all [basisB] <;> (intros; omega))
def waitsB (w : Wn) : Bool := decide (w.got < w.qty)
theorem f165 (w : Wn) : Fun P 165 [wnA w] (bV (waitsB w)) := by
  refine spec_of hT (f := 165) (fn := Go.Proofs.Tryz.f165) (c := body Go.Proofs.Tryz.f165) (by kernel_rfl) (by kernel_rfl) ?_
  conv => whnf
  repeat' (first | refine go ?_ | ((first | refine ASplit.yes rfl ?_ | refine ASplit.no rfl ?_ | refine ACond.yes rfl ?_ | refine ACond.no rfl ?_ | refine ASplit.dec (fun _ => ?_) (fun _ => ?_) | refine ASplit.ndec (fun _ => ?_) (fun _ => ?_) | refine ACond.dec (fun _ => ?_) (fun _ => ?_) | refine ACond.ndec (fun _ => ?_) (fun _ => ?_)) <;> conv => whnf))
  all_goals refine AFin.val rfl ⟨rfl, rfl⟩
def itB (i : It) : Bool := idB i.id && idB i.vendor && timeB i.window && timeB i.warranty
theorem f67 (i : It) : Fun P 67 [itA i] (nV (if itB i then 0 else 2)) := by
  refine spec_of hT (f := 67) (fn := Go.Proofs.Tryz.f67) (c := body Go.Proofs.Tryz.f67) (by kernel_rfl) (by kernel_rfl) ?_
  conv => whnf
  repeat' (first | refine go ?_ | ((first | refine ASplit.yes rfl ?_ | refine ASplit.no rfl ?_ | refine ACond.yes rfl ?_ | refine ACond.no rfl ?_ | refine ASplit.dec (fun _ => ?_) (fun _ => ?_) | refine ASplit.ndec (fun _ => ?_) (fun _ => ?_) | refine ACond.dec (fun _ => ?_) (fun _ => ?_) | refine ACond.ndec (fun _ => ?_) (fun _ => ?_) | refine ACall.val (by kernel_rfl) (f120 _ _ _) rfl rfl ?_ | refine ACall.val (by kernel_rfl) (f40 _) rfl rfl ?_ | (refine ASplit.mk (fun _ => ?_) (fun _ => ?_)) | (refine ACond.mk (fun _ => ?_) (fun _ => ?_))) <;> conv => whnf))
  all_goals refine AFin.val rfl ⟨congrArg nV ?_, rfl⟩
  all_goals simp_all [itB, spanB_id]
theorem f66 (i : It) : Fun P 66 [itA i] (bV (!itB i)) := by
  refine spec_of hT (f := 66) (fn := Go.Proofs.Tryz.f66) (c := body Go.Proofs.Tryz.f66) (by kernel_rfl) (by kernel_rfl) ?_
  conv => whnf
  repeat' (first | refine go ?_ | ((first | refine ASplit.yes rfl ?_ | refine ASplit.no rfl ?_ | refine ACond.yes rfl ?_ | refine ACond.no rfl ?_ | refine ASplit.dec (fun _ => ?_) (fun _ => ?_) | refine ASplit.ndec (fun _ => ?_) (fun _ => ?_) | refine ACond.dec (fun _ => ?_) (fun _ => ?_) | refine ACond.ndec (fun _ => ?_) (fun _ => ?_) | refine ACall.val (by kernel_rfl) (f67 _) rfl rfl ?_) <;> conv => whnf))
  all_goals refine AFin.val rfl ⟨congrArg bV ?_, rfl⟩
  all_goals (cases itB i <;> rfl)
def mayB (l : Ln) : Bool := paidB l.gross && paidB l.net && paidB l.tax && decide (l.net ≤ l.gross) && inB (l.net + l.tax)
theorem paidB_iff {n : Int} : paidB n = true ↔ 0 ≤ n ∧ n ≤ 1000000000000 := by simp [paidB, inB]; omega
theorem f121 (l : Ln) : Fun P 121 [lnA l] (bV (mayB l)) := by
  refine spec_of hT (f := 121) (fn := Go.Proofs.Tryz.f121) (c := body Go.Proofs.Tryz.f121) (by kernel_rfl) (by kernel_rfl) ?_
  conv => whnf
  repeat' (first | refine go ?_ | ((first | refine ASplit.yes rfl ?_ | refine ASplit.no rfl ?_ | refine ACond.yes rfl ?_ | refine ACond.no rfl ?_ | refine ASplit.dec (fun _ => ?_) (fun _ => ?_) | refine ASplit.ndec (fun _ => ?_) (fun _ => ?_) | refine ACond.dec (fun _ => ?_) (fun _ => ?_) | refine ACond.ndec (fun _ => ?_) (fun _ => ?_) | refine ACall.val (by kernel_rfl) (f158 _) rfl rfl ?_ | refine ACall.val (by kernel_rfl) (f159 _) rfl rfl ?_ | (refine ASplit.mk (fun _ => ?_) (fun _ => ?_)) | (refine ACond.mk (fun _ => ?_) (fun _ => ?_))) <;> conv => whnf))
  all_goals refine AFin.val rfl ⟨congrArg bV ?_, rfl⟩
  all_goals simp_all [mayB]
  all_goals try (intros; omega)
  all_goals
    have h2 := paidB_iff.1 (by assumption : paidB l.net = true)
    have h3 := paidB_iff.1 (by assumption : paidB l.tax = true)
    rw [wrap_i64 _ (by omega) (by omega)]
end Go.Aw.U1

set_option linter.unusedSimpArgs false
set_option linter.unusedVariables false
set_option maxHeartbeats 1000000
namespace Go.Aw.U1
open Go Go.Proofs

/-- the place of the first one -/
def idxF {α : Type} (p : α → Bool) : List α → Int → Int
  | [], _ => -1
  | x :: xs, i => if p x then i else idxF p xs (i + 1)
theorem idxF_or {α : Type} (p : α → Bool) : ∀ (l : List α) (k : Nat), (idxF p l k = -1 ∧ l.find? p = none) ∨ ∃ (i : Nat) (h : i < l.length), idxF p l k = ((k + i : Nat) : Int) ∧ l.find? p = some l[i]
  | [], k => .inl ⟨rfl, rfl⟩
  | x :: xs, k => by
    by_cases h : p x = true
    · exact .inr ⟨0, by simp, by simp [idxF, h], by simp [h]⟩
    · rcases idxF_or p xs (k + 1) with ⟨h1, h2⟩ | ⟨i, hi, h1, h2⟩
      · exact .inl ⟨by rw [← h1]; simp [idxF, h], by simp [h, h2]⟩
      · refine .inr ⟨i + 1, by simp; omega, ?_, by simp [h, h2]⟩
        rw [show (k + (i + 1) : Nat) = k + 1 + i by omega, ← h1]
        simp [idxF, h]
theorem idxF_drop {α : Type} {p : α → Bool} {l : List α} {i : Nat} (h : i < l.length) : idxF p (l.drop i) i = if p l[i] then (i : Int) else idxF p (l.drop (i + 1)) ((i + 1 : Nat) : Int) := by
  rw [List.drop_eq_getElem_cons h, idxF]; rfl
theorem idxF_end {α : Type} {p : α → Bool} {l : List α} {i : Nat} (h : l.length ≤ i) : idxF p (l.drop i) i = -1 := by
  rw [List.drop_of_length_le h]; rfl

def itZ : It := ⟨0, 0, 0, 0⟩
def unZ : Un := ⟨.empty, 0, 0, 0, 0, 0, 0, 0, 0, 0⟩
def odZ : Od := ⟨0, 0, []⟩
def rmZ : Rm := ⟨0, 0, 0, 0, []⟩

theorem f37 (x : Od) (id : Int) : Fun P 37 [.agg (odC x), .ip [nV id]] (bV (((fun x => decide (x.id = id))) x)) := by
  refine spec_of hT (f := 37) (fn := Go.Proofs.Tryz.f37) (c := body Go.Proofs.Tryz.f37) (by kernel_rfl) (by kernel_rfl) ?_
  conv => whnf
  repeat' (first | refine go ?_ | ((first | refine ASplit.yes rfl ?_ | refine ASplit.no rfl ?_ | refine ACond.yes rfl ?_ | refine ACond.no rfl ?_ | refine ASplit.dec (fun _ => ?_) (fun _ => ?_) | refine ASplit.ndec (fun _ => ?_) (fun _ => ?_) | refine ACond.dec (fun _ => ?_) (fun _ => ?_) | refine ACond.ndec (fun _ => ?_) (fun _ => ?_)) <;> conv => whnf))
  all_goals exact AFin.val rfl ⟨rfl, rfl⟩

theorem f118 (l : List Od) (id : Int) (hl : l.length ≤ 1000000) : Fun P 118 [odsV l, .fn 37 [] [.ip [nV id]]] (nV (idxF (fun x => decide (x.id = id)) l 0)) := by
  refine spec_of hT (f := 118) (fn := Go.Proofs.Tryz.f118) (c := body Go.Proofs.Tryz.f118) (by kernel_rfl) (by kernel_rfl) ?_
  generalize hR : idxF (fun x => decide (x.id = id)) l 0 = R
  conv => whnf
  repeat refine go ?_
  refine ALoop.mk (fun n E H => ∃ i : Nat, n = l.length - i ∧ i ≤ l.length ∧ idxF (fun x => decide (x.id = id)) (l.drop i) i = R ∧
      E = pad [odsV l, .fn 37 [] [.ip [nV id]], .any, .any, nV 0, .any, .any, nV l.length, nV i] 19 ∧ H = []) (n := l.length) _ _
    ⟨0, rfl, Nat.zero_le _, hR, rfl, rfl⟩ (Conv.fit (by repeat' (first | exact Fit.nil | refine Fit.any ?_ | refine Fit.same ?_))) ?_
  rintro _ _ _ ⟨i, rfl, hi, hI, rfl, rfl⟩
  conv => whnf
  repeat refine go ?_
  refine ACond.dec (fun h => ?_) (fun h => ?_)
  · have hil : i < l.length := by omega
    have w1 : IntKind.wrap .i64 ((i : Int) + 1) = ((i + 1 : Nat) : Int) := by rw [wrap_i64 _ (by omega) (by omega)]; omega
    rw [idxF_drop hil] at hI
    conv => whnf
    repeat (first | refine go ?_ | ((first | refine AReq.mk (by omega) ?_ | refine AIdx.flat (enc := odC) odC_len (xs := l) (i := i) hil ?_ | refine ACall.val (by kernel_rfl) (f37 l[i] id) (by (first | rfl | (simp only [renL, AV.ren, List.nil_append, List.cons_append, rens]; try rfl))) rfl ?_); conv => whnf))
    refine ACond.mk (fun h4 => ?_) (fun h4 => ?_)
    · conv => whnf
      repeat (first | refine go ?_ | ((first | refine AReq.mk (by omega) ?_ | refine AIdx.flat (enc := odC) odC_len (xs := l) (i := i) hil ?_ | refine ACall.val (by kernel_rfl) (f37 l[i] id) (by (first | rfl | (simp only [renL, AV.ren, List.nil_append, List.cons_append, rens]; try rfl))) rfl ?_); conv => whnf))
      refine AOut.stay ?_
      refine AFin.val rfl ⟨?_, rfl⟩
      rw [if_pos h4] at hI
      rw [hI]
    · conv => whnf
      repeat (first | refine go ?_ | ((first | refine AReq.mk (by omega) ?_ | refine AIdx.flat (enc := odC) odC_len (xs := l) (i := i) hil ?_ | refine ACall.val (by kernel_rfl) (f37 l[i] id) (by (first | rfl | (simp only [renL, AV.ren, List.nil_append, List.cons_append, rens]; try rfl))) rfl ?_); conv => whnf))
      rw [w1]
      exact AHead.mk (l.length - (i + 1)) _ _ (by omega) ⟨i + 1, rfl, by omega, by rw [← hI]; exact (if_neg (fun h5 => Bool.noConfusion (h5.symm.trans h4))).symm, rfl, rfl⟩ (Conv.fit (by repeat' (first | exact Fit.nil | refine Fit.any ?_ | refine Fit.same ?_)))
  · rw [idxF_end (by omega)] at hI
    conv => whnf
    repeat refine go ?_
    refine AOut.stay ?_
    conv => whnf
    repeat refine go ?_
    exact AFin.val rfl ⟨congrArg nV hI, rfl⟩

theorem f36 (l : List Od) (id : Int) (hl : l.length ≤ 1000000) : Fun P 36 [odsV l, .fn 37 [] [.ip [nV id]]] (.tup [.agg (odC ((l.find? (fun x => decide (x.id = id))).getD odZ)), bV (l.find? (fun x => decide (x.id = id))).isSome]) := by
  refine spec_of hT (f := 36) (fn := Go.Proofs.Tryz.f36) (c := body Go.Proofs.Tryz.f36) (by kernel_rfl) (by kernel_rfl) ?_
  conv => whnf
  repeat refine go ?_
  refine ACall.val (by kernel_rfl) (f118 l id hl) (by (first | rfl | (simp only [renL, AV.ren, List.nil_append, List.cons_append, rens]; try rfl))) rfl ?_
  rcases idxF_or (fun x => decide (x.id = id)) l 0 with ⟨h1, h2⟩ | ⟨i, hi, h1, h2⟩
  · rw [show idxF (fun x => decide (x.id = id)) l 0 = -1 from h1, h2]
    conv => whnf
    repeat refine ru ?_
    refine AFin.to (.tup [.agg (odC odZ), bV false]) [] (Conv.out (.tup (.cons (.agg (by repeat' (first | exact LendL.nil | refine LendL.cons .any ?_ | refine LendL.cons (.it _) ?_ | refine LendL.cons .nil ?_ | refine LendL.cons (.vx (cs' := []) rfl) ?_ | refine LendL.cons (.sip rfl) ?_ | refine LendL.cons (.sm' rfl ?_ ?_ ?_) ?_))) (.cons (.it _) .nil))) (fun ρ => by (first | rfl | (simp only [renL, AV.ren, List.nil_append, List.cons_append, rens]; try rfl)))) ⟨rfl, rfl⟩
  · rw [show idxF (fun x => decide (x.id = id)) l 0 = (i : Int) by simpa using h1, h2]
    conv => whnf
    repeat refine go ?_
    refine ACond.dec (fun h => ?_) (fun h => ?_)
    · omega
    conv => whnf
    repeat (first | refine go ?_ | ((first | refine AReq.mk (by omega) ?_ | refine AIdx.flat (enc := odC) odC_len (xs := l) (i := i) hi ?_); conv => whnf))
    exact AFin.val (by (first | rfl | (simp only [renL, AV.ren, List.nil_append, List.cons_append, rens]; try rfl))) ⟨rfl, rfl⟩

theorem f9 (s : Sta) (id : Int) (hl : s.orders.length ≤ 1000000) : Fun P 9 [stA s, nV id] (.tup [.agg (odC ((s.orders.find? (fun x => decide (x.id = id))).getD odZ)), bV (s.orders.find? (fun x => decide (x.id = id))).isSome]) := by
  refine spec_of hT (f := 9) (fn := Go.Proofs.Tryz.f9) (c := body Go.Proofs.Tryz.f9) (by kernel_rfl) (by kernel_rfl) ?_
  conv => whnf
  repeat refine go ?_
  refine ACall.clo (l := 1) (g := 37) (a := odsV s.orders) (xs := [nV id]) (t := 3) rfl ?_
  refine ACall.val (by kernel_rfl) (f36 s.orders id hl) (by (first | rfl | (simp only [renL, AV.ren, List.nil_append, List.cons_append, rens]; try rfl))) (by (first | rfl | (simp only [renL, AV.ren, List.nil_append, List.cons_append, rens]; try rfl))) ?_
  conv => whnf
  repeat refine go ?_
  exact AFin.val (by (first | rfl | (simp only [renL, AV.ren, List.nil_append, List.cons_append, rens]; try rfl))) ⟨rfl, rfl⟩

theorem f39 (x : Un) (s0 : ByteArray) : Fun P 39 [.agg (unC x), .ip [sV s0]] (bV (((fun x => x.s.toList == s0.toList)) x)) := by
  refine spec_of hT (f := 39) (fn := Go.Proofs.Tryz.f39) (c := body Go.Proofs.Tryz.f39) (by kernel_rfl) (by kernel_rfl) ?_
  conv => whnf
  repeat' (first | refine go ?_ | ((first | refine ASplit.yes rfl ?_ | refine ASplit.no rfl ?_ | refine ACond.yes rfl ?_ | refine ACond.no rfl ?_ | refine ASplit.dec (fun _ => ?_) (fun _ => ?_) | refine ASplit.ndec (fun _ => ?_) (fun _ => ?_) | refine ACond.dec (fun _ => ?_) (fun _ => ?_) | refine ACond.ndec (fun _ => ?_) (fun _ => ?_)) <;> conv => whnf))
  all_goals exact AFin.val rfl ⟨rfl, rfl⟩

theorem f119 (l : List Un) (s0 : ByteArray) (hl : l.length ≤ 1000000) : Fun P 119 [unsV l, .fn 39 [] [.ip [sV s0]]] (nV (idxF (fun x => x.s.toList == s0.toList) l 0)) := by
  refine spec_of hT (f := 119) (fn := Go.Proofs.Tryz.f119) (c := body Go.Proofs.Tryz.f119) (by kernel_rfl) (by kernel_rfl) ?_
  generalize hR : idxF (fun x => x.s.toList == s0.toList) l 0 = R
  conv => whnf
  repeat refine go ?_
  refine ALoop.mk (fun n E H => ∃ i : Nat, n = l.length - i ∧ i ≤ l.length ∧ idxF (fun x => x.s.toList == s0.toList) (l.drop i) i = R ∧
      E = pad [unsV l, .fn 39 [] [.ip [sV s0]], .any, .any, nV 0, .any, .any, nV l.length, nV i] 19 ∧ H = []) (n := l.length) _ _
    ⟨0, rfl, Nat.zero_le _, hR, rfl, rfl⟩ (Conv.fit (by repeat' (first | exact Fit.nil | refine Fit.any ?_ | refine Fit.same ?_))) ?_
  rintro _ _ _ ⟨i, rfl, hi, hI, rfl, rfl⟩
  conv => whnf
  repeat refine go ?_
  refine ACond.dec (fun h => ?_) (fun h => ?_)
  · have hil : i < l.length := by omega
    have w1 : IntKind.wrap .i64 ((i : Int) + 1) = ((i + 1 : Nat) : Int) := by rw [wrap_i64 _ (by omega) (by omega)]; omega
    rw [idxF_drop hil] at hI
    conv => whnf
    repeat (first | refine go ?_ | ((first | refine AReq.mk (by omega) ?_ | refine AIdx.flat (enc := unC) unC_len (xs := l) (i := i) hil ?_ | refine ACall.val (by kernel_rfl) (f39 l[i] s0) (by (first | rfl | (simp only [renL, AV.ren, List.nil_append, List.cons_append, rens]; try rfl))) rfl ?_); conv => whnf))
    refine ACond.mk (fun h4 => ?_) (fun h4 => ?_)
    · conv => whnf
      repeat (first | refine go ?_ | ((first | refine AReq.mk (by omega) ?_ | refine AIdx.flat (enc := unC) unC_len (xs := l) (i := i) hil ?_ | refine ACall.val (by kernel_rfl) (f39 l[i] s0) (by (first | rfl | (simp only [renL, AV.ren, List.nil_append, List.cons_append, rens]; try rfl))) rfl ?_); conv => whnf))
      refine AOut.stay ?_
      refine AFin.val rfl ⟨?_, rfl⟩
      rw [if_pos h4] at hI
      rw [hI]
    · conv => whnf
      repeat (first | refine go ?_ | ((first | refine AReq.mk (by omega) ?_ | refine AIdx.flat (enc := unC) unC_len (xs := l) (i := i) hil ?_ | refine ACall.val (by kernel_rfl) (f39 l[i] s0) (by (first | rfl | (simp only [renL, AV.ren, List.nil_append, List.cons_append, rens]; try rfl))) rfl ?_); conv => whnf))
      rw [w1]
      exact AHead.mk (l.length - (i + 1)) _ _ (by omega) ⟨i + 1, rfl, by omega, by rw [← hI]; exact (if_neg (fun h5 => Bool.noConfusion (h5.symm.trans h4))).symm, rfl, rfl⟩ (Conv.fit (by repeat' (first | exact Fit.nil | refine Fit.any ?_ | refine Fit.same ?_)))
  · rw [idxF_end (by omega)] at hI
    conv => whnf
    repeat refine go ?_
    refine AOut.stay ?_
    conv => whnf
    repeat refine go ?_
    exact AFin.val rfl ⟨congrArg nV hI, rfl⟩

theorem f38 (l : List Un) (s0 : ByteArray) (hl : l.length ≤ 1000000) : Fun P 38 [unsV l, .fn 39 [] [.ip [sV s0]]] (.tup [.agg (unC ((l.find? (fun x => x.s.toList == s0.toList)).getD unZ)), bV (l.find? (fun x => x.s.toList == s0.toList)).isSome]) := by
  refine spec_of hT (f := 38) (fn := Go.Proofs.Tryz.f38) (c := body Go.Proofs.Tryz.f38) (by kernel_rfl) (by kernel_rfl) ?_
  conv => whnf
  repeat refine go ?_
  refine ACall.val (by kernel_rfl) (f119 l s0 hl) (by (first | rfl | (simp only [renL, AV.ren, List.nil_append, List.cons_append, rens]; try rfl))) rfl ?_
  rcases idxF_or (fun x => x.s.toList == s0.toList) l 0 with ⟨h1, h2⟩ | ⟨i, hi, h1, h2⟩
  · rw [show idxF (fun x => x.s.toList == s0.toList) l 0 = -1 from h1, h2]
    conv => whnf
    repeat refine ru ?_
    exact AFin.val rfl ⟨rfl, rfl⟩
  · rw [show idxF (fun x => x.s.toList == s0.toList) l 0 = (i : Int) by simpa using h1, h2]
    conv => whnf
    repeat refine go ?_
    refine ACond.dec (fun h => ?_) (fun h => ?_)
    · omega
    conv => whnf
    repeat (first | refine go ?_ | ((first | refine AReq.mk (by omega) ?_ | refine AIdx.flat (enc := unC) unC_len (xs := l) (i := i) hi ?_); conv => whnf))
    exact AFin.val (by (first | rfl | (simp only [renL, AV.ren, List.nil_append, List.cons_append, rens]; try rfl))) ⟨rfl, rfl⟩

theorem f10 (s : Sta) (s0 : ByteArray) (hl : s.units.length ≤ 1000000) : Fun P 10 [stA s, sV s0] (.tup [.agg (unC ((s.units.find? (fun x => x.s.toList == s0.toList)).getD unZ)), bV (s.units.find? (fun x => x.s.toList == s0.toList)).isSome]) := by
  refine spec_of hT (f := 10) (fn := Go.Proofs.Tryz.f10) (c := body Go.Proofs.Tryz.f10) (by kernel_rfl) (by kernel_rfl) ?_
  conv => whnf
  repeat refine go ?_
  refine ACall.clo (l := 1) (g := 39) (a := unsV s.units) (xs := [sV s0]) (t := 9) rfl ?_
  refine ACall.val (by kernel_rfl) (f38 s.units s0 hl) (by (first | rfl | (simp only [renL, AV.ren, List.nil_append, List.cons_append, rens]; try rfl))) (by (first | rfl | (simp only [renL, AV.ren, List.nil_append, List.cons_append, rens]; try rfl))) ?_
  conv => whnf
  repeat refine go ?_
  exact AFin.val (by (first | rfl | (simp only [renL, AV.ren, List.nil_append, List.cons_append, rens]; try rfl))) ⟨rfl, rfl⟩

theorem f78 (x : It) (id : Int) : Fun P 78 [.agg (itC x), .ip [nV id]] (bV (((fun x => decide (x.id = id))) x)) := by
  refine spec_of hT (f := 78) (fn := Go.Proofs.Tryz.f78) (c := body Go.Proofs.Tryz.f78) (by kernel_rfl) (by kernel_rfl) ?_
  conv => whnf
  repeat' (first | refine go ?_ | ((first | refine ASplit.yes rfl ?_ | refine ASplit.no rfl ?_ | refine ACond.yes rfl ?_ | refine ACond.no rfl ?_ | refine ASplit.dec (fun _ => ?_) (fun _ => ?_) | refine ASplit.ndec (fun _ => ?_) (fun _ => ?_) | refine ACond.dec (fun _ => ?_) (fun _ => ?_) | refine ACond.ndec (fun _ => ?_) (fun _ => ?_)) <;> conv => whnf))
  all_goals exact AFin.val rfl ⟨rfl, rfl⟩

theorem f129 (l : List It) (id : Int) (hl : l.length ≤ 1000000) : Fun P 129 [itsV l, .fn 78 [] [.ip [nV id]]] (nV (idxF (fun x => decide (x.id = id)) l 0)) := by
  refine spec_of hT (f := 129) (fn := Go.Proofs.Tryz.f129) (c := body Go.Proofs.Tryz.f129) (by kernel_rfl) (by kernel_rfl) ?_
  generalize hR : idxF (fun x => decide (x.id = id)) l 0 = R
  conv => whnf
  repeat refine go ?_
  refine ALoop.mk (fun n E H => ∃ i : Nat, n = l.length - i ∧ i ≤ l.length ∧ idxF (fun x => decide (x.id = id)) (l.drop i) i = R ∧
      E = pad [itsV l, .fn 78 [] [.ip [nV id]], .any, .any, nV 0, .any, .any, nV l.length, nV i] 19 ∧ H = []) (n := l.length) _ _
    ⟨0, rfl, Nat.zero_le _, hR, rfl, rfl⟩ (Conv.fit (by repeat' (first | exact Fit.nil | refine Fit.any ?_ | refine Fit.same ?_))) ?_
  rintro _ _ _ ⟨i, rfl, hi, hI, rfl, rfl⟩
  conv => whnf
  repeat refine go ?_
  refine ACond.dec (fun h => ?_) (fun h => ?_)
  · have hil : i < l.length := by omega
    have w1 : IntKind.wrap .i64 ((i : Int) + 1) = ((i + 1 : Nat) : Int) := by rw [wrap_i64 _ (by omega) (by omega)]; omega
    rw [idxF_drop hil] at hI
    conv => whnf
    repeat (first | refine go ?_ | ((first | refine AReq.mk (by omega) ?_ | refine AIdx.flat (enc := itC) itC_len (xs := l) (i := i) hil ?_ | refine ACall.val (by kernel_rfl) (f78 l[i] id) (by (first | rfl | (simp only [renL, AV.ren, List.nil_append, List.cons_append, rens]; try rfl))) rfl ?_); conv => whnf))
    refine ACond.mk (fun h4 => ?_) (fun h4 => ?_)
    · conv => whnf
      repeat (first | refine go ?_ | ((first | refine AReq.mk (by omega) ?_ | refine AIdx.flat (enc := itC) itC_len (xs := l) (i := i) hil ?_ | refine ACall.val (by kernel_rfl) (f78 l[i] id) (by (first | rfl | (simp only [renL, AV.ren, List.nil_append, List.cons_append, rens]; try rfl))) rfl ?_); conv => whnf))
      refine AOut.stay ?_
      refine AFin.val rfl ⟨?_, rfl⟩
      rw [if_pos h4] at hI
      rw [hI]
    · conv => whnf
      repeat (first | refine go ?_ | ((first | refine AReq.mk (by omega) ?_ | refine AIdx.flat (enc := itC) itC_len (xs := l) (i := i) hil ?_ | refine ACall.val (by kernel_rfl) (f78 l[i] id) (by (first | rfl | (simp only [renL, AV.ren, List.nil_append, List.cons_append, rens]; try rfl))) rfl ?_); conv => whnf))
      rw [w1]
      exact AHead.mk (l.length - (i + 1)) _ _ (by omega) ⟨i + 1, rfl, by omega, by rw [← hI]; exact (if_neg (fun h5 => Bool.noConfusion (h5.symm.trans h4))).symm, rfl, rfl⟩ (Conv.fit (by repeat' (first | exact Fit.nil | refine Fit.any ?_ | refine Fit.same ?_)))
  · rw [idxF_end (by omega)] at hI
    conv => whnf
    repeat refine go ?_
    refine AOut.stay ?_
    conv => whnf
    repeat refine go ?_
    exact AFin.val rfl ⟨congrArg nV hI, rfl⟩

theorem f77 (l : List It) (id : Int) (hl : l.length ≤ 1000000) : Fun P 77 [itsV l, .fn 78 [] [.ip [nV id]]] (.tup [.agg (itC ((l.find? (fun x => decide (x.id = id))).getD itZ)), bV (l.find? (fun x => decide (x.id = id))).isSome]) := by
  refine spec_of hT (f := 77) (fn := Go.Proofs.Tryz.f77) (c := body Go.Proofs.Tryz.f77) (by kernel_rfl) (by kernel_rfl) ?_
  conv => whnf
  repeat refine go ?_
  refine ACall.val (by kernel_rfl) (f129 l id hl) (by (first | rfl | (simp only [renL, AV.ren, List.nil_append, List.cons_append, rens]; try rfl))) rfl ?_
  rcases idxF_or (fun x => decide (x.id = id)) l 0 with ⟨h1, h2⟩ | ⟨i, hi, h1, h2⟩
  · rw [show idxF (fun x => decide (x.id = id)) l 0 = -1 from h1, h2]
    conv => whnf
    repeat refine ru ?_
    exact AFin.val rfl ⟨rfl, rfl⟩
  · rw [show idxF (fun x => decide (x.id = id)) l 0 = (i : Int) by simpa using h1, h2]
    conv => whnf
    repeat refine go ?_
    refine ACond.dec (fun h => ?_) (fun h => ?_)
    · omega
    conv => whnf
    repeat (first | refine go ?_ | ((first | refine AReq.mk (by omega) ?_ | refine AIdx.flat (enc := itC) itC_len (xs := l) (i := i) hi ?_); conv => whnf))
    exact AFin.val (by (first | rfl | (simp only [renL, AV.ren, List.nil_append, List.cons_append, rens]; try rfl))) ⟨rfl, rfl⟩

theorem f27 (s : Sta) (id : Int) (hl : s.items.length ≤ 1000000) : Fun P 27 [stA s, nV id] (.tup [.agg (itC ((s.items.find? (fun x => decide (x.id = id))).getD itZ)), bV (s.items.find? (fun x => decide (x.id = id))).isSome]) := by
  refine spec_of hT (f := 27) (fn := Go.Proofs.Tryz.f27) (c := body Go.Proofs.Tryz.f27) (by kernel_rfl) (by kernel_rfl) ?_
  conv => whnf
  repeat refine go ?_
  refine ACall.clo (l := 1) (g := 78) (a := itsV s.items) (xs := [nV id]) (t := 3) rfl ?_
  refine ACall.val (by kernel_rfl) (f77 s.items id hl) (by (first | rfl | (simp only [renL, AV.ren, List.nil_append, List.cons_append, rens]; try rfl))) (by (first | rfl | (simp only [renL, AV.ren, List.nil_append, List.cons_append, rens]; try rfl))) ?_
  conv => whnf
  repeat refine go ?_
  exact AFin.val (by (first | rfl | (simp only [renL, AV.ren, List.nil_append, List.cons_append, rens]; try rfl))) ⟨rfl, rfl⟩

theorem f172 (x : Rm) (id : Int) : Fun P 172 [.agg (rmC x), .ip [nV id]] (bV (((fun x => decide (x.id = id))) x)) := by
  refine spec_of hT (f := 172) (fn := Go.Proofs.Tryz.f172) (c := body Go.Proofs.Tryz.f172) (by kernel_rfl) (by kernel_rfl) ?_
  conv => whnf
  repeat' (first | refine go ?_ | ((first | refine ASplit.yes rfl ?_ | refine ASplit.no rfl ?_ | refine ACond.yes rfl ?_ | refine ACond.no rfl ?_ | refine ASplit.dec (fun _ => ?_) (fun _ => ?_) | refine ASplit.ndec (fun _ => ?_) (fun _ => ?_) | refine ACond.dec (fun _ => ?_) (fun _ => ?_) | refine ACond.ndec (fun _ => ?_) (fun _ => ?_)) <;> conv => whnf))
  all_goals exact AFin.val rfl ⟨rfl, rfl⟩

theorem f196 (l : List Rm) (id : Int) (hl : l.length ≤ 1000000) : Fun P 196 [rmsV l, .fn 172 [] [.ip [nV id]]] (nV (idxF (fun x => decide (x.id = id)) l 0)) := by
  refine spec_of hT (f := 196) (fn := Go.Proofs.Tryz.f196) (c := body Go.Proofs.Tryz.f196) (by kernel_rfl) (by kernel_rfl) ?_
  generalize hR : idxF (fun x => decide (x.id = id)) l 0 = R
  conv => whnf
  repeat refine go ?_
  refine ALoop.mk (fun n E H => ∃ i : Nat, n = l.length - i ∧ i ≤ l.length ∧ idxF (fun x => decide (x.id = id)) (l.drop i) i = R ∧
      E = pad [rmsV l, .fn 172 [] [.ip [nV id]], .any, .any, nV 0, .any, .any, nV l.length, nV i] 19 ∧ H = []) (n := l.length) _ _
    ⟨0, rfl, Nat.zero_le _, hR, rfl, rfl⟩ (Conv.fit (by repeat' (first | exact Fit.nil | refine Fit.any ?_ | refine Fit.same ?_))) ?_
  rintro _ _ _ ⟨i, rfl, hi, hI, rfl, rfl⟩
  conv => whnf
  repeat refine go ?_
  refine ACond.dec (fun h => ?_) (fun h => ?_)
  · have hil : i < l.length := by omega
    have w1 : IntKind.wrap .i64 ((i : Int) + 1) = ((i + 1 : Nat) : Int) := by rw [wrap_i64 _ (by omega) (by omega)]; omega
    rw [idxF_drop hil] at hI
    conv => whnf
    repeat (first | refine go ?_ | ((first | refine AReq.mk (by omega) ?_ | refine AIdx.flat (enc := rmC) rmC_len (xs := l) (i := i) hil ?_ | refine ACall.val (by kernel_rfl) (f172 l[i] id) (by (first | rfl | (simp only [renL, AV.ren, List.nil_append, List.cons_append, rens]; try rfl))) rfl ?_); conv => whnf))
    refine ACond.mk (fun h4 => ?_) (fun h4 => ?_)
    · conv => whnf
      repeat (first | refine go ?_ | ((first | refine AReq.mk (by omega) ?_ | refine AIdx.flat (enc := rmC) rmC_len (xs := l) (i := i) hil ?_ | refine ACall.val (by kernel_rfl) (f172 l[i] id) (by (first | rfl | (simp only [renL, AV.ren, List.nil_append, List.cons_append, rens]; try rfl))) rfl ?_); conv => whnf))
      refine AOut.stay ?_
      refine AFin.val rfl ⟨?_, rfl⟩
      rw [if_pos h4] at hI
      rw [hI]
    · conv => whnf
      repeat (first | refine go ?_ | ((first | refine AReq.mk (by omega) ?_ | refine AIdx.flat (enc := rmC) rmC_len (xs := l) (i := i) hil ?_ | refine ACall.val (by kernel_rfl) (f172 l[i] id) (by (first | rfl | (simp only [renL, AV.ren, List.nil_append, List.cons_append, rens]; try rfl))) rfl ?_); conv => whnf))
      rw [w1]
      exact AHead.mk (l.length - (i + 1)) _ _ (by omega) ⟨i + 1, rfl, by omega, by rw [← hI]; exact (if_neg (fun h5 => Bool.noConfusion (h5.symm.trans h4))).symm, rfl, rfl⟩ (Conv.fit (by repeat' (first | exact Fit.nil | refine Fit.any ?_ | refine Fit.same ?_)))
  · rw [idxF_end (by omega)] at hI
    conv => whnf
    repeat refine go ?_
    refine AOut.stay ?_
    conv => whnf
    repeat refine go ?_
    exact AFin.val rfl ⟨congrArg nV hI, rfl⟩

theorem f171 (l : List Rm) (id : Int) (hl : l.length ≤ 1000000) : Fun P 171 [rmsV l, .fn 172 [] [.ip [nV id]]] (.tup [.agg (rmC ((l.find? (fun x => decide (x.id = id))).getD rmZ)), bV (l.find? (fun x => decide (x.id = id))).isSome]) := by
  refine spec_of hT (f := 171) (fn := Go.Proofs.Tryz.f171) (c := body Go.Proofs.Tryz.f171) (by kernel_rfl) (by kernel_rfl) ?_
  conv => whnf
  repeat refine go ?_
  refine ACall.val (by kernel_rfl) (f196 l id hl) (by (first | rfl | (simp only [renL, AV.ren, List.nil_append, List.cons_append, rens]; try rfl))) rfl ?_
  rcases idxF_or (fun x => decide (x.id = id)) l 0 with ⟨h1, h2⟩ | ⟨i, hi, h1, h2⟩
  · rw [show idxF (fun x => decide (x.id = id)) l 0 = -1 from h1, h2]
    conv => whnf
    repeat refine ru ?_
    refine AFin.to (.tup [.agg (rmC rmZ), bV false]) [] (Conv.out (.tup (.cons (.agg (by repeat' (first | exact LendL.nil | refine LendL.cons .any ?_ | refine LendL.cons (.it _) ?_ | refine LendL.cons .nil ?_ | refine LendL.cons (.vx (cs' := []) rfl) ?_ | refine LendL.cons (.sip rfl) ?_ | refine LendL.cons (.sm' rfl ?_ ?_ ?_) ?_))) (.cons (.it _) .nil))) (fun ρ => by (first | rfl | (simp only [renL, AV.ren, List.nil_append, List.cons_append, rens]; try rfl)))) ⟨rfl, rfl⟩
  · rw [show idxF (fun x => decide (x.id = id)) l 0 = (i : Int) by simpa using h1, h2]
    conv => whnf
    repeat refine go ?_
    refine ACond.dec (fun h => ?_) (fun h => ?_)
    · omega
    conv => whnf
    repeat (first | refine go ?_ | ((first | refine AReq.mk (by omega) ?_ | refine AIdx.flat (enc := rmC) rmC_len (xs := l) (i := i) hi ?_); conv => whnf))
    exact AFin.val (by (first | rfl | (simp only [renL, AV.ren, List.nil_append, List.cons_append, rens]; try rfl))) ⟨rfl, rfl⟩

theorem f136 (s : Sta) (id : Int) (hl : s.rmas.length ≤ 1000000) : Fun P 136 [stA s, nV id] (.tup [.agg (rmC ((s.rmas.find? (fun x => decide (x.id = id))).getD rmZ)), bV (s.rmas.find? (fun x => decide (x.id = id))).isSome]) := by
  refine spec_of hT (f := 136) (fn := Go.Proofs.Tryz.f136) (c := body Go.Proofs.Tryz.f136) (by kernel_rfl) (by kernel_rfl) ?_
  conv => whnf
  repeat refine go ?_
  refine ACall.clo (l := 1) (g := 172) (a := rmsV s.rmas) (xs := [nV id]) (t := 3) rfl ?_
  refine ACall.val (by kernel_rfl) (f171 s.rmas id hl) (by (first | rfl | (simp only [renL, AV.ren, List.nil_append, List.cons_append, rens]; try rfl))) (by (first | rfl | (simp only [renL, AV.ren, List.nil_append, List.cons_append, rens]; try rfl))) ?_
  conv => whnf
  repeat refine go ?_
  exact AFin.val (by (first | rfl | (simp only [renL, AV.ren, List.nil_append, List.cons_append, rens]; try rfl))) ⟨rfl, rfl⟩
end Go.Aw.U1

set_option linter.unusedSimpArgs false
set_option linter.unusedVariables false
set_option maxHeartbeats 2000000
namespace Go.Aw.U1
open Go Go.Proofs

/-! ### amounts -/
def addT : List Int → Int → Int × Int
  | [], s => (s, 0)
  | n :: l, s => if inB n = true then if inB (s + n) = true then addT l (s + n) else (0, 8) else (0, 8)
def numE (p : Int × Int) : AV := .tup [nV p.1, nV p.2]
theorem inB_iff {n : Int} : inB n = true ↔ -1000000000000 ≤ n ∧ n ≤ 1000000000000 := by simp [inB]
theorem addT_drop {l : List Int} {i : Nat} {s : Int} (h : i < l.length) : addT (l.drop i) s = if inB l[i] = true then if inB (s + l[i]) = true then addT (l.drop (i + 1)) (s + l[i]) else (0, 8) else (0, 8) := by
  rw [List.drop_eq_getElem_cons h, addT]
theorem f122 (l : List Int) (hl : l.length ≤ 1000000) : Fun P 122 [isV l] (numE (addT l 0)) := by
  refine spec_of hT (f := 122) (fn := Go.Proofs.Tryz.f122) (c := body Go.Proofs.Tryz.f122) (by kernel_rfl) (by kernel_rfl) ?_
  generalize hR : addT l 0 = R
  conv => whnf
  repeat refine go ?_
  refine ALoop.mk (fun n E H => ∃ (i : Nat) (s : Int), n = l.length - i ∧ i ≤ l.length ∧ inB s = true ∧ addT (l.drop i) s = R ∧
      E = pad [isV l, .any, nV 0, nV 0, nV s, .any, .any, isV l, nV l.length, nV i] 28 ∧ H = []) (n := l.length) _ _
    ⟨0, 0, rfl, Nat.zero_le _, rfl, hR, rfl, rfl⟩ (Conv.fit (by repeat' (first | exact Fit.nil | refine Fit.any ?_ | refine Fit.same ?_))) ?_
  rintro _ _ _ ⟨i, s, rfl, hi, hs, hI, rfl, rfl⟩
  conv => whnf
  repeat refine go ?_
  refine ACond.dec (fun h => ?_) (fun h => ?_)
  · have hil : i < l.length := by omega
    have w1 : IntKind.wrap .i64 ((i : Int) + 1) = ((i + 1 : Nat) : Int) := by rw [wrap_i64 _ (by omega) (by omega)]; omega
    rw [addT_drop hil] at hI
    conv => whnf
    repeat (first | refine go ?_ | ((first | refine AReq.mk (by omega) ?_ | refine AIdx.flat (enc := iC) iC_len (xs := l) (i := i) hil ?_); conv => whnf))
    refine ACall.val (by kernel_rfl) (f159 l[i]) rfl rfl ?_
    rcases Bool.eq_false_or_eq_true (inB l[i]) with g | g
    case inr =>
      rw [g] at hI ⊢
      conv => whnf
      repeat (first | refine ru ?_ | ((first | refine AReq.mk (by omega) ?_ | refine AIdx.flat (enc := iC) iC_len (xs := l) (i := i) hil ?_); conv => whnf))
      refine AOut.stay ?_
      conv => whnf
      repeat (first | refine ru ?_ | ((first | refine AReq.mk (by omega) ?_ | refine AIdx.flat (enc := iC) iC_len (xs := l) (i := i) hil ?_); conv => whnf))
      exact AFin.val rfl ⟨by rw [← hI]; rfl, rfl⟩
    rw [g] at hI ⊢
    rw [if_pos rfl] at hI
    have g1 := inB_iff.1 g
    have g2 := inB_iff.1 hs
    have w2 : IntKind.wrap .i64 (s + l[i]) = s + l[i] := by rw [wrap_i64 _ (by omega) (by omega)]
    conv => whnf
    repeat (first | refine ru ?_ | ((first | refine AReq.mk (by omega) ?_ | refine AIdx.flat (enc := iC) iC_len (xs := l) (i := i) hil ?_); conv => whnf))
    rw [w2]
    refine ACall.val (by kernel_rfl) (f159 (s + l[i])) rfl rfl ?_
    rcases Bool.eq_false_or_eq_true (inB (s + l[i])) with g3 | g3
    case inr =>
      rw [g3] at hI ⊢
      conv => whnf
      repeat (first | refine ru ?_ | ((first | refine AReq.mk (by omega) ?_ | refine AIdx.flat (enc := iC) iC_len (xs := l) (i := i) hil ?_); conv => whnf))
      refine AOut.stay ?_
      conv => whnf
      repeat (first | refine ru ?_ | ((first | refine AReq.mk (by omega) ?_ | refine AIdx.flat (enc := iC) iC_len (xs := l) (i := i) hil ?_); conv => whnf))
      exact AFin.val rfl ⟨by rw [← hI]; rfl, rfl⟩
    rw [g3] at hI ⊢
    rw [if_pos rfl] at hI
    conv => whnf
    repeat (first | refine ru ?_ | ((first | refine AReq.mk (by omega) ?_ | refine AIdx.flat (enc := iC) iC_len (xs := l) (i := i) hil ?_); conv => whnf))
    rw [w1, w2]
    exact AHead.mk (l.length - (i + 1)) _ _ (by omega) ⟨i + 1, _, rfl, by omega, g3, hI, rfl, rfl⟩ (Conv.fit (by repeat' (first | exact Fit.nil | refine Fit.any ?_ | refine Fit.same ?_)))
  · rw [List.drop_of_length_le (by omega)] at hI
    conv => whnf
    repeat refine go ?_
    refine AOut.stay ?_
    conv => whnf
    repeat refine go ?_
    exact AFin.val rfl ⟨by rw [← hI]; rfl, rfl⟩

/-! ### serials -/
theorem wrap_i32 (n : Int) (h1 : -2147483648 ≤ n) (h2 : n ≤ 2147483647) : IntKind.wrap .i32 n = n := by
  simp only [IntKind.wrap, IntKind.signed, IntKind.bits]
  simp
  omega
def clsF (n : Int) : Int := if (97 ≤ n ∧ n ≤ 122) ∨ (65 ≤ n ∧ n ≤ 90) then 1 else if 48 ≤ n ∧ n ≤ 57 then 2 else if n = 45 then 3 else 0
def foldR (n : Int) : Int := if 97 ≤ n ∧ n ≤ 122 then n - 32 else n
def okR (n last : Int) : Bool := !decide (clsF n = 0) && (!decide (clsF n = 3) || !decide (last = 3))
theorem f209 (n : Int) : Fun P 209 [rI n] (nV (clsF n)) := by
  refine spec_of hT (f := 209) (fn := Go.Proofs.Tryz.f209) (c := body Go.Proofs.Tryz.f209) (by kernel_rfl) (by kernel_rfl) ?_
  conv => whnf
  repeat' (first | refine go ?_ | ((first | refine ASplit.yes rfl ?_ | refine ASplit.no rfl ?_ | refine ACond.yes rfl ?_ | refine ACond.no rfl ?_ | refine ASplit.dec (fun _ => ?_) (fun _ => ?_) | refine ASplit.ndec (fun _ => ?_) (fun _ => ?_) | refine ACond.dec (fun _ => ?_) (fun _ => ?_) | refine ACond.ndec (fun _ => ?_) (fun _ => ?_)) <;> conv => whnf))
  all_goals refine AFin.val rfl ⟨congrArg nV ?_, rfl⟩
  all_goals (unfold clsF; first | omega | (rw [if_pos (by omega)]) | (rw [if_neg (by omega), if_pos (by omega)]) | (rw [if_neg (by omega), if_neg (by omega), if_pos (by omega)]) | (rw [if_neg (by omega), if_neg (by omega), if_neg (by omega)]))
theorem f191 (n : Int) : Fun P 191 [rI n] (rI (foldR n)) := by
  refine spec_of hT (f := 191) (fn := Go.Proofs.Tryz.f191) (c := body Go.Proofs.Tryz.f191) (by kernel_rfl) (by kernel_rfl) ?_
  conv => whnf
  repeat' (first | refine go ?_ | ((first | refine ASplit.yes rfl ?_ | refine ASplit.no rfl ?_ | refine ACond.yes rfl ?_ | refine ACond.no rfl ?_ | refine ASplit.dec (fun _ => ?_) (fun _ => ?_) | refine ASplit.ndec (fun _ => ?_) (fun _ => ?_) | refine ACond.dec (fun _ => ?_) (fun _ => ?_) | refine ACond.ndec (fun _ => ?_) (fun _ => ?_)) <;> conv => whnf))
  all_goals refine AFin.val rfl ⟨congrArg rI ?_, rfl⟩
  all_goals (unfold foldR; first | omega | (rw [if_pos (by omega), wrap_i32 (n - 97) (by omega) (by omega), wrap_i32 (n - 97 + 65) (by omega) (by omega)]; omega) | (rw [if_neg (by omega)]))
theorem f208 (n last : Int) : Spec P 208 [rI n, .ptr 0 0] [.cells 3 [nV last]] (fun r H => r = bV (okR n last) ∧ H = [.cells 3 [nV (clsF n)]]) := by
  refine spec_of hT (f := 208) (fn := Go.Proofs.Tryz.f208) (c := body Go.Proofs.Tryz.f208) (by kernel_rfl) (by kernel_rfl) ?_
  conv => whnf
  repeat' (first | refine go ?_ | ((first | refine ASplit.yes rfl ?_ | refine ASplit.no rfl ?_ | refine ACond.yes rfl ?_ | refine ACond.no rfl ?_ | refine ASplit.dec (fun _ => ?_) (fun _ => ?_) | refine ASplit.ndec (fun _ => ?_) (fun _ => ?_) | refine ACond.dec (fun _ => ?_) (fun _ => ?_) | refine ACond.ndec (fun _ => ?_) (fun _ => ?_) | refine ACall.val (by kernel_rfl) (f209 _) rfl rfl ?_) <;> conv => whnf))
  all_goals refine AFin.mk ⟨congrArg bV ?_, rfl⟩
  all_goals simp_all [okR]
theorem f190 : Spec P 190 [] [] (fun r H => r = .fn 208 [] [.ptr 0 0] ∧ H = [.cells 3 [nV 3]]) := by
  refine spec_of hT (f := 190) (fn := Go.Proofs.Tryz.f190) (c := body Go.Proofs.Tryz.f190) (by kernel_rfl) (by kernel_rfl) ?_
  conv => whnf
  repeat' (first | refine go ?_ | ((first | refine ASplit.yes rfl ?_ | refine ASplit.no rfl ?_ | refine ACond.yes rfl ?_ | refine ACond.no rfl ?_ | refine ASplit.dec (fun _ => ?_) (fun _ => ?_) | refine ASplit.ndec (fun _ => ?_) (fun _ => ?_) | refine ACond.dec (fun _ => ?_) (fun _ => ?_) | refine ACond.ndec (fun _ => ?_) (fun _ => ?_)) <;> conv => whnf))
  all_goals refine AFin.mk ⟨rfl, rfl⟩
end Go.Aw.U1

set_option linter.unusedSimpArgs false
set_option linter.unusedVariables false
set_option maxHeartbeats 2000000
namespace Go.Aw.U1
open Go Go.Proofs

theorem dec_pos (s : ByteArray) (i : Nat) : 0 < (Utf8.decode s i).2 := by
  unfold Utf8.decode
  simp only
  repeat' split
  all_goals simp
def cntT (s : ByteArray) : Nat → Nat → Int → Int
  | 0, _, k => k
  | n + 1, pos, k => if pos < s.size then cntT s n (pos + (Utf8.decode s pos).2) (k + 1) else k
theorem und9 : P.underlying 9 = some .string := by kernel_rfl
theorem und21 : P.underlying 21 = some (.int .i32) := by kernel_rfl
theorem und256 : P.underlying 256 = some (.slice 21) := by kernel_rfl
theorem f188 (s : ByteArray) (hs : s.size ≤ 9223372036854775807) : Fun P 188 [sV s] (nV (cntT s s.size 0 0)) := by
  refine spec_of hT (f := 188) (fn := Go.Proofs.Tryz.f188) (c := body Go.Proofs.Tryz.f188) (by kernel_rfl) (by kernel_rfl) ?_
  generalize hR : cntT s s.size 0 0 = R
  conv => whnf
  repeat refine go ?_
  refine AOp.rangeS und9 rfl ?_
  conv => whnf
  repeat refine go ?_
  refine ALoop.mk (fun n E H => ∃ (pos : Nat) (k : Int), 0 ≤ k ∧ k + n ≤ s.size ∧ s.size - pos ≤ n ∧ cntT s n pos k = R ∧
      E = pad [sV s, .any, nV k, .any, .ptr 0 0] 10 ∧ H = [sIt s pos]) (n := s.size) _ _
    ⟨0, 0, by omega, by omega, by omega, hR, rfl, rfl⟩ (Conv.fit (by repeat' (first | exact Fit.nil | refine Fit.any ?_ | refine Fit.same ?_))) ?_
  rintro n _ _ ⟨pos, k, hk, hkn, hpn, hI, rfl, rfl⟩
  conv => whnf
  repeat refine go ?_
  refine AOp.nextS (li := 0) (s := s) (pos := pos) rfl rfl (fun h0 => ?_) (fun h0 => ?_)
  · have hR2 : k = R := by
      rw [← hI]
      cases n with
      | zero => rfl
      | succ n => rw [cntT, if_neg h0]
    conv => whnf
    repeat refine ru ?_
    refine AOut.stay ?_
    conv => whnf
    repeat refine go ?_
    exact AFin.val rfl ⟨congrArg nV hR2, rfl⟩
  · obtain ⟨n, rfl⟩ : ∃ m, n = m + 1 := ⟨n - 1, by omega⟩
    have hw := dec_pos s pos
    rw [cntT, if_pos h0] at hI
    conv => whnf
    repeat refine ru ?_
    have w1 : IntKind.wrap .i64 (k + 1) = k + 1 := by rw [wrap_i64 _ (by omega) (by omega)]
    rw [w1]
    exact AHead.mk n _ _ (by omega) ⟨pos + (Utf8.decode s pos).2, k + 1, by omega, by omega, by omega, hI, rfl, rfl⟩ (Conv.fit (by repeat' (first | exact Fit.nil | refine Fit.any ?_ | refine Fit.same ?_)))
def sufB (s t : ByteArray) : Bool := decide (t.size ≤ s.size) && ((s.extract (s.size - t.size) s.size).toList == t.toList)
theorem f207 (s t : ByteArray) (hs : s.size ≤ 9223372036854775807) : Fun P 207 [sV s, sV t] (bV (sufB s t)) := by
  refine spec_of hT (f := 207) (fn := Go.Proofs.Tryz.f207) (c := body Go.Proofs.Tryz.f207) (by kernel_rfl) (by kernel_rfl) ?_
  unfold sufB
  conv => whnf
  repeat refine go ?_
  refine ASplit.dec (fun h => ?_) (fun h => ?_)
  · rw [decide_eq_true (show t.size ≤ s.size by omega)]
    have w1 : IntKind.wrap .i64 ((s.size : Int) - t.size) = ((s.size - t.size : Nat) : Int) := by rw [wrap_i64 _ (by omega) (by omega)]; omega
    conv => whnf
    repeat (first | refine go ?_ | (refine AReq.mk (by omega) ?_; conv => whnf))
    rw [w1]
    conv => whnf
    repeat (first | refine go ?_ | (refine AReq.mk (by omega) ?_; conv => whnf))
    exact AFin.val rfl ⟨rfl, rfl⟩
  · rw [decide_eq_false (show ¬ t.size ≤ s.size by omega)]
    conv => whnf
    repeat refine go ?_
    exact AFin.val rfl ⟨rfl, rfl⟩
theorem f189 (s t : ByteArray) (hs : s.size ≤ 9223372036854775807) : Fun P 189 [sV s, sV t] (bV (sufB s t)) := by
  refine spec_of hT (f := 189) (fn := Go.Proofs.Tryz.f189) (c := body Go.Proofs.Tryz.f189) (by kernel_rfl) (by kernel_rfl) ?_
  conv => whnf
  repeat refine go ?_
  refine ACall.val (by kernel_rfl) (f207 s t hs) rfl rfl ?_
  conv => whnf
  repeat refine go ?_
  exact AFin.val rfl ⟨rfl, rfl⟩
end Go.Aw.U1

