/-
  The tables of this seat's types: made by a program of mine (gentab.py) off the translation's type rows; each list is held against the program by one closed fact.
-/
import Derived.Test.YtgddcbpbadookaaGreatDoorProg
import Derived.Test.YtgddcbpbadookaaGreatDoorPart1
import Derived.KernelRfl
import Derived.WalkSpells
import Derived.Deep.Slices
import Derived.WideShapes
import Derived.ChangeArms
import Derived.ChangeOld
import Derived.RangeFuncIn
import Derived.RangeFuncRecord
import Derived.RangeFuncLeaves
import Derived.RangeFuncCalls
import Derived.TacticsIn
import Derived.LaidEql
namespace Go.Proofs.YtgddcbpbadookaaGreatDoor
set_option linter.unusedVariables false
set_option linter.unusedSimpArgs false
namespace X
open Go
def TB : TT := {
  agg := [(7, 4), (8, 4), (13, 2), (14, 2), (18, 1), (19, 1), (24, 5), (25, 5), (28, 11), (29, 11), (32, 3), (33, 3), (34, 2), (35, 2), (40, 2), (41, 2), (42, 2), (43, 2), (46, 2), (47, 2), (50, 3), (51, 3), (55, 4), (56, 4), (66, 5), (67, 5), (68, 5), (69, 5), (70, 3), (71, 3), (72, 3), (73, 3), (80, 15), (81, 15), (101, 5), (102, 5), (108, 3), (109, 3), (116, 7), (117, 7), (125, 5), (126, 5), (134, 4), (135, 4), (139, 6), (140, 6), (153, 2), (154, 2), (160, 2), (161, 2), (172, 3), (173, 3), (187, 2), (188, 2), (200, 1), (201, 1), (219, 15), (220, 15), (221, 5), (226, 2), (227, 2), (255, 4), (256, 4), (266, 11), (267, 11), (268, 2), (269, 2), (272, 2), (273, 2), (278, 5), (279, 5), (282, 4), (283, 4)]
  one := [(1, ()), (2, ()), (3, ()), (4, ()), (5, ()), (6, ()), (9, ()), (10, ()), (11, ()), (12, ()), (15, ()), (16, ()), (17, ()), (20, ()), (21, ()), (22, ()), (23, ()), (26, ()), (27, ()), (30, ()), (31, ()), (36, ()), (38, ()), (39, ()), (45, ()), (48, ()), (49, ()), (52, ()), (54, ()), (57, ()), (59, ()), (61, ()), (62, ()), (63, ()), (65, ()), (74, ()), (75, ()), (77, ()), (78, ()), (79, ()), (82, ()), (83, ()), (84, ()), (85, ()), (87, ()), (88, ()), (89, ()), (90, ()), (91, ()), (92, ()), (93, ()), (94, ()), (96, ()), (97, ()), (98, ()), (99, ()), (100, ()), (103, ()), (104, ()), (105, ()), (106, ()), (107, ()), (110, ()), (111, ()), (112, ()), (113, ()), (115, ()), (119, ()), (120, ()), (121, ()), (122, ()), (123, ()), (124, ()), (127, ()), (128, ()), (129, ()), (130, ()), (131, ()), (132, ()), (133, ()), (136, ()), (137, ()), (138, ()), (141, ()), (143, ()), (144, ()), (145, ()), (146, ()), (147, ()), (149, ()), (150, ()), (151, ()), (152, ()), (155, ()), (156, ()), (157, ()), (158, ()), (159, ()), (162, ()), (163, ()), (164, ()), (165, ()), (166, ()), (167, ()), (168, ()), (169, ()), (170, ()), (171, ()), (174, ()), (175, ()), (176, ()), (177, ()), (178, ()), (179, ()), (180, ()), (181, ()), (182, ()), (183, ()), (184, ()), (185, ()), (186, ()), (189, ()), (190, ()), (191, ()), (192, ()), (193, ()), (194, ()), (195, ()), (196, ()), (197, ()), (199, ()), (202, ()), (203, ()), (204, ()), (205, ()), (206, ()), (208, ()), (209, ()), (210, ()), (211, ()), (212, ()), (213, ()), (214, ()), (215, ()), (216, ()), (217, ()), (218, ()), (222, ()), (223, ()), (224, ()), (225, ()), (228, ()), (229, ()), (230, ()), (231, ()), (232, ()), (233, ()), (235, ()), (236, ()), (237, ()), (238, ()), (239, ()), (240, ()), (241, ()), (242, ()), (243, ()), (244, ()), (245, ()), (246, ()), (247, ()), (248, ()), (249, ()), (250, ()), (251, ()), (253, ()), (254, ()), (260, ()), (261, ()), (262, ()), (263, ()), (264, ()), (265, ()), (270, ()), (271, ()), (274, ()), (275, ()), (276, ()), (277, ()), (280, ()), (281, ()), (284, ())]
  fld := [(7, [(0, 1, 2), (1, 1, 3), (2, 1, 4), (3, 1, 6)]), (8, [(0, 1, 2), (1, 1, 3), (2, 1, 4), (3, 1, 6)]), (13, [(0, 1, 9), (1, 1, 12)]), (14, [(0, 1, 9), (1, 1, 12)]), (18, [(0, 1, 17)]), (19, [(0, 1, 17)]), (24, [(0, 1, 22), (1, 1, 3), (2, 1, 3), (3, 1, 3), (4, 1, 23)]), (25, [(0, 1, 22), (1, 1, 3), (2, 1, 3), (3, 1, 3), (4, 1, 23)]), (28, [(0, 5, 25), (5, 1, 26), (6, 1, 27), (7, 1, 26), (8, 1, 3), (9, 1, 3), (10, 1, 3)]), (29, [(0, 5, 25), (5, 1, 26), (6, 1, 27), (7, 1, 26), (8, 1, 3), (9, 1, 3), (10, 1, 3)]), (32, [(0, 1, 30), (1, 1, 31), (2, 1, 3)]), (33, [(0, 1, 30), (1, 1, 31), (2, 1, 3)]), (34, [(0, 1, 3), (1, 1, 3)]), (35, [(0, 1, 3), (1, 1, 3)]), (40, [(0, 1, 3), (1, 1, 26)]), (41, [(0, 1, 3), (1, 1, 26)]), (42, [(0, 1, 3), (1, 1, 3)]), (43, [(0, 1, 3), (1, 1, 3)]), (46, [(0, 1, 3), (1, 1, 26)]), (47, [(0, 1, 3), (1, 1, 26)]), (50, [(0, 1, 3), (1, 1, 3), (2, 1, 3)]), (51, [(0, 1, 3), (1, 1, 3), (2, 1, 3)]), (55, [(0, 1, 3), (1, 1, 30), (2, 1, 31), (3, 1, 52)]), (56, [(0, 1, 3), (1, 1, 30), (2, 1, 31), (3, 1, 52)]), (66, [(0, 1, 9), (1, 1, 3), (2, 1, 3), (3, 1, 3), (4, 1, 26)]), (67, [(0, 1, 9), (1, 1, 3), (2, 1, 3), (3, 1, 3), (4, 1, 26)]), (68, [(0, 1, 3), (1, 1, 3), (2, 1, 3), (3, 1, 3), (4, 1, 26)]), (69, [(0, 1, 3), (1, 1, 3), (2, 1, 3), (3, 1, 3), (4, 1, 26)]), (70, [(0, 1, 3), (1, 1, 3), (2, 1, 3)]), (71, [(0, 1, 3), (1, 1, 3), (2, 1, 3)]), (72, [(0, 1, 9), (1, 1, 3), (2, 1, 3)]), (73, [(0, 1, 9), (1, 1, 3), (2, 1, 3)]), (80, [(0, 11, 29), (11, 1, 3), (12, 1, 3), (13, 1, 3), (14, 1, 79)]), (81, [(0, 11, 29), (11, 1, 3), (12, 1, 3), (13, 1, 3), (14, 1, 79)]), (101, [(0, 1, 94), (1, 1, 3), (2, 1, 26), (3, 1, 99), (4, 1, 100)]), (102, [(0, 1, 94), (1, 1, 3), (2, 1, 26), (3, 1, 99), (4, 1, 100)]), (108, [(0, 1, 3), (1, 1, 3), (2, 1, 3)]), (109, [(0, 1, 3), (1, 1, 3), (2, 1, 3)]), (116, [(0, 2, 47), (2, 5, 69)]), (117, [(0, 2, 47), (2, 5, 69)]), (125, [(0, 1, 3), (1, 1, 3), (2, 1, 3), (3, 1, 3), (4, 1, 3)]), (126, [(0, 1, 3), (1, 1, 3), (2, 1, 3), (3, 1, 3), (4, 1, 3)]), (134, [(0, 1, 9), (1, 1, 3), (2, 1, 3), (3, 1, 3)]), (135, [(0, 1, 9), (1, 1, 3), (2, 1, 3), (3, 1, 3)]), (139, [(0, 4, 56), (4, 1, 138), (5, 1, 26)]), (140, [(0, 4, 56), (4, 1, 138), (5, 1, 26)]), (153, [(0, 1, 3), (1, 1, 36)]), (154, [(0, 1, 3), (1, 1, 36)]), (160, [(0, 1, 3), (1, 1, 3)]), (161, [(0, 1, 3), (1, 1, 3)]), (172, [(0, 1, 17), (1, 1, 170), (2, 1, 171)]), (173, [(0, 1, 17), (1, 1, 170), (2, 1, 171)]), (187, [(0, 1, 3), (1, 1, 36)]), (188, [(0, 1, 3), (1, 1, 36)]), (200, [(0, 1, 17)]), (201, [(0, 1, 17)]), (219, [(0, 5, 25), (5, 2, 47), (7, 3, 51), (10, 5, 69)]), (220, [(0, 5, 25), (5, 2, 47), (7, 3, 51), (10, 5, 69)]), (226, [(0, 1, 3), (1, 1, 3)]), (227, [(0, 1, 3), (1, 1, 3)]), (255, [(0, 1, 17), (1, 1, 17), (2, 1, 17), (3, 1, 9)]), (256, [(0, 1, 17), (1, 1, 17), (2, 1, 17), (3, 1, 9)]), (258, [(0, 0, 257)]), (259, [(0, 0, 257)]), (266, [(0, 1, 12), (1, 1, 12), (2, 1, 240), (3, 1, 261), (4, 1, 5), (5, 1, 5), (6, 1, 178), (7, 1, 262), (8, 1, 263), (9, 1, 264), (10, 1, 265)]), (267, [(0, 1, 12), (1, 1, 12), (2, 1, 240), (3, 1, 261), (4, 1, 5), (5, 1, 5), (6, 1, 178), (7, 1, 262), (8, 1, 263), (9, 1, 264), (10, 1, 265)]), (268, [(0, 1, 3), (1, 1, 3)]), (269, [(0, 1, 3), (1, 1, 3)]), (272, [(0, 1, 9), (1, 1, 178)]), (273, [(0, 1, 9), (1, 1, 178)]), (278, [(0, 1, 264), (1, 1, 277), (2, 1, 277), (3, 1, 240), (4, 1, 240)]), (279, [(0, 1, 264), (1, 1, 277), (2, 1, 277), (3, 1, 240), (4, 1, 240)]), (282, [(0, 1, 264), (1, 1, 265), (2, 1, 281), (3, 1, 281)]), (283, [(0, 1, 264), (1, 1, 265), (2, 1, 281), (3, 1, 281)])]
  sl := [(22, 43, 2), (23, 135, 4), (26, 3, 1), (27, 41, 2), (30, 73, 3), (31, 67, 5), (48, 49, 1), (49, 51, 3), (52, 26, 1), (57, 71, 3), (62, 47, 2), (63, 69, 5), (85, 126, 5), (113, 117, 7), (138, 161, 2), (212, 147, 1), (280, 283, 4)]
  zero := [(1, .nilFunc), (2, .int .i64 0), (3, .int .i64 0), (4, .bool false), (5, .int .u8 0), (6, .int .u8 0), (7, .agg #[.int .i64 0, .int .i64 0, .bool false, .int .u8 0]), (8, .agg #[.int .i64 0, .int .i64 0, .bool false, .int .u8 0]), (9, .string ByteArray.empty), (10, .string ByteArray.empty), (11, .string ByteArray.empty), (12, .int .u64 0), (13, .agg #[.string ByteArray.empty, .int .u64 0]), (14, .agg #[.string ByteArray.empty, .int .u64 0]), (15, .pointer none), (16, .pointer none), (17, .pointer none), (18, .agg #[.pointer none]), (19, .agg #[.pointer none]), (20, .nilIface), (21, .int .i32 0), (22, .slice none 0 0), (23, .slice none 0 0), (24, .agg #[.slice none 0 0, .int .i64 0, .int .i64 0, .int .i64 0, .slice none 0 0]), (25, .agg #[.slice none 0 0, .int .i64 0, .int .i64 0, .int .i64 0, .slice none 0 0]), (26, .slice none 0 0), (27, .slice none 0 0), (28, .agg #[.slice none 0 0, .int .i64 0, .int .i64 0, .int .i64 0, .slice none 0 0, .slice none 0 0, .slice none 0 0, .slice none 0 0, .int .i64 0, .int .i64 0, .int .i64 0]), (29, .agg #[.slice none 0 0, .int .i64 0, .int .i64 0, .int .i64 0, .slice none 0 0, .slice none 0 0, .slice none 0 0, .slice none 0 0, .int .i64 0, .int .i64 0, .int .i64 0]), (30, .slice none 0 0), (31, .slice none 0 0), (32, .agg #[.slice none 0 0, .slice none 0 0, .int .i64 0]), (33, .agg #[.slice none 0 0, .slice none 0 0, .int .i64 0]), (34, .agg #[.int .i64 0, .int .i64 0]), (35, .agg #[.int .i64 0, .int .i64 0]), (36, .int .i64 0), (38, .nilFunc), (39, .nilFunc), (40, .agg #[.int .i64 0, .slice none 0 0]), (41, .agg #[.int .i64 0, .slice none 0 0]), (42, .agg #[.int .i64 0, .int .i64 0]), (43, .agg #[.int .i64 0, .int .i64 0]), (45, .nilFunc), (46, .agg #[.int .i64 0, .slice none 0 0]), (47, .agg #[.int .i64 0, .slice none 0 0]), (48, .slice none 0 0), (49, .slice none 0 0), (50, .agg #[.int .i64 0, .int .i64 0, .int .i64 0]), (51, .agg #[.int .i64 0, .int .i64 0, .int .i64 0]), (52, .slice none 0 0), (54, .nilFunc), (55, .agg #[.int .i64 0, .slice none 0 0, .slice none 0 0, .slice none 0 0]), (56, .agg #[.int .i64 0, .slice none 0 0, .slice none 0 0, .slice none 0 0]), (57, .slice none 0 0), (59, .nilFunc), (61, .nilFunc), (62, .slice none 0 0), (63, .slice none 0 0), (65, .nilFunc), (66, .agg #[.string ByteArray.empty, .int .i64 0, .int .i64 0, .int .i64 0, .slice none 0 0]), (67, .agg #[.string ByteArray.empty, .int .i64 0, .int .i64 0, .int .i64 0, .slice none 0 0]), (68, .agg #[.int .i64 0, .int .i64 0, .int .i64 0, .int .i64 0, .slice none 0 0]), (69, .agg #[.int .i64 0, .int .i64 0, .int .i64 0, .int .i64 0, .slice none 0 0]), (70, .agg #[.int .i64 0, .int .i64 0, .int .i64 0]), (71, .agg #[.int .i64 0, .int .i64 0, .int .i64 0]), (72, .agg #[.string ByteArray.empty, .int .i64 0, .int .i64 0]), (73, .agg #[.string ByteArray.empty, .int .i64 0, .int .i64 0]), (74, .nilFunc), (75, .pointer none), (77, .nilFunc), (78, .nilFunc), (79, .map none), (80, .agg #[.slice none 0 0, .int .i64 0, .int .i64 0, .int .i64 0, .slice none 0 0, .slice none 0 0, .slice none 0 0, .slice none 0 0, .int .i64 0, .int .i64 0, .int .i64 0, .int .i64 0, .int .i64 0, .int .i64 0, .map none]), (81, .agg #[.slice none 0 0, .int .i64 0, .int .i64 0, .int .i64 0, .slice none 0 0, .slice none 0 0, .slice none 0 0, .slice none 0 0, .int .i64 0, .int .i64 0, .int .i64 0, .int .i64 0, .int .i64 0, .int .i64 0, .map none]), (82, .nilFunc), (83, .nilFunc), (84, .nilFunc), (85, .slice none 0 0), (87, .nilFunc), (88, .nilFunc), (89, .nilFunc), (90, .nilFunc), (91, .nilFunc), (92, .nilFunc), (93, .nilFunc), (94, .pointer none), (96, .nilFunc), (97, .pointer none), (98, .nilFunc), (99, .map none), (100, .map none), (101, .agg #[.pointer none, .int .i64 0, .slice none 0 0, .map none, .map none]), (102, .agg #[.pointer none, .int .i64 0, .slice none 0 0, .map none, .map none]), (103, .map none), (104, .nilFunc), (105, .nilFunc), (106, .nilFunc), (107, .nilFunc), (108, .agg #[.int .i64 0, .int .i64 0, .int .i64 0]), (109, .agg #[.int .i64 0, .int .i64 0, .int .i64 0]), (110, .nilFunc), (111, .nilFunc), (112, .nilFunc), (113, .slice none 0 0), (115, .nilFunc), (116, .agg #[.int .i64 0, .slice none 0 0, .int .i64 0, .int .i64 0, .int .i64 0, .int .i64 0, .slice none 0 0]), (117, .agg #[.int .i64 0, .slice none 0 0, .int .i64 0, .int .i64 0, .int .i64 0, .int .i64 0, .slice none 0 0]), (119, .nilFunc), (120, .nilFunc), (121, .nilFunc), (122, .nilFunc), (123, .nilFunc), (124, .nilFunc), (125, .agg #[.int .i64 0, .int .i64 0, .int .i64 0, .int .i64 0, .int .i64 0]), (126, .agg #[.int .i64 0, .int .i64 0, .int .i64 0, .int .i64 0, .int .i64 0]), (127, .nilFunc), (128, .nilFunc), (129, .nilFunc), (130, .nilFunc), (131, .nilFunc), (132, .nilFunc), (133, .nilFunc), (134, .agg #[.string ByteArray.empty, .int .i64 0, .int .i64 0, .int .i64 0]), (135, .agg #[.string ByteArray.empty, .int .i64 0, .int .i64 0, .int .i64 0]), (136, .nilFunc), (137, .nilFunc), (138, .slice none 0 0), (139, .agg #[.int .i64 0, .slice none 0 0, .slice none 0 0, .slice none 0 0, .slice none 0 0, .slice none 0 0]), (140, .agg #[.int .i64 0, .slice none 0 0, .slice none 0 0, .slice none 0 0, .slice none 0 0, .slice none 0 0]), (141, .map none), (143, .nilFunc), (144, .nilFunc), (145, .nilFunc), (146, .nilIface), (147, .nilIface), (149, .nilFunc), (150, .pointer none), (151, .nilFunc), (152, .pointer none), (153, .agg #[.int .i64 0, .int .i64 0]), (154, .agg #[.int .i64 0, .int .i64 0]), (155, .nilFunc), (156, .nilFunc), (157, .nilFunc), (158, .nilFunc), (159, .pointer none), (160, .agg #[.int .i64 0, .int .i64 0]), (161, .agg #[.int .i64 0, .int .i64 0]), (162, .nilFunc), (163, .nilFunc), (164, .map none), (165, .nilFunc), (166, .nilFunc), (167, .nilFunc), (168, .nilFunc), (169, .nilFunc), (170, .pointer none), (171, .int .u64 0), (172, .agg #[.pointer none, .pointer none, .int .u64 0]), (173, .agg #[.pointer none, .pointer none, .int .u64 0]), (174, .nilFunc), (175, .nilIface), (176, .nilIface), (177, .nilFunc), (178, .int .u8 0), (179, .nilFunc), (180, .nilFunc), (181, .nilFunc), (182, .pointer none), (183, .nilFunc), (184, .nilFunc), (185, .nilFunc), (186, .pointer none), (187, .agg #[.int .i64 0, .int .i64 0]), (188, .agg #[.int .i64 0, .int .i64 0]), (189, .nilFunc), (190, .nilFunc), (191, .nilFunc), (192, .nilFunc), (193, .nilFunc), (194, .nilFunc), (195, .nilFunc), (196, .nilFunc), (197, .nilFunc), (199, .nilFunc), (200, .agg #[.pointer none]), (201, .agg #[.pointer none]), (202, .pointer none), (203, .nilFunc), (204, .nilFunc), (205, .nilFunc), (206, .nilIface), (208, .nilFunc), (209, .nilIface), (210, .nilFunc), (211, .nilIface), (212, .slice none 0 0), (213, .nilFunc), (214, .map none), (215, .nilFunc), (216, .nilFunc), (217, .nilFunc), (218, .pointer none), (219, .agg #[.slice none 0 0, .int .i64 0, .int .i64 0, .int .i64 0, .slice none 0 0, .int .i64 0, .slice none 0 0, .int .i64 0, .int .i64 0, .int .i64 0, .int .i64 0, .int .i64 0, .int .i64 0, .int .i64 0, .slice none 0 0]), (220, .agg #[.slice none 0 0, .int .i64 0, .int .i64 0, .int .i64 0, .slice none 0 0, .int .i64 0, .slice none 0 0, .int .i64 0, .int .i64 0, .int .i64 0, .int .i64 0, .int .i64 0, .int .i64 0, .int .i64 0, .slice none 0 0]), (221, .agg #[.nilFunc, .nilFunc, .nilFunc, .nilFunc, .nilFunc]), (222, .nilFunc), (223, .nilFunc), (224, .nilFunc), (225, .int .u64 0), (226, .agg #[.int .i64 0, .int .i64 0]), (227, .agg #[.int .i64 0, .int .i64 0]), (228, .nilFunc), (229, .nilFunc), (230, .nilIface), (231, .nilIface), (232, .nilFunc), (233, .int .i64 0), (235, .nilFunc), (236, .nilFunc), (237, .nilFunc), (238, .nilFunc), (239, .nilFunc), (240, .int .u32 0), (241, .nilFunc), (242, .int .u64 0), (243, .nilFunc), (244, .nilFunc), (245, .int .u64 0), (246, .nilFunc), (247, .nilFunc), (248, .nilFunc), (249, .pointer none), (250, .nilFunc), (251, .pointer none), (253, .nilFunc), (254, .nilFunc), (255, .agg #[.pointer none, .pointer none, .pointer none, .string ByteArray.empty]), (256, .agg #[.pointer none, .pointer none, .pointer none, .string ByteArray.empty]), (257, .agg #[]), (258, .agg #[]), (259, .agg #[]), (260, .nilFunc), (261, .int .u8 0), (262, .nilFunc), (263, .pointer none), (264, .int .i32 0), (265, .int .i32 0), (266, .agg #[.int .u64 0, .int .u64 0, .int .u32 0, .int .u8 0, .int .u8 0, .int .u8 0, .int .u8 0, .nilFunc, .pointer none, .int .i32 0, .int .i32 0]), (267, .agg #[.int .u64 0, .int .u64 0, .int .u32 0, .int .u8 0, .int .u8 0, .int .u8 0, .int .u8 0, .nilFunc, .pointer none, .int .i32 0, .int .i32 0]), (268, .agg #[.int .i64 0, .int .i64 0]), (269, .agg #[.int .i64 0, .int .i64 0]), (270, .nilFunc), (271, .nilFunc), (272, .agg #[.string ByteArray.empty, .int .u8 0]), (273, .agg #[.string ByteArray.empty, .int .u8 0]), (274, .nilFunc), (275, .pointer none), (276, .nilFunc), (277, .int .u16 0), (278, .agg #[.int .i32 0, .int .u16 0, .int .u16 0, .int .u32 0, .int .u32 0]), (279, .agg #[.int .i32 0, .int .u16 0, .int .u16 0, .int .u32 0, .int .u32 0]), (280, .slice none 0 0), (281, .int .i32 0), (282, .agg #[.int .i32 0, .int .i32 0, .int .i32 0, .int .i32 0]), (283, .agg #[.int .i32 0, .int .i32 0, .int .i32 0, .int .i32 0]), (284, .pointer none)] }
set_option maxRecDepth 100000
theorem tok_agg : TB.agg.map (fun e => aggSize Tryz.prog e.1) = TB.agg.map (fun e => some e.2) := by kernel_rfl
theorem tok_one : TB.one.map (fun e => oneCell Tryz.prog e.1) = TB.one.map (fun e => some e.2) := by kernel_rfl
theorem tok_fld : TB.fld.map (fun e => fldOf Tryz.prog e.1) = TB.fld.map (fun e => some e.2) := by kernel_rfl
theorem tok_sl : TB.sl.map (fun e => slOf Tryz.prog e.1) = TB.sl.map (fun e => some e.2) := by kernel_rfl
theorem tok_zero : TB.zero.map (fun e => zeroOf Tryz.prog e.1) = TB.zero.map (fun e => some e.2) := by kernel_rfl
theorem tok : TOK Tryz.prog TB := ⟨tok_agg, tok_one, tok_fld, tok_sl, tok_zero⟩
def okFs : List Nat := [2, 3, 4, 5, 6, 7, 8, 9, 10, 11, 12, 13, 14, 15, 16, 17, 18, 19, 20, 21, 22, 23, 24, 25, 26, 27, 28, 29, 30, 31, 32, 33, 34, 35, 36, 37, 38, 39, 40, 41, 42, 43, 44, 45, 46, 47, 48, 49, 50, 51, 52, 53, 54, 55, 56, 57, 58, 59, 60, 61, 62, 63, 64, 65, 66, 67, 68, 69, 70, 71, 75, 76, 77, 78, 79, 80, 81, 82, 83, 84, 85, 86, 87, 88, 89, 93, 94, 95, 96, 97, 98, 99, 100, 101, 102, 103, 104, 105, 106, 107, 108, 109, 110, 111, 112, 113, 114, 115, 116, 117, 118, 119, 120, 121, 122, 123, 124, 125, 126, 127, 128, 129, 130, 164, 165, 166, 172]
theorem okFs_all : okFs.all (callOk Tryz.prog) = true := by kernel_rfl
theorem ck {f : Nat} (h : okFs.contains f = true) : callOk Tryz.prog f = true := List.all_eq_true.1 okFs_all f (by simpa using h)
theorem mixed : Tryz.prog.follows .mixedOrders = true := by kernel_rfl
end X
namespace Bs
structure Row where
  level : Int
  vol : Int
structure Pol where
  name : ByteArray
  sill : Int
  take : Int
  room : Int
structure Bas where
  rows : List Row
  leak : Int
  crest : Int
  over : Int
  pols : List Pol
structure Sta where
  vol : Int
  fil : List Int
structure Tick where
  outer : Int
  river : Int
  out : Int
structure Flo where
  river : Int
  over : Int
  leak : Int
  out : Int
  taken : List Int
def r0 : Row := ⟨0, 0⟩
def p0 : Pol := ⟨ByteArray.empty, 0, 0, 0⟩
def Bas.row (b : Bas) (i : Nat) : Row := b.rows[i]?.getD r0
def Bas.pol (b : Bas) (i : Nat) : Pol := b.pols[i]?.getD p0
def outB (n lo hi : Int) : Bool := decide (n < lo) || decide (hi < n)
theorem outB_f {n lo hi : Int} : outB n lo hi = false ↔ lo ≤ n ∧ n ≤ hi := by simp [outB]
def highB (n : Int) : Bool := outB n (-20000) 20000
def firstN (f : Nat → Int) : Nat → Option Nat
  | 0 => none
  | n + 1 => match firstN f n with
    | some i => some i
    | none => if f n = 0 then none else some n
theorem firstN_none {f : Nat → Int} {n : Nat} (h : ∀ j, j < n → f j = 0) : firstN f n = none := by
  induction n with
  | zero => rfl
  | succ n ih => simp [firstN, ih (fun j hj => h j (by omega)), h n (by omega)]
theorem firstN_some {f : Nat → Int} {n i : Nat} (hi : i < n) (h : ∀ j, j < i → f j = 0) (hf : f i ≠ 0) : firstN f n = some i := by
  induction n with
  | zero => omega
  | succ n ih =>
    by_cases e : i = n
    · subst e; simp [firstN, firstN_none h, hf]
    · simp [firstN, ih (by omega)]
theorem firstN_none_iff {f : Nat → Int} {n : Nat} (h : firstN f n = none) : ∀ j, j < n → f j = 0 := by
  induction n with
  | zero => intro j hj; omega
  | succ n ih =>
    simp only [firstN] at h
    cases hx : firstN f n with
    | some i => rw [hx] at h; cases h
    | none =>
      rw [hx] at h
      simp only at h
      intro j hj
      by_cases e : j = n
      · subst e
        by_cases hf : f j = 0
        · exact hf
        · rw [if_neg hf] at h; cases h
      · exact ih hx j (by omega)
def lowB (c : Int) : Bool := decide (97 ≤ c) && decide (c ≤ 122)
def digB (c : Int) : Bool := decide (48 ≤ c) && decide (c ≤ 57)
def bt (s : ByteArray) (i : Nat) : Int := if h : i < s.size then (s[i].toNat : Int) else 0
theorem bt_eq {s : ByteArray} {i : Nat} (h : i < s.size) : bt s i = (s[i].toNat : Int) := by simp [bt, h]
def byteOk (s : ByteArray) (i : Nat) : Bool := lowB (bt s i) || (decide (0 < i) && (decide (bt s i = 45) || digB (bt s i)))
theorem byteOk_t {s : ByteArray} {i : Nat} (h : (97 ≤ bt s i ∧ bt s i ≤ 122) ∨ (0 < i ∧ (bt s i = 45 ∨ (48 ≤ bt s i ∧ bt s i ≤ 57)))) : byteOk s i = true := by
  simp [byteOk, lowB, digB]; omega
theorem byteOk_f {s : ByteArray} {i : Nat} (h : ¬ ((97 ≤ bt s i ∧ bt s i ≤ 122) ∨ (0 < i ∧ (bt s i = 45 ∨ (48 ≤ bt s i ∧ bt s i ≤ 57))))) : byteOk s i = false := by
  rw [← Bool.not_eq_true]
  simp [byteOk, lowB, digB]; omega
def nameB (s : ByteArray) : Bool := decide (0 < s.size) && decide (s.size ≤ 24) && decide (∀ i, i < s.size → byteOk s i = true)
theorem nameB_of {s : ByteArray} (h0 : 0 < s.size) (h1 : s.size ≤ 24) (h : ∀ i, i < s.size → byteOk s i = true) : nameB s = true := by
  simp only [nameB, Bool.and_eq_true, decide_eq_true_eq]
  exact ⟨⟨h0, h1⟩, h⟩
theorem nameB_byte {s : ByteArray} {i : Nat} (hi : i < s.size) (h : byteOk s i = false) : nameB s = false := by
  cases hn : nameB s with
  | false => rfl
  | true =>
    simp only [nameB, Bool.and_eq_true, decide_eq_true_eq] at hn
    rw [hn.2 i hi] at h; cases h
theorem nameB_size {s : ByteArray} (h : ¬ (0 < s.size ∧ s.size ≤ 24)) : nameB s = false := by
  cases hn : nameB s with
  | false => rfl
  | true =>
    simp only [nameB, Bool.and_eq_true, decide_eq_true_eq] at hn
    exact absurd hn.1 h
theorem nameB_end {s : ByteArray} (h : ∀ i, i < s.size → byteOk s i = true) : nameB s = (decide (0 < s.size) && decide (s.size ≤ 24)) := by
  cases hb : (decide (0 < s.size) && decide (s.size ≤ 24)) with
  | true =>
    simp only [Bool.and_eq_true, decide_eq_true_eq] at hb
    exact nameB_of hb.1 hb.2 h
  | false =>
    refine nameB_size fun h2 => ?_
    rw [← Bool.not_eq_true] at hb
    exact hb (by simpa using h2)
theorem size_0 {s : ByteArray} : s.size = 0 ↔ s = ⟨#[]⟩ := by
  constructor
  · intro h
    apply ByteArray.ext
    apply Array.eq_empty_of_size_eq_zero
    exact h
  · intro h; subst h; rfl
section
variable (b : Bas)
def rowErr (i : Nat) : Int :=
  if highB (b.row i).level || outB (b.row i).vol 0 1000000000 then 7
  else if 0 < i ∧ ((b.row i).level ≤ (b.row (i - 1)).level ∨ (b.row i).vol ≤ (b.row (i - 1)).vol) then 2 else 0
def polErr (i : Nat) : Int :=
  if nameB (b.pol i).name = false then 6
  else if ∃ k, k < i ∧ (b.pol k).name = (b.pol i).name then 5
  else if outB (b.pol i).sill (b.row 0).level 20000 || (outB (b.pol i).take 0 10000 || outB (b.pol i).room 0 1000000000) then 7 else 0
def wideAt (rate : Int) (i : Nat) : Prop := rate * ((b.row (i + 1)).level - (b.row i).level) ≤ (b.row (i + 1)).vol - (b.row i).vol
def wide (rate : Int) : Prop := ∀ i, i + 1 < b.rows.length → wideAt b rate i
instance (rate : Int) (i : Nat) : Decidable (wideAt b rate i) := by unfold wideAt; infer_instance
def great : Nat → Int
  | 0 => b.leak
  | k + 1 => max (great k) (b.pol k).take
open Classical in
noncomputable def chk : Int × Int × Int :=
  if outB b.rows.length 2 12 then (1, 0, 3) else
  match firstN (rowErr b) b.rows.length with
  | some i => (1, i, rowErr b i)
  | none =>
    if outB b.leak 0 10000 || (outB b.over 0 10000 || highB b.crest) then (2, 0, 7) else
    if 6 < b.pols.length then (3, 0, 3) else
    match firstN (polErr b) b.pols.length with
    | some i => (3, i, polErr b i)
    | none => if wide b (great b b.pols.length) then (0, 0, 0) else (4, 0, 2)
noncomputable def chkE : Int := (chk b).2.2
end
structure Ok (b : Bas) : Prop where
  n2 : 2 ≤ b.rows.length
  n12 : b.rows.length ≤ 12
  level : ∀ i, i < b.rows.length → -20000 ≤ (b.row i).level ∧ (b.row i).level ≤ 20000
  vol : ∀ i, i < b.rows.length → 0 ≤ (b.row i).vol ∧ (b.row i).vol ≤ 1000000000
  levelUp : ∀ i, i + 1 < b.rows.length → (b.row i).level < (b.row (i + 1)).level
  volUp : ∀ i, i + 1 < b.rows.length → (b.row i).vol < (b.row (i + 1)).vol
  leak : 0 ≤ b.leak ∧ b.leak ≤ 10000
  over : 0 ≤ b.over ∧ b.over ≤ 10000
  crest : -20000 ≤ b.crest ∧ b.crest ≤ 20000
  m6 : b.pols.length ≤ 6
  name : ∀ i, i < b.pols.length → nameB (b.pol i).name = true
  names : ∀ i k, k < i → i < b.pols.length → (b.pol k).name ≠ (b.pol i).name
  sill : ∀ i, i < b.pols.length → (b.row 0).level ≤ (b.pol i).sill ∧ (b.pol i).sill ≤ 20000
  take : ∀ i, i < b.pols.length → 0 ≤ (b.pol i).take ∧ (b.pol i).take ≤ 10000
  room : ∀ i, i < b.pols.length → 0 ≤ (b.pol i).room ∧ (b.pol i).room ≤ 1000000000
  wide : wide b (great b b.pols.length)
theorem rowErr_0 {b : Bas} {i : Nat} (h : rowErr b i = 0) : (-20000 ≤ (b.row i).level ∧ (b.row i).level ≤ 20000) ∧ (0 ≤ (b.row i).vol ∧ (b.row i).vol ≤ 1000000000) ∧
    (0 < i → (b.row (i - 1)).level < (b.row i).level ∧ (b.row (i - 1)).vol < (b.row i).vol) := by
  unfold rowErr at h
  split at h
  · cases h
  · rename_i h1
    simp only [Bool.or_eq_true, not_or, Bool.not_eq_true] at h1
    split at h
    · cases h
    · rename_i h2
      refine ⟨outB_f.1 h1.1, outB_f.1 h1.2, fun hi => ?_⟩
      have : ¬ ((b.row i).level ≤ (b.row (i - 1)).level ∨ (b.row i).vol ≤ (b.row (i - 1)).vol) := fun h3 => h2 ⟨hi, h3⟩
      omega
theorem polErr_0 {b : Bas} {i : Nat} (h : polErr b i = 0) : nameB (b.pol i).name = true ∧ (∀ k, k < i → (b.pol k).name ≠ (b.pol i).name) ∧ ((b.row 0).level ≤ (b.pol i).sill ∧ (b.pol i).sill ≤ 20000) ∧
    (0 ≤ (b.pol i).take ∧ (b.pol i).take ≤ 10000) ∧ (0 ≤ (b.pol i).room ∧ (b.pol i).room ≤ 1000000000) := by
  unfold polErr at h
  split at h
  · cases h
  · rename_i h1
    split at h
    · cases h
    · rename_i h2
      split at h
      · cases h
      · rename_i h3
        simp only [Bool.or_eq_true, not_or, Bool.not_eq_true] at h3
        exact ⟨by simpa using h1, fun k hk e => h2 ⟨k, hk, e⟩, outB_f.1 h3.1, outB_f.1 h3.2.1, outB_f.1 h3.2.2⟩
theorem ok_of {b : Bas} (h : chkE b = 0) : Ok b := by
  unfold chkE chk at h
  split at h
  · cases h
  · rename_i h1
    have h1 := outB_f.1 (by simpa using h1)
    split at h
    · rename_i i hi
      exfalso
      simp only at h
      have : ∀ n, firstN (rowErr b) n = some i → rowErr b i ≠ 0 := by
        intro n
        induction n with
        | zero => intro e; cases e
        | succ n ih =>
          intro e
          simp only [firstN] at e
          split at e
          · rename_i j hj; cases e; exact ih hj
          · split at e
            · cases e
            · rename_i hf; cases e; exact hf
      exact this _ hi h
    · rename_i hr
      have hr := firstN_none_iff hr
      split at h
      · cases h
      · rename_i h2
        simp only [Bool.or_eq_true, not_or, Bool.not_eq_true] at h2
        split at h
        · cases h
        · rename_i h3
          split at h
          · rename_i i hi
            exfalso
            simp only at h
            have : ∀ n, firstN (polErr b) n = some i → polErr b i ≠ 0 := by
              intro n
              induction n with
              | zero => intro e; cases e
              | succ n ih =>
                intro e
                simp only [firstN] at e
                split at e
                · rename_i j hj; cases e; exact ih hj
                · split at e
                  · cases e
                  · rename_i hf; cases e; exact hf
            exact this _ hi h
          · rename_i hp
            have hp := firstN_none_iff hp
            split at h
            · rename_i hw
              refine ⟨by omega, by omega, fun i hi => (rowErr_0 (hr i hi)).1, fun i hi => (rowErr_0 (hr i hi)).2.1, fun i hi => ((rowErr_0 (hr (i + 1) hi)).2.2 (by omega)).1, fun i hi => ((rowErr_0 (hr (i + 1) hi)).2.2 (by omega)).2,
                outB_f.1 h2.1, outB_f.1 h2.2.1, outB_f.1 h2.2.2, by omega, fun i hi => (polErr_0 (hp i hi)).1, fun i k hk hi => (polErr_0 (hp i hi)).2.1 k hk, fun i hi => (polErr_0 (hp i hi)).2.2.1,
                fun i hi => (polErr_0 (hp i hi)).2.2.2.1, fun i hi => (polErr_0 (hp i hi)).2.2.2.2, hw⟩
            · cases h
end Bs
namespace Bs
section
variable {b : Bas}
theorem chk_len (h : outB b.rows.length 2 12 = true) : chk b = (1, 0, 3) := by unfold chk; rw [if_pos h]
theorem chk_row {i : Nat} (h : outB b.rows.length 2 12 = false) (hi : i < b.rows.length) (h0 : ∀ j, j < i → rowErr b j = 0) {e : Int} (he : rowErr b i = e) (hne : e ≠ 0) : chk b = (1, (i : Int), e) := by
  unfold chk; rw [if_neg (by simp [h]), firstN_some hi h0 (by rw [he]; exact hne)]; simp only [he]
theorem chk_2 (h : outB b.rows.length 2 12 = false) (h0 : ∀ j, j < b.rows.length → rowErr b j = 0) (h1 : (outB b.leak 0 10000 || (outB b.over 0 10000 || highB b.crest)) = true) : chk b = (2, 0, 7) := by
  unfold chk; rw [if_neg (by simp [h]), firstN_none h0]; simp only; rw [if_pos h1]
theorem chk_3 (h : outB b.rows.length 2 12 = false) (h0 : ∀ j, j < b.rows.length → rowErr b j = 0) (h1 : (outB b.leak 0 10000 || (outB b.over 0 10000 || highB b.crest)) = false) (h2 : 6 < b.pols.length) : chk b = (3, 0, 3) := by
  unfold chk; rw [if_neg (by simp [h]), firstN_none h0]; simp only; rw [if_neg (by simp [h1]), if_pos h2]
theorem chk_pol {i : Nat} (h : outB b.rows.length 2 12 = false) (h0 : ∀ j, j < b.rows.length → rowErr b j = 0) (h1 : (outB b.leak 0 10000 || (outB b.over 0 10000 || highB b.crest)) = false) (h2 : ¬ 6 < b.pols.length)
    (hi : i < b.pols.length) (h3 : ∀ j, j < i → polErr b j = 0) {e : Int} (he : polErr b i = e) (hne : e ≠ 0) : chk b = (3, (i : Int), e) := by
  unfold chk; rw [if_neg (by simp [h]), firstN_none h0]; simp only; rw [if_neg (by simp [h1]), if_neg h2, firstN_some hi h3 (by rw [he]; exact hne)]; simp only [he]
theorem chk_4 (h : outB b.rows.length 2 12 = false) (h0 : ∀ j, j < b.rows.length → rowErr b j = 0) (h1 : (outB b.leak 0 10000 || (outB b.over 0 10000 || highB b.crest)) = false) (h2 : ¬ 6 < b.pols.length)
    (h3 : ∀ j, j < b.pols.length → polErr b j = 0) (hw : ¬ wide b (great b b.pols.length)) : chk b = (4, 0, 2) := by
  unfold chk; rw [if_neg (by simp [h]), firstN_none h0]; simp only; rw [if_neg (by simp [h1]), if_neg h2, firstN_none h3]; simp only; rw [if_neg hw]
theorem chk_0 (h : outB b.rows.length 2 12 = false) (h0 : ∀ j, j < b.rows.length → rowErr b j = 0) (h1 : (outB b.leak 0 10000 || (outB b.over 0 10000 || highB b.crest)) = false) (h2 : ¬ 6 < b.pols.length)
    (h3 : ∀ j, j < b.pols.length → polErr b j = 0) (hw : wide b (great b b.pols.length)) : chk b = (0, 0, 0) := by
  unfold chk; rw [if_neg (by simp [h]), firstN_none h0]; simp only; rw [if_neg (by simp [h1]), if_neg h2, firstN_none h3]; simp only; rw [if_pos hw]
theorem rowErr_7 {i : Nat} (h : highB (b.row i).level = true ∨ outB (b.row i).vol 0 1000000000 = true) : rowErr b i = 7 := by
  unfold rowErr; rw [if_pos (by simpa using h)]
theorem rowErr_2 {i : Nat} (h1 : highB (b.row i).level = false) (h2 : outB (b.row i).vol 0 1000000000 = false) (h : 0 < i ∧ ((b.row i).level ≤ (b.row (i - 1)).level ∨ (b.row i).vol ≤ (b.row (i - 1)).vol)) : rowErr b i = 2 := by
  unfold rowErr; rw [if_neg (by simp [h1, h2]), if_pos h]
theorem rowErr_n {i : Nat} (h1 : highB (b.row i).level = false) (h2 : outB (b.row i).vol 0 1000000000 = false) (h : ¬ (0 < i ∧ ((b.row i).level ≤ (b.row (i - 1)).level ∨ (b.row i).vol ≤ (b.row (i - 1)).vol))) : rowErr b i = 0 := by
  unfold rowErr; rw [if_neg (by simp [h1, h2]), if_neg h]
theorem polErr_6 {i : Nat} (h : nameB (b.pol i).name = false) : polErr b i = 6 := by unfold polErr; rw [if_pos h]
theorem polErr_5 {i : Nat} (h : nameB (b.pol i).name = true) (k : Nat) (hk : k < i) (h2 : (b.pol k).name = (b.pol i).name) : polErr b i = 5 := by
  unfold polErr; rw [if_neg (by simp [h]), if_pos ⟨k, hk, h2⟩]
theorem polErr_7 {i : Nat} (h : nameB (b.pol i).name = true) (h2 : ∀ k, k < i → (b.pol k).name ≠ (b.pol i).name)
    (h3 : (outB (b.pol i).sill (b.row 0).level 20000 || (outB (b.pol i).take 0 10000 || outB (b.pol i).room 0 1000000000)) = true) : polErr b i = 7 := by
  unfold polErr; rw [if_neg (by simp [h]), if_neg (fun ⟨k, hk, e⟩ => h2 k hk e), if_pos h3]
theorem polErr_n {i : Nat} (h : nameB (b.pol i).name = true) (h2 : ∀ k, k < i → (b.pol k).name ≠ (b.pol i).name)
    (h3 : (outB (b.pol i).sill (b.row 0).level 20000 || (outB (b.pol i).take 0 10000 || outB (b.pol i).room 0 1000000000)) = false) : polErr b i = 0 := by
  unfold polErr; rw [if_neg (by simp [h]), if_neg (fun ⟨k, hk, e⟩ => h2 k hk e), if_neg (by simp [h3])]
end
end Bs
namespace X
open Go Go.RowKit Bs
theorem out_any (n lo hi : Int) (w : World) :
    Calls Tryz.prog 21 #[.int .i64 n, .int .i64 lo, .int .i64 hi] w fun e w' => e = .returned (.bool (outB n lo hi)) ∧ Below w.heap.size w w' := by
  refine enter Tryz.func21 rfl Tryz.ntmps21 rfl ?_; simp only [frame, Nat.zero_add, Nat.reduceAdd]
  repeat (any_goals (first | (refine M0 ?_; first | refine SL ?_ | refine SB fun _ _ => ?_ | (refine XL.split _ _ rfl (fun h => ?_) (fun h => ?_) <;> rw [h])) | (refine M1 ?_; first | refine SC ?_ | refine SD ?_ | refine XC.cond _ rfl (fun h => ?_) (fun h => ?_)) | (refine M2 ?_; refine SE ?_) | (refine M3 ?_; first | refine SG ?_ | refine SF ?_ | (refine Fw.split _ _ rfl (fun h => ?_) (fun h => ?_) <;> rw [h])) | (refine M4 ?_; refine SR ?_) | (refine M5 ?_; first | exact M7 | refine YM ?_ | refine YN ?_ ?_)))
  all_goals
    refine XE.ret1 Tryz.results21 rfl (fun w' S => ?_)
    exact ⟨by simp only [outB, h, Bool.true_or, Bool.false_or], S.toBelow⟩
theorem high_any (n : Int) (w : World) :
    Calls Tryz.prog 67 #[.int .i64 n] w fun e w' => e = .returned (.bool (highB n)) ∧ Below w.heap.size w w' := by
  refine enter Tryz.func67 rfl Tryz.ntmps67 rfl ?_; simp only [frame, Nat.zero_add, Nat.reduceAdd]
  repeat (any_goals (first | (refine M0 ?_; first | refine SL ?_ | refine SB fun _ _ => ?_ | (refine XL.split _ _ rfl (fun h => ?_) (fun h => ?_) <;> rw [h]) | refine Y4 (Ev.call (f := 21) (ck rfl) rfl (fun w _ => out_any _ _ _ w)) ?_) | (refine M1 ?_; first | refine SC ?_ | refine SD ?_ | refine XC.cond _ rfl (fun h => ?_) (fun h => ?_)) | (refine M2 ?_; refine SE ?_) | (refine M3 ?_; first | refine SG ?_ | refine SF ?_ | (refine Fw.split _ _ rfl (fun h => ?_) (fun h => ?_) <;> rw [h]) | refine YF (Ev.call (f := 21) (ck rfl) rfl (fun w _ => out_any _ _ _ w)) ?_) | (refine M4 ?_; refine SR ?_) | (refine M5 ?_; first | exact M7 | refine YM ?_ | refine YN ?_ ?_)))
  refine XE.ret1 Tryz.results67 rfl (fun w' S => ?_)
  exact ⟨rfl, S.toBelow⟩
set_option maxHeartbeats 4000000 in
theorem name_any (s : ByteArray) (hs : s.size ≤ 9223372036854775807) (w : World) :
    Calls Tryz.prog 68 #[.string s] w fun e w' => e = .returned (.bool (nameB s)) ∧ Below w.heap.size w w' := by
  refine enter Tryz.func68 rfl Tryz.ntmps68 rfl ?_; simp only [frame, Nat.zero_add, Nat.reduceAdd]
  repeat (any_goals (first | (refine M0 ?_; first | refine SL ?_ | refine SB fun _ _ => ?_ | (refine XL.split _ _ rfl (fun h => ?_) (fun h => ?_) <;> rw [h]) | refine Y4 (Ev.len_str Tryz.underlying9 rfl) ?_) | (refine M1 ?_; first | refine SC ?_ | refine SD ?_ | refine XC.cond _ rfl (fun h => ?_) (fun h => ?_)) | (refine M2 ?_; refine SE ?_) | (refine M3 ?_; first | refine SG ?_ | refine SF ?_ | (refine Fw.split _ _ rfl (fun h => ?_) (fun h => ?_) <;> rw [h]) | refine YF (Ev.len_str Tryz.underlying9 rfl) ?_) | (refine M4 ?_; refine SR ?_) | (refine M5 ?_; first | exact M7 | refine YM ?_ | refine YN ?_ ?_)))
  refine XC.loopk [0, 6] rfl (fun k : Nat => [(7, .int .i64 (k : Int))]) (fun _ => []) (fun _ => w) (fun k => k ≤ s.size ∧ ∀ i, i < k → byteOk s i = true) (fun k => s.size - k) 0 ⟨Nat.zero_le _, fun i hi => by omega⟩ (Sub.cons rfl Sub.nil) (fun _ h => h) ?_
  rintro k ⟨hk, hok⟩
  dsimp only [List.cons_append, List.nil_append]
  repeat (first | (refine M0 ?_; first | refine SL ?_ | refine SB fun _ _ => ?_) | (refine M1 ?_; first | refine SC ?_ | refine SD ?_) | (refine M2 ?_; refine SE ?_) | (refine M3 ?_; first | refine SG ?_ | refine SF ?_) | (refine M4 ?_; refine SR ?_) | (refine M5 ?_; first | exact M7 | refine YM ?_ | refine YN ?_ ?_))
  refine XC.cond _ rfl (fun h1 => ?_) (fun h1 => ?_)
  · have hlt : k < s.size := by simpa using h1
    repeat (any_goals (first | (refine M0 ?_; first | refine SL ?_ | refine SB fun _ _ => ?_ | (refine XL.split _ _ rfl (fun h => ?_) (fun h => ?_) <;> rw [h]) | refine Y4 (Ev.index_str (bt s k) Tryz.underlying9 rfl rfl hlt (bt_eq hlt)) ?_) | (refine M1 ?_; first | refine SC ?_ | refine SD ?_ | refine XC.cond _ rfl (fun h => ?_) (fun h => ?_)) | (refine M2 ?_; refine SE ?_) | (refine M3 ?_; first | refine SG ?_ | refine SF ?_ | (refine Fw.split _ _ rfl (fun h => ?_) (fun h => ?_) <;> rw [h]) | refine YF (Ev.index_str (bt s k) Tryz.underlying9 rfl rfl hlt (bt_eq hlt)) ?_) | (refine M4 ?_; refine SR ?_) | (refine M5 ?_; first | exact M7 | refine YM ?_ | refine YN ?_ ?_)))
    all_goals first
      | (refine XE.round (k + 1) ⟨hlt, fun i hi => ?_⟩ (by omega) ZZSUB (fun _ h => by first | exact h | exact h.pop (by assumption) | exact (h.pop (by assumption)).pop (by assumption) | exact ((h.pop (by assumption)).pop (by assumption)).pop (by assumption) | exact (((h.pop (by assumption)).pop (by assumption)).pop (by assumption)).pop (by assumption) | exact Sys.anchor (by assumption) h (by simp) (by simp))
         by_cases hik : i < k
         · exact hok i hik
         · obtain rfl : i = k := by omega
           exact byteOk_t (by simp only [decide_eq_true_eq, decide_eq_false_iff_not, Bool.not_eq_true', Bool.not_eq_false', Bool.not_not, Int.not_lt, Int.not_le, ne_eq, Decidable.not_not] at *; omega))
      | (refine XE.ret1 Tryz.results68 rfl (fun w' S => ?_)
         refine ⟨?_, S.toBelow⟩
         rw [nameB_byte hlt (byteOk_f (by simp only [decide_eq_true_eq, decide_eq_false_iff_not, Bool.not_eq_true', Bool.not_eq_false', Bool.not_not, Int.not_lt, Int.not_le, ne_eq, Decidable.not_not] at *; omega))])
  · have hge : k = s.size := by simp at h1; omega
    subst hge
    repeat (any_goals (first | (refine M0 ?_; first | refine SL ?_ | refine SB fun _ _ => ?_ | (refine XL.split _ _ rfl (fun h => ?_) (fun h => ?_) <;> rw [h]) | refine Y4 (Ev.len_str Tryz.underlying9 rfl) ?_ | refine Y4 (Ev.neq_str rfl rfl) ?_) | (refine M1 ?_; first | refine SC ?_ | refine SD ?_ | refine XC.cond _ rfl (fun h => ?_) (fun h => ?_)) | (refine M2 ?_; refine SE ?_) | (refine M3 ?_; first | refine SG ?_ | refine SF ?_ | (refine Fw.split _ _ rfl (fun h => ?_) (fun h => ?_) <;> rw [h]) | refine YF (Ev.len_str Tryz.underlying9 rfl) ?_ | refine YF (Ev.neq_str rfl rfl) ?_) | (refine M4 ?_; refine SR ?_) | (refine M5 ?_; first | exact M7 | refine YM ?_ | refine YN ?_ ?_)))
    all_goals
      refine XE.ret1 Tryz.results68 rfl (fun w' S => ?_)
      refine ⟨?_, S.toBelow⟩
      rw [nameB_end hok]
      congr 2
      simp only [Bool.not_eq_true', Bool.not_eq_false', decide_eq_true_eq, decide_eq_false_iff_not, ← size_0] at h
      rw [Bool.eq_iff_iff]
      simp only [Bool.and_eq_true, decide_eq_true_eq, Bool.false_eq_true, false_iff]
      omega
end X
namespace X
open Go Go.RowKit Bs
structure BV where
  A : Option Addr
  n : Nat
  c : Nat
  A2 : Option Addr
  n2 : Nat
  c2 : Nat
def basC (p : BV) (b : Bas) : List Value := [.slice p.A p.n p.c, .int .i64 b.leak, .int .i64 b.crest, .int .i64 b.over, .slice p.A2 p.n2 p.c2]
def basV (p : BV) (b : Bas) : Value := .agg ⟨basC p b⟩
def rowC (r : Row) : List Value := [.int .i64 r.level, .int .i64 r.vol]
def polC (q : Pol) : List Value := [.string q.name, .int .i64 q.sill, .int .i64 q.take, .int .i64 q.room]
theorem rowC_len (r : Row) : (rowC r).length = 2 := rfl
theorem polC_len (q : Pol) : (polC q).length = 4 := rfl
structure BasAt (w : World) (B : Nat) (p : BV) (b : Bas) : Prop where
  rows : Reads w B 2 p.A p.n (b.rows.flatMap rowC)
  pols : Reads w B 4 p.A2 p.n2 (b.pols.flatMap polC)
  cap : p.n ≤ p.c
  len : p.n ≤ 9223372036854775807
  len2 : p.n2 ≤ 9223372036854775807
  names : ∀ q, q ∈ b.pols → q.name.size ≤ 9223372036854775807
section
variable {w w' w0 : World} {B B' : Nat} {p : BV} {b : Bas} {L : Lo}
theorem BasAt.below (h : BasAt w B p b) (hb : Below B w w') : BasAt w' B p b := ⟨h.rows.below hb, h.pols.below hb, h.cap, h.len, h.len2, h.names⟩
theorem BasAt.more (h : BasAt w B p b) (hB : B ≤ B') : BasAt w B' p b := ⟨h.rows.more hB, h.pols.more hB, h.cap, h.len, h.len2, h.names⟩
theorem BasAt.sys (h : BasAt w0 B p b) (S : Sys B w0 L w) : BasAt w w.heap.size p b := (h.below S.toBelow).more (Nat.le_trans S.base S.size)
theorem BasAt.n_eq (h : BasAt w B p b) : p.n = b.rows.length := (Reads.len rowC_len (by decide) h.rows).symm
theorem BasAt.n2_eq (h : BasAt w B p b) : p.n2 = b.pols.length := (Reads.len polC_len (by decide) h.pols).symm
theorem row_some {i : Nat} (h : i < b.rows.length) : b.rows[i]? = some (b.row i) := by
  unfold Bas.row
  rw [List.getElem?_eq_getElem h]; rfl
theorem pol_some {i : Nat} (h : i < b.pols.length) : b.pols[i]? = some (b.pol i) := by
  unfold Bas.pol
  rw [List.getElem?_eq_getElem h]; rfl
theorem BasAt.row {ad : Addr} {n c : Nat} {A2 : Option Addr} {n2 c2 : Nat} (h : BasAt w B ⟨some ad, n, c, A2, n2, c2⟩ b) {i : Nat} (hi : i < b.rows.length) :
    ∀ j v, (rowC (b.row i))[j]? = some v → w.cell? ((ad.add (i * 2)).add j) = some v :=
  fun j v hj => Reads.fld rowC_len h.rows (row_some hi) hj
theorem BasAt.rowLevel {ad : Addr} {n c : Nat} {A2 : Option Addr} {n2 c2 : Nat} (h : BasAt w B ⟨some ad, n, c, A2, n2, c2⟩ b) {i : Nat} (hi : i < b.rows.length) :
    w.cell? ((ad.add (i * 2)).add 0) = some (.int .i64 (b.row i).level) := h.row hi 0 _ rfl
theorem BasAt.rowVol {ad : Addr} {n c : Nat} {A2 : Option Addr} {n2 c2 : Nat} (h : BasAt w B ⟨some ad, n, c, A2, n2, c2⟩ b) {i : Nat} (hi : i < b.rows.length) :
    w.cell? ((ad.add (i * 2)).add 1) = some (.int .i64 (b.row i).vol) := h.row hi 1 _ rfl
theorem BasAt.pol {ad : Addr} {A : Option Addr} {n c n2 c2 : Nat} (h : BasAt w B ⟨A, n, c, some ad, n2, c2⟩ b) {i : Nat} (hi : i < b.pols.length) :
    ∀ j v, (polC (b.pol i))[j]? = some v → w.cell? ((ad.add (i * 4)).add j) = some v :=
  fun j v hj => Reads.fld polC_len h.pols (pol_some hi) hj
theorem BasAt.name (h : BasAt w B p b) {i : Nat} (hi : i < b.pols.length) : (b.pol i).name.size ≤ 9223372036854775807 := h.names _ (List.mem_of_getElem? (pol_some hi))
end
def nameKV (b : Bas) : Nat → List (ByteArray × Value)
  | 0 => []
  | k + 1 => nameKV b k ++ [((b.pol k).name, .bool true)]
theorem findS_push (kvs : List (ByteArray × Value)) (k s : ByteArray) (v : Value) : findS (kvs ++ [(k, v)]) s = match findS kvs s with
    | some u => some u
    | none => if s = k then some v else none := by
  unfold findS
  rw [List.find?_append]
  cases h : kvs.find? fun e => decide (s = e.1) with
  | some u => simp
  | none => by_cases hs : s = k <;> simp [hs]
theorem findS_none {b : Bas} {s : ByteArray} : ∀ {k : Nat}, (∀ j, j < k → (b.pol j).name ≠ s) → findS (nameKV b k) s = none := by
  intro k
  induction k with
  | zero => intro _; rfl
  | succ k ih =>
    intro h
    rw [nameKV, findS_push, ih fun j hj => h j (by omega)]
    simp only
    rw [if_neg fun e => h k (by omega) e.symm]
theorem findS_some {b : Bas} {s : ByteArray} : ∀ {k : Nat}, (∃ j, j < k ∧ (b.pol j).name = s) → findS (nameKV b k) s = some (.bool true) := by
  intro k
  induction k with
  | zero => rintro ⟨j, hj, _⟩; omega
  | succ k ih =>
    rintro ⟨j, hj, e⟩
    rw [nameKV, findS_push]
    by_cases h : ∃ j, j < k ∧ (b.pol j).name = s
    · rw [ih h]
    · rw [findS_none fun i hi e2 => h ⟨i, hi, e2⟩]
      have : j = k := by
        rcases Nat.lt_or_ge j k with h1 | h1
        · exact absurd ⟨j, h1, e⟩ h
        · omega
      subst this
      simp [e]
def seenB (b : Bas) (k : Nat) (s : ByteArray) : Bool := (b.pols.take k).any fun q => decide (q.name = s)
open Classical in
theorem seen_iff {b : Bas} {k : Nat} {s : ByteArray} (hk : k ≤ b.pols.length) : seenB b k s = true ↔ ∃ j, j < k ∧ (b.pol j).name = s := by
  unfold seenB
  rw [List.any_eq_true]
  constructor
  · rintro ⟨q, hq, e⟩
    obtain ⟨j, hj, rfl⟩ := List.mem_iff_getElem.1 hq
    have hj' : j < k := by simp at hj; omega
    refine ⟨j, hj', ?_⟩
    have hl : j < b.pols.length := by omega
    rw [List.getElem_take] at e
    unfold Bas.pol
    rw [List.getElem?_eq_getElem hl]
    simpa using e
  · rintro ⟨j, hj, e⟩
    have hl : j < b.pols.length := by omega
    refine ⟨b.pol j, List.mem_iff_getElem.2 ⟨j, by simp; omega, ?_⟩, by simpa using e⟩
    rw [List.getElem_take]
    unfold Bas.pol
    rw [List.getElem?_eq_getElem hl]; rfl
theorem seen_look {b : Bas} {k : Nat} {s : ByteArray} (hk : k ≤ b.pols.length) : (findS (nameKV b k) s).getD (.bool false) = .bool (seenB b k s) := by
  by_cases h : ∃ j, j < k ∧ (b.pol j).name = s
  · rw [findS_some h, (seen_iff hk).2 h]; rfl
  · rw [findS_none fun j hj e => h ⟨j, hj, e⟩, Bool.eq_false_iff.2 fun e => h ((seen_iff hk).1 e)]; rfl
theorem BasAt.row1 {w : World} {B : Nat} {b : Bas} {ad : Addr} {n c : Nat} {A2 : Option Addr} {n2 c2 : Nat} (h : BasAt w B ⟨some ad, n, c, A2, n2, c2⟩ b) {i : Nat} (hi : i + 1 < b.rows.length) :
    ∀ j v, (rowC (b.row (i + 1)))[j]? = some v → w.cell? (((ad.add (1 * 2)).add (i * 2)).add j) = some v := fun j v hj => by
  have := h.row hi j v hj
  rwa [add_add ad, show 1 * 2 + i * 2 = (i + 1) * 2 from by omega]
theorem mul_in {x y X Y : Int} (hx : -X ≤ x ∧ x ≤ X) (hy : -Y ≤ y ∧ y ≤ Y) (h : X * Y ≤ 9223372036854775807) : i64in (x * y) := by
  have h1 : x.natAbs * y.natAbs ≤ X.toNat * Y.toNat := Nat.mul_le_mul (by omega) (by omega)
  rw [← Int.natAbs_mul] at h1
  have h2 : ((X.toNat * Y.toNat : Nat) : Int) = X * Y := by rw [Int.natCast_mul, Int.toNat_of_nonneg (by omega), Int.toNat_of_nonneg (by omega)]
  unfold i64in
  omega
theorem great_in {b : Bas} (h : 0 ≤ b.leak ∧ b.leak ≤ 10000) : ∀ k, (∀ j, j < k → 0 ≤ (b.pol j).take ∧ (b.pol j).take ≤ 10000) → 0 ≤ great b k ∧ great b k ≤ 10000 := by
  intro k
  induction k with
  | zero => intro _; exact h
  | succ k ih =>
    intro hk
    have h1 := ih fun j hj => hk j (by omega)
    have h2 := hk k (by omega)
    simp only [great]
    omega
end X
namespace X
open Go Go.RowKit Bs
noncomputable def chkV (b : Bas) : Value := .tuple ⟨[.int .i64 (chk b).1, .int .i64 (chk b).2.1, .int .i64 (chk b).2.2]⟩
theorem chkV_of {b : Bas} {x y z : Int} (h : chk b = (x, y, z)) : Ending.returned (.tuple #[.int .i64 x, .int .i64 y, .int .i64 z]) = .returned (chkV b) := by unfold chkV; rw [h]
set_option maxHeartbeats 4000000 in
theorem check_any (p : BV) (b : Bas) (w : World) (hb : BasAt w w.heap.size p b) :
    Calls Tryz.prog 45 #[basV p b] w fun e w' => e = .returned (chkV b) ∧ Below w.heap.size w w' := by
  obtain ⟨A, n, c, A2, n2, c2⟩ := p
  have hn := hb.n_eq
  have hn2 := hb.n2_eq
  simp only at hn hn2
  subst hn hn2
  simp only [basV, basC]
  refine enter Tryz.func45 rfl Tryz.ntmps45 rfl ?_; simp only [frame, Nat.zero_add, Nat.reduceAdd]
  repeat (first | (refine M0 ?_; first | refine SL ?_ | refine SB fun _ _ => ?_ | refine Y4 (Ev.call (f := 21) (ck rfl) rfl (fun w _ => out_any _ _ _ w)) ?_) | (refine M1 ?_; first | refine SC ?_ | refine SD ?_) | (refine M2 ?_; refine SE ?_) | (refine M3 ?_; first | refine SG ?_ | refine SF ?_ | refine YF (Ev.call (f := 21) (ck rfl) rfl (fun w _ => out_any _ _ _ w)) ?_) | (refine M4 ?_; refine SR ?_) | (refine M5 ?_; first | exact M7 | refine YM ?_ | refine YN ?_ ?_))
  refine XC.cond _ rfl (fun h0 => ?_) (fun h0 => ?_)
  · repeat (first | (refine M0 ?_; first | refine SL ?_ | refine SB fun _ _ => ?_) | (refine M1 ?_; first | refine SC ?_ | refine SD ?_) | (refine M2 ?_; refine SE ?_) | (refine M3 ?_; first | refine SG ?_ | refine SF ?_) | (refine M4 ?_; refine SR ?_) | (refine M5 ?_; first | exact M7 | refine YM ?_ | refine YN ?_ ?_))
    refine XE.ret3 Tryz.results45 rfl rfl rfl (fun w' S => ?_)
    exact ⟨chkV_of (chk_len h0), S.toBelow⟩
  have hlen := outB_f.1 h0
  obtain ⟨ad, rfl, hlt⟩ := hb.rows.addr (by simp only; omega)
  repeat (first | (refine M0 ?_; first | refine SL ?_ | refine SB fun _ _ => ?_) | (refine M1 ?_; first | refine SC ?_ | refine SD ?_) | (refine M2 ?_; refine SE ?_) | (refine M3 ?_; first | refine SG ?_ | refine SF ?_) | (refine M4 ?_; refine SR ?_) | (refine M5 ?_; first | exact M7 | refine YM ?_ | refine YN ?_ ?_))
  rename_i g0 hg0
  refine XC.loopk [1, 19, 20] rfl (fun k : Nat => [(21, .int .i64 (k : Int))]) (fun _ => _) (fun _ => w) (fun k => k ≤ b.rows.length ∧ ∀ j, j < k → rowErr b j = 0) (fun k => b.rows.length - k) 0 ⟨Nat.zero_le _, fun i hi => by omega⟩ ZZSUB (fun _ h => h) ?_
  rintro k ⟨hk, hok⟩
  dsimp only [List.cons_append, List.nil_append]
  repeat (first | (refine M0 ?_; first | refine SL ?_ | refine SB fun _ _ => ?_) | (refine M1 ?_; first | refine SC ?_ | refine SD ?_) | (refine M2 ?_; refine SE ?_) | (refine M3 ?_; first | refine SG ?_ | refine SF ?_) | (refine M4 ?_; refine SR ?_) | (refine M5 ?_; first | exact M7 | refine YM ?_ | refine YN ?_ ?_))
  refine XC.cond _ rfl (fun h1 => ?_) (fun h1 => ?_)
  · have hlk : k < b.rows.length := by simpa using h1
    have hk1 : 0 < k → w.cell? ((ad.add (((k : Int) - 1).toNat * 2)).add 0) = some (.int .i64 (b.row (k - 1)).level) ∧ w.cell? ((ad.add (((k : Int) - 1).toNat * 2)).add 1) = some (.int .i64 (b.row (k - 1)).vol) := fun h => by
      have e1 : ((k : Int) - 1).toNat = k - 1 := by omega
      rw [e1]
      exact ⟨hb.rowLevel (by omega), hb.rowVol (by omega)⟩
    repeat (any_goals (first | (refine M0 ?_; first | refine SL ?_ | refine SB fun _ _ => ?_ | (refine XL.split _ _ rfl (fun h => ?_) (fun h => ?_) <;> rw [h]) | refine Y4 (Ev.load_old_agg tok (rowC (b.row k)) rfl rfl rfl (add_lt hlt) (hb.row hlk)) ?_ | refine Y4 (Ev.call (f := 21) (ck rfl) rfl (fun w _ => out_any _ _ _ w)) ?_ | refine Y4 (Ev.call (f := 67) (ck rfl) rfl (fun w _ => high_any _ w)) ?_ | refine Y4 (Ev.load_old tok rfl rfl (add_lt2 hlt) (hk1 (by simp only [decide_eq_true_eq] at *; omega)).1) ?_ | refine Y4 (Ev.load_old tok rfl rfl (add_lt2 hlt) (hk1 (by simp only [decide_eq_true_eq] at *; omega)).2) ?_) | (refine M1 ?_; first | refine SC ?_ | refine SD ?_ | refine XC.cond _ rfl (fun h => ?_) (fun h => ?_)) | (refine M2 ?_; refine SE ?_) | (refine M3 ?_; first | refine SG ?_ | refine SF ?_ | (refine Fw.split _ _ rfl (fun h => ?_) (fun h => ?_) <;> rw [h]) | refine YF (Ev.load_old_agg tok (rowC (b.row k)) rfl rfl rfl (add_lt hlt) (hb.row hlk)) ?_ | refine YF (Ev.call (f := 21) (ck rfl) rfl (fun w _ => out_any _ _ _ w)) ?_ | refine YF (Ev.call (f := 67) (ck rfl) rfl (fun w _ => high_any _ w)) ?_ | refine YF (Ev.load_old tok rfl rfl (add_lt2 hlt) (hk1 (by simp only [decide_eq_true_eq] at *; omega)).1) ?_ | refine YF (Ev.load_old tok rfl rfl (add_lt2 hlt) (hk1 (by simp only [decide_eq_true_eq] at *; omega)).2) ?_) | (refine M4 ?_; refine SR ?_) | (refine M5 ?_; first | exact M7 | refine YM ?_ | refine YN ?_ ?_)))
    all_goals first
      | (refine XE.round (k + 1) ⟨hlk, fun j hj => ?_⟩ (by omega) ZZSUB (fun _ h => by first | exact h | exact h.pop (by assumption) | exact (h.pop (by assumption)).pop (by assumption) | exact ((h.pop (by assumption)).pop (by assumption)).pop (by assumption) | exact (((h.pop (by assumption)).pop (by assumption)).pop (by assumption)).pop (by assumption) | exact Sys.anchor (by assumption) h (by simp) (by simp))
         rcases Nat.lt_succ_iff_lt_or_eq.1 hj with hj | rfl
         · exact hok j hj
         · exact rowErr_n (by assumption) (by assumption) (by simp only [decide_eq_true_eq, decide_eq_false_iff_not, Bool.not_eq_true', Bool.not_eq_false', Bool.not_not, Int.not_lt, Int.not_le, ne_eq, Decidable.not_not] at *; omega))
      | (refine XE.ret3 Tryz.results45 rfl rfl rfl (fun w' S => ?_)
         refine ⟨chkV_of (chk_row h0 hlk hok ?_ (by decide)), S.toBelow⟩
         first
           | exact rowErr_7 (.inl (by assumption))
           | exact rowErr_7 (.inr (by assumption))
           | exact rowErr_2 (by assumption) (by assumption) (by simp only [decide_eq_true_eq, decide_eq_false_iff_not, Bool.not_eq_true', Bool.not_eq_false', Bool.not_not, Int.not_lt, Int.not_le, ne_eq, Decidable.not_not] at *; omega))
  have hge : k = b.rows.length := by simp at h1; omega
  subst hge
  repeat (any_goals (first | (refine M0 ?_; first | refine SL ?_ | refine SB fun _ _ => ?_ | (refine XL.split _ _ rfl (fun h => ?_) (fun h => ?_) <;> rw [h]) | refine Y4 (Ev.call (f := 21) (ck rfl) rfl (fun w _ => out_any _ _ _ w)) ?_ | refine Y4 (Ev.call (f := 67) (ck rfl) rfl (fun w _ => high_any _ w)) ?_) | (refine M1 ?_; first | refine SC ?_ | refine SD ?_ | refine XC.cond _ rfl (fun h => ?_) (fun h => ?_)) | (refine M2 ?_; refine SE ?_) | (refine M3 ?_; first | refine SG ?_ | refine SF ?_ | (refine Fw.split _ _ rfl (fun h => ?_) (fun h => ?_) <;> rw [h]) | refine YF (Ev.call (f := 21) (ck rfl) rfl (fun w _ => out_any _ _ _ w)) ?_ | refine YF (Ev.call (f := 67) (ck rfl) rfl (fun w _ => high_any _ w)) ?_) | (refine M4 ?_; refine SR ?_) | (refine M5 ?_; first | exact M7 | refine YM ?_ | refine YN ?_ ?_)))
  all_goals try (refine XE.ret3 Tryz.results45 rfl rfl rfl (fun w' S => ?_)
                 refine ⟨chkV_of ?_, S.toBelow⟩
                 first
                   | exact chk_2 h0 hok (by simp [*])
                   | exact chk_3 h0 hok (by simp [*]) (by have h6 := ‹decide (6 < (b.pols.length : Int)) = true›; simp only [decide_eq_true_eq] at h6; omega))
  have hc1 : (outB b.leak 0 10000 || (outB b.over 0 10000 || highB b.crest)) = false := by simp [*]
  have hlk := outB_f.1 ‹outB b.leak 0 10000 = false›
  have h6 : ¬ 6 < b.pols.length := by rename_i h; simp only [decide_eq_false_iff_not] at h; omega
  refine XL.makeMap rfl fun gm hgm => ?_
  repeat (first | (refine M0 ?_; first | refine SL ?_ | refine SB fun _ _ => ?_) | (refine M1 ?_; first | refine SC ?_ | refine SD ?_) | (refine M2 ?_; refine SE ?_) | (refine M3 ?_; first | refine SG ?_ | refine SF ?_) | (refine M4 ?_; refine SR ?_) | (refine M5 ?_; first | exact M7 | refine YM ?_ | refine YN ?_ ?_))
  have hrow := fun j (hj : j < b.rows.length) => rowErr_0 (hok j hj)
  have hmap := Tryz.underlying164
  have hstr := Tryz.underlying9
  refine XC.loopk [1, 7, 88, 89] rfl (fun k : Nat => [(8, .int .i64 (great b k)), (90, .int .i64 (k : Int))]) (fun k => [(gm, mapS (nameKV b k)), _]) (fun _ => w) (fun k => k ≤ b.pols.length ∧ ∀ j, j < k → polErr b j = 0) (fun k => b.pols.length - k) 0 ⟨Nat.zero_le _, fun i hi => by omega⟩ ZZSUB (fun _ h => h) ?_
  rintro k ⟨hk, hpk⟩
  dsimp only [List.cons_append, List.nil_append]
  repeat (first | (refine M0 ?_; first | refine SL ?_ | refine SB fun _ _ => ?_) | (refine M1 ?_; first | refine SC ?_ | refine SD ?_) | (refine M2 ?_; refine SE ?_) | (refine M3 ?_; first | refine SG ?_ | refine SF ?_) | (refine M4 ?_; refine SR ?_) | (refine M5 ?_; first | exact M7 | refine YM ?_ | refine YN ?_ ?_))
  refine XC.cond _ rfl (fun h1 => ?_) (fun h1 => ?_)
  · have hkm : k < b.pols.length := by simpa using h1
    obtain ⟨ad2, rfl, hlt2⟩ := hb.pols.addr (by simp only; omega)
    repeat (any_goals (first | (refine M0 ?_; first | refine SL ?_ | refine SB fun _ _ => ?_ | (refine XL.split _ _ rfl (fun h => ?_) (fun h => ?_) <;> rw [h]) | refine Y4 (Ev.load_old_agg tok (polC (b.pol k)) rfl rfl rfl (add_lt hlt2) (hb.pol hkm)) ?_ | refine Y4 (Ev.call (f := 68) (ck rfl) rfl (fun w _ => name_any _ (hb.name hkm) w)) ?_ | refine Y4 (Ev.call (f := 21) (ck rfl) rfl (fun w _ => out_any _ _ _ w)) ?_ | refine Y4 (Ev.load_old tok rfl rfl (add_lt2 hlt) (hb.rowLevel (i := 0) (by omega))) ?_ | refine Y4 (Ev.lookupV tok 1 (nameKV b k) rfl rfl rfl hmap hstr rfl (seen_look hk)) ?_) | (refine M1 ?_; first | refine SC ?_ | refine SD ?_ | refine XC.cond _ rfl (fun h => ?_) (fun h => ?_)) | (refine M2 ?_; refine SE ?_) | (refine M3 ?_; first | refine SG ?_ | refine SF ?_ | (refine Fw.split _ _ rfl (fun h => ?_) (fun h => ?_) <;> rw [h]) | refine YF (Ev.load_old_agg tok (polC (b.pol k)) rfl rfl rfl (add_lt hlt2) (hb.pol hkm)) ?_ | refine YF (Ev.call (f := 68) (ck rfl) rfl (fun w _ => name_any _ (hb.name hkm) w)) ?_ | refine YF (Ev.call (f := 21) (ck rfl) rfl (fun w _ => out_any _ _ _ w)) ?_ | refine YF (Ev.load_old tok rfl rfl (add_lt2 hlt) (hb.rowLevel (i := 0) (by omega))) ?_ | refine YF (Ev.lookupV tok 1 (nameKV b k) rfl rfl rfl hmap hstr rfl (seen_look hk)) ?_) | (refine M4 ?_; refine SR ?_) | (refine M5 ?_; first | exact M7 | refine YM ?_ | refine YN ?_ ?_)))
    all_goals try (refine XE.ret3 Tryz.results45 rfl rfl rfl (fun w' S => ?_)
                   refine ⟨chkV_of (chk_pol h0 hok hc1 h6 hkm hpk ?_ (by decide)), S.toBelow⟩)
    · exact polErr_6 (by simpa using h)
    · rename_i h2
      obtain ⟨j, hj, e⟩ := (seen_iff hk).1 h
      exact polErr_5 (by simpa using h2) j hj e
    · rename_i h2 h3
      exact polErr_7 (by simpa using h2) (fun j hj e => by rw [(seen_iff hk).2 ⟨j, hj, e⟩] at h3; cases h3) (by simp [h])
    · rename_i h2 h3 _
      exact polErr_7 (by simpa using h2) (fun j hj e => by rw [(seen_iff hk).2 ⟨j, hj, e⟩] at h3; cases h3) (by simp [h])
    · rename_i h2 h3 _ _
      exact polErr_7 (by simpa using h2) (fun j hj e => by rw [(seen_iff hk).2 ⟨j, hj, e⟩] at h3; cases h3) (by simp [h])
    rename_i hx1 hx2 hx3 hx4
    have hfr : ∀ j, j < k → (b.pol j).name ≠ (b.pol k).name := fun j hj e => by
      have := (seen_iff hk).2 ⟨j, hj, e⟩
      rw [this] at hx2; cases hx2
    refine XL.updateS 1 (nameKV b k) rfl rfl rfl rfl hmap hstr (findS_none hfr) rfl ?_
    repeat (first | (refine M0 ?_; first | refine SL ?_ | refine SB fun _ _ => ?_) | (refine M1 ?_; first | refine SC ?_ | refine SD ?_) | (refine M2 ?_; refine SE ?_) | (refine M3 ?_; first | refine SG ?_ | refine SF ?_) | (refine M4 ?_; refine SR ?_) | (refine M5 ?_; first | exact M7 | refine YM ?_ | refine YN ?_ ?_))
    refine XE.round (k + 1) ⟨hkm, fun j hj => ?_⟩ (by omega) ZZSUB (fun _ h => by first | exact h | exact h.pop (by assumption) | exact (h.pop (by assumption)).pop (by assumption) | exact ((h.pop (by assumption)).pop (by assumption)).pop (by assumption) | exact (((h.pop (by assumption)).pop (by assumption)).pop (by assumption)).pop (by assumption) | exact Sys.anchor (by assumption) h (by simp) (by simp))
    rcases Nat.lt_succ_iff_lt_or_eq.1 hj with hj | rfl
    · exact hpk j hj
    · exact polErr_n (by simpa using hx1) hfr (by simp [hx3, hx4, h])
  have hge : k = b.pols.length := by simp at h1; omega
  subst hge
  have hpol := fun j (hj : j < b.pols.length) => polErr_0 (hpk j hj)
  have hgr := great_in hlk b.pols.length fun j hj => (hpol j hj).2.2.2.1
  refine XC.keep [1, 8] rfl ?_
  repeat (first | (refine M0 ?_; first | refine SL ?_ | refine SB fun _ _ => ?_ | refine Y4 (Ev.slice_lo tok 1 rfl rfl rfl rfl (by omega) (by have := hb.cap; simp only at this; omega)) ?_) | (refine M1 ?_; first | refine SC ?_ | refine SD ?_) | (refine M2 ?_; refine SE ?_) | (refine M3 ?_; first | refine SG ?_ | refine SF ?_ | refine YF (Ev.slice_lo tok 1 rfl rfl rfl rfl (by omega) (by have := hb.cap; simp only at this; omega)) ?_) | (refine M4 ?_; refine SR ?_) | (refine M5 ?_; first | exact M7 | refine YM ?_ | refine YN ?_ ?_))
  refine XC.loopk [1, 8, 137, 138] rfl (fun k : Nat => [(139, .int .i64 (k : Int))]) (fun k => _) (fun _ => w) (fun k => k ≤ b.rows.length - 1 ∧ ∀ j, j < k → wideAt b (great b b.pols.length) j) (fun k => b.rows.length - 1 - k) 0 ⟨Nat.zero_le _, fun i hi => by omega⟩ ZZSUB (fun _ h => h) ?_
  rintro k ⟨hk, hwk⟩
  dsimp only [List.cons_append, List.nil_append]
  repeat (first | (refine M0 ?_; first | refine SL ?_ | refine SB fun _ _ => ?_) | (refine M1 ?_; first | refine SC ?_ | refine SD ?_) | (refine M2 ?_; refine SE ?_) | (refine M3 ?_; first | refine SG ?_ | refine SF ?_) | (refine M4 ?_; refine SR ?_) | (refine M5 ?_; first | exact M7 | refine YM ?_ | refine YN ?_ ?_))
  refine XC.cond _ rfl (fun h1 => ?_) (fun h1 => ?_)
  · have hkn : k + 1 < b.rows.length := by simp only [decide_eq_true_eq] at h1; omega
    have r1 := hrow k (by omega)
    have r2 := hrow (k + 1) hkn
    have hm := mul_in (x := great b b.pols.length) (y := (b.row (k + 1)).level - (b.row k).level) (X := 10000) (Y := 40000) (by omega) (by omega) (by omega)
    repeat (any_goals (first | (refine M0 ?_; first | refine SL ?_ | refine SB fun _ _ => ?_ | (refine XL.split _ _ rfl (fun h => ?_) (fun h => ?_) <;> rw [h]) | refine Y4 (Ev.load_old_agg tok (rowC (b.row (k + 1))) rfl rfl rfl (add_lt2 hlt) (hb.row1 hkn)) ?_ | refine Y4 (Ev.load_old_agg tok (rowC (b.row k)) rfl rfl rfl (add_lt hlt) (hb.row (by omega))) ?_) | (refine M1 ?_; first | refine SC ?_ | refine SD ?_ | refine XC.cond _ rfl (fun h => ?_) (fun h => ?_)) | (refine M2 ?_; refine SE ?_) | (refine M3 ?_; first | refine SG ?_ | refine SF ?_ | (refine Fw.split _ _ rfl (fun h => ?_) (fun h => ?_) <;> rw [h]) | refine YF (Ev.load_old_agg tok (rowC (b.row (k + 1))) rfl rfl rfl (add_lt2 hlt) (hb.row1 hkn)) ?_ | refine YF (Ev.load_old_agg tok (rowC (b.row k)) rfl rfl rfl (add_lt hlt) (hb.row (by omega))) ?_) | (refine M4 ?_; refine SR ?_) | (refine M5 ?_; first | exact M7 | refine YM ?_ | refine YN ?_ ?_)))
    · refine XE.ret3 Tryz.results45 rfl rfl rfl (fun w' S => ?_)
      refine ⟨chkV_of (chk_4 h0 hok hc1 h6 hpk fun hw => ?_), S.toBelow⟩
      have := hw k hkn
      unfold wideAt at this
      rename_i h
      simp only [decide_eq_true_eq] at h
      omega
    · refine XE.round (k + 1) ⟨by omega, fun j hj => ?_⟩ (by omega) ZZSUB (fun _ h => by first | exact h | exact h.pop (by assumption) | exact (h.pop (by assumption)).pop (by assumption) | exact ((h.pop (by assumption)).pop (by assumption)).pop (by assumption) | exact (((h.pop (by assumption)).pop (by assumption)).pop (by assumption)).pop (by assumption) | exact Sys.anchor (by assumption) h (by simp) (by simp))
      rcases Nat.lt_succ_iff_lt_or_eq.1 hj with hj | rfl
      · exact hwk j hj
      · rename_i h _
        simp only [decide_eq_false_iff_not] at h
        unfold wideAt
        omega
  · have hge : k = b.rows.length - 1 := by simp only [decide_eq_false_iff_not] at h1; omega
    subst hge
    repeat (first | (refine M0 ?_; first | refine SL ?_ | refine SB fun _ _ => ?_) | (refine M1 ?_; first | refine SC ?_ | refine SD ?_) | (refine M2 ?_; refine SE ?_) | (refine M3 ?_; first | refine SG ?_ | refine SF ?_) | (refine M4 ?_; refine SR ?_) | (refine M5 ?_; first | exact M7 | refine YM ?_ | refine YN ?_ ?_))
    refine XE.ret3 Tryz.results45 rfl rfl rfl (fun w' S => ?_)
    exact ⟨chkV_of (chk_0 h0 hok hc1 h6 hpk fun j hj => hwk j (by omega)), S.toBelow⟩
end X
namespace Bs
structure RowsOk (b : Bas) : Prop where
  n2 : 2 ≤ b.rows.length
  n12 : b.rows.length ≤ 12
  level : ∀ i, i < b.rows.length → -20000 ≤ (b.row i).level ∧ (b.row i).level ≤ 20000
  vol : ∀ i, i < b.rows.length → 0 ≤ (b.row i).vol ∧ (b.row i).vol ≤ 1000000000
  levelUp : ∀ i, i + 1 < b.rows.length → (b.row i).level < (b.row (i + 1)).level
  volUp : ∀ i, i + 1 < b.rows.length → (b.row i).vol < (b.row (i + 1)).vol
theorem Ok.rowsOk {b : Bas} (h : Ok b) : RowsOk b := ⟨h.n2, h.n12, h.level, h.vol, h.levelUp, h.volUp⟩
theorem RowsOk.lt {b : Bas} (h : RowsOk b) {i : Nat} : ∀ {j : Nat}, i < j → j < b.rows.length → (b.row i).vol < (b.row j).vol ∧ (b.row i).level < (b.row j).level := by
  intro j
  induction j with
  | zero => intro h; omega
  | succ j ih =>
    intro hij hj
    have h1 := h.volUp j hj
    have h2 := h.levelUp j hj
    by_cases e : i = j
    · subst e; exact ⟨h1, h2⟩
    · have := ih (by omega) (by omega); omega
def cntTo (b : Bas) (v : Int) : Nat → Nat
  | 0 => 0
  | k + 1 => if (b.row k).vol < v then k + 1 else cntTo b v k
theorem cntTo_eq {b : Bas} {v : Int} {i : Nat} : ∀ {n : Nat}, i ≤ n → (∀ j, j < i → (b.row j).vol < v) → (∀ j, i ≤ j → j < n → v ≤ (b.row j).vol) → cntTo b v n = i := by
  intro n
  induction n with
  | zero => intro h _ _; simp [cntTo]; omega
  | succ n ih =>
    intro h h1 h2
    unfold cntTo
    by_cases e : i = n + 1
    · rw [if_pos (h1 n (by omega))]; omega
    · have := h2 n (by omega) (by omega)
      rw [if_neg (by omega)]
      exact ih (by omega) h1 fun j hj hjn => h2 j hj (by omega)
theorem cntTo_spec {b : Bas} (h : RowsOk b) {v : Int} : ∀ {n : Nat}, n ≤ b.rows.length → cntTo b v n ≤ n ∧ (∀ j, j < cntTo b v n → (b.row j).vol < v) ∧ (∀ j, cntTo b v n ≤ j → j < n → v ≤ (b.row j).vol) := by
  intro n
  induction n with
  | zero => intro _; exact ⟨Nat.le_refl _, fun j hj => by simp [cntTo] at hj, fun j _ hj => by omega⟩
  | succ n ih =>
    intro hn
    unfold cntTo
    by_cases hc : (b.row n).vol < v
    · rw [if_pos hc]
      refine ⟨Nat.le_refl _, fun j hj => ?_, fun j h1 h2 => by omega⟩
      by_cases e : j = n
      · subst e; exact hc
      · have := (h.lt (i := j) (j := n) (by omega) (by omega)).1; omega
    · rw [if_neg hc]
      obtain ⟨h1, h2, h3⟩ := ih (by omega)
      refine ⟨by omega, h2, fun j h4 h5 => ?_⟩
      by_cases e : j = n
      · subst e; omega
      · exact h3 j h4 (by omega)
def segTo (b : Bas) (v : Int) : Nat → Nat
  | 0 => 0
  | k + 1 => if (b.row (k + 1)).vol ≤ v then k + 1 else segTo b v k
def seg (b : Bas) (v : Int) : Nat := segTo b v (b.rows.length - 2)
theorem segTo_eq {b : Bas} {v : Int} {s : Nat} : ∀ {n : Nat}, s ≤ n → (s = 0 ∨ (b.row s).vol ≤ v) → (∀ j, s < j → j ≤ n → v < (b.row j).vol) → segTo b v n = s := by
  intro n
  induction n with
  | zero => intro h _ _; simp [segTo]; omega
  | succ n ih =>
    intro h h1 h2
    unfold segTo
    by_cases e : s = n + 1
    · have : (b.row (n + 1)).vol ≤ v := by
        rcases h1 with h1 | h1
        · omega
        · rw [← e]; exact h1
      rw [if_pos this]; omega
    · have := h2 (n + 1) (by omega) (by omega)
      rw [if_neg (by omega)]
      exact ih (by omega) h1 fun j hj hjn => h2 j hj (by omega)
theorem segTo_spec {b : Bas} {v : Int} : ∀ (n : Nat), segTo b v n ≤ n ∧ (segTo b v n = 0 ∨ (b.row (segTo b v n)).vol ≤ v) ∧ (∀ j, segTo b v n < j → j ≤ n → v < (b.row j).vol) := by
  intro n
  induction n with
  | zero => exact ⟨by simp [segTo], .inl rfl, fun j h1 h2 => by omega⟩
  | succ n ih =>
    unfold segTo
    by_cases h : (b.row (n + 1)).vol ≤ v
    · rw [if_pos h]; exact ⟨by omega, .inr h, fun j h1 h2 => by omega⟩
    · rw [if_neg h]
      refine ⟨by omega, ih.2.1, fun j h1 h2 => ?_⟩
      by_cases e : j = n + 1
      · subst e; omega
      · exact ih.2.2 j h1 (by omega)
theorem seg_lt {b : Bas} (h : RowsOk b) (v : Int) : seg b v + 1 < b.rows.length := by
  have := (segTo_spec (b := b) (v := v) (b.rows.length - 2)).1
  have := h.n2
  unfold seg; omega
def den (b : Bas) (v : Int) : Int := (b.row (seg b v + 1)).vol - (b.row (seg b v)).vol
def num (b : Bas) (v : Int) : Int := (b.row (seg b v)).level * den b v + (v - (b.row (seg b v)).vol) * ((b.row (seg b v + 1)).level - (b.row (seg b v)).level)
theorem den_pos {b : Bas} (h : RowsOk b) (v : Int) : 1 ≤ den b v ∧ den b v ≤ 1000000000 := by
  have h1 := h.volUp _ (seg_lt h v)
  have h2 := h.vol _ (seg_lt h v)
  have h3 := h.vol (seg b v) (by have := seg_lt h v; omega)
  unfold den; omega
theorem seg_of_cnt {b : Bas} (h : RowsOk b) {v : Int} (hv : (b.row 0).vol ≤ v) {i : Nat} (hi : i ≤ b.rows.length) (h1 : ∀ j, j < i → (b.row j).vol < v) (h2 : ∀ j, i ≤ j → j < b.rows.length → v ≤ (b.row j).vol) :
    min (if i < b.rows.length ∧ (b.row i).vol = v then i else i - 1) (b.rows.length - 2) = seg b v ∧ (¬ (i < b.rows.length ∧ (b.row i).vol = v) → 1 ≤ i) := by
  have hn := h.n2
  have hi0 : ¬ (i < b.rows.length ∧ (b.row i).vol = v) → 1 ≤ i := by
    intro hne
    rcases Nat.eq_zero_or_pos i with h0 | h0
    · subst h0
      have := h2 0 (by omega) (by omega)
      exact absurd ⟨by omega, by omega⟩ hne
    · exact h0
  refine ⟨?_, hi0⟩
  symm
  unfold seg
  by_cases he : i < b.rows.length ∧ (b.row i).vol = v
  · rw [if_pos he]
    refine segTo_eq (by omega) ?_ fun j hj hjn => ?_
    · by_cases hm : i ≤ b.rows.length - 2
      · rw [Nat.min_eq_left hm]; exact .inr (by omega)
      · rw [Nat.min_eq_right (by omega)]; exact .inr (by have := (h.lt (i := b.rows.length - 2) (j := i) (by omega) he.1).1; omega)
    · have := (h.lt (i := i) (j := j) (by omega) (by omega)).1; omega
  · rw [if_neg he]
    have h0 := hi0 he
    refine segTo_eq (by omega) ?_ fun j hj hjn => ?_
    · by_cases hm : i - 1 ≤ b.rows.length - 2
      · rw [Nat.min_eq_left hm]; exact .inr (by have := h1 (i - 1) (by omega); omega)
      · rw [Nat.min_eq_right (by omega)]; exact .inr (by have := h1 (b.rows.length - 2) (by omega); omega)
    · have h3 := h2 j (by omega) (by omega)
      by_cases e : (b.row j).vol = v
      · by_cases e2 : j = i
        · subst e2; exact absurd ⟨by omega, e⟩ he
        · have := (h.lt (i := i) (j := j) (by omega) (by omega)).1
          have := h2 i (by omega) (by omega)
          omega
      · omega
end Bs
namespace X
open Go Go.RowKit Bs
end X
namespace X
open Go Go.RowKit Bs
theorem valid_any {p : BV} {b : Bas} {w : World} (hb : BasAt w w.heap.size p b) :
    Calls Tryz.prog 20 #[basV p b] w fun e w' => e = .returned (.int .i64 (chkE b)) ∧ Below w.heap.size w w' := by
  simp only [basV, basC]
  refine enter Tryz.func20 rfl Tryz.ntmps20 rfl ?_; simp only [frame, Nat.zero_add, Nat.reduceAdd]
  repeat (any_goals (first | (refine M0 ?_; first | refine SL ?_ | refine SB fun _ _ => ?_ | (refine XL.split _ _ rfl (fun h => ?_) (fun h => ?_) <;> rw [h]) | refine Y4 (Ev.call (f := 45) (ck rfl) rfl (fun w S => check_any p b w (hb.sys S))) ?_) | (refine M1 ?_; first | refine SC ?_ | refine SD ?_ | refine XC.cond _ rfl (fun h => ?_) (fun h => ?_)) | (refine M2 ?_; refine SE ?_) | (refine M3 ?_; first | refine SG ?_ | refine SF ?_ | (refine Fw.split _ _ rfl (fun h => ?_) (fun h => ?_) <;> rw [h]) | refine YF (Ev.call (f := 45) (ck rfl) rfl (fun w S => check_any p b w (hb.sys S))) ?_) | (refine M4 ?_; refine SR ?_) | (refine M5 ?_; first | exact M7 | refine YM ?_ | refine YN ?_ ?_)))
  refine XE.ret1 Tryz.results20 rfl (fun w' S => ?_)
  exact ⟨rfl, S.toBelow⟩
end X
namespace X
open Go Go.RowKit Bs
def cmpI (m n : Int) : Int := if m < n then -1 else if n < m then 1 else 0
theorem isNaN_any (n : Int) (w : World) : Calls Tryz.prog 69 #[.int .i64 n] w fun e w' => e = .returned (.bool false) ∧ Below w.heap.size w w' := by
  refine enter Tryz.func69 rfl Tryz.ntmps69 rfl ?_; simp only [frame, Nat.zero_add, Nat.reduceAdd]
  repeat (first | (refine M0 ?_; first | refine SL ?_ | refine SB fun _ _ => ?_) | (refine M1 ?_; first | refine SC ?_ | refine SD ?_) | (refine M2 ?_; refine SE ?_) | (refine M3 ?_; first | refine SG ?_ | refine SF ?_) | (refine M4 ?_; refine SR ?_) | (refine M5 ?_; first | exact M7 | refine YM ?_ | refine YN ?_ ?_))
  refine XE.ret1 Tryz.results69 rfl (fun w' S => ?_)
  exact ⟨by simp, S.toBelow⟩
theorem compare_any (m n : Int) (w : World) : Calls Tryz.prog 52 #[.int .i64 m, .int .i64 n] w fun e w' => e = .returned (.int .i64 (cmpI m n)) ∧ Below w.heap.size w w' := by
  refine enter Tryz.func52 rfl Tryz.ntmps52 rfl ?_; simp only [frame, Nat.zero_add, Nat.reduceAdd]
  repeat (any_goals (first | (refine M0 ?_; first | refine SL ?_ | refine SB fun _ _ => ?_ | (refine XL.split _ _ rfl (fun h => ?_) (fun h => ?_) <;> rw [h]) | refine Y4 (Ev.call (f := 69) (ck rfl) rfl (fun w _ => isNaN_any _ w)) ?_) | (refine M1 ?_; first | refine SC ?_ | refine SD ?_ | refine XC.cond _ rfl (fun h => ?_) (fun h => ?_)) | (refine M2 ?_; refine SE ?_) | (refine M3 ?_; first | refine SG ?_ | refine SF ?_ | (refine Fw.split _ _ rfl (fun h => ?_) (fun h => ?_) <;> rw [h]) | refine YF (Ev.call (f := 69) (ck rfl) rfl (fun w _ => isNaN_any _ w)) ?_) | (refine M4 ?_; refine SR ?_) | (refine M5 ?_; first | exact M7 | refine YM ?_ | refine YN ?_ ?_)))
  all_goals
    refine XE.ret1 Tryz.results52 rfl (fun w' S => ?_)
    refine ⟨?_, S.toBelow⟩
    simp only [decide_eq_true_eq, decide_eq_false_iff_not] at *
    simp [cmpI, *]
theorem exact1_any (r : Row) (v : Int) (w : World) : Calls Tryz.prog 124 #[.agg ⟨rowC r⟩, .int .i64 v] w fun e w' => e = .returned (.int .i64 (cmpI r.vol v)) ∧ Below w.heap.size w w' := by
  simp only [rowC]
  refine enter Tryz.func124 rfl Tryz.ntmps124 rfl ?_; simp only [frame, Nat.zero_add, Nat.reduceAdd]
  repeat (any_goals (first | (refine M0 ?_; first | refine SL ?_ | refine SB fun _ _ => ?_ | (refine XL.split _ _ rfl (fun h => ?_) (fun h => ?_) <;> rw [h]) | refine Y4 (Ev.call (f := 52) (ck rfl) rfl (fun w _ => compare_any _ _ w)) ?_) | (refine M1 ?_; first | refine SC ?_ | refine SD ?_ | refine XC.cond _ rfl (fun h => ?_) (fun h => ?_)) | (refine M2 ?_; refine SE ?_) | (refine M3 ?_; first | refine SG ?_ | refine SF ?_ | (refine Fw.split _ _ rfl (fun h => ?_) (fun h => ?_) <;> rw [h]) | refine YF (Ev.call (f := 52) (ck rfl) rfl (fun w _ => compare_any _ _ w)) ?_) | (refine M4 ?_; refine SR ?_) | (refine M5 ?_; first | exact M7 | refine YM ?_ | refine YN ?_ ?_)))
  refine XE.ret1 Tryz.results124 rfl (fun w' S => ?_)
  exact ⟨rfl, S.toBelow⟩
theorem wrap_u {n : Int} (h : 0 ≤ n ∧ n ≤ 9223372036854775807) : IntKind.u64.wrap n = n := by rw [IntKind.wrap_u64]; omega
theorem wrap_i {n : Int} (h : 0 ≤ n ∧ n ≤ 9223372036854775807) : IntKind.i64.wrap n = n := by rw [IntKind.wrap_i64]; omega
theorem half {n : Nat} : ((n : Int)).fdiv (2 ^ (Nat.min (1 : Int).toNat IntKind.u64.bits)) = ((n / 2 : Nat) : Int) := by
  rw [show (2 : Int) ^ (Nat.min (1 : Int).toNat IntKind.u64.bits) = 2 from by decide]
  rw [Int.fdiv_eq_ediv_of_nonneg _ (by decide)]
  simp
theorem cmpI_lt {m n : Int} : decide (cmpI m n < 0) = decide (m < n) := by unfold cmpI; by_cases h1 : m < n <;> by_cases h2 : n < m <;> simp [h1, h2] <;> omega
theorem cmpI_eq {m n : Int} : decide (cmpI m n = 0) = decide (m = n) := by unfold cmpI; by_cases h1 : m < n <;> by_cases h2 : n < m <;> simp [h1, h2] <;> omega
def bsV (b : Bas) (v : Int) : Value := .tuple ⟨[.int .i64 (cntTo b v b.rows.length), .bool (decide (cntTo b v b.rows.length < b.rows.length ∧ (b.row (cntTo b v b.rows.length)).vol = v))]⟩
set_option maxHeartbeats 4000000 in
theorem bs_any {ad : Addr} {c : Nat} {A2 : Option Addr} {n2 c2 : Nat} {b : Bas} {w : World} (hb : BasAt w w.heap.size ⟨some ad, b.rows.length, c, A2, n2, c2⟩ b) (ho : RowsOk b) (v : Int) :
    Calls Tryz.prog 123 #[.slice (some ad) b.rows.length c, .int .i64 v, .func (.func 124) #[] #[]] w fun e w' => e = .returned (bsV b v) ∧ Below w.heap.size w w' := by
  have h12 := ho.n12
  have hint := Tryz.underlying3
  have huint := Tryz.underlying225
  have hlt : ad.block < w.heap.size := by
    obtain ⟨ad', e, h⟩ := hb.rows.addr (by have := ho.n2; simp only; omega)
    simp only [Option.some.injEq] at e
    subst e; exact h
  refine enter Tryz.func123 rfl Tryz.ntmps123 rfl ?_; simp only [frame, Nat.zero_add, Nat.reduceAdd]
  repeat (first | (refine M0 ?_; first | refine SL ?_ | refine SB fun _ _ => ?_) | (refine M1 ?_; first | refine SC ?_ | refine SD ?_) | (refine M2 ?_; refine SE ?_) | (refine M3 ?_; first | refine SG ?_ | refine SF ?_) | (refine M4 ?_; refine SR ?_) | (refine M5 ?_; first | exact M7 | refine YM ?_ | refine YN ?_ ?_))
  refine XC.loopk [0, 1, 2, 8] rfl (fun s : Nat × Nat => [(9, .int .i64 (s.1 : Int)), (10, .int .i64 (s.2 : Int))]) (fun _ => []) (fun _ => w)
    (fun s => s.1 ≤ s.2 ∧ s.2 ≤ b.rows.length ∧ (∀ j, j < s.1 → (b.row j).vol < v) ∧ (∀ j, s.2 ≤ j → j < b.rows.length → v ≤ (b.row j).vol)) (fun s => s.2 - s.1) (0, b.rows.length) ⟨Nat.zero_le _, Nat.le_refl _, fun j hj => by simp only at hj; omega, fun j h1 h2 => by simp only at h1; omega⟩ ZZSUB (fun _ h => h) ?_
  rintro ⟨i, j⟩ ⟨hij, hjn, h1, h2⟩
  simp only at hij hjn h1 h2
  dsimp only [List.cons_append, List.nil_append]
  repeat (first | (refine M0 ?_; first | refine SL ?_ | refine SB fun _ _ => ?_) | (refine M1 ?_; first | refine SC ?_ | refine SD ?_) | (refine M2 ?_; refine SE ?_) | (refine M3 ?_; first | refine SG ?_ | refine SF ?_) | (refine M4 ?_; refine SR ?_) | (refine M5 ?_; first | exact M7 | refine YM ?_ | refine YN ?_ ?_))
  refine XC.cond _ rfl (fun hc => ?_) (fun hc => ?_)
  · simp only [decide_eq_true_eq] at hc
    have hm : (i + j) / 2 < b.rows.length := by omega
    have w1 : IntKind.u64.wrap ((i : Int) + (j : Int)) = ((i + j : Nat) : Int) := by rw [wrap_u (by omega)]; omega
    have w2 : IntKind.i64.wrap (((i + j) / 2 : Nat) : Int) = (((i + j) / 2 : Nat) : Int) := wrap_i (by omega)
    repeat (first | (refine M0 ?_; first | refine SL ?_ | refine SB fun _ _ => ?_ | refine Y4 (Ev.conv (s := 3) (d := 225) hint huint rfl w1) ?_ | refine Y4 (Ev.conv (s := 225) (d := 3) huint hint rfl w2) ?_ | refine Y4 (Ev.shr rfl rfl (by decide) half) ?_ | refine Y4 (Ev.load_old_agg tok (rowC (b.row ((i + j) / 2))) rfl rfl rfl (add_lt hlt) (hb.row hm)) ?_ | refine Y4 (Ev.callv (f := 124) (fst := []) (cap := []) (ck rfl) rfl rfl (fun w _ => exact1_any _ _ w)) ?_) | (refine M1 ?_; first | refine SC ?_ | refine SD ?_) | (refine M2 ?_; refine SE ?_) | (refine M3 ?_; first | refine SG ?_ | refine SF ?_ | refine YF (Ev.conv (s := 3) (d := 225) hint huint rfl w1) ?_ | refine YF (Ev.conv (s := 225) (d := 3) huint hint rfl w2) ?_ | refine YF (Ev.shr rfl rfl (by decide) half) ?_ | refine YF (Ev.load_old_agg tok (rowC (b.row ((i + j) / 2))) rfl rfl rfl (add_lt hlt) (hb.row hm)) ?_ | refine YF (Ev.callv (f := 124) (fst := []) (cap := []) (ck rfl) rfl rfl (fun w _ => exact1_any _ _ w)) ?_) | (refine M4 ?_; refine SR ?_) | (refine M5 ?_; first | exact M7 | refine YM ?_ | refine YN ?_ ?_))
    refine XC.cond _ rfl (fun hd => ?_) (fun hd => ?_)
    · rw [cmpI_lt] at hd
      simp only [decide_eq_true_eq] at hd
      repeat (first | (refine M0 ?_; first | refine SL ?_ | refine SB fun _ _ => ?_) | (refine M1 ?_; first | refine SC ?_ | refine SD ?_) | (refine M2 ?_; refine SE ?_) | (refine M3 ?_; first | refine SG ?_ | refine SF ?_) | (refine M4 ?_; refine SR ?_) | (refine M5 ?_; first | exact M7 | refine YM ?_ | refine YN ?_ ?_))
      refine XE.round (s := (i, j)) ((i + j) / 2 + 1, j) ⟨by simp only; omega, hjn, fun k hk => ?_, h2⟩ (by simp only; omega) ZZSUB (fun _ h => by first | exact h | exact h.pop (by assumption) | exact (h.pop (by assumption)).pop (by assumption) | exact ((h.pop (by assumption)).pop (by assumption)).pop (by assumption) | exact (((h.pop (by assumption)).pop (by assumption)).pop (by assumption)).pop (by assumption) | exact Sys.anchor (by assumption) h (by simp) (by simp))
      simp only at hk
      by_cases e : k = (i + j) / 2
      · subst e; exact hd
      · have := (ho.lt (i := k) (j := (i + j) / 2) (by omega) hm).1; omega
    · rw [cmpI_lt] at hd
      simp only [decide_eq_false_iff_not] at hd
      repeat (first | (refine M0 ?_; first | refine SL ?_ | refine SB fun _ _ => ?_) | (refine M1 ?_; first | refine SC ?_ | refine SD ?_) | (refine M2 ?_; refine SE ?_) | (refine M3 ?_; first | refine SG ?_ | refine SF ?_) | (refine M4 ?_; refine SR ?_) | (refine M5 ?_; first | exact M7 | refine YM ?_ | refine YN ?_ ?_))
      refine XE.round (s := (i, j)) (i, (i + j) / 2) ⟨by simp only; omega, by simp only; omega, h1, fun k hk hkn => ?_⟩ (by simp only; omega) ZZSUB (fun _ h => by first | exact h | exact h.pop (by assumption) | exact (h.pop (by assumption)).pop (by assumption) | exact ((h.pop (by assumption)).pop (by assumption)).pop (by assumption) | exact (((h.pop (by assumption)).pop (by assumption)).pop (by assumption)).pop (by assumption) | exact Sys.anchor (by assumption) h (by simp) (by simp))
      simp only at hk
      by_cases e : k = (i + j) / 2
      · subst e; omega
      · have := (ho.lt (i := (i + j) / 2) (j := k) (by omega) hkn).1; omega
  · simp only [decide_eq_false_iff_not] at hc
    obtain rfl : i = j := by omega
    have hcnt := cntTo_eq hjn h1 h2
    by_cases hin : i < b.rows.length
    · repeat (any_goals (first | (refine M0 ?_; first | refine SL ?_ | refine SB fun _ _ => ?_ | (refine XL.split _ _ rfl (fun h => ?_) (fun h => ?_) <;> rw [h]) | refine Y4 (Ev.load_old_agg tok (rowC (b.row i)) rfl rfl rfl (add_lt hlt) (hb.row hin)) ?_ | refine Y4 (Ev.callv (f := 124) (fst := []) (cap := []) (vs := [.agg ⟨rowC (b.row i)⟩, .int .i64 v]) (ck rfl) rfl rfl (fun w _ => exact1_any _ _ w)) ?_) | (refine M1 ?_; first | refine SC ?_ | refine SD ?_ | refine XC.cond _ rfl (fun h => ?_) (fun h => ?_)) | (refine M2 ?_; refine SE ?_) | (refine M3 ?_; first | refine SG ?_ | refine SF ?_ | (refine Fw.split _ _ rfl (fun h => ?_) (fun h => ?_) <;> rw [h]) | refine YF (Ev.load_old_agg tok (rowC (b.row i)) rfl rfl rfl (add_lt hlt) (hb.row hin)) ?_ | refine YF (Ev.callv (f := 124) (fst := []) (cap := []) (vs := [.agg ⟨rowC (b.row i)⟩, .int .i64 v]) (ck rfl) rfl rfl (fun w _ => exact1_any _ _ w)) ?_) | (refine M4 ?_; refine SR ?_) | (refine M5 ?_; first | exact M7 | refine YM ?_ | refine YN ?_ ?_)))
      · refine XE.ret2 Tryz.results123 rfl rfl (fun w' S => ?_)
        refine ⟨?_, S.toBelow⟩
        unfold bsV
        rw [hcnt, cmpI_eq]
        simp [hin]
      · simp only [decide_eq_false_iff_not] at h
        omega
    · repeat (first | (refine M0 ?_; first | refine SL ?_ | refine SB fun _ _ => ?_) | (refine M1 ?_; first | refine SC ?_ | refine SD ?_) | (refine M2 ?_; refine SE ?_) | (refine M3 ?_; first | refine SG ?_ | refine SF ?_) | (refine M4 ?_; refine SR ?_) | (refine M5 ?_; first | exact M7 | refine YM ?_ | refine YN ?_ ?_))
      refine XL.split _ _ rfl (fun h => ?_) (fun h => ?_) <;> rw [h]
      · simp only [decide_eq_true_eq] at h
        omega
      · repeat (any_goals (first | (refine M0 ?_; first | refine SL ?_ | refine SB fun _ _ => ?_ | (refine XL.split _ _ rfl (fun h => ?_) (fun h => ?_) <;> rw [h])) | (refine M1 ?_; first | refine SC ?_ | refine SD ?_ | refine XC.cond _ rfl (fun h => ?_) (fun h => ?_)) | (refine M2 ?_; refine SE ?_) | (refine M3 ?_; first | refine SG ?_ | refine SF ?_ | (refine Fw.split _ _ rfl (fun h => ?_) (fun h => ?_) <;> rw [h])) | (refine M4 ?_; refine SR ?_) | (refine M5 ?_; first | exact M7 | refine YM ?_ | refine YN ?_ ?_)))
        refine XE.ret2 Tryz.results123 rfl rfl (fun w' S => ?_)
        refine ⟨?_, S.toBelow⟩
        unfold bsV
        rw [hcnt]
        simp [hin]
end X
namespace Bs
theorem mul_bd {x y X Y : Int} (hx : -X ≤ x ∧ x ≤ X) (hy : -Y ≤ y ∧ y ≤ Y) : -(X * Y) ≤ x * y ∧ x * y ≤ X * Y := by
  have hX : 0 ≤ X := by omega
  have hY : 0 ≤ Y := by omega
  have h1 : x.natAbs ≤ X.natAbs := by omega
  have h2 : y.natAbs ≤ Y.natAbs := by omega
  have h3 : (x * y).natAbs ≤ (X * Y).natAbs := by rw [Int.natAbs_mul, Int.natAbs_mul]; exact Nat.mul_le_mul h1 h2
  have h4 : 0 ≤ X * Y := Int.mul_nonneg hX hY
  omega
theorem seg_vol {b : Bas} {v : Int} (hv : (b.row 0).vol ≤ v) : (b.row (seg b v)).vol ≤ v := by
  rcases (segTo_spec (b := b) (v := v) (b.rows.length - 2)).2.1 with h | h
  · unfold seg; rw [h]; exact hv
  · exact h
section
variable {b : Bas} (h : RowsOk b) {v : Int} (hv : (b.row 0).vol ≤ v ∧ v ≤ 1000000000)
include h hv
theorem parts_bd : (-20000 ≤ (b.row (seg b v)).level ∧ (b.row (seg b v)).level ≤ 20000) ∧ (1 ≤ den b v ∧ den b v ≤ 1000000000) ∧ (0 ≤ v - (b.row (seg b v)).vol ∧ v - (b.row (seg b v)).vol ≤ 1000000000) ∧
    (1 ≤ (b.row (seg b v + 1)).level - (b.row (seg b v)).level ∧ (b.row (seg b v + 1)).level - (b.row (seg b v)).level ≤ 40000) := by
  have hs := seg_lt h v
  have h1 := h.level _ (show seg b v < b.rows.length by omega)
  have h2 := h.level _ hs
  have h3 := h.levelUp _ hs
  have h4 := h.vol _ (show seg b v < b.rows.length by omega)
  have h5 := seg_vol hv.1
  exact ⟨h1, den_pos h v, by omega, by omega⟩
theorem terms_bd : (-20000000000000 ≤ (b.row (seg b v)).level * den b v ∧ (b.row (seg b v)).level * den b v ≤ 20000000000000) ∧
    (0 ≤ (v - (b.row (seg b v)).vol) * ((b.row (seg b v + 1)).level - (b.row (seg b v)).level) ∧ (v - (b.row (seg b v)).vol) * ((b.row (seg b v + 1)).level - (b.row (seg b v)).level) ≤ 40000000000000) := by
  obtain ⟨h1, h2, h3, h4⟩ := parts_bd h hv
  have m1 := mul_bd (X := 20000) (Y := 1000000000) (x := (b.row (seg b v)).level) (y := den b v) (by omega) (by omega)
  have m2 := mul_bd (X := 1000000000) (Y := 40000) (x := v - (b.row (seg b v)).vol) (y := (b.row (seg b v + 1)).level - (b.row (seg b v)).level) (by omega) (by omega)
  have m3 : 0 ≤ (v - (b.row (seg b v)).vol) * ((b.row (seg b v + 1)).level - (b.row (seg b v)).level) := Int.mul_nonneg h3.1 (by omega)
  exact ⟨by omega, m3, by omega⟩
theorem num_bd : -20000000000000 ≤ num b v ∧ num b v ≤ 60000000000000 := by
  have := terms_bd h hv
  unfold num; omega
end
theorem tdiv_bd {a b : Int} (hb : 1 ≤ b) : -(a.natAbs : Int) ≤ a.tdiv b ∧ a.tdiv b ≤ a.natAbs := by
  have h1 : (a.tdiv b).natAbs = a.natAbs / b.natAbs := Int.natAbs_tdiv a b
  have h2 : a.natAbs / b.natAbs ≤ a.natAbs := Nat.div_le_self _ _
  omega
theorem tdiv_mul {a b : Int} (hb : 1 ≤ b) : -(a.natAbs : Int) ≤ a.tdiv b * b ∧ a.tdiv b * b ≤ a.natAbs ∧ (0 ≤ a → a.tdiv b * b ≤ a ∧ a < a.tdiv b * b + b) ∧ (a ≤ 0 → a ≤ a.tdiv b * b ∧ a.tdiv b * b < a + b) := by
  have e := Int.mul_tdiv_add_tmod a b
  rw [Int.mul_comm] at e
  rcases Int.le_total 0 a with h | h
  · have h1 := Int.tmod_nonneg b h
    have h2 := Int.tmod_lt_of_pos a (show 0 < b by omega)
    have h3 : 0 ≤ a.tdiv b := Int.tdiv_nonneg h (by omega)
    have h4 : 0 ≤ a.tdiv b * b := Int.mul_nonneg h3 (by omega)
    refine ⟨by omega, by omega, fun _ => by omega, fun h' => ?_⟩
    have : a = 0 := by omega
    subst this
    simp
    omega
  · have h1 : a.tmod b ≤ 0 := by
      have := Int.tmod_nonneg b (show 0 ≤ -a by omega)
      rw [Int.neg_tmod] at this; omega
    have h2 : -b < a.tmod b := by
      have := Int.tmod_lt_of_pos (-a) (show 0 < b by omega)
      rw [Int.neg_tmod] at this; omega
    have h3 : a.tdiv b ≤ 0 := by
      have := Int.tdiv_nonneg (show 0 ≤ -a by omega) (show 0 ≤ b by omega)
      rw [Int.neg_tdiv] at this; omega
    have h4 : a.tdiv b * b ≤ 0 := Int.mul_nonpos_of_nonpos_of_nonneg h3 (by omega)
    refine ⟨by omega, by omega, fun h' => ?_, fun _ => by omega⟩
    have : a = 0 := by omega
    subst this
    simp
    omega
theorem floor_eq {a b : Int} (hb : 1 ≤ b) : a / b = if a < a.tdiv b * b then a.tdiv b - 1 else a.tdiv b := by
  obtain ⟨_, _, h1, h2⟩ := tdiv_mul (a := a) hb
  have key : ∀ q : Int, q * b ≤ a → a < q * b + b → a / b = q := fun q h3 h4 => by
    have h5 : q ≤ a / b := (Int.le_ediv_iff_mul_le (by omega)).2 h3
    have h6 : a / b < q + 1 := (Int.ediv_lt_iff_lt_mul (by omega)).2 (by rw [Int.add_mul]; omega)
    omega
  by_cases hc : a < a.tdiv b * b
  · rw [if_pos hc]
    refine key _ ?_ ?_
    · rw [Int.sub_mul]
      rcases Int.le_total 0 a with h | h
      · have := h1 h; omega
      · have := h2 h; omega
    · rw [Int.sub_mul]; omega
  · rw [if_neg hc]
    refine key _ (by omega) ?_
    rcases Int.le_total 0 a with h | h
    · have := h1 h; omega
    · have := h2 h; omega
theorem floor_bd {a b : Int} (hb : 1 ≤ b) : -(a.natAbs : Int) ≤ a / b ∧ a / b ≤ a.natAbs := by
  have h1 := Int.ediv_mul_le a (show b ≠ 0 by omega)
  rcases Int.le_total 0 a with h | h
  · have h2 : 0 ≤ a / b := Int.ediv_nonneg h (by omega)
    have h3 : a / b ≤ a := Int.ediv_le_self b h
    omega
  · have h2 : a / b ≤ 0 := Int.ediv_nonpos_of_nonpos_of_neg h (by omega)
    have h3 : a ≤ a / b := by
      have : a * b ≤ a * 1 := Int.mul_le_mul_of_nonpos_left h hb
      exact (Int.le_ediv_iff_mul_le (by omega)).2 (by omega)
    omega
end Bs
namespace X
open Go Go.RowKit Bs
def ratV (b : Bas) (v : Int) : Value := .agg ⟨[.int .i64 (num b v), .int .i64 (den b v)]⟩
set_option maxHeartbeats 4000000 in
theorem exact_any {p : BV} {b : Bas} {w : World} (hb : BasAt w w.heap.size p b) (ho : RowsOk b) {v : Int} (hv : (b.row 0).vol ≤ v ∧ v ≤ 1000000000) :
    Calls Tryz.prog 108 #[basV p b, .int .i64 v] w fun e w' => e = .returned (ratV b v) ∧ Below w.heap.size w w' := by
  obtain ⟨A, n, c, A2, n2, c2⟩ := p
  have hn := hb.n_eq
  have hn2 := hb.n2_eq
  simp only at hn hn2
  subst hn hn2
  have h2 := ho.n2
  have h12 := ho.n12
  obtain ⟨ad, rfl, hlt⟩ := hb.rows.addr (by simp only; omega)
  simp only [basV, basC]
  obtain ⟨hi, hi1, hi2⟩ := cntTo_spec ho (v := v) (Nat.le_refl b.rows.length)
  refine enter Tryz.func108 rfl Tryz.ntmps108 rfl ?_; simp only [frame, Nat.zero_add, Nat.reduceAdd]
  repeat (first | (refine M0 ?_; first | refine SL ?_ | refine SB fun _ _ => ?_ | refine Y4 (Ev.call (f := 123) (ck rfl) rfl (fun w S => bs_any (hb.sys S) ho v)) ?_) | (refine M1 ?_; first | refine SC ?_ | refine SD ?_) | (refine M2 ?_; refine SE ?_) | (refine M3 ?_; first | refine SG ?_ | refine SF ?_ | refine YF (Ev.call (f := 123) (ck rfl) rfl (fun w S => bs_any (hb.sys S) ho v)) ?_) | (refine M4 ?_; refine SR ?_) | (refine M5 ?_; first | exact M7 | refine YM ?_ | refine YN ?_ ?_))
  have key := (seg_of_cnt ho hv.1 hi hi1 hi2).1
  have key2 := (seg_of_cnt ho hv.1 hi hi1 hi2).2
  have hs := seg_lt ho v
  obtain ⟨cc, hcc⟩ : ∃ cc, cc = if cntTo b v b.rows.length < b.rows.length ∧ (b.row (cntTo b v b.rows.length)).vol = v then cntTo b v b.rows.length else cntTo b v b.rows.length - 1 := ⟨_, rfl⟩
  rw [← hcc] at key
  rename_i gr hgr
  refine XC.cutln [1, 2, 4] rfl (fun _ : Unit => [(5, .int .i64 (cc : Nat))]) (fun _ => []) (fun _ => True) ?_ (fun _ _ => ?_)
  · repeat (any_goals (first | (refine M0 ?_; first | refine SL ?_ | refine SB fun _ _ => ?_ | (refine XL.split _ _ rfl (fun h => ?_) (fun h => ?_) <;> rw [h])) | (refine M1 ?_; first | refine SC ?_ | refine SD ?_ | refine XC.cond _ rfl (fun h => ?_) (fun h => ?_)) | (refine M2 ?_; refine SE ?_) | (refine M3 ?_; first | refine SG ?_ | refine SF ?_ | (refine Fw.split _ _ rfl (fun h => ?_) (fun h => ?_) <;> rw [h])) | (refine M4 ?_; refine SR ?_) | (refine M5 ?_; first | exact M7 | refine YM ?_ | refine YN ?_ ?_)))
    · simp only [Bool.not_eq_true', decide_eq_false_iff_not] at h
      rw [if_neg h] at hcc
      have := key2 h
      rw [show (cntTo b v b.rows.length : Int) - 1 = (cc : Nat) from by omega]
      refine XE.leaf () ZZSUB (fun _ S' => by first | exact S' | exact S'.perm (by repeat (first | exact List.Perm.refl _ | refine perm1 ?_ | refine List.Perm.cons _ ?_ | refine perm2 ?_)) | exact (S'.pop (by assumption)) | exact (S'.pop2 (by assumption))) ?_
      trivial
    · simp only [Bool.not_eq_false', decide_eq_true_eq] at h
      rw [if_pos h] at hcc
      rw [← hcc]
      refine XE.leaf () ZZSUB (fun _ S' => by first | exact S' | exact S'.perm (by repeat (first | exact List.Perm.refl _ | refine perm1 ?_ | refine List.Perm.cons _ ?_ | refine perm2 ?_)) | exact (S'.pop (by assumption)) | exact (S'.pop2 (by assumption))) ?_
      trivial
  dsimp only [List.cons_append, List.nil_append]
  repeat (first | (refine M0 ?_; first | refine SL ?_ | refine SB fun _ _ => ?_) | (refine M1 ?_; first | refine SC ?_ | refine SD ?_) | (refine M2 ?_; refine SE ?_) | (refine M3 ?_; first | refine SG ?_ | refine SF ?_) | (refine M4 ?_; refine SR ?_) | (refine M5 ?_; first | exact M7 | refine YM ?_ | refine YN ?_ ?_))
  rw [show min (cc : Int) ((b.rows.length : Int) - 2) = ((seg b v : Nat) : Int) from by omega]
  refine XC.cutln [1, 4] rfl (fun s : Nat × Nat => [(7, .pointer (some ⟨s.1, 0, none⟩)), (8, .pointer (some ⟨s.2, 0, none⟩))]) (fun s => [(s.1, cel 43 (rowC (b.row (seg b v)))), (s.2, cel 43 (rowC (b.row (seg b v + 1))))]) (fun s => w.heap.size ≤ s.1 ∧ w.heap.size ≤ s.2) ?_ ?_
  · refine XC.drawR _ [0, 1, 2, 3, 4, 5, 6, 7, 8, 9, 10] [11, 12, 13, 14] mixed (fun _ h => h) rfl (by kernel_rfl) ?_
    repeat (any_goals (first | (refine M0 ?_; first | refine SL ?_ | refine SB fun _ _ => ?_ | (refine XL.split _ _ rfl (fun h => ?_) (fun h => ?_) <;> rw [h]) | refine Y4 (Ev.load_old_agg tok (rowC (b.row (seg b v))) rfl rfl rfl (add_lt hlt) (hb.row (by omega))) ?_ | refine Y4 (Ev.load_old_agg tok (rowC (b.row (seg b v + 1))) rfl rfl rfl (add_lt hlt) (hb.row hs)) ?_) | (refine M1 ?_; first | refine SC ?_ | refine SD ?_ | refine XC.cond _ rfl (fun h => ?_) (fun h => ?_)) | (refine M2 ?_; refine SE ?_) | (refine M3 ?_; first | refine SG ?_ | refine SF ?_ | (refine Fw.split _ _ rfl (fun h => ?_) (fun h => ?_) <;> rw [h]) | refine YF (Ev.load_old_agg tok (rowC (b.row (seg b v))) rfl rfl rfl (add_lt hlt) (hb.row (by omega))) ?_ | refine YF (Ev.load_old_agg tok (rowC (b.row (seg b v + 1))) rfl rfl rfl (add_lt hlt) (hb.row hs)) ?_) | (refine M4 ?_; refine SR ?_) | (refine M5 ?_; first | exact M7 | refine YM ?_ | refine YN ?_ ?_)))
    all_goals
      refine XE.leaf (_, _) ZZSUB (fun _ S' => by first | exact S' | exact S'.perm (by repeat (first | exact List.Perm.refl _ | refine perm1 ?_ | refine List.Perm.cons _ ?_ | refine perm2 ?_)) | exact (S'.pop (by assumption)) | exact (S'.pop2 (by assumption))) ?_
      exact ⟨by assumption, by assumption⟩
  rintro ⟨g1, g2⟩ ⟨hg1, hg2⟩
  simp only at hg1 hg2
  dsimp only [List.cons_append, List.nil_append]
  refine XC.hint 7 3 (XC.hint 8 2 ?_)
  obtain ⟨hp1, hp2, hp3, hp4⟩ := parts_bd ho hv
  obtain ⟨ht1, ht2⟩ := terms_bd ho hv
  unfold den at hp2
  repeat (first | (refine M0 ?_; first | refine SL ?_ | refine SB fun _ _ => ?_) | (refine M1 ?_; first | refine SC ?_ | refine SD ?_) | (refine M2 ?_; refine SE ?_) | (refine M3 ?_; first | refine SG ?_ | refine SF ?_) | (refine M4 ?_; refine SR ?_) | (refine M5 ?_; first | exact M7 | refine YM ?_ | refine YN ?_ ?_))
  rw [show (b.row (seg b v + 1)).vol - (b.row (seg b v)).vol = den b v from rfl] at *
  repeat (first | (refine M0 ?_; first | refine SL ?_ | refine SB fun _ _ => ?_) | (refine M1 ?_; first | refine SC ?_ | refine SD ?_) | (refine M2 ?_; refine SE ?_) | (refine M3 ?_; first | refine SG ?_ | refine SF ?_) | (refine M4 ?_; refine SR ?_) | (refine M5 ?_; first | exact M7 | refine YM ?_ | refine YN ?_ ?_))
  refine XE.retg tok Tryz.results108 rfl (by simp only [and_self, and_true]) (fun w' S => ?_)
  exact ⟨rfl, S.toBelow⟩
theorem floor_any {a b : Int} (hb : 1 ≤ b) (ha : -9223372036854775807 ≤ a ∧ a ≤ 9223372036854775807) (w : World) :
    Calls Tryz.prog 166 #[.int .i64 a, .int .i64 b] w fun e w' => e = .returned (.int .i64 (a / b)) ∧ Below w.heap.size w w' := by
  have h1 := tdiv_bd (a := a) hb
  have h2 := tdiv_mul (a := a) hb
  have h3 := floor_bd (a := a) hb
  have h4 := floor_eq (a := a) hb
  have h5 : i64in a := by unfold i64in; omega
  have h6 : i64in (a.tdiv b * b) := by unfold i64in; omega
  refine enter Tryz.func166 rfl Tryz.ntmps166 rfl ?_; simp only [frame, Nat.zero_add, Nat.reduceAdd]
  repeat (first | (refine M0 ?_; first | refine SL ?_ | refine SB fun _ _ => ?_) | (refine M1 ?_; first | refine SC ?_ | refine SD ?_) | (refine M2 ?_; refine SE ?_) | (refine M3 ?_; first | refine SG ?_ | refine SF ?_) | (refine M4 ?_; refine SR ?_) | (refine M5 ?_; first | exact M7 | refine YM ?_ | refine YN ?_ ?_))
  refine XC.cond _ rfl (fun h => ?_) (fun h => ?_)
  · simp only [decide_eq_true_eq] at h
    rw [if_pos h] at h4
    have h7 : i64in (a.tdiv b - 1) := by unfold i64in; omega
    repeat (first | (refine M0 ?_; first | refine SL ?_ | refine SB fun _ _ => ?_) | (refine M1 ?_; first | refine SC ?_ | refine SD ?_) | (refine M2 ?_; refine SE ?_) | (refine M3 ?_; first | refine SG ?_ | refine SF ?_) | (refine M4 ?_; refine SR ?_) | (refine M5 ?_; first | exact M7 | refine YM ?_ | refine YN ?_ ?_))
    refine XE.retg tok Tryz.results166 rfl (by simp only [and_self, and_true]) (fun w' S => ?_)
    exact ⟨by rw [h4]; rfl, S.toBelow⟩
  · simp only [decide_eq_false_iff_not] at h
    rw [if_neg h] at h4
    repeat (first | (refine M0 ?_; first | refine SL ?_ | refine SB fun _ _ => ?_) | (refine M1 ?_; first | refine SC ?_ | refine SD ?_) | (refine M2 ?_; refine SE ?_) | (refine M3 ?_; first | refine SG ?_ | refine SF ?_) | (refine M4 ?_; refine SR ?_) | (refine M5 ?_; first | exact M7 | refine YM ?_ | refine YN ?_ ?_))
    refine XE.retg tok Tryz.results166 rfl (by simp only [and_self, and_true]) (fun w' S => ?_)
    exact ⟨by rw [h4]; rfl, S.toBelow⟩
def rV (n d : Int) : Value := .agg ⟨[.int .i64 n, .int .i64 d]⟩
theorem above_any {n d level : Int} (h1 : i64in (level * d)) (w : World) :
    Calls Tryz.prog 164 #[rV n d, .int .i64 level] w fun e w' => e = .returned (.bool (decide (level * d < n))) ∧ Below w.heap.size w w' := by
  unfold rV
  refine enter Tryz.func164 rfl Tryz.ntmps164 rfl ?_; simp only [frame, Nat.zero_add, Nat.reduceAdd]
  repeat (first | (refine M0 ?_; first | refine SL ?_ | refine SB fun _ _ => ?_) | (refine M1 ?_; first | refine SC ?_ | refine SD ?_) | (refine M2 ?_; refine SE ?_) | (refine M3 ?_; first | refine SG ?_ | refine SF ?_) | (refine M4 ?_; refine SR ?_) | (refine M5 ?_; first | exact M7 | refine YM ?_ | refine YN ?_ ?_))
  refine XE.retg tok Tryz.results164 rfl (by simp only [and_self, and_true]) (fun w' S => ?_)
  exact ⟨rfl, S.toBelow⟩
theorem over_any {n d level rate : Int} (hd : 1 ≤ d) (h1 : i64in (level * d)) (h2 : i64in (n - level * d)) (h3 : -9223372036854775807 ≤ rate * (n - level * d) ∧ rate * (n - level * d) ≤ 9223372036854775807) (w : World) :
    Calls Tryz.prog 165 #[rV n d, .int .i64 level, .int .i64 rate] w fun e w' => e = .returned (.int .i64 (rate * (n - level * d) / d)) ∧ Below w.heap.size w w' := by
  unfold rV
  have h4 : i64in (rate * (n - level * d)) := by unfold i64in; omega
  refine enter Tryz.func165 rfl Tryz.ntmps165 rfl ?_; simp only [frame, Nat.zero_add, Nat.reduceAdd]
  repeat (first | (refine M0 ?_; first | refine SL ?_ | refine SB fun _ _ => ?_ | refine Y4 (Ev.call (f := 166) (ck rfl) rfl (fun w S => floor_any hd h3 w)) ?_) | (refine M1 ?_; first | refine SC ?_ | refine SD ?_) | (refine M2 ?_; refine SE ?_) | (refine M3 ?_; first | refine SG ?_ | refine SF ?_ | refine YF (Ev.call (f := 166) (ck rfl) rfl (fun w S => floor_any hd h3 w)) ?_) | (refine M4 ?_; refine SR ?_) | (refine M5 ?_; first | exact M7 | refine YM ?_ | refine YN ?_ ?_))
  refine XE.retg tok Tryz.results165 rfl (by simp only [and_self, and_true]) (fun w' S => ?_)
  exact ⟨rfl, S.toBelow⟩
theorem minus_any {n d : Int} (h1 : i64in (-n)) (w : World) :
    Calls Tryz.prog 109 #[rV n d] w fun e w' => e = .returned (rV (-n) d) ∧ Below w.heap.size w w' := by
  unfold rV
  refine enter Tryz.func109 rfl Tryz.ntmps109 rfl ?_; simp only [frame, Nat.zero_add, Nat.reduceAdd]
  repeat (first | (refine M0 ?_; first | refine SL ?_ | refine SB fun _ _ => ?_) | (refine M1 ?_; first | refine SC ?_ | refine SD ?_) | (refine M2 ?_; refine SE ?_) | (refine M3 ?_; first | refine SG ?_ | refine SF ?_) | (refine M4 ?_; refine SR ?_) | (refine M5 ?_; first | exact M7 | refine YM ?_ | refine YN ?_ ?_))
  refine XE.retg tok Tryz.results109 rfl (by simp only [and_self, and_true]) (fun w' S => ?_)
  exact ⟨rfl, S.toBelow⟩
end X
namespace X
open Go Go.RowKit Bs
structure ReadsP (w : World) (ok : Nat → Prop) (size : Nat) (A : Option Addr) (n : Nat) (xs : List Value) : Prop where
  len : xs.length = n * size
  at_ : 0 < n → ∃ ad, A = some ad ∧ ok ad.block ∧ ∀ j u, xs[j]? = some u → w.cell? (ad.add j) = some u
def Keep (ok : Nat → Prop) (w0 : World) (L : Lo) : Prop := ∀ k, ok k → k < w0.heap.size ∧ ∀ e, e ∈ L → e.1 ≠ k
def Lt (B : Nat) : Nat → Prop := fun k => k < B
def Btw (a b : Nat) : Nat → Prop := fun k => a ≤ k ∧ k < b
section
variable {w w' w0 : World} {ok ok' : Nat → Prop} {B size n : Nat} {A : Option Addr} {xs : List Value} {L : Lo}
theorem ReadsP.of (h : Reads w B size A n xs) : ReadsP w (Lt B) size A n xs := ⟨h.1, h.2⟩
theorem ReadsP.nil : ReadsP w ok size A 0 [] := ⟨by simp, fun h => absurd h (by omega)⟩
theorem ReadsP.keep (h : ReadsP w ok size A n xs) (hk : ∀ k, ok k → w'.heap[k]? = w.heap[k]?) : ReadsP w' ok size A n xs :=
  ⟨h.1, fun hn => by
    obtain ⟨ad, e, hb, hc⟩ := h.2 hn
    exact ⟨ad, e, hb, fun j u hu => (World.cell?_of_block (hk _ (by rw [add_block]; exact hb))).trans (hc j u hu)⟩⟩
theorem ReadsP.mono (h : ReadsP w ok size A n xs) (hk : ∀ k, ok k → ok' k) : ReadsP w ok' size A n xs :=
  ⟨h.1, fun hn => by
    obtain ⟨ad, e, hb, hc⟩ := h.2 hn
    exact ⟨ad, e, hk _ hb, hc⟩⟩
theorem Keep.sys (hk : Keep ok w0 L) (S : Sys B w0 L w) : ∀ k, ok k → w.heap[k]? = w0.heap[k]? := fun k h => S.old k (hk k h).1 (hk k h).2
theorem Keep.lt (hk : Keep ok w0 L) (S : Sys B w0 L w) : ∀ k, ok k → Lt w.heap.size k := fun k h => Nat.lt_of_lt_of_le (hk k h).1 S.size
theorem ReadsP.sys (h : ReadsP w0 ok size A n xs) (S : Sys B w0 L w) (hk : Keep ok w0 L) : ReadsP w (Lt w.heap.size) size A n xs := (h.keep (hk.sys S)).mono (hk.lt S)
theorem Keep.arg (S : Sys B w0 L w) : Keep (Lt B) w0 L := fun k h => ⟨Nat.lt_of_lt_of_le h S.base, fun e he e1 => by have := (S.own e he).1; have : k < B := h; omega⟩
theorem ReadsP.arg (h : ReadsP w0 (Lt B) size A n xs) (S : Sys B w0 L w) : ReadsP w (Lt w.heap.size) size A n xs := h.sys S (Keep.arg S)
theorem Keep.cons {g : Nat} {o : Obj} (h : Keep ok w0 L) (hg : ∀ k, ok k → g ≠ k) : Keep ok w0 ((g, o) :: L) := fun k hk => ⟨(h k hk).1, fun e he => by
  rcases List.mem_cons.1 he with rfl | he
  · exact hg k hk
  · exact (h k hk).2 e he⟩
theorem Keep.new {g : Nat} {o : Obj} (h : Keep ok w0 L) (hg : w0.heap.size ≤ g) : Keep ok w0 ((g, o) :: L) := h.cons fun k hk e => by have := (h k hk).1; omega
theorem Keep.turn {L' : Lo} (h : Keep ok w0 L) (e : L'.map (·.1) = L.map (·.1)) : Keep ok w0 L' := fun k hk => ⟨(h k hk).1, fun x hx e1 => by
  have : x.1 ∈ L'.map (·.1) := List.mem_map.2 ⟨x, hx, rfl⟩
  rw [e] at this
  obtain ⟨y, hy, e2⟩ := List.mem_map.1 this
  exact (h k hk).2 y hy (e2.trans e1)⟩
theorem Keep.made (S : Sys B w0 L w) {hi : Nat} (hh : hi ≤ w'.heap.size) : Keep (Btw w.heap.size hi) w' L := fun k hk => ⟨Nat.lt_of_lt_of_le hk.2 hh, fun e he e1 => by have := S.lt he; have := hk.1; omega⟩
end
structure SV where
  A : Option Addr
  n : Nat
  c : Nat
def svV (q : SV) : Value := .slice q.A q.n q.c
structure IntsAt (w : World) (ok : Nat → Prop) (q : SV) (l : List Int) : Prop where
  rd : ReadsP w ok 1 q.A q.n (ints l)
  max : q.n ≤ 9223372036854775807
def at0 (l : List Int) (i : Nat) : Int := l[i]?.getD 0
section
variable {w w' w0 : World} {ok ok' : Nat → Prop} {B : Nat} {q : SV} {l : List Int} {L : Lo}
theorem IntsAt.len (h : IntsAt w ok q l) : q.n = l.length := by have := h.rd.len; rw [ints_len] at this; omega
theorem IntsAt.keep (h : IntsAt w ok q l) (hk : ∀ k, ok k → w'.heap[k]? = w.heap[k]?) : IntsAt w' ok q l := ⟨h.rd.keep hk, h.max⟩
theorem IntsAt.mono (h : IntsAt w ok q l) (hk : ∀ k, ok k → ok' k) : IntsAt w ok' q l := ⟨h.rd.mono hk, h.max⟩
theorem IntsAt.sys (h : IntsAt w0 ok q l) (S : Sys B w0 L w) (hk : Keep ok w0 L) : IntsAt w (Lt w.heap.size) q l := ⟨h.rd.sys S hk, h.max⟩
theorem IntsAt.arg (h : IntsAt w0 (Lt B) q l) (S : Sys B w0 L w) : IntsAt w (Lt w.heap.size) q l := ⟨h.rd.arg S, h.max⟩
theorem IntsAt.below (h : IntsAt w (Lt B) q l) (hb : Below B w w') : IntsAt w' (Lt B) q l := h.keep fun k hk => hb.block k hk
theorem IntsAt.at_ {A : Option Addr} {n c : Nat} (h : IntsAt w ok ⟨A, n, c⟩ l) (hn : 0 < l.length) : ∃ ad, A = some ad ∧ ok ad.block ∧ ∀ i, i < l.length → w.cell? (ad.add (i * 1)) = some (.int .i64 (at0 l i)) := by
  have e := h.len
  simp only at e
  obtain ⟨ad, e1, h1, h2⟩ := h.rd.at_ (by simp only; omega)
  refine ⟨ad, e1, h1, fun i hi => ?_⟩
  rw [Nat.mul_one]
  refine h2 i _ ?_
  simp [ints, at0, hi]
end
def staC (q : SV) (s : Sta) : List Value := [.int .i64 s.vol, .slice q.A q.n q.c]
def staV (q : SV) (s : Sta) : Value := .agg ⟨staC q s⟩
def tickC (t : Tick) : List Value := [.int .i64 t.outer, .int .i64 t.river, .int .i64 t.out]
def tickV (t : Tick) : Value := .agg ⟨tickC t⟩
def floC (q : SV) (f : Flo) : List Value := [.int .i64 f.river, .int .i64 f.over, .int .i64 f.leak, .int .i64 f.out, .slice q.A q.n q.c]
def floV (q : SV) (f : Flo) : Value := .agg ⟨floC q f⟩
end X
namespace Bs
def Sta.f (s : Sta) (i : Nat) : Int := s.fil[i]?.getD 0
def staBad (b : Bas) (s : Sta) : Prop := outB s.vol (b.row 0).vol 1000000000 = true ∨ ∃ i, i < b.pols.length ∧ outB (s.f i) 0 (b.pol i).room = true
open Classical in
noncomputable def staErr (b : Bas) (s : Sta) : Int := if chkE b ≠ 0 then chkE b else if s.fil.length ≠ b.pols.length then 2 else if staBad b s then 7 else 0
structure StaOk (b : Bas) (s : Sta) : Prop where
  len : s.fil.length = b.pols.length
  vol : (b.row 0).vol ≤ s.vol ∧ s.vol ≤ 1000000000
  fil : ∀ i, i < b.pols.length → 0 ≤ s.f i ∧ s.f i ≤ (b.pol i).room
theorem staErr_c {b : Bas} {s : Sta} (h : chkE b ≠ 0) : staErr b s = chkE b := by unfold staErr; rw [if_pos h]
theorem staErr_2 {b : Bas} {s : Sta} (h : chkE b = 0) (h1 : s.fil.length ≠ b.pols.length) : staErr b s = 2 := by unfold staErr; rw [if_neg (by simp [h]), if_pos h1]
theorem staErr_7 {b : Bas} {s : Sta} (h : chkE b = 0) (h1 : s.fil.length = b.pols.length) (h2 : staBad b s) : staErr b s = 7 := by unfold staErr; rw [if_neg (by simp [h]), if_neg (by simp [h1]), if_pos h2]
theorem staErr_0 {b : Bas} {s : Sta} (h : chkE b = 0) (h1 : s.fil.length = b.pols.length) (h2 : ¬ staBad b s) : staErr b s = 0 := by unfold staErr; rw [if_neg (by simp [h]), if_neg (by simp [h1]), if_neg h2]
theorem staOk_of {b : Bas} {s : Sta} (h : staErr b s = 0) : Ok b ∧ StaOk b s := by
  unfold staErr at h
  split at h
  · rename_i h1; exact absurd h h1
  · rename_i h1
    split at h
    · cases h
    · rename_i h2
      split at h
      · cases h
      · rename_i h3
        refine ⟨ok_of (by simpa using h1), by simpa using h2, ?_, fun i hi => ?_⟩
        · exact outB_f.1 (by cases hx : outB s.vol (b.row 0).vol 1000000000 with | false => rfl | true => exact absurd (.inl hx) h3)
        · exact outB_f.1 (by cases hx : outB (s.f i) 0 (b.pol i).room with | false => rfl | true => exact absurd (.inr ⟨i, hi, hx⟩) h3)
end Bs
namespace X
open Go Go.RowKit Bs
end X
namespace X
open Go Go.RowKit Bs
theorem polRoom {w : World} {B : Nat} {A : Option Addr} {n c n2 c2 : Nat} {ad : Addr} {b : Bas} (hb : BasAt w B ⟨A, n, c, some ad, n2, c2⟩ b) {i : Nat} (hi : i < b.pols.length) : w.cell? ((ad.add (i * 4)).add 3) = some (.int .i64 (b.pol i).room) := hb.pol hi 3 _ rfl
set_option maxHeartbeats 4000000 in
theorem checkState_any {p : BV} {b : Bas} {q : SV} {s : Sta} {w : World} (hb : BasAt w w.heap.size p b) (hs : IntsAt w (Lt w.heap.size) q s.fil) :
    Calls Tryz.prog 22 #[basV p b, staV q s] w fun e w' => e = .returned (.int .i64 (staErr b s)) ∧ Below w.heap.size w w' := by
  obtain ⟨A, n, c, A2, n2, c2⟩ := p
  obtain ⟨A3, n3, c3⟩ := q
  have hn := hb.n_eq
  have hn2 := hb.n2_eq
  have hn3 := hs.len
  have hl2 := hb.len2
  have hl3 := hs.max
  simp only at hn hn2 hn3 hl2 hl3
  subst hn hn2 hn3
  simp only [basV, basC, staV, staC]
  refine enter Tryz.func22 rfl Tryz.ntmps22 rfl ?_; simp only [frame, Nat.zero_add, Nat.reduceAdd]
  repeat (first | (refine M0 ?_; first | refine SL ?_ | refine SB fun _ _ => ?_ | refine Y4 (Ev.call (f := 20) (ck rfl) rfl (fun w S => (valid_any (hb.sys S) :))) ?_) | (refine M1 ?_; first | refine SC ?_ | refine SD ?_) | (refine M2 ?_; refine SE ?_) | (refine M3 ?_; first | refine SG ?_ | refine SF ?_ | refine YF (Ev.call (f := 20) (ck rfl) rfl (fun w S => (valid_any (hb.sys S) :))) ?_) | (refine M4 ?_; refine SR ?_) | (refine M5 ?_; first | exact M7 | refine YM ?_ | refine YN ?_ ?_))
  refine XC.cond _ rfl (fun h0 => ?_) (fun h0 => ?_)
  · repeat (first | (refine M0 ?_; first | refine SL ?_ | refine SB fun _ _ => ?_) | (refine M1 ?_; first | refine SC ?_ | refine SD ?_) | (refine M2 ?_; refine SE ?_) | (refine M3 ?_; first | refine SG ?_ | refine SF ?_) | (refine M4 ?_; refine SR ?_) | (refine M5 ?_; first | exact M7 | refine YM ?_ | refine YN ?_ ?_))
    refine XE.retg tok Tryz.results22 rfl (by simp only [and_self, and_true]) (fun w' S => ?_)
    exact ⟨by rw [staErr_c (by simpa using h0)]; rfl, S.toBelow⟩
  have hc : chkE b = 0 := by simpa using h0
  have ho := (ok_of hc).rowsOk
  have h2 := ho.n2
  obtain ⟨ad, rfl, hlt⟩ := hb.rows.addr (by simp only; omega)
  repeat (first | (refine M0 ?_; first | refine SL ?_ | refine SB fun _ _ => ?_) | (refine M1 ?_; first | refine SC ?_ | refine SD ?_) | (refine M2 ?_; refine SE ?_) | (refine M3 ?_; first | refine SG ?_ | refine SF ?_) | (refine M4 ?_; refine SR ?_) | (refine M5 ?_; first | exact M7 | refine YM ?_ | refine YN ?_ ?_))
  refine XC.cond _ rfl (fun h1 => ?_) (fun h1 => ?_)
  · repeat (first | (refine M0 ?_; first | refine SL ?_ | refine SB fun _ _ => ?_) | (refine M1 ?_; first | refine SC ?_ | refine SD ?_) | (refine M2 ?_; refine SE ?_) | (refine M3 ?_; first | refine SG ?_ | refine SF ?_) | (refine M4 ?_; refine SR ?_) | (refine M5 ?_; first | exact M7 | refine YM ?_ | refine YN ?_ ?_))
    refine XE.retg tok Tryz.results22 rfl (by simp only [and_self, and_true]) (fun w' S => ?_)
    exact ⟨by rw [staErr_2 hc (by simp only [ne_eq, decide_eq_true_eq] at h1; omega)]; rfl, S.toBelow⟩
  have hl : s.fil.length = b.pols.length := by simp only [ne_eq, decide_eq_false_iff_not, Decidable.not_not] at h1; omega
  repeat (first | (refine M0 ?_; first | refine SL ?_ | refine SB fun _ _ => ?_ | refine Y4 (Ev.load_old tok rfl rfl (add_lt2 hlt) (hb.rowVol (i := 0) (by omega))) ?_ | refine Y4 (Ev.call (f := 21) (ck rfl) rfl (fun w _ => out_any _ _ _ w)) ?_) | (refine M1 ?_; first | refine SC ?_ | refine SD ?_) | (refine M2 ?_; refine SE ?_) | (refine M3 ?_; first | refine SG ?_ | refine SF ?_ | refine YF (Ev.load_old tok rfl rfl (add_lt2 hlt) (hb.rowVol (i := 0) (by omega))) ?_ | refine YF (Ev.call (f := 21) (ck rfl) rfl (fun w _ => out_any _ _ _ w)) ?_) | (refine M4 ?_; refine SR ?_) | (refine M5 ?_; first | exact M7 | refine YM ?_ | refine YN ?_ ?_))
  refine XC.cond _ rfl (fun h3 => ?_) (fun h3 => ?_)
  · repeat (first | (refine M0 ?_; first | refine SL ?_ | refine SB fun _ _ => ?_) | (refine M1 ?_; first | refine SC ?_ | refine SD ?_) | (refine M2 ?_; refine SE ?_) | (refine M3 ?_; first | refine SG ?_ | refine SF ?_) | (refine M4 ?_; refine SR ?_) | (refine M5 ?_; first | exact M7 | refine YM ?_ | refine YN ?_ ?_))
    refine XE.retg tok Tryz.results22 rfl (by simp only [and_self, and_true]) (fun w' S => ?_)
    exact ⟨by rw [staErr_7 hc hl (.inl h3)]; rfl, S.toBelow⟩
  repeat (first | (refine M0 ?_; first | refine SL ?_ | refine SB fun _ _ => ?_) | (refine M1 ?_; first | refine SC ?_ | refine SD ?_) | (refine M2 ?_; refine SE ?_) | (refine M3 ?_; first | refine SG ?_ | refine SF ?_) | (refine M4 ?_; refine SR ?_) | (refine M5 ?_; first | exact M7 | refine YM ?_ | refine YN ?_ ?_))
  refine XC.loopk [2, 32, 33] rfl (fun k : Nat => [(34, .int .i64 (k : Nat))]) (fun _ => _) (fun _ => w) (fun k => k ≤ s.fil.length ∧ ∀ j, j < k → outB (s.f j) 0 (b.pol j).room = false) (fun k => s.fil.length - k) 0 ⟨Nat.zero_le _, fun j hj => by omega⟩ ZZSUB (fun _ h => h) ?_
  rintro k ⟨hk, hok⟩
  dsimp only [List.cons_append, List.nil_append]
  repeat (first | (refine M0 ?_; first | refine SL ?_ | refine SB fun _ _ => ?_) | (refine M1 ?_; first | refine SC ?_ | refine SD ?_) | (refine M2 ?_; refine SE ?_) | (refine M3 ?_; first | refine SG ?_ | refine SF ?_) | (refine M4 ?_; refine SR ?_) | (refine M5 ?_; first | exact M7 | refine YM ?_ | refine YN ?_ ?_))
  refine XC.cond _ rfl (fun h4 => ?_) (fun h4 => ?_)
  · have hlk : k < s.fil.length := by simpa using h4
    obtain ⟨ad2, rfl, hlt2⟩ := hb.pols.addr (by simp only; omega)
    obtain ⟨ad3, rfl, hlt3, hc3⟩ := hs.at_ (by omega)
    repeat (any_goals (first | (refine M0 ?_; first | refine SL ?_ | refine SB fun _ _ => ?_ | (refine XL.split _ _ rfl (fun h => ?_) (fun h => ?_) <;> rw [h]) | refine Y4 (Ev.load_old tok rfl rfl (add_lt hlt3) (hc3 k hlk)) ?_ | refine Y4 (Ev.load_old tok rfl rfl (add_lt2 hlt2) (polRoom hb (i := k) (by omega))) ?_ | refine Y4 (Ev.call (f := 21) (ck rfl) rfl (fun w _ => out_any _ _ _ w)) ?_) | (refine M1 ?_; first | refine SC ?_ | refine SD ?_ | refine XC.cond _ rfl (fun h => ?_) (fun h => ?_)) | (refine M2 ?_; refine SE ?_) | (refine M3 ?_; first | refine SG ?_ | refine SF ?_ | (refine Fw.split _ _ rfl (fun h => ?_) (fun h => ?_) <;> rw [h]) | refine YF (Ev.load_old tok rfl rfl (add_lt hlt3) (hc3 k hlk)) ?_ | refine YF (Ev.load_old tok rfl rfl (add_lt2 hlt2) (polRoom hb (i := k) (by omega))) ?_ | refine YF (Ev.call (f := 21) (ck rfl) rfl (fun w _ => out_any _ _ _ w)) ?_) | (refine M4 ?_; refine SR ?_) | (refine M5 ?_; first | exact M7 | refine YM ?_ | refine YN ?_ ?_)))
    · refine XE.retg tok Tryz.results22 rfl (by simp only [and_self, and_true]) (fun w' S => ?_)
      exact ⟨by rw [staErr_7 hc hl (.inr ⟨k, by omega, h⟩)]; rfl, S.toBelow⟩
    · refine XE.round (k + 1) ⟨hlk, fun j hj => ?_⟩ (by omega) ZZSUB (fun _ h => by first | exact h | exact h.pop (by assumption) | exact (h.pop (by assumption)).pop (by assumption) | exact ((h.pop (by assumption)).pop (by assumption)).pop (by assumption) | exact (((h.pop (by assumption)).pop (by assumption)).pop (by assumption)).pop (by assumption) | exact Sys.anchor (by assumption) h (by simp) (by simp))
      rcases Nat.lt_succ_iff_lt_or_eq.1 hj with hj | rfl
      · exact hok j hj
      · exact h
  · have hge : k = s.fil.length := by simp at h4; omega
    subst hge
    repeat (first | (refine M0 ?_; first | refine SL ?_ | refine SB fun _ _ => ?_) | (refine M1 ?_; first | refine SC ?_ | refine SD ?_) | (refine M2 ?_; refine SE ?_) | (refine M3 ?_; first | refine SG ?_ | refine SF ?_) | (refine M4 ?_; refine SR ?_) | (refine M5 ?_; first | exact M7 | refine YM ?_ | refine YN ?_ ?_))
    refine XE.retg tok Tryz.results22 rfl (by simp only [and_self, and_true]) (fun w' S => ?_)
    refine ⟨?_, S.toBelow⟩
    rw [staErr_0 hc hl]
    · rfl
    · rintro (hx | ⟨i, hi, hx⟩)
      · rw [h3] at hx; cases hx
      · rw [hok i (by omega)] at hx; cases hx
def watC (p : BV) (b : Bas) (q : SV) (s : Sta) (t : Tick) (r : SV) (f : Flo) : List Value :=
  [.slice p.A p.n p.c, .int .i64 b.leak, .int .i64 b.crest, .int .i64 b.over, .slice p.A2 p.n2 p.c2, .int .i64 s.vol, .slice q.A q.n q.c, .int .i64 t.outer, .int .i64 t.river, .int .i64 t.out,
   .int .i64 f.river, .int .i64 f.over, .int .i64 f.leak, .int .i64 f.out, .slice r.A r.n r.c]
abbrev watO (p : BV) (b : Bas) (q : SV) (s : Sta) (t : Tick) (r : SV) (f : Flo) : Obj := cel 220 (watC p b q s t r f)
theorem Sys.same1 {B : Nat} {w w' : World} {g : Nat} {o : Obj} (h : w.heap[g]? = some o) (S : Sys B w [(g, o)] w') : Below w.heap.size w w' :=
  ⟨S.os, S.tape, S.output, S.size, fun k hk => by
    by_cases e : k = g
    · subst e; rw [(S.own (k, o) (by simp)).2, h]
    · exact S.old k hk fun x hx e1 => by simp only [List.mem_singleton] at hx; subst hx; exact e e1.symm⟩
section
variable {g : Nat} {p : BV} {b : Bas} {q r : SV} {s : Sta} {t : Tick} {f : Flo} {w : World}
theorem spill_any (h : w.heap[g]? = some (watO p b q s t r f)) :
    Calls Tryz.prog 107 #[.pointer (some ⟨g, 0, none⟩)] w fun e w' => e = .returned (.bool (decide (1000000000 < s.vol))) ∧ Below w.heap.size w w' := by
  simp only [watO, watC] at h
  refine enterL Tryz.func107 rfl Tryz.ntmps107 rfl (Sys.start1 (Nat.le_refl g) h) ?_; simp only [frame, Nat.zero_add, Nat.reduceAdd]
  refine XC.hint 0 0 ?_
  repeat (first | (refine M0 ?_; first | refine SL ?_ | refine SB fun _ _ => ?_) | (refine M1 ?_; first | refine SC ?_ | refine SD ?_) | (refine M2 ?_; refine SE ?_) | (refine M3 ?_; first | refine SG ?_ | refine SF ?_) | (refine M4 ?_; refine SR ?_) | (refine M5 ?_; first | exact M7 | refine YM ?_ | refine YN ?_ ?_))
  refine XE.retg tok Tryz.results107 rfl (by simp only [and_self, and_true]) (fun w' S => ?_)
  exact ⟨rfl, S.same1 h⟩
end
end X
namespace Bs
def Bas.v0 (b : Bas) : Int := (b.row 0).vol
def leakQ (b : Bas) (outer v : Int) : Int := b.leak * (-(num b v) - (-outer) * den b v) / den b v
def leakOf (b : Bas) (outer v : Int) : Int := max (leakQ b outer v) (b.v0 - v)
def takeOf (b : Bas) (i : Nat) (v fil : Int) : Int := if (b.pol i).sill * den b v < num b v then min ((b.pol i).take * (num b v - (b.pol i).sill * den b v) / den b v) ((b.pol i).room - fil) else 0
def polV (b : Bas) (s : Sta) (v : Int) : Nat → Int
  | 0 => v
  | k + 1 => polV b s v k - takeOf b k (polV b s v k) (s.f k)
def polT (b : Bas) (s : Sta) (v : Int) (k : Nat) : Int := takeOf b k (polV b s v k) (s.f k)
def rg (n : Nat) (f : Nat → Int) : List Int := (List.range n).map f
theorem rg_len (n : Nat) (f : Nat → Int) : (rg n f).length = n := by simp [rg]
theorem rg_at {n : Nat} {f : Nat → Int} {i : Nat} (h : i < n) : (rg n f)[i]?.getD 0 = f i := by simp [rg, h]
theorem rg_succ (n : Nat) (f : Nat → Int) : rg (n + 1) f = rg n f ++ [f n] := by simp [rg, List.range_succ]
section
variable (b : Bas) (s : Sta) (t : Tick)
def tickBad : Bool := highB t.outer || (outB t.river 0 10000000 || outB t.out 0 10000000)
def vol1 : Int := s.vol + t.river
def overOf : Int := b.over * max 0 (t.outer - b.crest)
def vol2 : Int := vol1 s t + overOf b t
def vol3 : Int := vol2 b s t + leakOf b t.outer (vol2 b s t)
def outOf : Int := min t.out (vol3 b s t - b.v0)
def vol4 : Int := vol3 b s t - outOf b s t
def stepE : Int := if tickBad t then 7 else if 1000000000 < vol1 s t then 3 else if 1000000000 < vol2 b s t then 3 else if 1000000000 < vol3 b s t then 3 else 0
def stepS : Sta := ⟨polV b s (vol4 b s t) b.pols.length, rg b.pols.length fun i => s.f i + polT b s (vol4 b s t) i⟩
def stepF : Flo := ⟨t.river, overOf b t, leakOf b t.outer (vol2 b s t), outOf b s t, rg b.pols.length fun i => polT b s (vol4 b s t) i⟩
end
theorem great_le (b : Bas) : ∀ (n i : Nat), i < n → (b.pol i).take ≤ great b n := by
  intro n
  induction n with
  | zero => intro i h; omega
  | succ n ih =>
    intro i h
    unfold great
    by_cases e : i = n
    · subst e; omega
    · have := ih i (by omega); omega
section
variable {b : Bas} (h : Ok b)
include h
theorem great_bd : 0 ≤ great b b.pols.length ∧ great b b.pols.length ≤ 10000 := by
  have : ∀ n, n ≤ b.pols.length → 0 ≤ great b n ∧ great b n ≤ 10000 := by
    intro n
    induction n with
    | zero => intro _; exact h.leak
    | succ n ih => intro hn; have := ih (by omega); have := h.take n (by omega); unfold great; omega
  exact this _ (Nat.le_refl _)
theorem wide_rows : ∀ i, i < b.rows.length → great b b.pols.length * ((b.row i).level - (b.row 0).level) ≤ (b.row i).vol - (b.row 0).vol := by
  intro i
  induction i with
  | zero => intro _; simp
  | succ i ih =>
    intro hi
    have h1 := ih (by omega)
    have h2 := h.wide i hi
    unfold wideAt at h2
    have e : great b b.pols.length * ((b.row (i + 1)).level - (b.row 0).level) = great b b.pols.length * ((b.row i).level - (b.row 0).level) + great b b.pols.length * ((b.row (i + 1)).level - (b.row i).level) := by rw [← Int.mul_add]; congr 1; omega
    omega
omit h in
theorem alg1 (G a a0 x dl d : Int) : G * ((a * d + x * dl) - a0 * d) = (G * (a - a0)) * d + x * (G * dl) := by grind
theorem wide_key {v : Int} (hv : b.v0 ≤ v) : great b b.pols.length * (num b v - (b.row 0).level * den b v) ≤ (v - b.v0) * den b v := by
  have hs := seg_lt h.rowsOk v
  have h1 := wide_rows h (seg b v) (by omega)
  have h2 := h.wide (seg b v) hs
  unfold wideAt at h2
  have h3 := seg_vol (b := b) (v := v) hv
  have hd := den_pos h.rowsOk v
  obtain ⟨G, hG⟩ : ∃ G, G = great b b.pols.length := ⟨_, rfl⟩
  rw [← hG] at h1 h2 ⊢
  have e : G * (num b v - (b.row 0).level * den b v) = (G * ((b.row (seg b v)).level - (b.row 0).level)) * den b v + (v - (b.row (seg b v)).vol) * (G * ((b.row (seg b v + 1)).level - (b.row (seg b v)).level)) := by
    unfold num
    exact alg1 _ _ _ _ _ _
  rw [e]
  have h4 : (G * ((b.row (seg b v)).level - (b.row 0).level)) * den b v ≤ ((b.row (seg b v)).vol - (b.row 0).vol) * den b v := Int.mul_le_mul_of_nonneg_right h1 (by omega)
  have h5 : (v - (b.row (seg b v)).vol) * (G * ((b.row (seg b v + 1)).level - (b.row (seg b v)).level)) ≤ (v - (b.row (seg b v)).vol) * den b v := Int.mul_le_mul_of_nonneg_left h2 (by omega)
  have h6 : (v - b.v0) * den b v = ((b.row (seg b v)).vol - (b.row 0).vol) * den b v + (v - (b.row (seg b v)).vol) * den b v := by
    rw [← Int.add_mul]; congr 1; unfold Bas.v0; omega
  omega
theorem takeOf_bd {v : Int} (hv : b.v0 ≤ v ∧ v ≤ 1000000000) {i : Nat} (hi : i < b.pols.length) {fil : Int} (hf : 0 ≤ fil ∧ fil ≤ (b.pol i).room) :
    0 ≤ takeOf b i v fil ∧ takeOf b i v fil ≤ v - b.v0 ∧ takeOf b i v fil ≤ (b.pol i).room - fil := by
  unfold takeOf
  have hd := den_pos h.rowsOk v
  have ht := h.take i hi
  have hsl := h.sill i hi
  by_cases hc : (b.pol i).sill * den b v < num b v
  · rw [if_pos hc]
    have h1 : 0 ≤ (b.pol i).take * (num b v - (b.pol i).sill * den b v) := Int.mul_nonneg ht.1 (by omega)
    have h2 : 0 ≤ (b.pol i).take * (num b v - (b.pol i).sill * den b v) / den b v := Int.ediv_nonneg h1 (by omega)
    have h3 : (b.pol i).take * (num b v - (b.pol i).sill * den b v) / den b v ≤ v - b.v0 := by
      have h4 := wide_key h hv.1
      have h5 : (b.row 0).level * den b v ≤ (b.pol i).sill * den b v := Int.mul_le_mul_of_nonneg_right hsl.1 (by omega)
      have h6 : (b.pol i).take * (num b v - (b.pol i).sill * den b v) ≤ great b b.pols.length * (num b v - (b.row 0).level * den b v) :=
        Int.le_trans (Int.mul_le_mul_of_nonneg_right (great_le b _ i hi) (by omega)) (Int.mul_le_mul_of_nonneg_left (by omega) (great_bd h).1)
      have h7 : (b.pol i).take * (num b v - (b.pol i).sill * den b v) / den b v ≤ (v - b.v0) * den b v / den b v := Int.ediv_le_ediv (by omega) (by omega)
      rw [Int.mul_ediv_cancel _ (by omega)] at h7
      exact h7
    omega
  · rw [if_neg hc]; omega
theorem polV_bd {s : Sta} (hs : StaOk b s) {v : Int} (hv : b.v0 ≤ v ∧ v ≤ 1000000000) : ∀ k, k ≤ b.pols.length → b.v0 ≤ polV b s v k ∧ polV b s v k ≤ v := by
  intro k
  induction k with
  | zero => intro _; simp [polV]; exact hv.1
  | succ k ih =>
    intro hk
    have h1 := ih (by omega)
    have h2 := takeOf_bd h (v := polV b s v k) (by omega) (i := k) (by omega) (hs.fil k (by omega))
    unfold polV; omega
theorem v0_bd : 0 ≤ b.v0 ∧ b.v0 ≤ 1000000000 := h.vol 0 (by have := h.n2; omega)
structure StepOk (b : Bas) (s : Sta) (t : Tick) : Prop where
  outer : -20000 ≤ t.outer ∧ t.outer ≤ 20000
  river : 0 ≤ t.river ∧ t.river ≤ 10000000
  out : 0 ≤ t.out ∧ t.out ≤ 10000000
  v1 : b.v0 ≤ vol1 s t ∧ vol1 s t ≤ 1000000000
  v2 : b.v0 ≤ vol2 b s t ∧ vol2 b s t ≤ 1000000000
  v3 : b.v0 ≤ vol3 b s t ∧ vol3 b s t ≤ 1000000000
  v4 : b.v0 ≤ vol4 b s t ∧ vol4 b s t ≤ 1000000000
theorem over_bd (t : Tick) (ht : -20000 ≤ t.outer ∧ t.outer ≤ 20000) : 0 ≤ overOf b t ∧ overOf b t ≤ 400000000 := by
  have h1 := h.over
  have h2 := h.crest
  have h3 := mul_bd (X := 10000) (Y := 40000) (x := b.over) (y := max 0 (t.outer - b.crest)) (by omega) (by omega)
  have h4 : 0 ≤ b.over * max 0 (t.outer - b.crest) := Int.mul_nonneg h1.1 (by omega)
  unfold overOf; omega
theorem stepOk_of {s : Sta} (hs : StaOk b s) {t : Tick} (he : stepE b s t = 0) : StepOk b s t := by
  unfold stepE at he
  split at he
  · cases he
  · rename_i h1
    simp only [tickBad, Bool.or_eq_true, not_or, Bool.not_eq_true] at h1
    have o1 := outB_f.1 h1.1
    have o2 := outB_f.1 h1.2.1
    have o3 := outB_f.1 h1.2.2
    split at he
    · cases he
    · split at he
      · cases he
      · split at he
        · cases he
        · have hv := hs.vol
          have h0 := v0_bd h
          have ho := over_bd h t o1
          have hl : b.v0 - vol2 b s t ≤ leakOf b t.outer (vol2 b s t) := by unfold leakOf; omega
          have hv1 : b.v0 ≤ vol1 s t := by unfold vol1; unfold Bas.v0; omega
          have hv2 : b.v0 ≤ vol2 b s t := by unfold vol2; omega
          have hv3 : b.v0 ≤ vol3 b s t := by unfold vol3; omega
          have hv4 : b.v0 ≤ vol4 b s t ∧ vol4 b s t ≤ vol3 b s t := by unfold vol4 outOf; omega
          exact ⟨o1, o2, o3, by omega, by omega, by omega, by omega⟩
theorem stepS_ok {s : Sta} (hs : StaOk b s) {t : Tick} (he : stepE b s t = 0) : StaOk b (stepS b s t) := by
  have hk := stepOk_of h hs he
  have h1 := polV_bd h hs hk.v4
  refine ⟨by simp [stepS, rg_len], ?_, fun i hi => ?_⟩
  · have := h1 _ (Nat.le_refl _); have := hk.v4; simp only [stepS, Bas.v0] at *; omega
  · have e : (stepS b s t).f i = s.f i + polT b s (vol4 b s t) i := by simp only [stepS, Sta.f]; exact rg_at hi
    have h2 := h1 i (by omega)
    have h3 := takeOf_bd h (v := polV b s (vol4 b s t) i) (by have := hk.v4; omega) hi (hs.fil i hi)
    have h4 := hs.fil i hi
    rw [e]; unfold polT; omega
theorem leakQ_bd {v outer : Int} (hv : b.v0 ≤ v ∧ v ≤ 1000000000) (ho : -20000 ≤ outer ∧ outer ≤ 20000) :
    (-20000000000000 ≤ (-outer) * den b v ∧ (-outer) * den b v ≤ 20000000000000) ∧ (-900000000000000000 ≤ b.leak * (-(num b v) - (-outer) * den b v) ∧ b.leak * (-(num b v) - (-outer) * den b v) ≤ 900000000000000000) ∧
    (-900000000000000000 ≤ leakQ b outer v ∧ leakQ b outer v ≤ 900000000000000000) := by
  have hd := den_pos h.rowsOk v
  have hn := num_bd h.rowsOk hv
  have m1 := mul_bd (X := 20000) (Y := 1000000000) (x := -outer) (y := den b v) (by omega) (by omega)
  have hl := h.leak
  have m2 := mul_bd (X := 10000) (Y := 90000000000000) (x := b.leak) (y := -(num b v) - (-outer) * den b v) (by omega) (by omega)
  have m3 := floor_bd (a := b.leak * (-(num b v) - (-outer) * den b v)) hd.1
  refine ⟨by omega, by omega, ?_⟩
  unfold leakQ; omega
theorem takeOver_bd {v : Int} (hv : b.v0 ≤ v ∧ v ≤ 1000000000) {i : Nat} (hi : i < b.pols.length) :
    (-20000000000000 ≤ (b.pol i).sill * den b v ∧ (b.pol i).sill * den b v ≤ 20000000000000) ∧ (-900000000000000000 ≤ (b.pol i).take * (num b v - (b.pol i).sill * den b v) ∧ (b.pol i).take * (num b v - (b.pol i).sill * den b v) ≤ 900000000000000000) := by
  have hd := den_pos h.rowsOk v
  have hn := num_bd h.rowsOk hv
  have ht := h.take i hi
  have hsl := h.sill i hi
  have hl := h.level 0 (by have := h.n2; omega)
  have m1 := mul_bd (X := 20000) (Y := 1000000000) (x := (b.pol i).sill) (y := den b v) (by omega) (by omega)
  have m2 := mul_bd (X := 10000) (Y := 90000000000000) (x := (b.pol i).take) (y := num b v - (b.pol i).sill * den b v) (by omega) (by omega)
  exact ⟨by omega, by omega⟩
end
end Bs
namespace X
open Go Go.RowKit Bs
section
variable {g : Nat} {p : BV} {b : Bas} {q r : SV} {s : Sta} {t : Tick} {f : Flo} {w : World}
theorem least_any (h : w.heap[g]? = some (watO p b q s t r f)) (hb : BasAt w g p b) (ho : Ok b) :
    Calls Tryz.prog 110 #[.pointer (some ⟨g, 0, none⟩)] w fun e w' => e = .returned (.int .i64 b.v0) ∧ Below w.heap.size w w' := by
  obtain ⟨A, n, c, A2, n2, c2⟩ := p
  have hn := hb.n_eq
  simp only at hn
  subst hn
  have h2 := ho.n2
  obtain ⟨ad, rfl, hlt⟩ := hb.rows.addr (by simp only; omega)
  simp only [watO, watC] at h
  refine enterL Tryz.func110 rfl Tryz.ntmps110 rfl (Sys.start1 (Nat.le_refl g) h) ?_; simp only [frame, Nat.zero_add, Nat.reduceAdd]
  refine XC.hint 0 0 ?_
  repeat (first | (refine M0 ?_; first | refine SL ?_ | refine SB fun _ _ => ?_ | refine Y4 (Ev.load_old tok rfl rfl (add_lt2 hlt) (hb.rowVol (i := 0) (by omega))) ?_) | (refine M1 ?_; first | refine SC ?_ | refine SD ?_) | (refine M2 ?_; refine SE ?_) | (refine M3 ?_; first | refine SG ?_ | refine SF ?_ | refine YF (Ev.load_old tok rfl rfl (add_lt2 hlt) (hb.rowVol (i := 0) (by omega))) ?_) | (refine M4 ?_; refine SR ?_) | (refine M5 ?_; first | exact M7 | refine YM ?_ | refine YN ?_ ?_))
  refine XE.retg tok Tryz.results110 rfl (by simp only [and_self, and_true]) (fun w' S => ?_)
  exact ⟨rfl, S.same1 h⟩
theorem river_any (h : w.heap[g]? = some (watO p b q s t r f)) (h1 : i64in (s.vol + t.river)) :
    Calls Tryz.prog 98 #[.pointer (some ⟨g, 0, none⟩)] w fun e w' => e = .returned (.bool (!decide (1000000000 < s.vol + t.river))) ∧ Sys g w [(g, watO p b q { s with vol := s.vol + t.river } t r { f with river := t.river })] w' := by
  have h' := h
  simp only [watO, watC] at h
  refine enterL Tryz.func98 rfl Tryz.ntmps98 rfl (Sys.start1 (Nat.le_refl g) h) ?_; simp only [frame, Nat.zero_add, Nat.reduceAdd]
  refine XC.hint 0 0 ?_
  repeat (first | (refine M0 ?_; first | refine SL ?_ | refine SB fun _ _ => ?_) | (refine M1 ?_; first | refine SC ?_ | refine SD ?_) | (refine M2 ?_; refine SE ?_) | (refine M3 ?_; first | refine SG ?_ | refine SF ?_) | (refine M4 ?_; refine SR ?_) | (refine M5 ?_; first | exact M7 | refine YM ?_ | refine YN ?_ ?_))
  refine XL.step _ (Ev.call (f := 107) (ck rfl) rfl (fun w S => (spill_any (p := p) (b := b) (q := q) (s := { s with vol := s.vol + t.river }) (t := t) (r := r) (f := { f with river := t.river }) (S.obj (i := 0) rfl) :))) rfl ?_
  repeat (first | (refine M0 ?_; first | refine SL ?_ | refine SB fun _ _ => ?_) | (refine M1 ?_; first | refine SC ?_ | refine SD ?_) | (refine M2 ?_; refine SE ?_) | (refine M3 ?_; first | refine SG ?_ | refine SF ?_) | (refine M4 ?_; refine SR ?_) | (refine M5 ?_; first | exact M7 | refine YM ?_ | refine YN ?_ ?_))
  refine XE.retg tok Tryz.results98 rfl (by simp only [and_self, and_true]) (fun w' S => ?_)
  exact ⟨rfl, S⟩
theorem over_run (h : w.heap[g]? = some (watO p b q s t r f)) (ho : Ok b) (ht : -20000 ≤ t.outer ∧ t.outer ≤ 20000) (hv : 0 ≤ s.vol ∧ s.vol ≤ 1000000000) :
    Calls Tryz.prog 99 #[.pointer (some ⟨g, 0, none⟩)] w fun e w' => e = .returned (.bool (!decide (1000000000 < s.vol + overOf b t))) ∧ Sys g w [(g, watO p b q { s with vol := s.vol + overOf b t } t r { f with over := overOf b t })] w' := by
  have h' := h
  have hc := ho.crest
  have hbd := over_bd ho t ht
  have h1 : i64in (overOf b t) := by unfold i64in; omega
  have h2 : i64in (b.over * max 0 (t.outer - b.crest)) := h1
  have h3 : i64in (s.vol + b.over * max 0 (t.outer - b.crest)) := by have : i64in (s.vol + overOf b t) := by unfold i64in; omega
                                                                     exact this
  simp only [watO, watC] at h
  refine enterL Tryz.func99 rfl Tryz.ntmps99 rfl (Sys.start1 (Nat.le_refl g) h) ?_; simp only [frame, Nat.zero_add, Nat.reduceAdd]
  refine XC.hint 0 0 ?_
  repeat (first | (refine M0 ?_; first | refine SL ?_ | refine SB fun _ _ => ?_) | (refine M1 ?_; first | refine SC ?_ | refine SD ?_) | (refine M2 ?_; refine SE ?_) | (refine M3 ?_; first | refine SG ?_ | refine SF ?_) | (refine M4 ?_; refine SR ?_) | (refine M5 ?_; first | exact M7 | refine YM ?_ | refine YN ?_ ?_))
  refine XL.step _ (Ev.call (f := 107) (ck rfl) rfl (fun w S => (spill_any (p := p) (b := b) (q := q) (s := { s with vol := s.vol + overOf b t }) (t := t) (r := r) (f := { f with over := overOf b t }) (S.obj (i := 0) rfl) :))) rfl ?_
  repeat (first | (refine M0 ?_; first | refine SL ?_ | refine SB fun _ _ => ?_) | (refine M1 ?_; first | refine SC ?_ | refine SD ?_) | (refine M2 ?_; refine SE ?_) | (refine M3 ?_; first | refine SG ?_ | refine SF ?_) | (refine M4 ?_; refine SR ?_) | (refine M5 ?_; first | exact M7 | refine YM ?_ | refine YN ?_ ?_))
  refine XE.retg tok Tryz.results99 rfl (by simp only [and_self, and_true]) (fun w' S => ?_)
  exact ⟨rfl, S⟩
theorem ratio_con : conB (Tryz.prog.underlying 227) = true := by kernel_rfl
theorem over_m : methO Tryz.prog 227 "barrage/basin.over" = some 165 := by kernel_rfl
theorem above_m : methO Tryz.prog 227 "barrage/basin.above" = some 164 := by kernel_rfl
set_option maxHeartbeats 4000000 in
theorem leak_any (h : w.heap[g]? = some (watO p b q s t r f)) (hb : BasAt w g p b) (ho : Ok b) (ht : -20000 ≤ t.outer ∧ t.outer ≤ 20000) (hv : b.v0 ≤ s.vol ∧ s.vol ≤ 1000000000) :
    Calls Tryz.prog 100 #[.pointer (some ⟨g, 0, none⟩)] w fun e w' => e = .returned (.bool (!decide (1000000000 < s.vol + leakOf b t.outer s.vol))) ∧ Sys g w [(g, watO p b q { s with vol := s.vol + leakOf b t.outer s.vol } t r { f with leak := leakOf b t.outer s.vol })] w' := by
  have h' := h
  have hlt := (Array.getElem?_eq_some_iff.1 h).1
  have hd := den_pos ho.rowsOk s.vol
  have hn := num_bd ho.rowsOk hv
  have h0 := v0_bd ho
  obtain ⟨k1, k2, k3⟩ := leakQ_bd ho hv ht
  have k4 : i64in (-(num b s.vol)) := by unfold i64in; omega
  have k5 : i64in (s.vol + leakOf b t.outer s.vol) := by unfold i64in leakOf; omega
  have k6 : i64in (s.vol + max (leakQ b t.outer s.vol) (b.v0 - s.vol)) := k5
  simp only [watO, watC] at h
  refine enterL Tryz.func100 rfl Tryz.ntmps100 rfl (Sys.start1 (Nat.le_refl g) h) ?_; simp only [frame, Nat.zero_add, Nat.reduceAdd]
  refine XC.hint 0 0 ?_
  repeat (first | (refine M0 ?_; first | refine SL ?_ | refine SB fun _ _ => ?_ | refine Y4 (Ev.call (f := 108) (ck rfl) rfl (fun w S => (exact_any (p := p) (hb.sys S) ho.rowsOk hv :))) ?_ | refine Y4 (Ev.call (f := 109) (ck rfl) rfl (fun w S => (minus_any (n := num b s.vol) (d := den b s.vol) k4 w :))) ?_ | refine Y4 (Ev.makeI ratio_con rfl) ?_) | (refine M1 ?_; first | refine SC ?_ | refine SD ?_) | (refine M2 ?_; refine SE ?_) | (refine M3 ?_; first | refine SG ?_ | refine SF ?_ | refine YF (Ev.call (f := 108) (ck rfl) rfl (fun w S => (exact_any (p := p) (hb.sys S) ho.rowsOk hv :))) ?_ | refine YF (Ev.call (f := 109) (ck rfl) rfl (fun w S => (minus_any (n := num b s.vol) (d := den b s.vol) k4 w :))) ?_ | refine YF (Ev.makeI ratio_con rfl) ?_) | (refine M4 ?_; refine SR ?_) | (refine M5 ?_; first | exact M7 | refine YM ?_ | refine YN ?_ ?_))
  repeat (first | (refine M0 ?_; first | refine SL ?_ | refine SB fun _ _ => ?_ | refine Y4 (Ev.makeFunc rfl rfl) ?_ | refine Y4 (Ev.nilCheckM over_m rfl) ?_ | refine Y4 (Ev.invoke (t := 227) over_m (ck rfl) rfl rfl (fun w S => (over_any (n := -(num b s.vol)) (d := den b s.vol) (level := -t.outer) (rate := b.leak) hd.1 (by unfold i64in; omega) (by unfold i64in; omega) (by omega) w :))) ?_ | refine Y4 (Ev.call (f := 110) (ck rfl) rfl (fun w S => (least_any (p := p) (b := b) (q := q) (s := s) (t := t) (r := r) (f := f) (S.obj (i := 0) rfl) (hb.below S.toBelow) ho :))) ?_) | (refine M1 ?_; first | refine SC ?_ | refine SD ?_) | (refine M2 ?_; refine SE ?_) | (refine M3 ?_; first | refine SG ?_ | refine SF ?_ | refine YF (Ev.makeFunc rfl rfl) ?_ | refine YF (Ev.nilCheckM over_m rfl) ?_ | refine YF (Ev.invoke (t := 227) over_m (ck rfl) rfl rfl (fun w S => (over_any (n := -(num b s.vol)) (d := den b s.vol) (level := -t.outer) (rate := b.leak) hd.1 (by unfold i64in; omega) (by unfold i64in; omega) (by omega) w :))) ?_ | refine YF (Ev.call (f := 110) (ck rfl) rfl (fun w S => (least_any (p := p) (b := b) (q := q) (s := s) (t := t) (r := r) (f := f) (S.obj (i := 0) rfl) (hb.below S.toBelow) ho :))) ?_) | (refine M4 ?_; refine SR ?_) | (refine M5 ?_; first | exact M7 | refine YM ?_ | refine YN ?_ ?_))
  rw [show b.leak * (-(num b s.vol) - (-t.outer) * den b s.vol) / den b s.vol = leakQ b t.outer s.vol from rfl]
  repeat (first | (refine M0 ?_; first | refine SL ?_ | refine SB fun _ _ => ?_) | (refine M1 ?_; first | refine SC ?_ | refine SD ?_) | (refine M2 ?_; refine SE ?_) | (refine M3 ?_; first | refine SG ?_ | refine SF ?_) | (refine M4 ?_; refine SR ?_) | (refine M5 ?_; first | exact M7 | refine YM ?_ | refine YN ?_ ?_))
  refine XL.step _ (Ev.call (f := 107) (ck rfl) rfl (fun w S => (spill_any (p := p) (b := b) (q := q) (s := { s with vol := s.vol + leakOf b t.outer s.vol }) (t := t) (r := r) (f := { f with leak := leakOf b t.outer s.vol }) (S.obj (i := 0) rfl) :))) rfl ?_
  repeat (first | (refine M0 ?_; first | refine SL ?_ | refine SB fun _ _ => ?_) | (refine M1 ?_; first | refine SC ?_ | refine SD ?_) | (refine M2 ?_; refine SE ?_) | (refine M3 ?_; first | refine SG ?_ | refine SF ?_) | (refine M4 ?_; refine SR ?_) | (refine M5 ?_; first | exact M7 | refine YM ?_ | refine YN ?_ ?_))
  refine XE.retg tok Tryz.results100 rfl (by simp only [and_self, and_true]) (fun w' S => ?_)
  exact ⟨rfl, S⟩
theorem off_any (h : w.heap[g]? = some (watO p b q s t r f)) (hb : BasAt w g p b) (ho : Ok b) (ht : 0 ≤ t.out ∧ t.out ≤ 10000000) (hv : b.v0 ≤ s.vol ∧ s.vol ≤ 1000000000) :
    Calls Tryz.prog 101 #[.pointer (some ⟨g, 0, none⟩)] w fun e w' => e = .returned (.bool true) ∧ Sys g w [(g, watO p b q { s with vol := s.vol - min t.out (s.vol - b.v0) } t r { f with out := min t.out (s.vol - b.v0) })] w' := by
  have h' := h
  have hlt := (Array.getElem?_eq_some_iff.1 h).1
  have h0 := v0_bd ho
  have k5 : i64in (s.vol - min t.out (s.vol - b.v0)) := by unfold i64in; omega
  simp only [watO, watC] at h
  refine enterL Tryz.func101 rfl Tryz.ntmps101 rfl (Sys.start1 (Nat.le_refl g) h) ?_; simp only [frame, Nat.zero_add, Nat.reduceAdd]
  refine XC.hint 0 0 ?_
  repeat (first | (refine M0 ?_; first | refine SL ?_ | refine SB fun _ _ => ?_ | refine Y4 (Ev.call (f := 110) (ck rfl) rfl (fun w S => (least_any (p := p) (b := b) (q := q) (s := s) (t := t) (r := r) (f := f) (S.obj (i := 0) rfl) (hb.below S.toBelow) ho :))) ?_) | (refine M1 ?_; first | refine SC ?_ | refine SD ?_) | (refine M2 ?_; refine SE ?_) | (refine M3 ?_; first | refine SG ?_ | refine SF ?_ | refine YF (Ev.call (f := 110) (ck rfl) rfl (fun w S => (least_any (p := p) (b := b) (q := q) (s := s) (t := t) (r := r) (f := f) (S.obj (i := 0) rfl) (hb.below S.toBelow) ho :))) ?_) | (refine M4 ?_; refine SR ?_) | (refine M5 ?_; first | exact M7 | refine YM ?_ | refine YN ?_ ?_))
  refine XE.retg tok Tryz.results101 rfl (by simp only [and_self, and_true]) (fun w' S => ?_)
  exact ⟨rfl, S⟩
end
end X
namespace X
open Go Go.RowKit
theorem setN_of_lt {α : Type} : ∀ (l : List α) (n : Nat) (x : α), n < l.length → setN l n x = some (l.set n x) := by
  intro l
  induction l with
  | nil => intro n x h; simp at h
  | cons a r ih => intro n x h; cases n with
    | zero => rfl
    | succ n => simp [setN, ih n x (by simpa using h)]
def elemOk (P : Program) (t e size bytes : Nat) : Bool :=
  match P.underlying t with
  | some (.slice e') => Nat.beq e' e && match P.info? e with
    | some i => Nat.beq i.size size && (Nat.beq i.bytes bytes && match i.zero with
      | some z => Nat.beq z.cells.size size
      | none => false)
    | none => false
  | _ => false
theorem elemOk_spec {P : Program} {t e size bytes : Nat} (h : elemOk P t e size bytes = true) : P.underlying t = some (.slice e) ∧ ∃ i z, P.info? e = some i ∧ i.zero = some z ∧ i.size = size ∧ i.bytes = bytes ∧ z.cells.size = size := by
  unfold elemOk at h
  split at h
  · rename_i e' hu
    simp only [Bool.and_eq_true] at h
    obtain ⟨h1, h2⟩ := h
    have := Nat.eq_of_beq_eq_true h1
    subst this
    refine ⟨hu, ?_⟩
    split at h2
    · rename_i i hi
      simp only [Bool.and_eq_true] at h2
      obtain ⟨h3, h4, h5⟩ := h2
      split at h5
      · rename_i z hz
        exact ⟨i, z, hi, hz, Nat.eq_of_beq_eq_true h3, Nat.eq_of_beq_eq_true h4, Nat.eq_of_beq_eq_true h5⟩
      · cases h5
    · cases h2
  · cases h
section
variable {P : Program} {T : TT} {N : Nat} {B : Nat} {w0 : World} {ds : List Deferred} {Q : Exit → Act → World → Prop} {F : Fr} {L : Lo} {pu : Prop} {ops : Array Oper} {rest : List Oper}
variable {dst : Option Tmp} {ty : TypeId} {p : String} {af : Array Edge} {gd : Option (Nat × Bool)}
theorem Sys.trans {L' : Lo} {w w' : World} (h : Sys B w0 L w) (k : Sys B w L' w') (hi : ∀ x, x ∈ L.map (·.1) → x ∈ L'.map (·.1)) : Sys B w0 L' w' :=
  ⟨k.os.trans h.os, k.tape.trans h.tape, k.output.trans h.output, Nat.le_trans h.size k.size, h.base, fun q hq hn => by
    have hL' : ∀ e, e ∈ L → e.1 ≠ q := fun e he e1 => by
      have := hi e.1 (List.mem_map.2 ⟨e, he, rfl⟩)
      obtain ⟨x, hx, e2⟩ := List.mem_map.1 this
      exact hn x hx (e2.trans e1)
    rw [k.old q (Nat.lt_of_lt_of_le hq h.size) hn, h.old q hq hL'], k.own, k.nd⟩
theorem Ev.load_at (hT : TOK P T) (i : Nat) {t : TypeId} {x : Operand} {g o j : Nat} {tg : TypeId} {cs : List Value} {v : Value} (hx : evo F x = some (.pointer (some ((⟨g, o, none⟩ : Addr).add j)))) (hL : L[i]? = some (g, cel tg cs))
    (h1 : lkG T.one t = some ()) (hv : cs[o + j]? = some v) : Ev P N B w0 ds pu F L ⟨dst, .load t x, ty, p, af, gd⟩ v := by
  rw [add_off] at hx
  exact Ev.load_loc hT i hx hL h1 hv
theorem XL.store_at (hT : TOK P T) (i : Nat) {t : TypeId} {x y : Operand} {g o j : Nat} {tg : TypeId} {v : Value} {cs : List Value} {L' : Lo}
    (hx : evo F x = some (.pointer (some ((⟨g, o, none⟩ : Addr).add j)))) (hy : evo F y = some v) (hL : L[i]? = some (g, cel tg cs)) (ht : lkG T.one t = some ()) (h1 : one1 v = true) (hj : o + j < cs.length)
    (hL' : setN L i (g, cel tg (cs.set (o + j) v)) = some L') (k : XL P N B w0 ds Q ops rest F L') :
    XL P N B w0 ds Q ops ({ dst := none, op := .store t x y, type := ty, pos := p, after := af, guard := none } :: rest) F L := by
  rw [add_off] at hx
  have hc : cellsO v = some [v] := by cases v <;> first | rfl | (simp [one1] at h1)
  refine XL.store hT i hx hy hL hc (.inl ⟨ht, rfl⟩) (by simp [h1]) ?_ hL' k
  simp [putN, setN_of_lt _ _ _ hj]
def fillS (F : Fr) (size : Nat) : List Value → List (Nat × Operand) → Option (List Value)
  | cs, [] => some cs
  | cs, (i, x) :: r => match evo F x with
    | some v => match cellsO v with
      | some vs => match Nat.beq vs.length size with
        | true => match putN cs (i * size) vs with
          | some cs' => fillS F size cs' r
          | none => none
        | false => none
      | none => none
    | none => none
def zerosN (zs : List Value) : Nat → List Value
  | 0 => []
  | n + 1 => zs ++ zerosN zs n
def appO : List Value → List Value → Option (List Value)
  | [], l => some l
  | v :: r, l => match appO r l with
    | some x => some (v :: x)
    | none => none
def zerosO (zs : List Value) : Nat → Option (List Value)
  | 0 => some []
  | n + 1 => match zerosO zs n with
    | some l => appO zs l
    | none => none
theorem appO_eq : ∀ (a l : List Value), appO a l = some (a ++ l) := by
  intro a
  induction a with
  | nil => intro l; rfl
  | cons v r ih => intro l; simp [appO, ih]
theorem zerosO_eq (zs : List Value) : ∀ n, zerosO zs n = some (zerosN zs n) := by
  intro n
  induction n with
  | zero => rfl
  | succ n ih => simp [zerosO, ih, appO_eq, zerosN]
theorem fillS_spec {a : Act} (hf : Fits N ds F a) {size : Nat} : ∀ (ps : List (Nat × Operand)) (cs cs' : List Value), fillS F size cs ps = some cs' → 0 < size →
    Instr.fill (fun i => some (i * size, size)) cs.toArray (ps.map fun x => (x.1, a.eval x.2)) = some cs'.toArray := by
  intro ps
  induction ps with
  | nil => intro cs cs' h _; simp only [fillS, Option.some.injEq] at h; subst h; rfl
  | cons e r ih =>
    intro cs cs' h h0
    obtain ⟨i, x⟩ := e
    simp only [fillS] at h
    split at h
    · rename_i v hx
      split at h
      · rename_i vs hv
        split at h
        · rename_i hs
          split at h
          · rename_i cs1 hpn
            have hs' := Nat.eq_of_beq_eq_true hs
            obtain ⟨h1, h2, h3⟩ := putN_fold vs cs (i * size) cs1 0 (by simpa using hpn)
            have hc := cellsO_spec hv
            simp only [List.map_cons, Instr.fill, hf.eval hx, hc]
            have hz : vs.toArray.zipIdx = (vs.zipIdx 0).toArray := by simp
            rw [if_neg]
            · rw [hz]
              simp only [List.foldl_toArray]
              have : (List.foldl (fun cs (x : Value × Nat) => cs.setIfInBounds (i * size + x.2) x.1) cs.toArray (vs.zipIdx 0)) = cs1.toArray := h1
              rw [this]
              exact ih cs1 cs' h h0
            · intro hgt
              simp only [List.size_toArray, Bool.or_eq_true, decide_eq_true_eq, ne_eq, gt_iff_lt] at hgt
              rcases hgt with hgt | hgt
              · exact hgt hs'
              · have hne : vs ≠ [] := by intro e; subst e; simp at hs'; omega
                have := h3 hne; omega
          · cases h
        · cases h
      · cases h
    · cases h
theorem zerosN_len (zs : List Value) : ∀ n, (zerosN zs n).length = n * zs.length := by
  intro n
  induction n with
  | zero => simp [zerosN]
  | succ n ih => simp [zerosN, ih, Nat.succ_mul]; omega
theorem zerosN_at (zs : List Value) (hz : 0 < zs.length) : ∀ (n i : Nat), i < n * zs.length → (zerosN zs n)[i]? = zs[i % zs.length]? := by
  intro n
  induction n with
  | zero => intro i h; simp at h
  | succ n ih =>
    intro i h
    simp only [zerosN]
    by_cases hi : i < zs.length
    · rw [List.getElem?_append_left hi, Nat.mod_eq_of_lt hi]
    · rw [List.getElem?_append_right (by omega), ih (i - zs.length) (by rw [Nat.succ_mul] at h; omega)]
      congr 1
      rw [Nat.mod_eq_sub_mod (a := i) (by omega)]
theorem zeros_eq (zs : List Value) (hz : 0 < zs.length) (n : Nat) : (Array.range (n * zs.length)).map (fun i => zs.toArray[i % zs.toArray.size]!) = (zerosN zs n).toArray := by
  apply Array.ext
  · simp [zerosN_len]
  · intro i h1 h2
    have hi : i < n * zs.length := by simpa using h1
    have h3 := zerosN_at zs hz n i hi
    have hm : i % zs.length < zs.length := Nat.mod_lt _ hz
    have hlen : i < (zerosN zs n).length := by rw [zerosN_len]; exact hi
    rw [List.getElem?_eq_getElem hlen, List.getElem?_eq_getElem hm] at h3
    simp only [Array.getElem_map, Array.getElem_range, List.size_toArray, List.getElem_toArray, Option.some.injEq] at h3 ⊢
    rw [h3]
    simp [hm]
theorem XL.buildSlice (hT : TOK P T) {d : Nat} {t e : TypeId} {n size : Nat} {ps : List (Nat × Operand)} {z : Value} {zs cs : List Value} (hs : lkG T.sl t = some (e, size)) (hz : lkG T.zero e = some z) (hzs : cellsO z = some zs)
    (hsz : Nat.beq zs.length size = true) (h0 : Nat.blt 0 size = true) (hbig : Nat.ble (n * size) 16777216 = true) {zl : List Value} (hzl : zerosO zs n = some zl) (hc : fillS F size zl ps = some cs) (hd : Nat.blt d N = true)
    (k : ∀ g, w0.heap.size ≤ g → XL P N B w0 ds Q ops rest ((1000000 + d, .slice none L.length 0) :: (d, .slice (some ⟨g, 0, none⟩) n n) :: F) ((g, cel e cs) :: L)) :
    XL P N B w0 ds Q ops ({ dst := some d, op := .buildSlice t n ps.toArray, type := ty, pos := p, after := af, guard := none } :: rest) F L := by
  refine ⟨fun a w hf hw => ?_⟩
  refine wpList_plain rfl fun K hK => ?_
  unfold Oper.wp
  have hsz' := Nat.eq_of_beq_eq_true hsz
  have h0' : 0 < size := Nat.le_of_ble_eq_true h0
  have hbig' : n * size ≤ 16777216 := Nat.le_of_ble_eq_true hbig
  rw [zerosO_eq] at hzl
  obtain rfl := Option.some.inj hzl
  have : (execOp a.eval { dst := some d, op := .buildSlice t n ps.toArray, type := ty, pos := p, after := af, guard := none }).run P w = .ok (.value (.slice (some ⟨w.heap.size, 0, none⟩) n n)) (w.alloc (.cells cs.toArray e)) := by
    have h := tab_ok hT.sl hs
    unfold slOf at h
    cases hu : P.underlying t with
    | none => rw [hu] at h; cases h
    | some dd =>
      rw [hu] at h
      cases dd <;> simp at h
      obtain ⟨i, hi, rfl, rfl⟩ := h
      have hfill := fillS_spec hf ps _ _ hc h0'
      have hbig2 : ¬ (n * i.size > 2 ^ 24) := by omega
      by_cases hn : n = 0
      · subst hn
        simp only [zerosN] at hfill
        have hps : ((Array.range 0).map fun x => (#[] : Array Value)[x % (#[] : Array Value).size]!) = ([] : List Value).toArray := by simp
        simp only [execOp, Instr.buildSlice, Sem.run_bind, run_underlying hu, Result.andThen_ok, sizeOf_run hi, if_neg hbig2, Nat.zero_mul, if_pos, Sem.run_pure]
        have h20 : ¬ (0 > 2 ^ 24) := by decide
        simp only [if_neg h20, Sem.run_bind, Sem.run_pure, Result.andThen_ok]
        rw [hps]
        simp only [List.map_toArray]
        rw [hfill]
        simp [newRow]
      · have hne : ¬ (n * i.size = 0) := by intro e; rcases Nat.mul_eq_zero.1 e with h | h <;> omega
        have hzz := zeros_eq zs (by omega) n
        rw [hsz'] at hzz
        simp only [execOp, Instr.buildSlice, Sem.run_bind, run_underlying hu, Result.andThen_ok, sizeOf_run hi, if_neg hbig2, if_neg hne, zero_run hT hz, Sem.run_pure, cellsO_spec hzs]
        rw [hzz]
        simp only [List.map_toArray]
        rw [hfill]
        simp [newRow]
  rw [this]
  exact hK _ _ ((k w.heap.size hw.size).run _ _ ((hf.put hd).hint d _) (hw.box (cel e cs)))
theorem append_fresh {w : World} {base t ty e : Nat} {i : TypeInfo} {z : Value} {size bytes : Nat} (ht : P.underlying t = some (.slice e)) (hi : P.info? e = some i) (hz : i.zero = some z)
    (hsize : i.size = size) (hby : i.bytes = bytes) (hzs : z.cells.size = size) (hsz : 0 < size) {v : Value} {n : Nat} {xs : List Value} (hown : w.ownsRow base e size v n xs)
    {a : Addr} {m c : Nat} {news : List Value} (hl : news.length = m * size) (hnews : ∀ j u, news[j]? = some u → w.cell? (a.add j) = some u) (h1 : ∀ u ∈ news, u.oneCell' = true)
    (h63 : n + m ≤ maxLen) (hbytes : (n + m) * bytes ≤ 140737488355328) {v' : Value} {w' : World} (hrun : (Builtin.append_ #[t, t] ty #[v, .slice (some a) m c]).run P w = .ok v' w') :
    ∀ q, v'.ownBlock = some q → v.ownBlock = some q ∨ w.heap.size ≤ q := by
  intro q hq
  rcases hown.2 with ⟨rfl, rfl⟩ | ⟨g, cap, cur, rfl, hbg, hg, hc, hcm, hcs, htake⟩
  · have hx : xs = [] := List.eq_nil_of_length_eq_zero (by simpa using hown.1)
    subst hx
    obtain ⟨v2, w2, hr, ho, _⟩ := run_append_own w w.heap.size t ty e i z size bytes ht hi hz hsize hby hzs hsz (.slice none 0 0) 0 [] (World.ownsRow_nil w w.heap.size e size) a m c news hl hnews h1 h63 hbytes (Nat.le_refl _)
    rw [hrun] at hr
    cases hr
    exact .inr (ho.lt q hq).1
  · subst hsize hby
    by_cases hroom : n + m ≤ cap
    · have hfit : n * i.size + news.length ≤ cur.size := by rw [hl, hcs, ← Nat.add_mul]; exact Nat.mul_le_mul_right _ hroom
      have hr := run_append_room (P := P) w t ty e i ht hi g n cap cur hg a m c news hl hnews h1 hroom hfit
      rw [hrun] at hr
      cases hr
      exact .inl hq
    · have holds : ∀ j u, xs[j]? = some u → w.cell? ((⟨g, 0, none⟩ : Addr).add j) = some u := hown.cells (g := g) rfl
      simp only [maxLen] at h63
      have hr := run_append_grow (P := P) w t ty e i z ht hi hz ⟨g, 0, none⟩ n cap xs hown.1 holds a m c news hl hnews (by omega) (by omega) (growslice_fits (by omega) hbytes)
      rw [hrun] at hr
      cases hr
      simp only [Value.ownBlock, Option.some.injEq] at hq
      exact .inr (by omega)
theorem XL.append2 {d : Nat} {t e : TypeId} {x y : Operand} {v : Value} {n m c size bytes base : Nat} {xs news : List Value} {A : Addr} {L' : Lo} (he : elemOk P t e size bytes = true) (h0 : 0 < size)
    (hx : evo F x = some v) (hy : evo F y = some (.slice (some A) m c)) (hd : Nat.blt d N = true) (hown : w0.ownsRow base e size v n xs) (hsep : ∀ k, v.ownBlock = some k → ∀ e, e ∈ L → e.1 ≠ k)
    (hl : news.length = m * size) (hnews : ∀ w, Sys B w0 L w → ∀ j u, news[j]? = some u → w.cell? (A.add j) = some u) (h1 : news.all Value.oneCell' = true) (h63 : n + m ≤ maxLen) (hbytes : (n + m) * bytes ≤ 140737488355328) (hbase : base ≤ w0.heap.size)
    (hsub : List.Sublist L' L)
    (k : ∀ w v' w', Sys B w0 L w → w'.ownsRow base e size v' (n + m) (xs ++ news) → w.grownBy w' v.ownBlock → (v' = .slice none 0 0 ↔ v = .slice none 0 0 ∧ m = 0) → (∀ q, v'.ownBlock = some q → v.ownBlock = some q ∨ w.heap.size ≤ q) → XL P N B w' ds Q ops rest ((d, v') :: F) L') :
    XL P N B w0 ds Q ops ({ dst := some d, op := .call { callee := .builtin .append, args := #[x, y], argTypes := #[t, t] }, type := ty, pos := p, after := af, guard := none } :: rest) F L := by
  refine ⟨fun a w hf hs => ?_⟩
  refine wpList_plain rfl fun K hK => ?_
  unfold Oper.wp
  obtain ⟨hu, i, z, hi, hz, e1, e2, e3⟩ := elemOk_spec he
  have hown' : w.ownsRow base e size v n xs := by
    refine ⟨hown.1, ?_⟩
    rcases hown.2 with h | ⟨g, cap, cur, rfl, hb, hg, h⟩
    · exact .inl h
    · refine .inr ⟨g, cap, cur, rfl, hb, ?_, h⟩
      rw [hs.old g (Array.getElem?_eq_some_iff.1 hg).1 (hsep g rfl)]
      exact hg
  obtain ⟨v', w', hrun, ho', hgrow, hnil⟩ := run_append_own w base t ty e i z size bytes hu hi hz e1 e2 e3 h0 v n xs hown' A m c news hl (hnews w hs) (fun u hu => List.all_eq_true.1 h1 u hu) h63 hbytes (Nat.le_trans hbase hs.size)
  have : (execOp a.eval { dst := some d, op := .call { callee := .builtin .append, args := #[x, y], argTypes := #[t, t] }, type := ty, pos := p, after := af, guard := none }).run P w = .ok (.value v') w' := by
    have hm : (#[x, y] : Array Operand).map a.eval = #[v, .slice (some A) m c] := by simp [hf.eval hx, hf.eval hy]
    simp only [execOp, resolve, Sem.run_bind, Sem.run_pure, Result.andThen_ok, invoke, builtin, hm, hrun]
  rw [this]
  have hfr := append_fresh hu hi hz e1 e2 e3 h0 hown' hl (hnews w hs) (fun u hu => List.all_eq_true.1 h1 u hu) h63 hbytes hrun
  refine hK _ _ ((k w v' w' hs ho' hgrow hnil hfr).run _ _ (hf.put hd) ?_)
  have hr := hs.rebase (L' := L') hsub
  refine Sys.start (Nat.le_trans hr.base hgrow.size) (fun e he => ⟨(hr.own e he).1, ?_⟩) hr.nd
  rw [hgrow.block e.1 (hr.lt he) (fun e2 => hsep e.1 e2.symm e (hsub.subset he) rfl)]
  exact (hr.own e he).2
theorem XL.append {d : Nat} {t e : TypeId} {x y : Operand} {v : Value} {n m c size bytes base : Nat} {xs news : List Value} {A : Addr} {L' : Lo} (he : elemOk P t e size bytes = true) (h0 : 0 < size)
    (hx : evo F x = some v) (hy : evo F y = some (.slice (some A) m c)) (hd : Nat.blt d N = true) (hown : w0.ownsRow base e size v n xs) (hsep : ∀ k, v.ownBlock = some k → ∀ e, e ∈ L → e.1 ≠ k)
    (hl : news.length = m * size) (hnews : ∀ w, Sys B w0 L w → ∀ j u, news[j]? = some u → w.cell? (A.add j) = some u) (h1 : news.all Value.oneCell' = true) (h63 : n + m ≤ maxLen) (hbytes : (n + m) * bytes ≤ 140737488355328) (hbase : base ≤ w0.heap.size)
    (hsub : List.Sublist L' L)
    (k : ∀ w v' w', Sys B w0 L w → w'.ownsRow base e size v' (n + m) (xs ++ news) → w.grownBy w' v.ownBlock → (v' = .slice none 0 0 ↔ v = .slice none 0 0 ∧ m = 0) → XL P N B w' ds Q ops rest ((d, v') :: F) L') :
    XL P N B w0 ds Q ops ({ dst := some d, op := .call { callee := .builtin .append, args := #[x, y], argTypes := #[t, t] }, type := ty, pos := p, after := af, guard := none } :: rest) F L :=
  XL.append2 he h0 hx hy hd hown hsep hl hnews h1 h63 hbytes hbase hsub (fun w v' w' S a b c _ => k w v' w' S a b c)
theorem owns_sys {base e size n : Nat} {v : Value} {xs : List Value} {w : World} (h : w0.ownsRow base e size v n xs) (S : Sys B w0 L w) (hsep : ∀ k, v.ownBlock = some k → ∀ e, e ∈ L → e.1 ≠ k) : w.ownsRow base e size v n xs := by
  refine ⟨h.1, ?_⟩
  rcases h.2 with h | ⟨g, cap, cur, rfl, hb, hg, h⟩
  · exact .inl h
  · refine .inr ⟨g, cap, cur, rfl, hb, ?_, h⟩
    rw [S.old g (Array.getElem?_eq_some_iff.1 hg).1 (hsep g rfl)]
    exact hg
theorem XE.roundW {σ : Type} {G : σ → Fr} {M : σ → Lo} {W : σ → World} {pre : σ → Prop} {μ : σ → Nat} {s : σ}
    (h : ∀ w, Sys B w0 L w → ∃ s', pre s' ∧ μ s' < μ s ∧ Sub (G s') F ∧ Sys B (W s') (M s') w) :
    XE N B w0 ds (Exit.then (fun a w => ∃ s', pre s' ∧ μ s' < μ s ∧ Fits N ds (G s') a ∧ Sys B (W s') (M s') w) Q) .normal F L :=
  ⟨fun a w hf hs => by
    obtain ⟨s', h1, h2, h3, h4⟩ := h w hs
    exact ⟨s', h1, h2, h3.fits hf, h4⟩⟩
theorem Sys.grown {w w' : World} {row : Option Nat} (S : Sys B w0 L w) (h : w.grownBy w' row) (hr : ∀ k, row = some k → w0.heap.size ≤ k ∧ ∀ e, e ∈ L → e.1 ≠ k) : Sys B w0 L w' :=
  ⟨h.os.trans S.os, h.tape.trans S.tape, h.output.trans S.output, Nat.le_trans S.size h.size, S.base,
   fun k hk hn => by rw [h.block k (Nat.lt_of_lt_of_le hk S.size) (fun e => by have := (hr k e.symm).1; omega), S.old k hk hn],
   fun e he => ⟨(S.own e he).1, by rw [h.block e.1 (S.lt he) (fun e2 => (hr e.1 e2.symm).2 e he rfl)]; exact (S.own e he).2⟩, S.nd⟩
theorem grown_old {w w' : World} {row : Option Nat} (S : Sys B w0 L w) (h : w.grownBy w' row) {k : Nat} (hk : k < w0.heap.size) (hL : ∀ e, e ∈ L → e.1 ≠ k) (hr : some k ≠ row) : w'.heap[k]? = w0.heap[k]? := by
  rw [h.block k (Nat.lt_of_lt_of_le hk S.size) hr, S.old k hk hL]
theorem grown_below {w w' : World} {row : Option Nat} (S : Sys B w0 L w) (h : w.grownBy w' row) (hr : ∀ k, row = some k → B ≤ k) : Below B w0 w' :=
  Below.trans S.toBelow ⟨h.os, h.tape, h.output, h.size, fun k hk => h.block k (Nat.lt_of_lt_of_le hk (Nat.le_trans S.base S.size)) fun e => by have := hr k e.symm; omega⟩
end
theorem ReadsP.own {w : World} {base e size n : Nat} {A : Option Addr} {m c : Nat} {xs : List Value} (h : w.ownsRow base e size (.slice A m c) n xs) : ReadsP w (Btw base w.heap.size) size A n xs ∧ m = n ∧ (0 < n → n ≤ c) ∧ n ≤ maxLen := by
  rcases h.2 with ⟨e1, rfl⟩ | ⟨g, cap, cur, e1, hb, hg, hc, hm, hsz, hx⟩
  · cases e1
    have : xs = [] := by have := h.1; simp at this; exact this
    subst this
    exact ⟨ReadsP.nil, rfl, fun h => absurd h (by omega), Nat.zero_le _⟩
  · cases e1
    refine ⟨⟨h.1, fun hn => ⟨_, rfl, ⟨hb, (Array.getElem?_eq_some_iff.1 hg).1⟩, fun j u hj => ?_⟩⟩, rfl, fun _ => hc, by omega⟩
    rw [add_off]
    simp only [World.cell?, hg, Nat.zero_add]
    rw [← hx, List.getElem?_take] at hj
    split at hj
    · simpa using hj
    · cases hj
theorem owns_sv {w : World} {base e size n : Nat} {v : Value} {xs : List Value} (h : w.ownsRow base e size v n xs) : ∃ r : SV, v = svV r ∧ r.n = n := by
  rcases h.2 with ⟨rfl, rfl⟩ | ⟨g, cap, cur, rfl, _⟩
  · exact ⟨⟨none, 0, 0⟩, rfl, rfl⟩
  · exact ⟨⟨_, _, _⟩, rfl, rfl⟩
theorem owns_sep {w : World} {base e size n : Nat} {v : Value} {xs : List Value} (h : w.ownsRow base e size v n xs) {L : Lo} (hL : ∀ x, x ∈ L → x.1 < base ∨ w.heap.size ≤ x.1) : ∀ k, v.ownBlock = some k → ∀ e, e ∈ L → e.1 ≠ k := fun k hk x hx e1 => by
  have := h.lt k hk
  have := hL x hx
  omega
end X
namespace X
open Go Go.RowKit Bs
theorem int_el : elemOk Tryz.prog 26 3 1 8 = true := by kernel_rfl
def filK (b : Bas) (s : Sta) (k : Nat) : List Int := rg b.pols.length fun i => if i < k then s.f i + polT b s s.vol i else s.f i
theorem filK_0 {b : Bas} {s : Sta} (h : s.fil.length = b.pols.length) : filK b s 0 = s.fil := by
  apply List.ext_getElem (by simp [filK, rg_len, h])
  intro i h1 h2
  simp [filK, rg, Sta.f, h2]
theorem filK_at {b : Bas} {s : Sta} {k : Nat} (h : k < b.pols.length) (sp : List Value) : (ints (filK b s k) ++ sp)[k]? = some (.int .i64 (s.f k)) := by
  have hl : k < (ints (filK b s k)).length := by rw [ints_len]; simpa [filK, rg_len] using h
  rw [List.getElem?_append_left hl]
  simp [ints, filK, rg, h]
theorem filK_set {b : Bas} {s : Sta} {k : Nat} (h : k < b.pols.length) (sp : List Value) : (ints (filK b s k) ++ sp).set k (.int .i64 (s.f k + polT b s s.vol k)) = ints (filK b s (k + 1)) ++ sp := by
  have hl : k < (ints (filK b s k)).length := by rw [ints_len]; simpa [filK, rg_len] using h
  rw [List.set_append_left _ _ hl]
  congr 1
  apply List.ext_getElem (by simp [ints, filK, rg_len])
  intro i h1 h2
  simp only [ints, List.length_map, filK, rg_len] at h2
  rw [List.getElem_set]
  by_cases e : k = i
  · subst e; simp [ints, filK, rg]
  · rw [if_neg e]
    simp only [ints, filK, rg, List.getElem_map, List.getElem_range]
    by_cases hi : i < k
    · rw [if_pos hi, if_pos (by omega)]
    · rw [if_neg hi, if_neg (by omega)]
theorem filK_end (b : Bas) (s : Sta) : filK b s b.pols.length = rg b.pols.length fun i => s.f i + polT b s s.vol i := by
  unfold filK rg
  apply List.map_congr_left
  intro i hi
  rw [if_pos (by simpa using hi)]
section
variable {g fb B n c : Nat} {p : BV} {b : Bas} {s : Sta} {t : Tick} {f : Flo} {w : World} {sp : List Value}
set_option maxHeartbeats 8000000 in
theorem polders_any (h : w.heap[g]? = some (watO p b ⟨some ⟨fb, 0, none⟩, n, c⟩ s t ⟨none, 0, 0⟩ f)) (hfb : w.heap[fb]? = some (cel 3 (ints s.fil ++ sp))) (hne : g ≠ fb) (hBg : B ≤ g) (hBf : B ≤ fb)
    (hb : BasAt w B p b) (ho : Ok b) (hs : StaOk b s) (hn : n = b.pols.length) :
    Calls Tryz.prog 102 #[.pointer (some ⟨g, 0, none⟩)] w fun e w' => e = .returned (.bool true) ∧ ∃ r : SV, Sys B w [(g, watO p b ⟨some ⟨fb, 0, none⟩, n, c⟩ { s with vol := polV b s s.vol b.pols.length } t r f), (fb, cel 3 (ints (rg b.pols.length fun i => s.f i + polT b s s.vol i) ++ sp))] w' ∧
      w'.ownsRow w.heap.size 3 1 (svV r) b.pols.length (ints (rg b.pols.length fun i => polT b s s.vol i)) := by
  obtain ⟨A, n1, c1, A2, n2, c2⟩ := p
  have hn1 := hb.n_eq
  have hn2 := hb.n2_eq
  simp only at hn1 hn2
  subst hn1 hn2 hn
  have hm := ho.m6
  have h' := h
  have hfb' := hfb
  simp only [watO, watC] at h
  have S0 := Sys.start2 hBg hBf h hfb hne
  have hgl := (Array.getElem?_eq_some_iff.1 h).1
  have hfl := (Array.getElem?_eq_some_iff.1 hfb).1
  refine enterL Tryz.func102 rfl Tryz.ntmps102 rfl (S0) ?_; simp only [frame, Nat.zero_add, Nat.reduceAdd]
  refine XC.hint 0 1 ?_
  repeat (first | (refine M0 ?_; first | refine SL ?_ | refine SB fun _ _ => ?_) | (refine M1 ?_; first | refine SC ?_ | refine SD ?_) | (refine M2 ?_; refine SE ?_) | (refine M3 ?_; first | refine SG ?_ | refine SF ?_) | (refine M4 ?_; refine SR ?_) | (refine M5 ?_; first | exact M7 | refine YM ?_ | refine YN ?_ ?_))
  refine XC.loopk [0, 11, 12] rfl (fun s' : Nat × World × SV => [(13, .int .i64 (s'.1 : Nat))])
    (fun s' => [(g, cel 220 (watC ⟨A, b.rows.length, c1, A2, b.pols.length, c2⟩ b ⟨some ⟨fb, 0, none⟩, b.pols.length, c⟩ { s with vol := polV b s s.vol s'.1 } t s'.2.2 f)), (fb, cel 3 (ints (filK b s s'.1) ++ sp))]) (fun s' => s'.2.1)
    (fun s' => s'.1 ≤ b.pols.length ∧ Sys B w [(g, cel 220 (watC ⟨A, b.rows.length, c1, A2, b.pols.length, c2⟩ b ⟨some ⟨fb, 0, none⟩, b.pols.length, c⟩ { s with vol := polV b s s.vol s'.1 } t s'.2.2 f)), (fb, cel 3 (ints (filK b s s'.1) ++ sp))] s'.2.1 ∧
      s'.2.1.ownsRow w.heap.size 3 1 (svV s'.2.2) s'.1 (ints (rg s'.1 fun i => polT b s s.vol i)))
    (fun s' => b.pols.length - s'.1) (0, w, ⟨none, 0, 0⟩) ⟨Nat.zero_le _, ?_, World.ownsRow_nil _ _ _ _⟩ ZZSUB ?_ ?_
  · simp only [filK_0 hs.len]; exact S0
  · intro w' S; simp only [filK_0 hs.len]; exact S
  rintro ⟨k, W, r⟩ ⟨hk, SW, hown⟩
  simp only at hk SW hown
  simp only [watC]
  dsimp only [List.cons_append, List.nil_append]
  repeat (first | (refine M0 ?_; first | refine SL ?_ | refine SB fun _ _ => ?_) | (refine M1 ?_; first | refine SC ?_ | refine SD ?_) | (refine M2 ?_; refine SE ?_) | (refine M3 ?_; first | refine SG ?_ | refine SF ?_) | (refine M4 ?_; refine SR ?_) | (refine M5 ?_; first | exact M7 | refine YM ?_ | refine YN ?_ ?_))
  refine XC.cond _ rfl (fun h1 => ?_) (fun h1 => ?_)
  · have hkm : k < b.pols.length := by simpa using h1
    have hbW := hb.below SW.toBelow
    obtain ⟨ad2, rfl, hlt2⟩ := hb.pols.addr (by simp only; omega)
    have hpv := polV_bd ho hs (v := s.vol) hs.vol k hk
    have hv : b.v0 ≤ polV b s s.vol k ∧ polV b s s.vol k ≤ 1000000000 := by have := hs.vol; omega
    have hd := den_pos ho.rowsOk (polV b s s.vol k)
    have hnm := num_bd ho.rowsOk hv
    obtain ⟨k1, k2⟩ := takeOver_bd ho hv hkm
    have k3 : i64in ((b.pol k).sill * den b (polV b s s.vol k)) := by unfold i64in; omega
    repeat (first | (refine M0 ?_; first | refine SL ?_ | refine SB fun _ _ => ?_ | refine Y4 (Ev.load_old_agg tok (polC (b.pol k)) rfl rfl rfl (add_lt hlt2) (hbW.pol hkm)) ?_) | (refine M1 ?_; first | refine SC ?_ | refine SD ?_) | (refine M2 ?_; refine SE ?_) | (refine M3 ?_; first | refine SG ?_ | refine SF ?_ | refine YF (Ev.load_old_agg tok (polC (b.pol k)) rfl rfl rfl (add_lt hlt2) (hbW.pol hkm)) ?_) | (refine M4 ?_; refine SR ?_) | (refine M5 ?_; first | exact M7 | refine YM ?_ | refine YN ?_ ?_))
    rename_i gx hgx
    have htk := takeOf_bd ho hv hkm (hs.fil k hkm)
    have hrm := ho.room k hkm
    have h0 := v0_bd ho
    have hfk := hs.fil k hkm
    obtain ⟨tk, htkq⟩ : ∃ tk, tk = takeOf b k (polV b s s.vol k) (s.f k) := ⟨_, rfl⟩
    repeat (first | (refine M0 ?_; first | refine SL ?_ | refine SB fun _ _ => ?_ | refine Y4 (Ev.call (f := 108) (ck rfl) rfl (fun w S => (exact_any (p := ⟨A, b.rows.length, c1, some ad2, b.pols.length, c2⟩) (hbW.sys S) ho.rowsOk hv :))) ?_ | refine Y4 (Ev.makeI ratio_con rfl) ?_) | (refine M1 ?_; first | refine SC ?_ | refine SD ?_) | (refine M2 ?_; refine SE ?_) | (refine M3 ?_; first | refine SG ?_ | refine SF ?_ | refine YF (Ev.call (f := 108) (ck rfl) rfl (fun w S => (exact_any (p := ⟨A, b.rows.length, c1, some ad2, b.pols.length, c2⟩) (hbW.sys S) ho.rowsOk hv :))) ?_ | refine YF (Ev.makeI ratio_con rfl) ?_) | (refine M4 ?_; refine SR ?_) | (refine M5 ?_; first | exact M7 | refine YM ?_ | refine YN ?_ ?_))
    refine XL.step _ (Ev.invoke (t := 227) above_m (ck rfl) rfl rfl (fun w S => (above_any (n := num b (polV b s s.vol k)) (d := den b (polV b s s.vol k)) (level := (b.pol k).sill) k3 w :))) rfl ?_
    repeat (first | (refine M0 ?_; first | refine SL ?_ | refine SB fun _ _ => ?_) | (refine M1 ?_; first | refine SC ?_ | refine SD ?_) | (refine M2 ?_; refine SE ?_) | (refine M3 ?_; first | refine SG ?_ | refine SF ?_) | (refine M4 ?_; refine SR ?_) | (refine M5 ?_; first | exact M7 | refine YM ?_ | refine YN ?_ ?_))
    refine XC.cutln [0, 3, 11, 12, 13] rfl (fun _ : Unit => [(6, .int .i64 tk)]) (fun _ => []) (fun _ => True) ?_ (fun _ _ => ?_)
    · refine XC.cond _ rfl (fun h2 => ?_) (fun h2 => ?_)
      · simp only [decide_eq_true_eq] at h2
        unfold takeOf at htkq
        rw [if_pos h2] at htkq
        have htkr := htk
        unfold takeOf at htkr
        rw [if_pos h2] at htkr
        repeat (first | (refine M0 ?_; first | refine SL ?_ | refine SB fun _ _ => ?_ | refine Y4 (Ev.invoke (t := 227) over_m (ck rfl) rfl rfl (fun w S => (over_any (n := num b (polV b s s.vol k)) (d := den b (polV b s s.vol k)) (level := (b.pol k).sill) (rate := (b.pol k).take) hd.1 k3 (by unfold i64in; omega) (by omega) w :))) ?_ | refine Y4 (Ev.load_at tok 2 (v := .int .i64 (s.f k)) rfl rfl rfl (by simpa using filK_at hkm sp)) ?_) | (refine M1 ?_; first | refine SC ?_ | refine SD ?_) | (refine M2 ?_; refine SE ?_) | (refine M3 ?_; first | refine SG ?_ | refine SF ?_ | refine YF (Ev.invoke (t := 227) over_m (ck rfl) rfl rfl (fun w S => (over_any (n := num b (polV b s s.vol k)) (d := den b (polV b s s.vol k)) (level := (b.pol k).sill) (rate := (b.pol k).take) hd.1 k3 (by unfold i64in; omega) (by omega) w :))) ?_ | refine YF (Ev.load_at tok 2 (v := .int .i64 (s.f k)) rfl rfl rfl (by simpa using filK_at hkm sp)) ?_) | (refine M4 ?_; refine SR ?_) | (refine M5 ?_; first | exact M7 | refine YM ?_ | refine YN ?_ ?_))
        rw [← htkq]
        refine XE.leaf () ZZSUB (fun _ S' => by first | exact S' | exact S'.perm (by repeat (first | exact List.Perm.refl _ | refine perm1 ?_ | refine List.Perm.cons _ ?_ | refine perm2 ?_)) | exact (S'.pop (by assumption)) | exact (S'.pop2 (by assumption))) ?_
        trivial
      · simp only [decide_eq_false_iff_not] at h2
        unfold takeOf at htkq
        rw [if_neg h2] at htkq
        rw [htkq]
        repeat (first | (refine M0 ?_; first | refine SL ?_ | refine SB fun _ _ => ?_) | (refine M1 ?_; first | refine SC ?_ | refine SD ?_) | (refine M2 ?_; refine SE ?_) | (refine M3 ?_; first | refine SG ?_ | refine SF ?_) | (refine M4 ?_; refine SR ?_) | (refine M5 ?_; first | exact M7 | refine YM ?_ | refine YN ?_ ?_))
        refine XE.leaf () ZZSUB (fun _ S' => by first | exact S' | exact S'.perm (by repeat (first | exact List.Perm.refl _ | refine perm1 ?_ | refine List.Perm.cons _ ?_ | refine perm2 ?_)) | exact (S'.pop (by assumption)) | exact (S'.pop2 (by assumption))) ?_
        trivial
    dsimp only [List.cons_append, List.nil_append]
    rw [← htkq] at htk
    have k4 : i64in (s.f k + tk) := by unfold i64in; omega
    repeat (first | (refine M0 ?_; first | refine SL ?_ | refine SB fun _ _ => ?_ | refine Y4 (Ev.load_at tok 2 (v := .int .i64 (s.f k)) rfl rfl rfl (by simpa using filK_at hkm sp)) ?_) | (refine M1 ?_; first | refine SC ?_ | refine SD ?_) | (refine M2 ?_; refine SE ?_) | (refine M3 ?_; first | refine SG ?_ | refine SF ?_ | refine YF (Ev.load_at tok 2 (v := .int .i64 (s.f k)) rfl rfl rfl (by simpa using filK_at hkm sp)) ?_) | (refine M4 ?_; refine SR ?_) | (refine M5 ?_; first | exact M7 | refine YM ?_ | refine YN ?_ ?_))
    have hlen : b.pols.length ≤ (ints (filK b s k) ++ sp).length := by simp [ints, filK, rg_len]
    refine XL.store_at tok 2 rfl rfl rfl rfl rfl (show 0 + (k : Int).toNat * 1 < (ints (filK b s k) ++ sp).length by rw [Int.toNat_natCast]; omega) rfl ?_
    repeat (first | (refine M0 ?_; first | refine SL ?_ | refine SB fun _ _ => ?_) | (refine M1 ?_; first | refine SC ?_ | refine SD ?_) | (refine M2 ?_; refine SE ?_) | (refine M3 ?_; first | refine SG ?_ | refine SF ?_) | (refine M4 ?_; refine SR ?_) | (refine M5 ?_; first | exact M7 | refine YM ?_ | refine YN ?_ ?_))
    refine XL.buildSlice tok rfl rfl rfl rfl rfl rfl rfl rfl rfl (fun gb hgb => ?_)
    have hWs : w.heap.size ≤ W.heap.size := SW.size
    refine XL.append (v := svV r) (m := 1) (n := k) (size := 1) (bytes := 8) (news := [.int .i64 tk]) int_el (by decide) rfl rfl rfl hown
      (owns_sep hown (fun x hx => by simp only [List.mem_cons, List.not_mem_nil, or_false] at hx; rcases hx with rfl | rfl | rfl | rfl <;> simp only <;> omega)) rfl
      (fun w' S j u hj => by rw [add_off]; exact (S.cell (List.mem_cons_self) _).trans (by simpa using hj)) rfl (by unfold maxLen; omega) (by omega) SW.size
      (List.Sublist.cons _ (List.Sublist.cons _ (List.Sublist.refl _))) (fun w1 v' w2 S1 ho1 hg1 _ => ?_)
    obtain ⟨r2, rfl, hr2⟩ := owns_sv ho1
    simp only [svV]
    repeat (first | (refine M0 ?_; first | refine SL ?_ | refine SB fun _ _ => ?_) | (refine M1 ?_; first | refine SC ?_ | refine SD ?_) | (refine M2 ?_; refine SE ?_) | (refine M3 ?_; first | refine SG ?_ | refine SF ?_) | (refine M4 ?_; refine SR ?_) | (refine M5 ?_; first | exact M7 | refine YM ?_ | refine YN ?_ ?_))
    refine XE.roundW (s := (k, W, r)) ?_
    intro w3 S3
    have e1 : polV b s s.vol (k + 1) = polV b s s.vol k - tk := by rw [htkq]; rfl
    have e2 : (ints (filK b s k) ++ sp).set (0 + (k : Int).toNat * 1) (.int .i64 (s.f k + tk)) = ints (filK b s (k + 1)) ++ sp := by
      rw [Nat.zero_add, Int.toNat_natCast, Nat.mul_one, htkq]; exact filK_set hkm sp
    rw [e2] at S3
    refine ⟨(k + 1, w3, r2), ⟨hkm, ?_, ?_⟩, ?_, ZZSUB, ?_⟩
    · simp only [e1]
      refine ((SW.trans ((S1.pop hgb).pop hgx) (fun x hx => by simpa using hx)).grown hg1 fun q hq => ?_).trans S3 (fun x hx => by simpa using hx)
      have := hown.lt q hq
      exact ⟨this.1, fun x hx e2 => by simp only [List.mem_cons, List.not_mem_nil, or_false] at hx; rcases hx with rfl | rfl <;> simp only at e2 <;> omega⟩
    · have e3 : ints (rg (k + 1) fun i => polT b s s.vol i) = ints (rg k fun i => polT b s s.vol i) ++ [.int .i64 tk] := by rw [rg_succ, htkq]; simp [ints, polT]
      simp only [e3]
      exact owns_sys ho1 S3 (owns_sep ho1 (fun x hx => by simp only [List.mem_cons, List.not_mem_nil, or_false] at hx; rcases hx with rfl | rfl <;> simp only <;> omega))
    · simp only; omega
    · simp only [e1]
      exact S3.rebase (List.Sublist.refl _)
  · have hge : k = b.pols.length := by simp at h1; omega
    subst hge
    repeat (first | (refine M0 ?_; first | refine SL ?_ | refine SB fun _ _ => ?_) | (refine M1 ?_; first | refine SC ?_ | refine SD ?_) | (refine M2 ?_; refine SE ?_) | (refine M3 ?_; first | refine SG ?_ | refine SF ?_) | (refine M4 ?_; refine SR ?_) | (refine M5 ?_; first | exact M7 | refine YM ?_ | refine YN ?_ ?_))
    refine XE.retg tok Tryz.results102 rfl (by simp only [and_self, and_true]) (fun w' S => ?_)
    refine ⟨rfl, r, ?_, ?_⟩
    · rw [← filK_end]
      exact SW.trans S (fun x hx => by simpa using hx)
    · exact owns_sys hown S (owns_sep hown (fun x hx => by simp only [List.mem_cons, List.not_mem_nil, or_false] at hx; rcases hx with rfl | rfl <;> simp only <;> omega))
end
end X
namespace X
open Go Go.RowKit
section
variable {P : Program} {T : TT} {N : Nat} {B : Nat} {w0 : World} {ds : List Deferred} {Q : Exit → Act → World → Prop} {F : Fr} {L L' : Lo} {pu : Prop} {ops : Array Oper} {rest : List Oper}
variable {dst : Option Tmp} {ty : TypeId} {p : String} {af : Array Edge} {gd : Option (Nat × Bool)}
theorem XL.rebase (hs : List.Sublist L' L) (k : ∀ w1, Sys B w0 L w1 → XL P N B w1 ds Q ops rest F L') : XL P N B w0 ds Q ops rest F L :=
  ⟨fun a w hf h => (k w h).run a w hf (h.rebase hs)⟩
theorem XC.rebase {c : Code} (hs : List.Sublist L' L) (k : ∀ w1, Sys B w0 L w1 → XC P N B w1 ds Q c F L') : XC P N B w0 ds Q c F L :=
  ⟨fun a w hf h => (k w h).run a w hf (h.rebase hs)⟩
theorem Ev.eqNil (hT : TOK P T) {x y : Operand} {t e es : Nat} {u : TypeId} {A : Option Addr} {n c : Nat} (hx : evo F x = some (.slice A n c)) (hy : evo F y = some (.slice none 0 0)) (hs : lkG T.sl t = some (e, es)) :
    Ev P N B w0 ds pu F L ⟨dst, .binOp .eql t x y u, ty, p, af, gd⟩ (.bool A.isNone) := .of_run fun a w hf hw => by
  have h := tab_ok hT.sl hs
  unfold slOf at h
  cases hu : P.underlying t with
  | none => rw [hu] at h; cases h
  | some d =>
    rw [hu] at h
    cases d <;> simp at h
    rename_i e'
    have h1 := Lib.run_eql_slice_nil (P := P) w t e' A n c 0 0 hu
    have h2 : (eqGuard .eql t x y (.slice A n c) (.slice none 0 0)).run P w = .ok () w := by simp [eqGuard]
    simp only [execOp, hf.eval hx, hf.eval hy, Sem.run_bind, h2, Result.andThen_ok, h1, Sem.run_pure]
theorem XL.callT (i : Nat) {f : FuncId} {d : Nat} {c : Operand} {fst cap : List Value} {args : Array Operand} {vs : List Value} {ats : Array TypeId} {g B' : Nat} {o o' : Obj} {v : Value} (h : callOk P f = true)
    (hcv : evo F c = some (.func (.func f) fst.toArray cap.toArray)) (ha : evos F args.toList = some vs) (hd : Nat.blt d N = true) (hL : L[i]? = some (g, o)) (hL' : setN L i (g, o') = some L')
    (hc : ∀ w, Sys B w0 L w → Calls P f (fst ++ vs ++ cap).toArray w fun e w' => e = .returned v ∧ Sys B' w [(g, o')] w') (k : XL P N B w0 ds Q ops rest ((d, v) :: F) L') :
    XL P N B w0 ds Q ops ({ dst := some d, op := .call { callee := .value c, args := args, argTypes := ats }, type := ty, pos := p, after := af, guard := none } :: rest) F L :=
  XL.callr (fun w u w' => u = v ∧ Sys B' w [(g, o')] w') h hcv ha hd (fun w S => (hc w S).mono fun e w' he => ⟨v, he.1, rfl, he.2⟩)
    (fun w u w' S hR => ⟨L', w0, S.turned i hL hL' hR.2, by rw [hR.1]; exact k⟩)
theorem set_cases {i g : Nat} {o o' : Obj} (nd : (L.map (·.1)).Nodup) (hi : L[i]? = some (g, o)) : (L.set i (g, o')).map (·.1) = L.map (·.1) ∧ ∀ e, e ∈ L.set i (g, o') → e = (g, o') ∨ (e ∈ L ∧ e.1 ≠ g) := by
  have hlt : i < L.length := (List.getElem?_eq_some_iff.1 hi).1
  have hLi : L[i] = (g, o) := (List.getElem?_eq_some_iff.1 hi).2
  refine ⟨?_, fun e he => ?_⟩
  · rw [List.map_set]
    have : (L.map (·.1))[i]'(by simpa using hlt) = g := by simp [hLi]
    conv => rhs; rw [← @List.set_getElem_self _ (L.map (·.1)) i (by simpa using hlt)]
    rw [this]
  · obtain ⟨j, hj, rfl⟩ := List.mem_iff_getElem.1 he
    by_cases hij : i = j
    · subst hij; left; simp
    · right
      rw [List.getElem_set_ne hij]
      simp at hj
      refine ⟨List.getElem_mem _, fun e2 => ?_⟩
      have hn := List.getElem_inj (xs := L.map (·.1)) (i := i) (j := j) (h₀ := by simpa using hlt) (h₁ := by simpa using hj) nd
      exact hij (hn.1 (by simp [hLi, e2]))
theorem Sys.turnedF {w5 w6 : World} {B' g f : Nat} {o o' o2 : Obj} (S : Sys B w0 L w5) (i : Nat) (hL : L[i]? = some (g, o)) (hL' : setN L i (g, o') = some L') (h' : Sys B' w5 [(g, o'), (f, o2)] w6) (hf : ∀ e, e ∈ L → e.1 ≠ f) : Sys B w6 L' w6 := by
  obtain ⟨e, _⟩ := setN_spec _ _ _ _ hL'
  subst e
  obtain ⟨h1, h2⟩ := set_cases (o' := o') S.nd hL
  refine Sys.start (Nat.le_trans S.base (Nat.le_trans S.size h'.size)) (fun x hx => ?_) (by rw [h1]; exact S.nd)
  rcases h2 x hx with rfl | ⟨hm, hne⟩
  · exact ⟨(S.own _ (List.mem_of_getElem? hL)).1, (h'.own _ (List.mem_cons_self)).2⟩
  · refine ⟨(S.own x hm).1, ?_⟩
    rw [h'.old x.1 (S.lt hm) (fun y hy e1 => ?_)]
    · exact (S.own x hm).2
    · simp only [List.mem_cons, List.not_mem_nil, or_false] at hy
      rcases hy with rfl | rfl
      · exact hne e1.symm
      · exact hf x hm e1.symm
theorem Ev.buildArr (hT : TOK P T) {t e n : Nat} {parts : List (Nat × Operand)} {z : Value} {zs cs : List Value} (hu : P.underlying t = some (.array n e)) (he : (P.info? e).map (·.size) = some 1) (hz : lkG T.zero t = some z) (hzs : cellsO z = some zs)
    (hc : fillS F 1 zs parts = some cs) : Ev P N B w0 ds pu F L ⟨dst, .build t parts.toArray, ty, p, af, gd⟩ (.agg cs.toArray) := .of_run fun a w hf hw => by
  cases hi : P.info? e with
  | none => rw [hi] at he; cases he
  | some i =>
    rw [hi] at he
    simp only [Option.map_some, Option.some.injEq] at he
    have hfill := fillS_spec hf parts zs cs hc (by decide)
    simp only [execOp, Instr.build, Sem.run_bind, zero_run hT hz, Result.andThen_ok, run_underlying hu, sizeOf_run hi, he, cellsO_spec hzs, List.map_toArray]
    rw [hfill]
    simp
theorem Ev.indexArr (hT : TOK P T) {t e n : Nat} {x i : Operand} {cs : List Value} {k : IntKind} {j : Nat} {v : Value} (hu : P.underlying t = some (.array n e)) (he : lkG T.one e = some ()) (hx : evo F x = some (.agg cs.toArray)) (hi : evo F i = some (.int k (j : Int))) (hj : j < n)
    (hv : cs[j]? = some v) : Ev P N B w0 ds pu F L ⟨dst, .index t x i, ty, p, af, gd⟩ v := .of_run fun a w hf hw => by
  obtain ⟨h1, h2⟩ := isAgg_of_one (tab_ok hT.one he) w
  simp [execOp, Instr.index, hf.eval hx, hf.eval hi, run_underlying hu, asIntOf, hj, h2, part, asAgg, h1, hv]
end
theorem owns_base {w : World} {base base' e size n : Nat} {v : Value} {xs : List Value} (h : w.ownsRow base e size v n xs) (hb : base' ≤ base) : w.ownsRow base' e size v n xs := by
  refine ⟨h.1, ?_⟩
  rcases h.2 with h | ⟨g, cap, cur, rfl, hb2, h⟩
  · exact .inl h
  · exact .inr ⟨g, cap, cur, rfl, by omega, h⟩
theorem owns_block {w : World} {base e n : Nat} {A : Option Addr} {m c : Nat} {xs : List Value} (h : w.ownsRow base e 1 (.slice A m c) n xs) (hn : 0 < n) : ∃ g sp, A = some ⟨g, 0, none⟩ ∧ m = n ∧ base ≤ g ∧ w.heap[g]? = some (cel e (xs ++ sp)) ∧ xs.length + sp.length = c ∧ c ≤ maxLen := by
  rcases h.2 with ⟨e1, rfl⟩ | ⟨g, cap, cur, e1, hb, hg, hc, hm, hsz, hx⟩
  · omega
  · cases e1
    refine ⟨g, cur.toList.drop (n * 1), rfl, rfl, hb, ?_, ?_, hm⟩
    · rw [hg, ← hx, List.take_append_drop]
    · have := h.1
      have h2 : cur.toList.length = c := by simp [hsz]
      simp only [List.length_drop, h2]
      omega
theorem owns_of {w : World} {base e g n c : Nat} {xs sp : List Value} (hg : w.heap[g]? = some (cel e (xs ++ sp))) (hb : base ≤ g) (hn : xs.length = n) (hc : xs.length + sp.length = c) (hm : c ≤ maxLen) : w.ownsRow base e 1 (.slice (some ⟨g, 0, none⟩) n c) n xs :=
  ⟨by omega, .inr ⟨g, c, (xs ++ sp).toArray, rfl, hb, hg, by omega, hm, by simp; omega, by simp [← hn]⟩⟩
theorem IntsAt.own {w : World} {base e : Nat} {r : SV} {l : List Int} (h : w.ownsRow base e 1 (svV r) l.length (ints l)) : IntsAt w (Btw base w.heap.size) r l := by
  obtain ⟨h1, h2, _, h4⟩ := ReadsP.own h
  exact ⟨by rw [h2]; exact h1, by rw [h2]; simp only [maxLen] at h4; omega⟩
theorem IntsAt.nil {w : World} {ok : Nat → Prop} : IntsAt w ok ⟨none, 0, 0⟩ [] := ⟨ReadsP.nil, by simp⟩
theorem Keep.sysT {ok : Nat → Prop} {w0 w : World} {B : Nat} {L L' : Lo} (h : Keep ok w0 L) (S : Sys B w0 L' w) (e : L'.map (·.1) = L.map (·.1)) : ∀ k, ok k → w.heap[k]? = w0.heap[k]? := (h.turn e).sys S
end X
namespace X
open Go Go.RowKit Bs
theorem clone_any {q : SV} {l : List Int} {w : World} (hq : IntsAt w (Lt w.heap.size) q l) (hl : l.length ≤ 1000) :
    Calls Tryz.prog 41 #[svV q] w fun e w' => ∃ v, e = .returned v ∧ ((∃ r : SV, v = svV r ∧ w'.ownsRow w.heap.size 3 1 (svV r) l.length (ints l)) ∧ Below w.heap.size w w') := by
  obtain ⟨A, n, c⟩ := q
  have hn := hq.len
  simp only at hn
  subst hn
  simp only [svV]
  cases A with
  | none =>
    have h0 : l = [] := by
      cases l with
      | nil => rfl
      | cons x r => obtain ⟨ad, e, _⟩ := hq.at_ (by simp); cases e
    subst h0
    refine enter Tryz.func41 rfl Tryz.ntmps41 rfl ?_; simp only [frame, Nat.zero_add, Nat.reduceAdd]
    repeat (first | (refine M0 ?_; first | refine SL ?_ | refine SB fun _ _ => ?_ | refine Y4 (Ev.eqNil tok rfl rfl rfl) ?_) | (refine M1 ?_; first | refine SC ?_ | refine SD ?_) | (refine M2 ?_; refine SE ?_) | (refine M3 ?_; first | refine SG ?_ | refine SF ?_ | refine YF (Ev.eqNil tok rfl rfl rfl) ?_) | (refine M4 ?_; refine SR ?_) | (refine M5 ?_; first | exact M7 | refine YM ?_ | refine YN ?_ ?_))
    refine XE.retg tok Tryz.results41 rfl (by simp only [and_self, and_true]) (fun w' S => ?_)
    exact ⟨_, rfl, ⟨⟨none, 0, 0⟩, rfl, World.ownsRow_nil _ _ _ _⟩, S.toBelow⟩
  | some ad =>
    refine enter Tryz.func41 rfl Tryz.ntmps41 rfl ?_; simp only [frame, Nat.zero_add, Nat.reduceAdd]
    repeat (first | (refine M0 ?_; first | refine SL ?_ | refine SB fun _ _ => ?_ | refine Y4 (Ev.eqNil tok rfl rfl rfl) ?_) | (refine M1 ?_; first | refine SC ?_ | refine SD ?_) | (refine M2 ?_; refine SE ?_) | (refine M3 ?_; first | refine SG ?_ | refine SF ?_ | refine YF (Ev.eqNil tok rfl rfl rfl) ?_) | (refine M4 ?_; refine SR ?_) | (refine M5 ?_; first | exact M7 | refine YM ?_ | refine YN ?_ ?_))
    refine XL.buildSlice tok rfl rfl rfl rfl rfl rfl rfl rfl rfl (fun gb hgb => ?_)
    refine XL.rebase (L' := []) (List.nil_sublist _) (fun w1 S1 => ?_)
    have hg1 := (S1.own _ (List.mem_cons_self)).2
    have hb1 := (hq.arg S1)
    repeat (first | (refine M0 ?_; first | refine SL ?_ | refine SB fun _ _ => ?_) | (refine M1 ?_; first | refine SC ?_ | refine SD ?_) | (refine M2 ?_; refine SE ?_) | (refine M3 ?_; first | refine SG ?_ | refine SF ?_) | (refine M4 ?_; refine SR ?_) | (refine M5 ?_; first | exact M7 | refine YM ?_ | refine YN ?_ ?_))
    have hcell : ∀ j u, (ints l)[j]? = some u → w1.cell? (ad.add j) = some u ∧ ad.block < w1.heap.size := fun j u hj => by
      have hlen := hq.rd.len
      obtain ⟨ad', e1, h1, h2⟩ := hb1.rd.at_ (by have := (List.getElem?_eq_some_iff.1 hj).1; rw [ints_len] at this; simp only; omega)
      cases e1
      exact ⟨h2 j u hj, h1⟩
    refine XL.append (v := .slice (some ⟨gb, 0, none⟩) 0 0) (m := l.length) (n := 0) (size := 1) (bytes := 8) (base := w.heap.size) (xs := []) (news := ints l) (L' := []) int_el (by decide) rfl rfl rfl
      ⟨by simp, .inr ⟨gb, 0, #[], rfl, hgb, hg1, Nat.le_refl _, Nat.zero_le _, by simp, by simp⟩⟩ (fun k hk x hx => by cases hx) (by rw [ints_len]; simp)
      (fun w2 S2 j u hj => by
        obtain ⟨h3, h4⟩ := hcell j u hj
        exact (S2.farCell (by rw [add_block]; exact h4) (fun x hx => by cases hx)).trans h3) (by simp [ints, Value.oneCell']) (by unfold maxLen; omega) (by omega) S1.size (List.nil_sublist _) (fun w2 v' w3 S2 ho hg _ => ?_)
    obtain ⟨r, rfl, hr⟩ := owns_sv ho
    rw [Nat.zero_add, List.nil_append] at ho
    have hB : Below w.heap.size w w3 := S1.toBelow.trans (Below.trans S2.toBelow ⟨hg.os, hg.tape, hg.output, hg.size, fun k hk => hg.block k (Nat.lt_of_lt_of_le (Nat.lt_of_lt_of_le hk S1.size) S2.size) fun e => by simp [Value.ownBlock] at e; omega⟩)
    repeat (first | (refine M0 ?_; first | refine SL ?_ | refine SB fun _ _ => ?_) | (refine M1 ?_; first | refine SC ?_ | refine SD ?_) | (refine M2 ?_; refine SE ?_) | (refine M3 ?_; first | refine SG ?_ | refine SF ?_) | (refine M4 ?_; refine SR ?_) | (refine M5 ?_; first | exact M7 | refine YM ?_ | refine YN ?_ ?_))
    refine XE.retg tok Tryz.results41 rfl (by simp only [and_self, and_true]) (fun w' S => ?_)
    exact ⟨_, rfl, ⟨r, rfl, owns_sys ho S (fun k hk x hx => by cases hx)⟩, hB.trans S.toBelow⟩
section
variable {g : Nat} {p : BV} {b : Bas} {q r : SV} {s : Sta} {t : Tick} {f : Flo} {w : World}
theorem polders0_any (h : w.heap[g]? = some (watO p b q s t r f)) (hb : BasAt w g p b) (hm : b.pols.length = 0) :
    Calls Tryz.prog 102 #[.pointer (some ⟨g, 0, none⟩)] w fun e w' => e = .returned (.bool true) ∧ Sys g w [(g, watO p b q s t r f)] w' := by
  obtain ⟨A, n, c, A2, n2, c2⟩ := p
  have hn2 := hb.n2_eq
  simp only at hn2
  subst hn2
  simp only [watO, watC] at h
  refine enterL Tryz.func102 rfl Tryz.ntmps102 rfl (Sys.start1 (Nat.le_refl g) h) ?_; simp only [frame, Nat.zero_add, Nat.reduceAdd]
  refine XC.hint 0 0 ?_
  repeat (first | (refine M0 ?_; first | refine SL ?_ | refine SB fun _ _ => ?_) | (refine M1 ?_; first | refine SC ?_ | refine SD ?_) | (refine M2 ?_; refine SE ?_) | (refine M3 ?_; first | refine SG ?_ | refine SF ?_) | (refine M4 ?_; refine SR ?_) | (refine M5 ?_; first | exact M7 | refine YM ?_ | refine YN ?_ ?_))
  refine XC.loopk [0, 11, 12] rfl (fun _ : Unit => [(13, .int .i64 0)]) (fun _ => _) (fun _ => w) (fun _ => True) (fun _ => 0) () trivial ZZSUB (fun _ h => h) ?_
  intro _ _
  dsimp only [List.cons_append, List.nil_append]
  repeat (first | (refine M0 ?_; first | refine SL ?_ | refine SB fun _ _ => ?_) | (refine M1 ?_; first | refine SC ?_ | refine SD ?_) | (refine M2 ?_; refine SE ?_) | (refine M3 ?_; first | refine SG ?_ | refine SF ?_) | (refine M4 ?_; refine SR ?_) | (refine M5 ?_; first | exact M7 | refine YM ?_ | refine YN ?_ ?_))
  refine XC.cond _ rfl (fun h1 => ?_) (fun h1 => ?_)
  · simp [hm] at h1
  · repeat (first | (refine M0 ?_; first | refine SL ?_ | refine SB fun _ _ => ?_) | (refine M1 ?_; first | refine SC ?_ | refine SD ?_) | (refine M2 ?_; refine SE ?_) | (refine M3 ?_; first | refine SG ?_ | refine SF ?_) | (refine M4 ?_; refine SR ?_) | (refine M5 ?_; first | exact M7 | refine YM ?_ | refine YN ?_ ?_))
    refine XE.retg tok Tryz.results102 rfl (by simp only [and_self, and_true]) (fun w' S => ?_)
    exact ⟨rfl, S⟩
end
end X
namespace Bs
theorem polV_vol (b : Bas) (s : Sta) (x v : Int) : ∀ k, polV b ⟨x, s.fil⟩ v k = polV b s v k := by
  intro k
  induction k with
  | zero => rfl
  | succ k ih => simp only [polV, ih]; rfl
theorem polT_vol (b : Bas) (s : Sta) (x v : Int) (k : Nat) : polT b ⟨x, s.fil⟩ v k = polT b s v k := by unfold polT; rw [polV_vol]; rfl
def outS (b : Bas) (s : Sta) (t : Tick) : Sta := if stepE b s t = 0 then stepS b s t else ⟨0, []⟩
def outF (b : Bas) (s : Sta) (t : Tick) : Flo := if stepE b s t = 0 then stepF b s t else ⟨0, 0, 0, 0, []⟩
def staK (b : Bas) (s : Sta) (t : Tick) : Nat → Sta
  | 0 => s
  | 1 => ⟨vol1 s t, s.fil⟩
  | 2 => ⟨vol2 b s t, s.fil⟩
  | 3 => ⟨vol3 b s t, s.fil⟩
  | 4 => ⟨vol4 b s t, s.fil⟩
  | _ => ⟨polV b s (vol4 b s t) b.pols.length, s.fil⟩
def floK (b : Bas) (s : Sta) (t : Tick) : Nat → Flo
  | 0 => ⟨0, 0, 0, 0, []⟩
  | 1 => ⟨t.river, 0, 0, 0, []⟩
  | 2 => ⟨t.river, overOf b t, 0, 0, []⟩
  | 3 => ⟨t.river, overOf b t, leakOf b t.outer (vol2 b s t), 0, []⟩
  | _ => ⟨t.river, overOf b t, leakOf b t.outer (vol2 b s t), outOf b s t, []⟩
def filS (b : Bas) (s : Sta) (t : Tick) (k : Nat) : List Int := if k ≤ 4 then s.fil else (stepS b s t).fil
def tkS (b : Bas) (s : Sta) (t : Tick) (k : Nat) : List Int := if k ≤ 4 then [] else (stepF b s t).taken
theorem stepE_7 {b : Bas} {s : Sta} {t : Tick} (h : tickBad t = true) : stepE b s t = 7 := by unfold stepE; rw [if_pos h]
theorem stepE_3 {b : Bas} {s : Sta} {t : Tick} (h : tickBad t = false) (h1 : 1000000000 < vol1 s t ∨ 1000000000 < vol2 b s t ∨ 1000000000 < vol3 b s t) : stepE b s t = 3 := by
  unfold stepE
  rw [if_neg (by simp [h])]
  by_cases a : 1000000000 < vol1 s t
  · rw [if_pos a]
  · rw [if_neg a]
    by_cases c : 1000000000 < vol2 b s t
    · rw [if_pos c]
    · rw [if_neg c, if_pos (by omega)]
theorem stepE_0 {b : Bas} {s : Sta} {t : Tick} (h : tickBad t = false) (h1 : vol1 s t ≤ 1000000000) (h2 : vol2 b s t ≤ 1000000000) (h3 : vol3 b s t ≤ 1000000000) : stepE b s t = 0 := by
  unfold stepE
  rw [if_neg (by simp [h]), if_neg (by omega), if_neg (by omega), if_neg (by omega)]
theorem outS_n {b : Bas} {s : Sta} {t : Tick} (h : stepE b s t ≠ 0) : outS b s t = ⟨0, []⟩ := by unfold outS; rw [if_neg h]
theorem outF_n {b : Bas} {s : Sta} {t : Tick} (h : stepE b s t ≠ 0) : outF b s t = ⟨0, 0, 0, 0, []⟩ := by unfold outF; rw [if_neg h]
theorem outS_0 {b : Bas} {s : Sta} {t : Tick} (h : stepE b s t = 0) : outS b s t = stepS b s t := by unfold outS; rw [if_pos h]
theorem outF_0 {b : Bas} {s : Sta} {t : Tick} (h : stepE b s t = 0) : outF b s t = stepF b s t := by unfold outF; rw [if_pos h]
end Bs
namespace X
open Go Go.RowKit Bs
def StepR (b : Bas) (s : Sta) (t : Tick) (w : World) (v : Value) (w' : World) : Prop :=
  ∃ q r : SV, v = .tuple ⟨[staV q (outS b s t), floV r (outF b s t), .int .i64 (stepE b s t)]⟩ ∧ IntsAt w' (Btw w.heap.size w'.heap.size) q (outS b s t).fil ∧ IntsAt w' (Btw w.heap.size w'.heap.size) r (outF b s t).taken ∧ Below w.heap.size w w'
theorem StepR.err {b : Bas} {s : Sta} {t : Tick} {w w' : World} {e : Int} (he : stepE b s t = e) (hne : e ≠ 0) (hb : Below w.heap.size w w') :
    StepR b s t w (.tuple ⟨[.agg ⟨[.int .i64 0, .slice none 0 0]⟩, .agg ⟨[.int .i64 0, .int .i64 0, .int .i64 0, .int .i64 0, .slice none 0 0]⟩, .int .i64 e]⟩) w' :=
  ⟨⟨none, 0, 0⟩, ⟨none, 0, 0⟩, by rw [outS_n (by rw [he]; exact hne), outF_n (by rw [he]; exact hne), he]; rfl, by rw [outS_n (by rw [he]; exact hne)]; exact IntsAt.nil, by rw [outF_n (by rw [he]; exact hne)]; exact IntsAt.nil, hb⟩
theorem fn_one : lkG TB.one 39 = some () := by rfl
theorem fn_size : (Tryz.prog.info? 39).map (·.size) = some 1 := by kernel_rfl
set_option maxHeartbeats 16000000 in
theorem step_any {p : BV} {b : Bas} {q : SV} {s : Sta} {t : Tick} {w : World} (hb : BasAt w w.heap.size p b) (hq : IntsAt w (Lt w.heap.size) q s.fil) (ho : Ok b) (hs : StaOk b s) :
    Calls Tryz.prog 89 #[basV p b, staV q s, tickV t] w fun e w' => ∃ v, e = .returned v ∧ StepR b s t w v w' := by
  have hm := ho.m6
  have hl := hs.len
  obtain ⟨A, n, c⟩ := q
  have hn := hq.len
  simp only at hn
  subst hn
  simp only [basV, basC, staV, staC, tickV, tickC]
  refine enter Tryz.func89 rfl Tryz.ntmps89 rfl ?_; simp only [frame, Nat.zero_add, Nat.reduceAdd]
  repeat (any_goals (first | (refine M0 ?_; first | refine SL ?_ | refine SB fun _ _ => ?_ | (refine XL.split _ _ rfl (fun h => ?_) (fun h => ?_) <;> rw [h]) | refine Y4 (Ev.call (f := 67) (ck rfl) rfl (fun w _ => high_any _ w)) ?_ | refine Y4 (Ev.call (f := 21) (ck rfl) rfl (fun w _ => out_any _ _ _ w)) ?_) | (refine M1 ?_; first | refine SC ?_ | refine SD ?_ | refine XC.cond _ rfl (fun h => ?_) (fun h => ?_)) | (refine M2 ?_; refine SE ?_) | (refine M3 ?_; first | refine SG ?_ | refine SF ?_ | (refine Fw.split _ _ rfl (fun h => ?_) (fun h => ?_) <;> rw [h]) | refine YF (Ev.call (f := 67) (ck rfl) rfl (fun w _ => high_any _ w)) ?_ | refine YF (Ev.call (f := 21) (ck rfl) rfl (fun w _ => out_any _ _ _ w)) ?_) | (refine M4 ?_; refine SR ?_) | (refine M5 ?_; first | exact M7 | refine YM ?_ | refine YN ?_ ?_)))
  all_goals try (refine XE.retg tok Tryz.results89 rfl (by simp only [and_self, and_true]) (fun w' S => ?_)
                 refine ⟨_, rfl, StepR.err (stepE_7 (by simp [tickBad, *])) (by decide) S.toBelow⟩)
  rename_i g3 hg3 g4 hg4 g5 hg5 g6 hg6 g7 hg7 h1 h2
  have h3 := h
  have hbad : tickBad t = false := by simp [tickBad, *]
  have o1 := outB_f.1 h1
  have o2 := outB_f.1 h2
  have o3 := outB_f.1 h3
  refine XL.call (fst := []) (cap := []) (ck rfl) rfl rfl rfl (List.Sublist.refl _) (fun w1 v w2 => ∃ r : SV, v = svV r ∧ w2.ownsRow w1.heap.size 3 1 (svV r) s.fil.length (ints s.fil))
    (fun w1 S1 => (clone_any (hq.arg S1) (by omega)).mono fun e w' ⟨v, h, h4, h5⟩ => ⟨v, h, h4, h5⟩) (fun w1 v w2 S1 hR hB S2 => ?_)
  obtain ⟨q2, rfl, hown⟩ := hR
  have hownC := hown
  have hown := owns_base hown S1.size
  have hgs := fun e he => S1.lt (e := e) he
  simp only [List.mem_cons, forall_eq_or_imp, List.not_mem_nil, false_implies, implies_true, and_true] at hgs
  simp only [svV]
  repeat (first | (refine M0 ?_; first | refine SL ?_ | refine SB fun _ _ => ?_) | (refine M1 ?_; first | refine SC ?_ | refine SD ?_) | (refine M2 ?_; refine SE ?_) | (refine M3 ?_; first | refine SG ?_ | refine SF ?_) | (refine M4 ?_; refine SR ?_) | (refine M5 ?_; first | exact M7 | refine YM ?_ | refine YN ?_ ?_))
  rename_i g9 hg9
  repeat (first | (refine M0 ?_; first | refine SL ?_ | refine SB fun _ _ => ?_ | refine Y4 (Ev.makeFunc rfl rfl) ?_) | (refine M1 ?_; first | refine SC ?_ | refine SD ?_) | (refine M2 ?_; refine SE ?_) | (refine M3 ?_; first | refine SG ?_ | refine SF ?_ | refine YF (Ev.makeFunc rfl rfl) ?_) | (refine M4 ?_; refine SR ?_) | (refine M5 ?_; first | exact M7 | refine YM ?_ | refine YN ?_ ?_))
  refine XL.step _ (Ev.buildArr tok Tryz.underlying221 fn_size rfl rfl rfl) rfl ?_
  repeat (first | (refine M0 ?_; first | refine SL ?_ | refine SB fun _ _ => ?_) | (refine M1 ?_; first | refine SC ?_ | refine SD ?_) | (refine M2 ?_; refine SE ?_) | (refine M3 ?_; first | refine SG ?_ | refine SF ?_) | (refine M4 ?_; refine SR ?_) | (refine M5 ?_; first | exact M7 | refine YM ?_ | refine YN ?_ ?_))
  have hB2 : Below w.heap.size w w2 := S2.toBelow
  have hsQ : ∀ x, (svV q2).ownBlock = some x → x ∉ [g9, g7, g6, g5, g4, g3] := fun x hx hm' => by
    have := hownC.lt x hx
    simp only [List.mem_cons, List.not_mem_nil, or_false] at hm'
    omega
  have hb2 := hb.below hB2
  have hws : w.heap.size ≤ w2.heap.size := hB2.size
  refine XC.loopk [6, 7, 9, 46] rfl (fun s' : Nat × World × SV => [(47, .int .i64 (s'.1 : Nat))])
    (fun s' => [(g9, watO p b q2 (staK b s t s'.1) t s'.2.2 (floK b s t s'.1)), _, _, _, _, _]) (fun s' => s'.2.1)
    (fun s' => s'.1 ≤ 5 ∧ Below w.heap.size w s'.2.1 ∧ s'.2.1.ownsRow w.heap.size 3 1 (svV q2) s.fil.length (ints (filS b s t s'.1)) ∧ s'.2.1.ownsRow w.heap.size 3 1 (svV s'.2.2) (tkS b s t s'.1).length (ints (tkS b s t s'.1)) ∧
      (s'.1 ≤ 4 → s'.2 = (w2, ⟨none, 0, 0⟩)) ∧ (1 ≤ s'.1 → vol1 s t ≤ 1000000000) ∧ (2 ≤ s'.1 → vol2 b s t ≤ 1000000000) ∧ (3 ≤ s'.1 → vol3 b s t ≤ 1000000000) ∧ (∀ x, (svV s'.2.2).ownBlock = some x → x ∉ [g9, g7, g6, g5, g4, g3]))
    (fun s' => 5 - s'.1) (0, w2, ⟨none, 0, 0⟩) ⟨Nat.zero_le _, hB2, hown, World.ownsRow_nil _ _ _ _, fun _ => rfl, fun h => absurd h (by simp), fun h => absurd h (by simp), fun h => absurd h (by simp), fun x hx => by cases hx⟩ ZZSUB (fun _ h => h) ?_
  rintro ⟨k, W, r⟩ ⟨hk, hBW, hoF, hoT, h4, c1, c2, c3, hsR⟩
  simp only at hk hBW hoF hoT h4 c1 c2 c3 hsR
  dsimp only [List.cons_append, List.nil_append]
  repeat (first | (refine M0 ?_; first | refine SL ?_ | refine SB fun _ _ => ?_) | (refine M1 ?_; first | refine SC ?_ | refine SD ?_) | (refine M2 ?_; refine SE ?_) | (refine M3 ?_; first | refine SG ?_ | refine SF ?_) | (refine M4 ?_; refine SR ?_) | (refine M5 ?_; first | exact M7 | refine YM ?_ | refine YN ?_ ?_))
  refine XC.cond _ rfl (fun h5 => ?_) (fun h5 => ?_)
  · have hv0 := v0_bd ho
    have hvs := hs.vol
    have hov := over_bd ho t o1
    have e1 : vol1 s t = s.vol + t.river := rfl
    have e2 : vol2 b s t = vol1 s t + overOf b t := rfl
    have e3 : vol3 b s t = vol2 b s t + leakOf b t.outer (vol2 b s t) := rfl
    have e4 : b.v0 - vol2 b s t ≤ leakOf b t.outer (vol2 b s t) := by unfold leakOf; omega
    have e0 : b.v0 = (b.row 0).vol := rfl
    have hk4 : k ≤ 4 := by simp only [decide_eq_true_eq] at h5; omega
    obtain ⟨rfl, rfl⟩ := Prod.mk.inj (h4 hk4)
    have hoF : W.ownsRow w.heap.size 3 1 (svV q2) s.fil.length (ints s.fil) := hown
    have hoT : W.ownsRow w.heap.size 3 1 (svV ⟨none, 0, 0⟩) ([] : List Int).length (ints []) := World.ownsRow_nil _ _ _ _
    rcases k with _ | _ | _ | _ | _ | k
    · -- river
      repeat (first | (refine M0 ?_; first | refine SL ?_ | refine SB fun _ _ => ?_) | (refine M1 ?_; first | refine SC ?_ | refine SD ?_) | (refine M2 ?_; refine SE ?_) | (refine M3 ?_; first | refine SG ?_ | refine SF ?_) | (refine M4 ?_; refine SR ?_) | (refine M5 ?_; first | exact M7 | refine YM ?_ | refine YN ?_ ?_))
      refine XL.step _ (Ev.indexArr tok Tryz.underlying221 fn_one rfl (j := 0) rfl (by decide) rfl) rfl ?_
      repeat (first | (refine M0 ?_; first | refine SL ?_ | refine SB fun _ _ => ?_) | (refine M1 ?_; first | refine SC ?_ | refine SD ?_) | (refine M2 ?_; refine SE ?_) | (refine M3 ?_; first | refine SG ?_ | refine SF ?_) | (refine M4 ?_; refine SR ?_) | (refine M5 ?_; first | exact M7 | refine YM ?_ | refine YN ?_ ?_))
      refine XL.callT (B' := g9) 0 (fst := [.pointer (some ⟨g9, 0, none⟩)]) (cap := []) (vs := []) (ck rfl) rfl rfl rfl rfl rfl (fun w5 S5 => (river_any (g := g9) (p := p) (b := b) (q := q2) (s := s) (t := t) (r := ⟨none, 0, 0⟩) (f := ⟨0, 0, 0, 0, []⟩) (S5.obj (i := 0) rfl) (by unfold i64in; omega) :)) ?_
      repeat (first | (refine M0 ?_; first | refine SL ?_ | refine SB fun _ _ => ?_) | (refine M1 ?_; first | refine SC ?_ | refine SD ?_) | (refine M2 ?_; refine SE ?_) | (refine M3 ?_; first | refine SG ?_ | refine SF ?_) | (refine M4 ?_; refine SR ?_) | (refine M5 ?_; first | exact M7 | refine YM ?_ | refine YN ?_ ?_))
      refine XC.cond _ rfl (fun h6 => ?_) (fun h6 => ?_)
      · simp only [Bool.not_not, Bool.not_eq_true', Bool.not_eq_false', decide_eq_true_eq, decide_eq_false_iff_not] at h6
        repeat (first | (refine M0 ?_; first | refine SL ?_ | refine SB fun _ _ => ?_) | (refine M1 ?_; first | refine SC ?_ | refine SD ?_) | (refine M2 ?_; refine SE ?_) | (refine M3 ?_; first | refine SG ?_ | refine SF ?_) | (refine M4 ?_; refine SR ?_) | (refine M5 ?_; first | exact M7 | refine YM ?_ | refine YN ?_ ?_))
        refine XE.retg tok Tryz.results89 rfl (by simp only [and_self, and_true]) (fun w' S => ?_)
        exact ⟨_, rfl, StepR.err (stepE_3 hbad (.inl h6)) (by decide) (hB2.trans S.toBelow)⟩
      · simp only [Bool.not_not, Bool.not_eq_true', Bool.not_eq_false', decide_eq_true_eq, decide_eq_false_iff_not] at h6
        repeat (first | (refine M0 ?_; first | refine SL ?_ | refine SB fun _ _ => ?_) | (refine M1 ?_; first | refine SC ?_ | refine SD ?_) | (refine M2 ?_; refine SE ?_) | (refine M3 ?_; first | refine SG ?_ | refine SF ?_) | (refine M4 ?_; refine SR ?_) | (refine M5 ?_; first | exact M7 | refine YM ?_ | refine YN ?_ ?_))
        refine XE.round (s := (0, W, ⟨none, 0, 0⟩)) (0 + 1, W, ⟨none, 0, 0⟩) ⟨by simp, hB2, hoF, hoT, fun _ => rfl, fun _ => (by simp only [vol1]; omega), fun h => absurd h (by simp), fun h => absurd h (by simp), fun x hx => by cases hx⟩ (by simp) ZZSUB (fun _ h => h)
    · -- over
      repeat (first | (refine M0 ?_; first | refine SL ?_ | refine SB fun _ _ => ?_) | (refine M1 ?_; first | refine SC ?_ | refine SD ?_) | (refine M2 ?_; refine SE ?_) | (refine M3 ?_; first | refine SG ?_ | refine SF ?_) | (refine M4 ?_; refine SR ?_) | (refine M5 ?_; first | exact M7 | refine YM ?_ | refine YN ?_ ?_))
      refine XL.step _ (Ev.indexArr tok Tryz.underlying221 fn_one rfl (j := 1) rfl (by decide) rfl) rfl ?_
      repeat (first | (refine M0 ?_; first | refine SL ?_ | refine SB fun _ _ => ?_) | (refine M1 ?_; first | refine SC ?_ | refine SD ?_) | (refine M2 ?_; refine SE ?_) | (refine M3 ?_; first | refine SG ?_ | refine SF ?_) | (refine M4 ?_; refine SR ?_) | (refine M5 ?_; first | exact M7 | refine YM ?_ | refine YN ?_ ?_))
      refine XL.callT (B' := g9) 0 (fst := [.pointer (some ⟨g9, 0, none⟩)]) (cap := []) (vs := []) (ck rfl) rfl rfl rfl rfl rfl (fun w5 S5 => (over_run (g := g9) (p := p) (b := b) (q := q2) (s := ⟨vol1 s t, s.fil⟩) (t := t) (r := ⟨none, 0, 0⟩) (f := ⟨t.river, 0, 0, 0, []⟩) (S5.obj (i := 0) rfl) ho o1 (by simp only; omega) :)) ?_
      repeat (first | (refine M0 ?_; first | refine SL ?_ | refine SB fun _ _ => ?_) | (refine M1 ?_; first | refine SC ?_ | refine SD ?_) | (refine M2 ?_; refine SE ?_) | (refine M3 ?_; first | refine SG ?_ | refine SF ?_) | (refine M4 ?_; refine SR ?_) | (refine M5 ?_; first | exact M7 | refine YM ?_ | refine YN ?_ ?_))
      refine XC.cond _ rfl (fun h6 => ?_) (fun h6 => ?_)
      · simp only [Bool.not_not, Bool.not_eq_true', Bool.not_eq_false', decide_eq_true_eq, decide_eq_false_iff_not] at h6
        repeat (first | (refine M0 ?_; first | refine SL ?_ | refine SB fun _ _ => ?_) | (refine M1 ?_; first | refine SC ?_ | refine SD ?_) | (refine M2 ?_; refine SE ?_) | (refine M3 ?_; first | refine SG ?_ | refine SF ?_) | (refine M4 ?_; refine SR ?_) | (refine M5 ?_; first | exact M7 | refine YM ?_ | refine YN ?_ ?_))
        refine XE.retg tok Tryz.results89 rfl (by simp only [and_self, and_true]) (fun w' S => ?_)
        exact ⟨_, rfl, StepR.err (stepE_3 hbad (.inr <| .inl h6)) (by decide) (hB2.trans S.toBelow)⟩
      · simp only [Bool.not_not, Bool.not_eq_true', Bool.not_eq_false', decide_eq_true_eq, decide_eq_false_iff_not] at h6
        repeat (first | (refine M0 ?_; first | refine SL ?_ | refine SB fun _ _ => ?_) | (refine M1 ?_; first | refine SC ?_ | refine SD ?_) | (refine M2 ?_; refine SE ?_) | (refine M3 ?_; first | refine SG ?_ | refine SF ?_) | (refine M4 ?_; refine SR ?_) | (refine M5 ?_; first | exact M7 | refine YM ?_ | refine YN ?_ ?_))
        refine XE.round (s := (1, W, ⟨none, 0, 0⟩)) (1 + 1, W, ⟨none, 0, 0⟩) ⟨by simp, hB2, hoF, hoT, fun _ => rfl, fun _ => c1 (by omega), fun _ => (by rw [e2]; omega), fun h => absurd h (by simp), fun x hx => by cases hx⟩ (by simp) ZZSUB (fun _ h => h)
    · -- leak
      repeat (first | (refine M0 ?_; first | refine SL ?_ | refine SB fun _ _ => ?_) | (refine M1 ?_; first | refine SC ?_ | refine SD ?_) | (refine M2 ?_; refine SE ?_) | (refine M3 ?_; first | refine SG ?_ | refine SF ?_) | (refine M4 ?_; refine SR ?_) | (refine M5 ?_; first | exact M7 | refine YM ?_ | refine YN ?_ ?_))
      refine XL.step _ (Ev.indexArr tok Tryz.underlying221 fn_one rfl (j := 2) rfl (by decide) rfl) rfl ?_
      repeat (first | (refine M0 ?_; first | refine SL ?_ | refine SB fun _ _ => ?_) | (refine M1 ?_; first | refine SC ?_ | refine SD ?_) | (refine M2 ?_; refine SE ?_) | (refine M3 ?_; first | refine SG ?_ | refine SF ?_) | (refine M4 ?_; refine SR ?_) | (refine M5 ?_; first | exact M7 | refine YM ?_ | refine YN ?_ ?_))
      refine XL.callT (B' := g9) 0 (fst := [.pointer (some ⟨g9, 0, none⟩)]) (cap := []) (vs := []) (ck rfl) rfl rfl rfl rfl rfl (fun w5 S5 => (leak_any (g := g9) (p := p) (b := b) (q := q2) (s := ⟨vol2 b s t, s.fil⟩) (t := t) (r := ⟨none, 0, 0⟩) (f := ⟨t.river, overOf b t, 0, 0, []⟩) (S5.obj (i := 0) rfl) ((hb2.below S5.toBelow).more (by omega)) ho o1 (by simp only; omega) :)) ?_
      repeat (first | (refine M0 ?_; first | refine SL ?_ | refine SB fun _ _ => ?_) | (refine M1 ?_; first | refine SC ?_ | refine SD ?_) | (refine M2 ?_; refine SE ?_) | (refine M3 ?_; first | refine SG ?_ | refine SF ?_) | (refine M4 ?_; refine SR ?_) | (refine M5 ?_; first | exact M7 | refine YM ?_ | refine YN ?_ ?_))
      refine XC.cond _ rfl (fun h6 => ?_) (fun h6 => ?_)
      · simp only [Bool.not_not, Bool.not_eq_true', Bool.not_eq_false', decide_eq_true_eq, decide_eq_false_iff_not] at h6
        repeat (first | (refine M0 ?_; first | refine SL ?_ | refine SB fun _ _ => ?_) | (refine M1 ?_; first | refine SC ?_ | refine SD ?_) | (refine M2 ?_; refine SE ?_) | (refine M3 ?_; first | refine SG ?_ | refine SF ?_) | (refine M4 ?_; refine SR ?_) | (refine M5 ?_; first | exact M7 | refine YM ?_ | refine YN ?_ ?_))
        refine XE.retg tok Tryz.results89 rfl (by simp only [and_self, and_true]) (fun w' S => ?_)
        exact ⟨_, rfl, StepR.err (stepE_3 hbad (.inr <| .inr h6)) (by decide) (hB2.trans S.toBelow)⟩
      · simp only [Bool.not_not, Bool.not_eq_true', Bool.not_eq_false', decide_eq_true_eq, decide_eq_false_iff_not] at h6
        repeat (first | (refine M0 ?_; first | refine SL ?_ | refine SB fun _ _ => ?_) | (refine M1 ?_; first | refine SC ?_ | refine SD ?_) | (refine M2 ?_; refine SE ?_) | (refine M3 ?_; first | refine SG ?_ | refine SF ?_) | (refine M4 ?_; refine SR ?_) | (refine M5 ?_; first | exact M7 | refine YM ?_ | refine YN ?_ ?_))
        refine XE.round (s := (2, W, ⟨none, 0, 0⟩)) (2 + 1, W, ⟨none, 0, 0⟩) ⟨by simp, hB2, hoF, hoT, fun _ => rfl, fun _ => c1 (by omega), fun _ => c2 (by omega), fun _ => (by rw [e3]; omega), fun x hx => by cases hx⟩ (by simp) ZZSUB (fun _ h => h)
    · -- off
      repeat (first | (refine M0 ?_; first | refine SL ?_ | refine SB fun _ _ => ?_) | (refine M1 ?_; first | refine SC ?_ | refine SD ?_) | (refine M2 ?_; refine SE ?_) | (refine M3 ?_; first | refine SG ?_ | refine SF ?_) | (refine M4 ?_; refine SR ?_) | (refine M5 ?_; first | exact M7 | refine YM ?_ | refine YN ?_ ?_))
      refine XL.step _ (Ev.indexArr tok Tryz.underlying221 fn_one rfl (j := 3) rfl (by decide) rfl) rfl ?_
      repeat (first | (refine M0 ?_; first | refine SL ?_ | refine SB fun _ _ => ?_) | (refine M1 ?_; first | refine SC ?_ | refine SD ?_) | (refine M2 ?_; refine SE ?_) | (refine M3 ?_; first | refine SG ?_ | refine SF ?_) | (refine M4 ?_; refine SR ?_) | (refine M5 ?_; first | exact M7 | refine YM ?_ | refine YN ?_ ?_))
      refine XL.callT (B' := g9) 0 (fst := [.pointer (some ⟨g9, 0, none⟩)]) (cap := []) (vs := []) (ck rfl) rfl rfl rfl rfl rfl (fun w5 S5 => (off_any (g := g9) (p := p) (b := b) (q := q2) (s := ⟨vol3 b s t, s.fil⟩) (t := t) (r := ⟨none, 0, 0⟩) (f := ⟨t.river, overOf b t, leakOf b t.outer (vol2 b s t), 0, []⟩) (S5.obj (i := 0) rfl) ((hb2.below S5.toBelow).more (by omega)) ho o3 (by simp only; omega) :)) ?_
      repeat (first | (refine M0 ?_; first | refine SL ?_ | refine SB fun _ _ => ?_) | (refine M1 ?_; first | refine SC ?_ | refine SD ?_) | (refine M2 ?_; refine SE ?_) | (refine M3 ?_; first | refine SG ?_ | refine SF ?_) | (refine M4 ?_; refine SR ?_) | (refine M5 ?_; first | exact M7 | refine YM ?_ | refine YN ?_ ?_))
      refine XE.round (s := (3, W, ⟨none, 0, 0⟩)) (3 + 1, W, ⟨none, 0, 0⟩) ⟨by simp, hB2, hoF, hoT, fun _ => rfl, fun _ => c1 (by omega), fun _ => c2 (by omega), fun _ => c3 (by omega), fun x hx => by cases hx⟩ (by simp) ZZSUB (fun _ h => h)
    · -- polders
      repeat (first | (refine M0 ?_; first | refine SL ?_ | refine SB fun _ _ => ?_) | (refine M1 ?_; first | refine SC ?_ | refine SD ?_) | (refine M2 ?_; refine SE ?_) | (refine M3 ?_; first | refine SG ?_ | refine SF ?_) | (refine M4 ?_; refine SR ?_) | (refine M5 ?_; first | exact M7 | refine YM ?_ | refine YN ?_ ?_))
      refine XL.step _ (Ev.indexArr tok Tryz.underlying221 fn_one rfl (j := 4) rfl (by decide) rfl) rfl ?_
      repeat (first | (refine M0 ?_; first | refine SL ?_ | refine SB fun _ _ => ?_) | (refine M1 ?_; first | refine SC ?_ | refine SD ?_) | (refine M2 ?_; refine SE ?_) | (refine M3 ?_; first | refine SG ?_ | refine SF ?_) | (refine M4 ?_; refine SR ?_) | (refine M5 ?_; first | exact M7 | refine YM ?_ | refine YN ?_ ?_))
      have hk4v : b.v0 ≤ vol4 b s t ∧ vol4 b s t ≤ 1000000000 := (stepOk_of ho hs (stepE_0 hbad (c1 (by omega)) (c2 (by omega)) (c3 (by omega)))).v4
      by_cases hm0 : b.pols.length = 0
      · refine XL.callT (B' := g9) 0 (fst := [.pointer (some ⟨g9, 0, none⟩)]) (cap := []) (vs := []) (ck rfl) rfl rfl rfl rfl rfl (fun w5 S5 => (polders0_any (g := g9) (p := p) (b := b) (q := q2) (s := ⟨vol4 b s t, s.fil⟩) (t := t) (r := ⟨none, 0, 0⟩) (f := floK b s t 4) (S5.obj (i := 0) rfl) ((hb2.below S5.toBelow).more (by omega)) hm0 :)) ?_
        have e5 : staK b s t 5 = ⟨vol4 b s t, s.fil⟩ := by simp [staK, hm0, polV]
        have e6 : filS b s t 5 = s.fil := by simp [filS, stepS, hm0, rg]; rw [hm0] at hl; exact List.length_eq_zero_iff.1 hl
        have e7 : tkS b s t 5 = [] := by simp [tkS, stepF, hm0, rg]
        repeat (first | (refine M0 ?_; first | refine SL ?_ | refine SB fun _ _ => ?_) | (refine M1 ?_; first | refine SC ?_ | refine SD ?_) | (refine M2 ?_; refine SE ?_) | (refine M3 ?_; first | refine SG ?_ | refine SF ?_) | (refine M4 ?_; refine SR ?_) | (refine M5 ?_; first | exact M7 | refine YM ?_ | refine YN ?_ ?_))
        refine XE.round (s := (4, W, ⟨none, 0, 0⟩)) (4 + 1, W, ⟨none, 0, 0⟩) ⟨by simp, hB2, by simp only [e6]; exact hown, by simp only [e7]; exact World.ownsRow_nil _ _ _ _, fun h => absurd h (by simp), fun _ => c1 (by omega), fun _ => c2 (by omega), fun _ => c3 (by omega), fun x hx => by cases hx⟩ (by simp) ZZSUB (fun w6 S6 => by simp only [e5]; exact S6)
      · obtain ⟨fb, sp, hA, hnq, hbf, hheap, hlen, hcm⟩ := owns_block hownC (by omega)
        obtain ⟨Aq, nq, cq⟩ := q2
        simp only at hA hnq hlen hcm
        subst hA hnq
        have hfW := (Array.getElem?_eq_some_iff.1 hheap).1
        have hnot := hsQ fb rfl
        simp only [List.mem_cons, List.not_mem_nil, or_false, not_or] at hnot
        have hs' : StaOk b ⟨vol4 b s t, s.fil⟩ := ⟨hs.len, hk4v, hs.fil⟩
        refine XL.callr (fst := [.pointer (some ⟨g9, 0, none⟩)]) (cap := []) (vs := []) (fun w5 v w6 => v = .bool true ∧ ∃ r : SV, Sys w.heap.size w5 [(g9, watO p b ⟨some ⟨fb, 0, none⟩, s.fil.length, cq⟩ (staK b s t 5) t r (floK b s t 5)), (fb, cel 3 (ints (stepS b s t).fil ++ sp))] w6 ∧
          w6.ownsRow w5.heap.size 3 1 (svV r) (stepF b s t).taken.length (ints (stepF b s t).taken)) (ck rfl) rfl rfl rfl (fun w5 S5 => ?_) (fun w5 v w6 S5 hR => ?_)
        · have hfw5 : w5.heap[fb]? = some (cel 3 (ints s.fil ++ sp)) := by
            rw [S5.old fb hfW (fun e he e1 => by
              simp only [List.mem_cons, List.not_mem_nil, or_false] at he
              rcases he with rfl | rfl | rfl | rfl | rfl | rfl <;> simp only at e1 <;> omega)]
            exact hheap
          refine (polders_any (g := g9) (fb := fb) (B := w.heap.size) (p := p) (b := b) (n := s.fil.length) (c := cq) (s := ⟨vol4 b s t, s.fil⟩) (t := t) (f := floK b s t 4) (sp := sp) (S5.obj (i := 0) rfl) hfw5 (fun e => hnot.1 e.symm) (by omega) (by omega) (hb2.below S5.toBelow) ho hs' hs.len).mono fun e w6 he => ?_
          obtain ⟨rfl, r1, hS, hT⟩ := he
          refine ⟨_, rfl, rfl, r1, ?_, ?_⟩
          · simp only [polV_vol, polT_vol] at hS
            exact hS
          · simp only [polT_vol] at hT
            have : (stepF b s t).taken.length = b.pols.length := by simp [stepF, rg_len]
            rw [this]; exact hT
        · obtain ⟨rfl, r1, hS, hT⟩ := hR
          refine ⟨_, w6, S5.turnedF 0 rfl rfl hS (fun e he e1 => ?_), ?_⟩
          · simp only [List.mem_cons, List.not_mem_nil, or_false] at he
            rcases he with rfl | rfl | rfl | rfl | rfl | rfl <;> simp only at e1 <;> omega
          have hB6 : Below w.heap.size w w6 := hB2.trans (S5.toBelow.trans hS.toBelow)
          have hfil : (stepS b s t).fil.length = s.fil.length := by simp [stepS, rg_len, hl]
          have hfb6 := (hS.own (fb, _) (List.mem_cons_of_mem _ List.mem_cons_self)).2
          have hids := fun e he => S5.lt (e := e) he
          simp only [List.mem_cons, forall_eq_or_imp, List.not_mem_nil, false_implies, implies_true, and_true] at hids
          repeat (first | (refine M0 ?_; first | refine SL ?_ | refine SB fun _ _ => ?_) | (refine M1 ?_; first | refine SC ?_ | refine SD ?_) | (refine M2 ?_; refine SE ?_) | (refine M3 ?_; first | refine SG ?_ | refine SF ?_) | (refine M4 ?_; refine SR ?_) | (refine M5 ?_; first | exact M7 | refine YM ?_ | refine YN ?_ ?_))
          refine XE.round (s := (4, W, ⟨none, 0, 0⟩)) (4 + 1, w6, r1) ⟨by simp, hB6, ?_, ?_, fun h => absurd h (by simp), fun _ => c1 (by omega), fun _ => c2 (by omega), fun _ => c3 (by omega), fun x hx hm' => ?_⟩ (by simp) ZZSUB (fun _ h => h)
          · exact owns_of (xs := ints (stepS b s t).fil) hfb6 (by omega) (by rw [ints_len, hfil]) (by rw [ints_len, hfil, ← hlen, ints_len]) hcm
          · exact owns_base hT (Nat.le_trans hB2.size S5.size)
          · have := hT.lt x hx
            simp only [List.mem_cons, List.not_mem_nil, or_false] at hm'
            omega
    · omega
  · simp only [decide_eq_false_iff_not] at h5
    obtain rfl : k = 5 := by omega
    have hE : stepE b s t = 0 := stepE_0 hbad (c1 (by omega)) (c2 (by omega)) (c3 (by omega))
    repeat (first | (refine M0 ?_; first | refine SL ?_ | refine SB fun _ _ => ?_) | (refine M1 ?_; first | refine SC ?_ | refine SD ?_) | (refine M2 ?_; refine SE ?_) | (refine M3 ?_; first | refine SG ?_ | refine SF ?_) | (refine M4 ?_; refine SR ?_) | (refine M5 ?_; first | exact M7 | refine YM ?_ | refine YN ?_ ?_))
    refine XC.drawRS _ [(g9, watO p b q2 (staK b s t 5) t r (floK b s t 5))] [0, 1, 2, 3, 4, 5, 6, 7] [8, 9, 10] mixed (fun _ h => Sys.anchor (by assumption) h (by simp) (by simp)) rfl (by kernel_rfl) ?_
    repeat (any_goals (first | (refine M0 ?_; first | refine SL ?_ | refine SB fun _ _ => ?_ | (refine XL.split _ _ rfl (fun h => ?_) (fun h => ?_) <;> rw [h])) | (refine M1 ?_; first | refine SC ?_ | refine SD ?_ | refine XC.cond _ rfl (fun h => ?_) (fun h => ?_)) | (refine M2 ?_; refine SE ?_) | (refine M3 ?_; first | refine SG ?_ | refine SF ?_ | (refine Fw.split _ _ rfl (fun h => ?_) (fun h => ?_) <;> rw [h])) | (refine M4 ?_; refine SR ?_) | (refine M5 ?_; first | exact M7 | refine YM ?_ | refine YN ?_ ?_)))
    refine XE.retg tok Tryz.results89 rfl (by simp only [and_self, and_true]) (fun w' S => ?_)
    have sepL : ∀ (v : SV), (∀ x, (svV v).ownBlock = some x → x ∉ [g9, g7, g6, g5, g4, g3]) → ∀ k, (svV v).ownBlock = some k → ∀ e : Nat × Obj, e.1 ∈ [g9, g7, g6, g5, g4, g3] → e.1 ≠ k := fun v hv k hk e he e1 => hv k hk (e1 ▸ he)
    refine ⟨_, rfl, q2, r, by rw [outS_0 hE, outF_0 hE, hE]; rfl, ?_, ?_, hBW.trans S.toBelow⟩
    · rw [outS_0 hE]
      refine IntsAt.own (e := 3) ?_
      have := owns_sys hoF S (fun k hk e he => sepL q2 hsQ k hk e (by simp only [List.mem_cons, List.not_mem_nil, or_false] at he ⊢; rcases he with rfl | rfl | rfl | rfl | rfl | rfl <;> simp))
      have hfil : (stepS b s t).fil.length = s.fil.length := by simp [stepS, rg_len, hl]
      rw [hfil]; exact this
    · rw [outF_0 hE]
      exact IntsAt.own (e := 3) (owns_sys hoT S (fun k hk e he => sepL r hsR k hk e (by simp only [List.mem_cons, List.not_mem_nil, or_false] at he ⊢; rcases he with rfl | rfl | rfl | rfl | rfl | rfl <;> simp)))
end X
namespace X
open Go Go.RowKit Bs
end X
namespace Bs
end Bs
namespace X
open Go Go.RowKit Bs
end X
namespace X
open Go Go.RowKit Bs Go.WideShapes Go.ChangeShapes
section
variable {H : Type} {enc : TypeId × Value → H} {P : Program} {w : World} {base : Nat} {spare : Nat → Bool} {held : Bool}
theorem fieldR {t : TypeId} {fs : Array Field} {fuel : Nat} {cs : List Value} {x : DataW H × List MemPlace} (ht : P.underlying t = some (.struct fs)) (h : DataW.trod enc P w base spare held fuel t cs = some x) :
    cs.length = P.cellsOf t ∧ ∃ n, ∀ (i : Nat) (f : Field), fs[i]? = some f → P.cellsOf f.type = 1 → f.offset < cs.length → ∃ c y, cs[f.offset]? = some c ∧ DataW.trod enc P w base spare held n f.type [c] = some y := by
  obtain ⟨xs, n, _, rfl, hl, hlen, hf⟩ := DataW.trod_struct ht h
  refine ⟨hl, n, fun i f hi hc ho => ?_⟩
  have h1 := hf i f hi
  have hi' : i < xs.length := by rw [hlen]; exact (Array.getElem?_eq_some_iff.1 hi).1
  rw [hc, List.getElem?_eq_getElem hi'] at h1
  refine ⟨cs[f.offset], xs[i], List.getElem?_eq_getElem ho, ?_⟩
  rw [List.drop_eq_getElem_cons ho, List.take_succ_cons, List.take_zero] at h1
  exact h1
theorem choose_list {α : Type} {p : Nat → α → Prop} : ∀ n : Nat, (∀ i, i < n → ∃ b, p i b) → ∃ l : List α, l.length = n ∧ ∀ i b, l[i]? = some b → p i b := by
  intro n
  induction n with
  | zero => intro _; exact ⟨[], rfl, fun i b hb => by cases hb⟩
  | succ k ih =>
    intro hall
    obtain ⟨l, h1, h2⟩ := ih fun i hi => hall i (by omega)
    obtain ⟨b, h3⟩ := hall k (by omega)
    refine ⟨l ++ [b], by simp [h1], fun i c hc => ?_⟩
    rcases Nat.lt_or_ge i l.length with hi | hi
    · rw [List.getElem?_append_left hi] at hc
      exact h2 i c hc
    · have hi' : i < (l ++ [b]).length := (List.getElem?_eq_some_iff.1 hc).1
      have : i = l.length := by simp at hi'; omega
      subst this
      simp at hc
      subst hc
      rw [h1]
      exact h3
theorem sliceR {α : Type} {C : α → List Value} {G : α → Prop} {t e : TypeId} {m fuel : Nat} {cs : List Value} {x : DataW H × List MemPlace} (ht : P.underlying t = some (.slice e)) (he : P.cellsOf e = m)
    (hd : ∀ n cs x, DataW.trod enc P w base spare held n e cs = some x → ∃ a, cs = C a ∧ G a) (hm : ∀ a, (C a).length = m) (h0 : 0 < m) (h : DataW.trod enc P w base spare held fuel t cs = some x) :
    ∃ (A : Option Addr) (n c : Nat) (l : List α), cs = [.slice A n c] ∧ Reads w w.heap.size m A n (l.flatMap C) ∧ n ≤ c ∧ c ≤ maxLen ∧ ∀ a, a ∈ l → G a := by
  rcases Go.Deep.open_slice ht h with ⟨rfl, _⟩ | ⟨a, len, cap, m', n', D, Pl, rfl, hb, hl, hcm, hmm, _, hx⟩
  · exact ⟨none, 0, 0, [], rfl, Reads.none_, Nat.le_refl _, Nat.zero_le _, fun a ha => by cases ha⟩
  · rw [he] at hx
    have hlm : len ≤ m' := by rw [hmm]; split <;> omega
    have hall : ∀ i, i < len → ∃ b : α, w.cells? base (a.add (i * m)) m = some (C b) ∧ G b := fun i hi => by
      obtain ⟨cs', h1, h2⟩ := hx i (by omega)
      obtain ⟨b, rfl, hg⟩ := hd _ _ _ h2
      exact ⟨b, h1, hg⟩
    obtain ⟨l, hll, hlx⟩ := choose_list len hall
    refine ⟨some a, len, cap, l, rfl, ⟨by rw [flat_len C m hm, hll], fun hn => ?_⟩, hl, hcm, fun b hb => ?_⟩
    · have hcell : ∀ j u, (l.flatMap C)[j]? = some u → w.cell? (a.add j) = some u := fun j u hj => by
        have hjl : j < (l.flatMap C).length := (List.getElem?_eq_some_iff.1 hj).1
        rw [flat_len C m hm] at hjl
        have hdm := Nat.div_add_mod j m
        have hlt : j / m < l.length := Nat.div_lt_of_lt_mul (by rw [Nat.mul_comm]; exact hjl)
        have hb : l[j / m]? = some l[j / m] := List.getElem?_eq_getElem hlt
        have h1 := flat_at C m hm l (j / m) (j % m) _ hb (Nat.mod_lt _ h0)
        rw [show j / m * m + j % m = j by rw [Nat.mul_comm]; exact hdm, hj] at h1
        obtain ⟨_, _, h2⟩ := World.cells?_some (hlx _ _ hb).1
        have h3 := h2 (j % m) (Nat.mod_lt _ h0)
        rw [add_add, show j / m * m + j % m = j by rw [Nat.mul_comm]; exact hdm, ← h1] at h3
        exact h3
      refine ⟨a, rfl, ?_, hcell⟩
      obtain ⟨b, h1, _⟩ := hall 0 hn
      have := World.cells?_block h1 h0
      simpa [add_block] using this
    · obtain ⟨i, hi, rfl⟩ := List.mem_iff_getElem.1 hb
      exact (hlx i _ (List.getElem?_eq_getElem hi)).2
end
section
variable {H : Type} {enc : TypeId × Value → H} {w : World} {base : Nat} {spare : Nat → Bool} {held : Bool} {fuel : Nat} {cs : List Value} {x : DataW H × List MemPlace}
theorem intR {n : Nat} {c : Value} {y : DataW H × List MemPlace} (h : DataW.trod enc Tryz.prog w base spare held n 3 [c] = some y) : ∃ k : Int, c = .int .i64 k := by
  obtain ⟨k, e, _⟩ := DataW.trod_int Tryz.underlying3 h
  exact ⟨k, by simpa using e⟩
theorem strR {n : Nat} {c : Value} {y : DataW H × List MemPlace} (h : DataW.trod enc Tryz.prog w base spare held n 9 [c] = some y) : ∃ s : ByteArray, c = .string s ∧ s.size ≤ maxLen := by
  obtain ⟨s, e, _, hs⟩ := DataW.trod_string Tryz.underlying9 h
  exact ⟨s, by simpa using e, hs⟩
theorem c_int : (Tryz.prog).cellsOf 3 = 1 := by kernel_rfl
theorem c_str : (Tryz.prog).cellsOf 9 = 1 := by kernel_rfl
theorem c_row : (Tryz.prog).cellsOf 43 = 2 := by kernel_rfl
theorem c_pol : (Tryz.prog).cellsOf 135 = 4 := by kernel_rfl
theorem c_bas : (Tryz.prog).cellsOf 25 = 5 := by kernel_rfl
theorem c_rows : (Tryz.prog).cellsOf 22 = 1 := by kernel_rfl
theorem c_pols : (Tryz.prog).cellsOf 23 = 1 := by kernel_rfl
theorem c_ints : (Tryz.prog).cellsOf 26 = 1 := by kernel_rfl
theorem rowR (h : DataW.trod enc Tryz.prog w base spare held fuel 43 cs = some x) : ∃ r : Row, cs = rowC r := by
  obtain ⟨hl, n, hf⟩ := fieldR Tryz.underlying43 h
  rw [c_row] at hl
  match cs, hl with
  | [c0, c1], _ =>
    obtain ⟨d0, y0, e0, h0⟩ := hf 0 _ rfl c_int (Nat.le_of_ble_eq_true rfl)
    obtain ⟨d1, y1, e1, h1⟩ := hf 1 _ rfl c_int (Nat.le_of_ble_eq_true rfl)
    obtain ⟨k0, rfl⟩ := intR h0
    obtain ⟨k1, rfl⟩ := intR h1
    cases e0; cases e1
    exact ⟨⟨k0, k1⟩, rfl⟩
theorem polR (h : DataW.trod enc Tryz.prog w base spare held fuel 135 cs = some x) : ∃ r : Pol, cs = polC r ∧ r.name.size ≤ maxLen := by
  obtain ⟨hl, n, hf⟩ := fieldR Tryz.underlying135 h
  rw [c_pol] at hl
  match cs, hl with
  | [c0, c1, c2, c3], _ =>
    obtain ⟨d0, y0, e0, h0⟩ := hf 0 _ rfl c_str (Nat.le_of_ble_eq_true rfl)
    obtain ⟨d1, y1, e1, h1⟩ := hf 1 _ rfl c_int (Nat.le_of_ble_eq_true rfl)
    obtain ⟨d2, y2, e2, h2⟩ := hf 2 _ rfl c_int (Nat.le_of_ble_eq_true rfl)
    obtain ⟨d3, y3, e3, h3⟩ := hf 3 _ rfl c_int (Nat.le_of_ble_eq_true rfl)
    obtain ⟨s, rfl, hs⟩ := strR h0
    obtain ⟨k1, rfl⟩ := intR h1
    obtain ⟨k2, rfl⟩ := intR h2
    obtain ⟨k3, rfl⟩ := intR h3
    cases e0; cases e1; cases e2; cases e3
    exact ⟨⟨s, k1, k2, k3⟩, rfl, hs⟩
theorem ints_flat (l : List Int) : l.flatMap (fun k : Int => [Value.int .i64 k]) = ints l := by
  unfold ints
  induction l with
  | nil => rfl
  | cons a l ih => rw [List.flatMap_cons, ih]; rfl
theorem intsR (h : DataW.trod enc Tryz.prog w base spare held fuel 26 cs = some x) : ∃ (q : SV) (l : List Int), cs = [svV q] ∧ IntsAt w (Lt w.heap.size) q l := by
  obtain ⟨A, n, c, l, rfl, hr, hnc, hcm, _⟩ := sliceR (C := fun k : Int => [.int .i64 k]) (G := fun _ => True) Tryz.underlying26 c_int (fun n cs x h => by
    obtain ⟨k, e, _⟩ := DataW.trod_int Tryz.underlying3 h
    exact ⟨k, e, trivial⟩) (fun _ => rfl) (by decide) h
  refine ⟨⟨A, n, c⟩, l, rfl, ?_, by simp only; unfold maxLen at hcm; omega⟩
  have := ints_flat l
  rw [this] at hr
  exact ReadsP.of hr
theorem basR (h : DataW.trod enc Tryz.prog w base spare held fuel 25 cs = some x) : ∃ (p : BV) (b : Bas), cs = basC p b ∧ BasAt w w.heap.size p b := by
  obtain ⟨hl, n, hf⟩ := fieldR Tryz.underlying25 h
  rw [c_bas] at hl
  match cs, hl with
  | [c0, c1, c2, c3, c4], _ =>
    obtain ⟨d0, y0, e0, h0⟩ := hf 0 _ rfl c_rows (Nat.le_of_ble_eq_true rfl)
    obtain ⟨d1, y1, e1, h1⟩ := hf 1 _ rfl c_int (Nat.le_of_ble_eq_true rfl)
    obtain ⟨d2, y2, e2, h2⟩ := hf 2 _ rfl c_int (Nat.le_of_ble_eq_true rfl)
    obtain ⟨d3, y3, e3, h3⟩ := hf 3 _ rfl c_int (Nat.le_of_ble_eq_true rfl)
    obtain ⟨d4, y4, e4, h4⟩ := hf 4 _ rfl c_pols (Nat.le_of_ble_eq_true rfl)
    obtain ⟨k1, rfl⟩ := intR h1
    obtain ⟨k2, rfl⟩ := intR h2
    obtain ⟨k3, rfl⟩ := intR h3
    obtain ⟨A, n1, cc, l, e5, hr, hnc, hcm, _⟩ := sliceR (C := rowC) (G := fun _ => True) Tryz.underlying22 c_row (fun n cs x h => by
      obtain ⟨k, e⟩ := rowR h
      exact ⟨k, e, trivial⟩) rowC_len (by decide) h0
    obtain ⟨A2, n2, cc2, l2, e6, hr2, hnc2, hcm2, hg⟩ := sliceR (C := polC) (G := fun r => r.name.size ≤ maxLen) Tryz.underlying23 c_pol (fun n cs x h => polR h) polC_len (by decide) h4
    cases e0; cases e1; cases e2; cases e3; cases e4; cases e5; cases e6
    refine ⟨⟨A, n1, cc, A2, n2, cc2⟩, ⟨l, k1, k2, k3, l2⟩, rfl, hr, hr2, hnc, ?_, ?_, fun r hr => ?_⟩
    · simp only; unfold maxLen at hcm; omega
    · simp only; unfold maxLen at hcm2; omega
    · have := hg r hr
      unfold maxLen at this; omega
theorem fieldN {P : Program} {t : TypeId} {fs : Array Field} (ht : P.underlying t = some (.struct fs)) (h : DataW.trod enc P w base spare held fuel t cs = some x) :
    cs.length = P.cellsOf t ∧ ∃ n, ∀ (i : Nat) (f : Field) (u : TypeId) (o m : Nat), fs[i]? = some f → f.type = u → f.offset = o → P.cellsOf u = m → ∃ y, DataW.trod enc P w base spare held n u ((cs.drop o).take m) = some y := by
  obtain ⟨xs, n, _, rfl, hl, hlen, hf⟩ := DataW.trod_struct ht h
  refine ⟨hl, n, fun i f u o m hi hu ho hm => ?_⟩
  subst hu ho hm
  have h1 := hf i f hi
  have hi' : i < xs.length := by rw [hlen]; exact (Array.getElem?_eq_some_iff.1 hi).1
  rw [List.getElem?_eq_getElem hi'] at h1
  exact ⟨xs[i], h1⟩
theorem intR' (h : DataW.trod enc Tryz.prog w base spare held fuel 3 cs = some x) : ∃ k : Int, cs = [.int .i64 k] := by
  obtain ⟨k, e, _⟩ := DataW.trod_int Tryz.underlying3 h
  exact ⟨k, e⟩
end
end X
namespace X
open Go Go.RowKit
def fen : Option Nat → Fence
  | none => Fence.wide
  | some l => Fence.wide.inRound l
theorem fen_fn (r : Option Nat) (f : FuncId) : (fen r).fn f := by cases r <;> trivial
theorem fen_round (r : Option Nat) : (fen r).round = r := by cases r <;> rfl
theorem fen_depth (r : Option Nat) : (fen r).depth.isSome = true → False := by cases r <;> (intro h; cases h)
theorem fen_calls {r : Option Nat} {n : Nat} {P : Program} {f : FuncId} {args : Array Value} {w : World} {R : Ending → World → Prop} (h : Calls P f args w R) : CallsIn (fen r) n P f args w R := by
  cases r with
  | none => exact callsIn_wide.2 h
  | some l => exact CallsIn.inRound l (callsIn_wide.2 h)
theorem fen_steps {r : Option Nat} {P : Program} {m m' : Machine} (h : Steps P m m') : StepsIn (Machine.fenced P (fen r)) P m m' := by
  cases r with
  | none => exact stepsIn_wide.2 h
  | some l =>
    show StepsIn (Machine.fenced P (Fence.wide.inRound l)) P m m'
    rw [fenced_inRound]; exact stepsIn_wide.2 h
def notDefer (o : Oper) : Bool := match o.op with
  | .defer _ => false
  | _ => true
theorem upon_in {r : Option Nat} {n : Nat} {P : Program} {o : Oper} {a : Act} {K : Act → World → Prop} {Q : Exit → Act → World → Prop} {res : Result Next} (hQ : ∀ e a w, Q e a w → e = .normal)
    {Q' : Exit → Act → World → Prop} (h : o.upon P a K Q res) : o.uponIn (fen r) n P a K Q' res := by
  cases res with
  | ok nx w =>
    cases nx <;> simp only [Oper.upon, Oper.uponIn] at h ⊢ <;> first
      | exact h
      | exact ⟨fun hd => (fen_depth r hd).elim, fen_calls (Calls.mono h fun e w'' he => by
          cases e with
          | returned v => exact he
          | panicked c => exact absurd (hQ _ _ _ he) (by simp)
          | outgrown => obtain ⟨a0, w0, q⟩ := he; exact absurd (hQ _ _ _ q) (by simp))⟩
      | exact ⟨fun hd => (fen_depth r hd).elim, fun c cs _ => (by obtain ⟨v, w', h1, h2⟩ := h c cs; exact ⟨v, w', h1, fen_steps h2⟩)⟩
      | exact h.elim
  | halt x w =>
    cases x <;> simp only [Oper.upon, Oper.uponIn] at h ⊢ <;> first
      | exact absurd (hQ _ _ _ h) (by simp)
      | exact h.elim
theorem only_normal {K : Act → World → Prop} : ∀ e a w, only K e a w → e = .normal := fun e a w h => by cases e <;> first | rfl | exact h.elim
section
variable {P : Program} {T : TT} {N : Nat} {B : Nat} {w0 : World} {ds : List Deferred} {Q : Exit → Act → World → Prop} {F : Fr} {L L' : Lo} {ops : Array Oper} {rest : List Oper} {r : Option Nat} {n : Nat}
variable (P N B w0 ds Q r n) in
structure XI (ops : Array Oper) (l : List Oper) (F : Fr) (L : Lo) : Prop where
  run : ∀ a w, Fits N ds F a → Sys B w0 L w → wpListIn (fen r) n P ops Q l a w
variable (P N B w0 ds Q r n) in
structure XR' (c : Code) (F : Fr) (L : Lo) : Prop where
  run : ∀ a w, Fits N ds F a → Sys B w0 L w → c.wpIn (fen r) n P Q a w
theorem XI.done (h : XE N B w0 ds Q .normal F L) : XI P N B w0 ds Q r n ops [] F L := ⟨h.run⟩
theorem XI.one {o : Oper} (hd : notDefer o = true) (h : XL P N B w0 ds (only (wpListIn (fen r) n P ops Q rest)) ops [o] F L) : XI P N B w0 ds Q r n ops (o :: rest) F L := by
  refine ⟨fun a w hf hs => ?_⟩
  have h1 := h.run a w hf hs
  unfold wpList at h1
  unfold wpListIn
  split
  · rename_i hw
    rw [if_pos hw] at h1
    rcases h1 with h1 | ⟨_, a0, w0, q⟩
    · refine ⟨fun f _ => fen_fn r f, ?_⟩
      rw [fen_round]
      rw [Oper.semAt_eq r a.eval o (fun c e => by simp [notDefer, e] at hd)]
      exact upon_in only_normal h1
    · exact q.elim
  · rename_i hw
    rw [if_neg hw] at h1
    exact ⟨fun f _ => fen_fn r f, h1⟩
theorem XE.nextI (h : XI P N B w0 ds Q r n ops rest F L) : XE N B w0 ds (only (wpListIn (fen r) n P ops Q rest)) .normal F L := ⟨h.run⟩
theorem XI.yield {d : Nat} {c : Operand} {args : Array Operand} {vs : List Value} {l : Nat} {ats : Array TypeId} {ty : TypeId} {p : String} {af : Array Edge} (hcv : evo F c = some (.func (.yield l) #[] #[])) (ha : evos F args.toList = some vs) (hd : Nat.blt d N = true)
    (R : World → Value → World → Prop)
    (hy : ∀ w, Sys B w0 L w → ∃ fn tmps assign body, (Instr.yield l vs.toArray).run P w = .ok (.round l fn tmps assign body) w ∧ RoundIn (fen r) (n - 1) P l fn tmps assign body w fun e w' => ∃ v, e = .returned v ∧ R w v w')
    (k : ∀ w v w', Sys B w0 L w → R w v w' → ∃ L' w1, Sys B w1 L' w' ∧ XI P N B w1 ds Q r n ops rest ((d, v) :: F) L') :
    XI P N B w0 ds Q r n ops ({ dst := some d, op := .call { callee := .value c, args := args, argTypes := ats }, type := ty, pos := p, after := af, guard := none } :: rest) F L := by
  refine ⟨fun a w hf hs => ?_⟩
  obtain ⟨fn, tmps, assign, body, h1, h2⟩ := hy w hs
  refine wpListIn_plain rfl fun K hK => ⟨fun f _ => fen_fn r f, ?_⟩
  have hm : args.map a.eval = vs.toArray := by
    apply Array.ext'
    rw [Array.toList_map]
    exact evos_spec hf _ _ ha
  have hsem : ((Oper.semAt (fen r).round a.eval { dst := some d, op := .call { callee := .value c, args := args, argTypes := ats }, type := ty, pos := p, after := af, guard := none })).run P w = .ok (.round l fn tmps assign body) w := by
    rw [Oper.semAt_eq _ _ _ (fun c e => by cases e)]
    simp [execOp, resolve, hf.eval hcv, Deferred.ofValue, invoke, hm, h1]
  rw [hsem]
  refine ⟨fun hd => (fen_depth r hd).elim, h2.mono fun e w' he => ?_⟩
  obtain ⟨v, rfl, hR⟩ := he
  obtain ⟨L', w1, hS, hk⟩ := k w v w' hs hR
  exact hK _ _ (hk.run _ _ (hf.put hd) hS)
theorem XC.regionI {id : Nat} {l : List Oper} (n : Nat) (h : XI P N B w0 ds Q none n l.toArray l F L) : XC P N B w0 ds Q (.region id l.toArray false) F L :=
  ⟨fun a w hf hs => (wpIn_wide (n := n)).1 (wpIn_region_lit (F := Fence.wide) (h.run a w hf hs))⟩
theorem XR'.region {id : Nat} {l : List Oper} (h : XI P N B w0 ds Q r n l.toArray l F L) : XR' P N B w0 ds Q r n (.region id l.toArray false) F L := ⟨fun a w hf hs => wpIn_region_lit (h.run a w hf hs)⟩
theorem XR'.seq {x y : Code} (h : XR' P N B w0 ds (Exit.then (y.wpIn (fen r) n P Q) Q) r n x F L) : XR' P N B w0 ds Q r n (.seq x y) F L := ⟨fun a w hf hs => wpIn_seq (h.run a w hf hs)⟩
theorem XE.nextR {y : Code} (h : XR' P N B w0 ds Q r n y F L) : XE N B w0 ds (Exit.then (y.wpIn (fen r) n P Q) Q) .normal F L := ⟨h.run⟩
theorem XR'.skip (h : XE N B w0 ds Q .normal F L) : XR' P N B w0 ds Q r n .skip F L := ⟨fun a w hf hs => wpIn_skip (h.run a w hf hs)⟩
theorem XR'.ret (h : XE N B w0 ds Q .ret F L) : XR' P N B w0 ds Q r n .ret F L := ⟨fun a w hf hs => wpIn_ret (h.run a w hf hs)⟩
theorem XR'.block {id : Nat} {c : Code} (h : XR' P N B w0 ds (Exit.inBlock id Q) r n c F L) : XR' P N B w0 ds Q r n (.block id c) F L := ⟨fun a w hf hs => wpIn_block (h.run a w hf hs)⟩
theorem XR'.cond {c : Operand} {x y : Code} (b : Bool) (hc : evo F c = some (.bool b)) (ht : b = true → XR' P N B w0 ds Q r n x F L) (he : b = false → XR' P N B w0 ds Q r n y F L) : XR' P N B w0 ds Q r n (.cond c x y) F L := ⟨fun a w hf hs => by
  cases b with
  | true => exact wpIn_cond_true (hf.eval hc) ((ht rfl).run a w hf hs)
  | false => exact wpIn_cond_false (hf.eval hc) ((he rfl).run a w hf hs)⟩
theorem XR'.cond_t {c : Operand} {x y : Code} (hc : evo F c = some (.bool true)) (ht : XR' P N B w0 ds Q r n x F L) : XR' P N B w0 ds Q r n (.cond c x y) F L := XR'.cond true hc (fun _ => ht) (fun h => by cases h)
theorem XR'.cond_f {c : Operand} {x y : Code} (hc : evo F c = some (.bool false)) (he : XR' P N B w0 ds Q r n y F L) : XR' P N B w0 ds Q r n (.cond c x y) F L := XR'.cond false hc (fun h => by cases h) (fun _ => he)
theorem XI.id {l : List Oper} (h : XI P N B w0 ds Q r n ops l F L) : XI P N B w0 ds Q r n ops l F L := h
theorem XR'.id {c : Code} (h : XR' P N B w0 ds Q r n c F L) : XR' P N B w0 ds Q r n c F L := h
def markD (D : Nat) : Deferred := { target := .collected D, args := #[] }
theorem enterM {f : FuncId} {fn : Func} {c : Code} {vs : List Value} {w : World} {R : Ending → World → Prop} {n : Nat} (hf : P.funcs[f]? = some fn) (hb : fn.body = some c) (hN : fn.ntmps = n)
    (hn : Nat.ble vs.length n = true) (h : XC P n w.heap.size w [] (bodyPostM Fence.wide 0 P fn R) c (frame 0 vs) []) : Calls P f vs.toArray w R := by
  subst hN
  have hn' := Nat.le_of_ble_eq_true hn
  refine (callsIn_wide (n := 0)).1 (callsIn_of_wp_marks (F := Fence.wide) hf hb trivial ((wpIn_wide (n := 0)).2 (h.run _ w ⟨?_, rfl, fun t v _ hv => ?_⟩ (Sys.enter w))))
  · simp; omega
  · obtain ⟨_, h2⟩ := lk_frame vs 0 t v hv
    have hlt : t < vs.length := (List.getElem?_eq_some_iff.1 h2).1
    simp only [Array.getD_eq_getD_getElem?]
    rw [Array.getElem?_append_left (by simpa using hlt)]
    simp at h2 ⊢
    rw [h2]; rfl
theorem XE.retM (hT : TOK P T) {fn : Func} {R : Ending → World → Prop} {rs : List ResultVar} {vs : List Value} {c : Prop} {D i : Nat} {L' : Lo} (h : fn.results = ⟨rs⟩) (hL : L[i]? = some (D, .deferred (some []))) (hL' : setN L i (D, .deferred none) = some L')
    (hv : resO T F L' rs = some (vs, c)) (hc : c) (hR : ∀ w, Sys B w0 L' w → R (.returned (tupV vs)) w) : XE N B w0 [markD D] (bodyPostM Fence.wide 0 P fn R) .ret F L := by
  refine ⟨fun a w hf hw => ?_⟩
  show LeavesInM Fence.wide 0 P fn a.tmps R a.defers .returning w
  rw [hf.defers]
  have hD := (hw.own _ (List.mem_of_getElem? hL)).2
  obtain ⟨e, hlt⟩ := setN_spec _ _ _ _ hL'
  have hsys : Sys B w0 L' (w.putObj D (.deferred none)) := hw.setObj hL e
  refine ⟨by simp, .inl ⟨D, w.putObj D (.deferred none), rfl, run_takeDeferred hD, ?_⟩⟩
  have hf' : Fits N [] F { a with defers := [] } := ⟨hf.size, rfl, hf.get⟩
  have h1 := resO_run hT hf' hsys hv hc
  have h2 : (results fn a.tmps).run P (w.putObj D (.deferred none)) = .ok (tupV vs) (w.putObj D (.deferred none)) := by
    unfold results
    rw [h, Array.mapM_eq_mapM_toList]
    simp only [Sem.run_bind, Sem.run_map]
    refine (congrArg (fun r : Result (List Value) => (r.andThen fun a w' => Result.ok a.toArray w').andThen fun a w' => Sem.run P (pure (if h : a.size = 1 then a[0] else Value.tuple a)) w') h1).trans ?_
    simp only [Result.andThen_ok, Sem.run_pure]
    cases vs with
    | nil => rfl
    | cons v vs => cases vs with
      | nil => rfl
      | cons u vs => simp [tupV]
  show LeavesIn Fence.wide 0 P fn a.tmps R [] .returning (w.putObj D (.deferred none))
  exact ⟨_, h2, hR _ hsys⟩
end
end X
namespace X
open Go Go.RowKit
abbrev recO (fn : FuncId) (tmps : Array Value) (ps : Array Tmp) (assign body : Code) (D : Nat) (st : LoopState) (pe : Option Code) : Loop :=
  { state := st, pending := pe, fn := fn, tmps := tmps, params := ps, assign := assign, body := body, defers := D }
section
variable {P : Program} {T : TT} {N : Nat} {B : Nat} {w0 : World} {ds : List Deferred} {Q : Exit → Act → World → Prop} {F : Fr} {L L' : Lo} {n : Nat}
theorem XE.begin {l i : Nat} {r : Loop} {body : Code} {Q' : Exit → Act → World → Prop} (hL : L[i]? = some (l, .loop r)) (hr : r.state = .ready) (hL' : setN L i (l, .loop { r with state := .busy }) = some L')
    (h : XR' P N B w0 ds Q' (some l) n body F L') :
    XE N B w0 ds (Exit.then (fun a₁ w₁ => ∃ w₂, (Instr.beginRound l).run P w₁ = .ok () w₂ ∧ body.wpIn (Fence.wide.inRound l) n P Q' a₁ w₂) (fun _ _ _ => False)) .normal F L :=
  ⟨fun a w hf hs => by
    obtain ⟨e, _⟩ := setN_spec _ _ _ _ hL'
    exact ⟨_, run_beginRound (hs.own _ (List.mem_of_getElem? hL)).2 hr, h.run a _ hf (hs.setObj hL e)⟩⟩
theorem XE.endR {l i : Nat} {r : Loop} {R : Ending → World → Prop} (hL : L[i]? = some (l, .loop r)) (hL' : setN L i (l, .loop { r with state := .ready, pending := none }) = some L')
    (h : ∀ w, Sys B w0 L' w → R (.returned (.bool true)) w) : XE N B w0 ds (roundPost P l R) .normal F L :=
  ⟨fun a w hf hs => by
    obtain ⟨e, _⟩ := setN_spec _ _ _ _ hL'
    exact ⟨_, _, run_endRound none (hs.own _ (List.mem_of_getElem? hL)).2, h _ (hs.setObj hL e)⟩⟩
theorem XE.endRet {l i : Nat} {r : Loop} {R : Ending → World → Prop} (hL : L[i]? = some (l, .loop r)) (hL' : setN L i (l, .loop { r with state := .done, pending := some .ret }) = some L')
    (h : ∀ w, Sys B w0 L' w → R (.returned (.bool false)) w) : XE N B w0 ds (roundPost P l R) .ret F L :=
  ⟨fun a w hf hs => by
    obtain ⟨e, _⟩ := setN_spec _ _ _ _ hL'
    exact ⟨_, _, run_endRound (some .ret) (hs.own _ (List.mem_of_getElem? hL)).2, h _ (hs.setObj hL e)⟩⟩
theorem Fits.params2 {a : Act} {t u : Nat} {v x : Value} (h : Fits N ds F a) (ht : Nat.blt t N = true) (hu : Nat.blt u N = true) :
    Fits N [] ((u, x) :: (t, v) :: F) { tmps := ((#[t, u] : Array Tmp).zip #[v, x]).foldl (fun s (p, y) => s.setIfInBounds p y) a.tmps, defers := [] } := by
  have h1 := (h.put (v := v) ht).put (v := x) hu
  have e : ((#[t, u] : Array Tmp).zip #[v, x]).foldl (fun s (p, y) => s.setIfInBounds p y) a.tmps = ((a.put (some t) v).put (some u) x).tmps := by
    simp [Act.put]
  rw [e]
  exact ⟨h1.size, rfl, h1.get⟩
theorem round_of {l : Nat} {fn : FuncId} {tmps : Array Value} {assign body : Code} {w : World} {R : Ending → World → Prop} (hf : Fits N [] F { tmps := tmps, defers := [] }) (hs : Sys B w0 L w)
    (h : XR' P N B w0 [] (Exit.then (fun a₁ w₁ => ∃ w₂, (Instr.beginRound l).run P w₁ = .ok () w₂ ∧ body.wpIn (Fence.wide.inRound l) n P (roundPost P l R) a₁ w₂) (fun _ _ _ => False)) (some l) n assign F L) :
    RoundIn Fence.wide n P l fn tmps assign body w R :=
  roundIn_of_wpIn trivial (h.run _ w hf hs)
theorem XC.rangeFunc {g : Operand} {ps : Array Tmp} {assign body : Code} {gf : FuncId} {cap : List Value} (hg : evo F g = some (.func (.func gf) #[] ⟨cap⟩)) (hk : callOk P gf = true)
    (hc : ∀ (fn : FuncId) (a : Act) (D : Nat) (w : World), w0.heap.size ≤ D → Fits N [] F a → Sys B w0 ((D + 1, .loop (recO fn a.tmps ps assign body D .ready none)) :: (D, .deferred (some [])) :: L) w →
      Calls P gf (Value.func (.yield (D + 1)) #[] #[] :: cap).toArray w fun e w3 => ∃ v, e = .returned v ∧
        ((∃ L3 w1, Sys B w1 ((D + 1, .loop (recO fn a.tmps ps assign body D .ready none)) :: L3) w3 ∧ XE N B w1 [markD D] Q .normal F ((D + 1, .loop (recO fn a.tmps ps assign body D .exhausted none)) :: L3)) ∨
         (∃ L3 w1, Sys B w1 ((D + 1, .loop (recO fn a.tmps ps assign body D .done (some .ret))) :: L3) w3 ∧ XE N B w1 [markD D] Q .ret F ((D + 1, .loop (recO fn a.tmps ps assign body D .exhausted (some .ret))) :: L3)))) :
    XC P N B w0 [] Q (.rangeFunc g ps assign body) F L := by
  refine ⟨fun a w hf hs => (wpIn_wide (n := 1)).1 (wpIn_rangeFunc (F := Fence.wide) fun fn _ => ?_)⟩
  have S1 := (hs.box (.deferred (some []))).box (.loop (recO fn a.tmps ps assign body w.heap.size .ready none))
  have hsz : (w.alloc (.deferred (some []))).heap.size = w.heap.size + 1 := by simp
  rw [hsz] at S1
  obtain ⟨W1, hW1⟩ : ∃ W1, (w.alloc (.deferred (some []))).alloc (.loop (recO fn a.tmps ps assign body w.heap.size .ready none)) = W1 := ⟨_, rfl⟩
  rw [hW1] at S1
  have hcall := hc fn a w.heap.size W1 hs.size hf S1
  refine ⟨w.heap.size + 1, [markD w.heap.size], W1, { target := .fn (.func gf) ⟨cap⟩, args := #[.func (.yield (w.heap.size + 1)) #[] #[]] }, W1, gf, (Value.func (.yield (w.heap.size + 1)) #[] #[] :: cap).toArray, W1,
    by rw [← hW1]; exact run_enterLoop_outer _ _ _ _ _, ?_, fun f' _ => trivial, ?_, fun h => (by cases h), ?_⟩
  · have : evo F g = some (.func (.func gf) ⟨[]⟩ ⟨cap⟩) := hg
    have e := hf.eval this
    simp only [resolve, rangeCall, e, Deferred.ofValue]
    simp [Act.eval]
  · have : (#[Value.func (.yield (w.heap.size + 1)) #[] #[]] ++ (⟨cap⟩ : Array Value)) = (Value.func (.yield (w.heap.size + 1)) #[] #[] :: cap).toArray := by simp
    simp only [invoke, this]
    exact callFunc_run hk _ _
  · refine callsIn_wide.2 (hcall.mono fun e w3 he => ?_)
    obtain ⟨v, rfl, hR⟩ := he
    have hf' : Fits N [markD w.heap.size] F { a with defers := [markD w.heap.size] ++ a.defers } := ⟨hf.size, by simp [hf.defers], hf.get⟩
    rcases hR with ⟨L3, w1, hS, hx⟩ | ⟨L3, w1, hS, hx⟩
    · have hl := (hS.own _ List.mem_cons_self).2
      exact ⟨none, _, run_endLoop hl (by simp), hx.run _ _ hf' (hS.setObj (i := 0) rfl rfl)⟩
    · have hl := (hS.own _ List.mem_cons_self).2
      exact ⟨some .ret, _, run_endLoop hl (by simp), wpIn_ret (hx.run _ _ hf' (hS.setObj (i := 0) rfl rfl))⟩
end
end X
namespace Bs
def tk (ts : List Tick) (k : Nat) : Tick := ts[k]?.getD ⟨0, 0, 0⟩
noncomputable def staAt (b : Bas) (s : Sta) (ts : List Tick) : Nat → Sta
  | 0 => s
  | k + 1 => outS b (staAt b s ts k) (tk ts k)
noncomputable def floAt (b : Bas) (s : Sta) (ts : List Tick) (k : Nat) : Flo := outF b (staAt b s ts k) (tk ts k)
noncomputable def errAt (b : Bas) (s : Sta) (ts : List Tick) (k : Nat) : Int := stepE b (staAt b s ts k) (tk ts k)
noncomputable def badAt (b : Bas) (s : Sta) (ts : List Tick) : Option Nat := (List.range ts.length).find? fun k => decide (errAt b s ts k ≠ 0)
noncomputable def momsAt (b : Bas) (s : Sta) (ts : List Tick) (k : Nat) : List (Sta × Flo) := (List.range k).map fun i => (staAt b s ts (i + 1), floAt b s ts i)
open Classical in
noncomputable def runE (b : Bas) (s : Sta) (ts : List Tick) : Int :=
  if staErr b s ≠ 0 then staErr b s else if 300 < ts.length then 3 else match badAt b s ts with
    | none => 0
    | some k => errAt b s ts k
theorem badAt_none {b : Bas} {s : Sta} {ts : List Tick} (h : ∀ k, k < ts.length → errAt b s ts k = 0) : badAt b s ts = none := by
  unfold badAt
  rw [List.find?_eq_none]
  intro k hk
  simpa using h k (by simpa using hk)
theorem badAt_some {b : Bas} {s : Sta} {ts : List Tick} {k : Nat} (hk : k < ts.length) (h : ∀ j, j < k → errAt b s ts j = 0) (h1 : errAt b s ts k ≠ 0) : badAt b s ts = some k := by
  unfold badAt
  rw [List.find?_range_eq_some]
  exact ⟨by simpa using h1, by simpa using hk, fun j hj => by simpa using h j hj⟩
theorem staAt_ok {b : Bas} {s : Sta} {ts : List Tick} (ho : Ok b) (hs : StaOk b s) : ∀ k, (∀ j, j < k → errAt b s ts j = 0) → StaOk b (staAt b s ts k) := by
  intro k
  induction k with
  | zero => intro _; exact hs
  | succ k ih =>
    intro h
    have h0 : stepE b (staAt b s ts k) (tk ts k) = 0 := h k (by omega)
    have := stepS_ok ho (ih fun j hj => h j (by omega)) h0
    show StaOk b (outS b (staAt b s ts k) (tk ts k))
    unfold outS
    rw [if_pos h0]
    exact this
theorem momsAt_succ {b : Bas} {s : Sta} {ts : List Tick} (k : Nat) : momsAt b s ts (k + 1) = momsAt b s ts k ++ [(staAt b s ts (k + 1), floAt b s ts k)] := by
  simp [momsAt, List.range_succ]
end Bs
namespace X
open Go Go.RowKit Bs
theorem tickC_len (t : Tick) : (tickC t).length = 3 := rfl
structure TksAt (w : World) (ok : Nat → Prop) (q : SV) (ts : List Tick) : Prop where
  rd : ReadsP w ok 3 q.A q.n (ts.flatMap tickC)
  max : q.n ≤ 9223372036854775807
def momC (q r : SV) (s : Sta) (f : Flo) : List Value := staC q s ++ floC r f
section
variable {w w' w0 : World} {ok ok' : Nat → Prop} {B : Nat} {q : SV} {ts : List Tick} {L : Lo}
theorem TksAt.len (h : TksAt w ok q ts) : q.n = ts.length := by have := h.rd.len; rw [flat_len tickC 3 tickC_len] at this; omega
theorem TksAt.keep (h : TksAt w ok q ts) (hk : ∀ k, ok k → w'.heap[k]? = w.heap[k]?) : TksAt w' ok q ts := ⟨h.rd.keep hk, h.max⟩
theorem TksAt.below (h : TksAt w (Lt B) q ts) (hb : Below B w w') : TksAt w' (Lt B) q ts := h.keep fun k hk => hb.block k hk
theorem TksAt.mono (h : TksAt w ok q ts) (hk : ∀ k, ok k → ok' k) : TksAt w ok' q ts := ⟨h.rd.mono hk, h.max⟩
theorem TksAt.arg (h : TksAt w0 (Lt B) q ts) (S : Sys B w0 L w) : TksAt w (Lt w.heap.size) q ts := ⟨h.rd.arg S, h.max⟩
theorem TksAt.tick {ad : Addr} {n c : Nat} (h : TksAt w ok ⟨some ad, n, c⟩ ts) {k : Nat} (hk : k < ts.length) : ∀ j u, (tickC (tk ts k))[j]? = some u → w.cell? ((ad.add (k * 3)).add j) = some u := fun j u hj => by
  have hn := h.len
  obtain ⟨ad', e, _, h1⟩ := h.rd.at_ (by simp only at hn ⊢; omega)
  cases e
  have hj3 : j < 3 := (List.getElem?_eq_some_iff.1 hj).1
  have e2 := flat_at tickC 3 tickC_len ts k j (tk ts k) (by unfold tk; rw [List.getElem?_eq_getElem hk]; rfl) hj3
  have := h1 (k * 3 + j) u (e2.trans hj)
  rw [add_add]
  exact this
end
theorem moments_any {x y z : Value} {p : BV} {b : Bas} {q r : SV} {s : Sta} {w : World} :
    Calls Tryz.prog 71 #[basV p b, staV q s, svV r] w fun e w' => ∃ v, e = .returned v ∧ ∃ gb gs gl, v = .func (.func 88) #[] #[.pointer (some ⟨gl, 0, none⟩), .pointer (some ⟨gb, 0, none⟩), .pointer (some ⟨gs, 0, none⟩)] ∧
      Sys w.heap.size w [(gl, cel 49 [svV r]), (gs, cel 47 (staC q s)), (gb, cel 25 (basC p b))] w' := by
  simp only [basV, basC, staV, staC, svV]
  refine enter Tryz.func71 rfl Tryz.ntmps71 rfl ?_; simp only [frame, Nat.zero_add, Nat.reduceAdd]
  repeat (first | (refine M0 ?_; first | refine SL ?_ | refine SB fun _ _ => ?_) | (refine M1 ?_; first | refine SC ?_ | refine SD ?_) | (refine M2 ?_; refine SE ?_) | (refine M3 ?_; first | refine SG ?_ | refine SF ?_) | (refine M4 ?_; refine SR ?_) | (refine M5 ?_; first | exact M7 | refine YM ?_ | refine YN ?_ ?_))
  refine XL.step _ (Ev.makeFunc rfl rfl) rfl ?_
  repeat (first | (refine M0 ?_; first | refine SL ?_ | refine SB fun _ _ => ?_) | (refine M1 ?_; first | refine SC ?_ | refine SD ?_) | (refine M2 ?_; refine SE ?_) | (refine M3 ?_; first | refine SG ?_ | refine SF ?_) | (refine M4 ?_; refine SR ?_) | (refine M5 ?_; first | exact M7 | refine YM ?_ | refine YN ?_ ?_))
  refine XE.retg tok Tryz.results71 rfl (by simp only [and_self, and_true]) (fun w' S => ?_)
  exact ⟨_, rfl, _, _, _, rfl, S⟩
end X
namespace X
open Go Go.RowKit
def isIf (d : Option TypeDesc) : Bool := match d with
  | some (.interface _) => true
  | _ => false
def isNilI : Value → Option Bool
  | .nilIface => some true
  | .iface _ _ => some false
  | _ => none
section
variable {P : Program} {T : TT} {N : Nat} {B : Nat} {w0 : World} {ds : List Deferred} {F : Fr} {L : Lo} {pu : Prop}
variable {dst : Option Tmp} {ty : TypeId} {p : String} {af : Array Edge} {gd : Option (Nat × Bool)}
theorem run_ifNil (w : World) {t : TypeId} {v : Value} {b : Bool} (hu : isIf (P.underlying t) = true) (hv : isNilI v = some b) : (Op.equal t v .nilIface).run P w = .ok b w := by
  have hi : ∃ ms, P.underlying t = some (.interface ms) := by
    unfold isIf at hu
    split at hu
    · rename_i ms h; exact ⟨ms, h⟩
    · cases hu
  obtain ⟨ms, hi⟩ := hi
  have h1 : ∀ d : Nat, (Op.equalIn (d + 1) t .nilIface .nilIface).run P w = .ok true w := fun d => by simp [Op.equalIn, run_underlying hi]
  have h2 : ∀ (d : Nat) tp v, (Op.equalIn (d + 1) t (.iface tp v) .nilIface).run P w = .ok false w := fun d tp v => by simp [Op.equalIn, run_underlying hi]
  cases v <;> simp [isNilI] at hv <;> subst hv <;> first
    | (simp [Op.equal, Op.maxDepth, h1 9999]; done)
    | (simp [Op.equal, Op.maxDepth, h2 9999]; done)
theorem Ev.ifNeq {x : Operand} {t u : TypeId} {v : Value} {b : Bool} (hx : evo F x = some v) (hv : isNilI v = some b) (hu : isIf (P.underlying t) = true) :
    Ev P N B w0 ds pu F L ⟨dst, .binOp .neq t x (.const .nilIface) u, ty, p, af, gd⟩ (.bool (!b)) := .of_run fun a w hf hw => by
  have h1 := run_ifNil w hu hv
  have e := hf.eval hx
  have e2 : a.eval (.const .nilIface) = .nilIface := rfl
  cases v <;> simp [isNilI] at hv <;> subst hv <;> simp only [execOp, e, e2] <;> simp [eqGuard, binOp, h1]
end
theorem XI.rebase {P : Program} {N B : Nat} {w0 : World} {ds : List Deferred} {Q : Exit → Act → World → Prop} {F : Fr} {L L' : Lo} {ops : Array Oper} {rest : List Oper} {r : Option Nat} {n : Nat} (hs : List.Sublist L' L) (k : ∀ w1, Sys B w0 L w1 → XI P N B w1 ds Q r n ops rest F L') : XI P N B w0 ds Q r n ops rest F L :=
  ⟨fun a w hf h => (k w h).run a w hf (h.rebase hs)⟩
def plainO (o : Oper) : Bool := match o.op with
  | .defer _ => false
  | .call c => match c.callee with
    | .value (.tmp _) => false
    | _ => true
  | _ => true
theorem XI.one1 {P : Program} {N B : Nat} {w0 : World} {ds : List Deferred} {Q : Exit → Act → World → Prop} {F : Fr} {L : Lo} {ops : Array Oper} {rest : List Oper} {r : Option Nat} {n : Nat} {o : Oper} (hd : plainO o = true) (h : XL P N B w0 ds (only (wpListIn (fen r) n P ops Q rest)) ops [o] F L) : XI P N B w0 ds Q r n ops (o :: rest) F L :=
  XI.one (by
    unfold plainO at hd
    unfold notDefer
    split at hd <;> simp_all) h
end X
namespace X
open Go Go.RowKit Bs
theorem err_if : isIf (Tryz.prog.underlying 147) = true := by kernel_rfl
def rfOf : Code → Option (Code × Code)
  | .rangeFunc _ _ a b => some (a, b)
  | .seq x y => match rfOf x with
    | some r => some r
    | none => rfOf y
  | .block _ c => rfOf c
  | _ => none
theorem mom_el : elemOk Tryz.prog 113 117 7 88 = true := by kernel_rfl
structure Mom where
  s : Sta
  f : Flo
  q : SV
  r : SV
def Mom.c (m : Mom) : List Value := momC m.q m.r m.s m.f
def Mom.p (m : Mom) : Sta × Flo := (m.s, m.f)
theorem Mom.c_len (m : Mom) : m.c.length = 7 := rfl
def Own (base : Nat) (ks : List Nat) (row : Option Nat) (W : World) : Nat → Prop := fun j => base ≤ j ∧ j < W.heap.size ∧ j ∉ ks ∧ row ≠ some j
structure MomsAt (W : World) (base : Nat) (ks : List Nat) (v : Value) (ms : List Mom) : Prop where
  row : W.ownsRow base 117 7 v ms.length (ms.flatMap Mom.c)
  sep : ∀ k, v.ownBlock = some k → k ∉ ks
  lt : ∀ k, v.ownBlock = some k → base ≤ k ∧ k < W.heap.size
  ins : ∀ m, m ∈ ms → IntsAt W (Own base ks v.ownBlock W) m.q m.s.fil ∧ IntsAt W (Own base ks v.ownBlock W) m.r m.f.taken
structure Grew (ks : List Nat) (row : Option Nat) (W W' : World) : Prop where
  size : W.heap.size ≤ W'.heap.size
  old : ∀ j, j < W.heap.size → j ∉ ks → row ≠ some j → W'.heap[j]? = W.heap[j]?
abbrev L8 (l D gl gs gb g8 g7 g6 : Nat) (r : Loop) (ol os ob : Obj) (v e x : Value) : Lo := [(l, .loop r), (D, .deferred (some [])), (gl, ol), (gs, os), (gb, ob), (g8, cel 113 [v]), (g7, cel 147 [e]), (g6, cel 113 [x])]
abbrev K8 (l D gl gs gb g8 g7 g6 : Nat) : List Nat := [l, D, gl, gs, gb, g8, g7, g6]
abbrev twoV (tmps : Array Value) (v x : Value) : Array Value := ((#[15, 16] : Array Tmp).zip #[v, x]).foldl (fun s (p, y) => s.setIfInBounds p y) tmps
set_option maxHeartbeats 4000000 in
set_option maxRecDepth 10000 in
theorem round_ok {base B D l gl gs gb g8 g7 g6 : Nat} {W w : World} {fn : FuncId} {a : Act} {assign body : Code} {ol os ob : Obj} {v e x : Value} {ms : List Mom} {m : Mom} {c : Code} {n : Nat}
    (hc : Tryz.f54.body = some c) (hr : rfOf c = some (assign, body))
    (hf : Fits 25 [] [(6, .pointer (some ⟨g6, 0, none⟩)), (7, .pointer (some ⟨g7, 0, none⟩)), (8, .pointer (some ⟨g8, 0, none⟩))] a)
    (hs : Sys B W (L8 l D gl gs gb g8 g7 g6 (recO fn a.tmps #[15, 16] assign body D .ready none) ol os ob v e x) w)
    (hm : MomsAt W base (K8 l D gl gs gb g8 g7 g6) v ms) (hb : base ≤ W.heap.size) (hBb : B ≤ base) (hlen : ms.length < 1000) :
    (Instr.yield l (#[.agg ⟨m.c⟩, .nilIface] : Array Value)).run Tryz.prog w = .ok (.round l fn (twoV a.tmps (.agg ⟨m.c⟩) .nilIface) assign body) w ∧
    RoundIn Fence.wide n Tryz.prog l fn (twoV a.tmps (.agg ⟨m.c⟩) .nilIface) assign body w fun e1 w' => ∃ u, e1 = .returned u ∧ u = .bool true ∧ ∃ v' W', Sys B W' (L8 l D gl gs gb g8 g7 g6 (recO fn a.tmps #[15, 16] assign body D .ready none) ol os ob v' e x) w' ∧
      W'.ownsRow base 117 7 v' (ms.length + 1) (ms.flatMap Mom.c ++ m.c) ∧ (∀ k, v'.ownBlock = some k → v.ownBlock = some k ∨ W.heap.size ≤ k ∧ k ∉ K8 l D gl gs gb g8 g7 g6) ∧ Grew (K8 l D gl gs gb g8 g7 g6) v.ownBlock W W' ∧ Below B W W' := by
  have hloop := (hs.own _ List.mem_cons_self).2
  refine ⟨run_yield (args := #[.agg ⟨m.c⟩, .nilIface]) hloop rfl, ?_⟩
  obtain ⟨r0, hr0, hr1, hr2⟩ : ∃ r0, recO fn a.tmps #[15, 16] assign body D .ready none = r0 ∧ r0.state = .ready ∧ r0.pending = none := ⟨_, rfl, rfl, rfl⟩
  rw [hr0] at hs ⊢
  clear hloop hr0
  have hr3 : { { r0 with state := .busy } with state := .ready, pending := none } = r0 := by
    cases r0; simp only at hr1 hr2; subst hr1 hr2; rfl
  have e1 : Tryz.f54.body = some _ := rfl
  rw [e1] at hc
  cases hc
  simp only [rfOf, Option.some.injEq, Prod.mk.injEq] at hr
  obtain ⟨rfl, rfl⟩ := hr
  clear e1
  refine round_of (hf.params2 rfl rfl) hs ?_
  simp only [Mom.c, momC, staC, floC, List.cons_append, List.nil_append]
  repeat (first | (refine M0 ?_; first | refine SL ?_ | refine SB fun _ _ => ?_) | (refine XI.id ?_; first | refine XI.done ?_ | refine XI.one1 rfl ?_) | (refine XR'.id ?_; first | refine XR'.seq ?_ | refine XR'.region ?_ | refine XR'.block ?_ | refine XR'.skip ?_ | refine XR'.ret ?_ | refine XR'.cond_t rfl ?_ | refine XR'.cond_f rfl ?_ | refine XR'.exit ?_) | (refine M1 ?_; first | refine SC ?_ | refine SD ?_) | (refine M2 ?_; first | refine XE.nextI ?_ | refine XE.nextR ?_ | refine SE ?_))
  refine XE.begin (i := 1) rfl hr1 rfl ?_
  repeat (first | (refine M0 ?_; first | refine SL ?_ | refine SB fun _ _ => ?_ | refine Y4 (Ev.ifNeq rfl rfl err_if) ?_) | (refine XI.id ?_; first | refine XI.done ?_ | refine XI.one1 rfl ?_) | (refine XR'.id ?_; first | refine XR'.seq ?_ | refine XR'.region ?_ | refine XR'.block ?_ | refine XR'.skip ?_ | refine XR'.ret ?_ | refine XR'.cond_t rfl ?_ | refine XR'.cond_f rfl ?_ | refine XR'.exit ?_) | (refine M1 ?_; first | refine SC ?_ | refine SD ?_) | (refine M2 ?_; first | refine XE.nextI ?_ | refine XE.nextR ?_ | refine SE ?_))
  refine XL.step _ (Ev.load_at tok 6 (v := v) (j := 0) rfl rfl rfl rfl) rfl ?_
  repeat (first | (refine M0 ?_; first | refine SL ?_ | refine SB fun _ _ => ?_) | (refine XI.id ?_; first | refine XI.done ?_ | refine XI.one1 rfl ?_) | (refine XR'.id ?_; first | refine XR'.seq ?_ | refine XR'.region ?_ | refine XR'.block ?_ | refine XR'.skip ?_ | refine XR'.ret ?_ | refine XR'.cond_t rfl ?_ | refine XR'.cond_f rfl ?_ | refine XR'.exit ?_) | (refine M1 ?_; first | refine SC ?_ | refine SD ?_) | (refine M2 ?_; first | refine XE.nextI ?_ | refine XE.nextR ?_ | refine SE ?_))
  refine XL.buildSlice tok rfl rfl rfl rfl rfl rfl rfl rfl rfl (fun gn hgn => ?_)
  repeat (first | (refine M0 ?_; first | refine SL ?_ | refine SB fun _ _ => ?_) | (refine XI.id ?_; first | refine XI.done ?_ | refine XI.one1 rfl ?_) | (refine XR'.id ?_; first | refine XR'.seq ?_ | refine XR'.region ?_ | refine XR'.block ?_ | refine XR'.skip ?_ | refine XR'.ret ?_ | refine XR'.cond_t rfl ?_ | refine XR'.cond_f rfl ?_ | refine XR'.exit ?_) | (refine M1 ?_; first | refine SC ?_ | refine SD ?_) | (refine M2 ?_; first | refine XE.nextI ?_ | refine XE.nextR ?_ | refine SE ?_))
  obtain ⟨hrow, hsep, hlt, hins⟩ := hm
  have hks : ∀ e', e' ∈ L8 l D gl gs gb g8 g7 g6 { r0 with state := .busy } ol os ob v e x → e'.1 ∈ K8 l D gl gs gb g8 g7 g6 := by
    intro e' he'
    have : e'.1 ∈ (L8 l D gl gs gb g8 g7 g6 { r0 with state := .busy } ol os ob v e x).map (·.1) := List.mem_map.2 ⟨e', he', rfl⟩
    simpa using this
  refine XL.append2 (v := v) (m := 1) (n := ms.length) (size := 7) (bytes := 88) (base := base) (A := ⟨gn, 0, none⟩) (xs := ms.flatMap Mom.c) (news := m.c) (L' := L8 l D gl gs gb g8 g7 g6 { r0 with state := .busy } ol os ob v e x) mom_el (by decide) rfl rfl rfl
    hrow (fun k hk e' he' => ?_) rfl (fun w2 S2 j u hj => ?_) (by simp [Mom.c, momC, staC, floC, Value.oneCell']) (by unfold maxLen; omega) (by omega) hb ((List.sublist_cons_self _ _).trans (List.sublist_cons_self _ _)) (fun w2 v' w3 S2 ho hg _ hfr => ?_)
  · rcases List.mem_cons.1 he' with rfl | he'
    · have := (hlt k hk).2; intro e2; simp only at e2; omega
    rcases List.mem_cons.1 he' with rfl | he'
    · have := (hlt k hk).2; intro e2; simp only at e2; omega
    · intro e2; exact hsep k hk (e2 ▸ hks e' he')
  · have := S2.cell (g := gn) List.mem_cons_self j
    rw [add_off, Nat.zero_add, this]; exact hj
  obtain ⟨r, rfl, hrn⟩ := owns_sv ho
  repeat (first | (refine M0 ?_; first | refine SL ?_ | refine SB fun _ _ => ?_) | (refine XI.id ?_; first | refine XI.done ?_ | refine XI.one1 rfl ?_) | (refine XR'.id ?_; first | refine XR'.seq ?_ | refine XR'.region ?_ | refine XR'.block ?_ | refine XR'.skip ?_ | refine XR'.ret ?_ | refine XR'.cond_t rfl ?_ | refine XR'.cond_f rfl ?_ | refine XR'.exit ?_) | (refine M1 ?_; first | refine SC ?_ | refine SD ?_) | (refine M2 ?_; first | refine XE.nextI ?_ | refine XE.nextR ?_ | refine SE ?_))
  refine XL.store_at tok 5 (o := 0) (j := 0) (cs := [v]) rfl rfl rfl rfl rfl (Nat.zero_lt_succ 0) rfl ?_
  repeat (first | (refine M0 ?_; first | refine SL ?_ | refine SB fun _ _ => ?_) | (refine XI.id ?_; first | refine XI.done ?_ | refine XI.one1 rfl ?_) | (refine XR'.id ?_; first | refine XR'.seq ?_ | refine XR'.region ?_ | refine XR'.block ?_ | refine XR'.skip ?_ | refine XR'.ret ?_ | refine XR'.cond_t rfl ?_ | refine XR'.cond_f rfl ?_ | refine XR'.exit ?_) | (refine M1 ?_; first | refine SC ?_ | refine SD ?_) | (refine M2 ?_; first | refine XE.nextI ?_ | refine XE.nextR ?_ | refine SE ?_))
  refine XE.endR (i := 0) rfl rfl (fun w' S => ?_)
  have hr3' := hr3
  simp only at hr3'
  simp only [List.set_cons_zero, Nat.zero_add, hr3'] at S
  have hK : ∀ k, k ∈ K8 l D gl gs gb g8 g7 g6 → k < w2.heap.size := fun k hk => by
    obtain ⟨e', he', e2⟩ := List.mem_map.1 (show k ∈ (L8 l D gl gs gb g8 g7 g6 { r0 with state := .busy } ol os ob v e x).map (·.1) from hk)
    have := S2.lt (List.mem_cons_of_mem _ (List.mem_cons_of_mem _ he'))
    omega
  refine ⟨_, rfl, rfl, svV r, w3, S, ho, fun k hk => ?_, ⟨Nat.le_trans S2.size hg.size, fun j hj hjk hjr => ?_⟩, grown_below S2 hg fun k hk => Nat.le_trans hBb (hlt k hk).1⟩
  · rcases hfr k hk with h | h
    · exact .inl h
    · exact .inr ⟨Nat.le_trans S2.size h, fun hk' => by have := hK k hk'; omega⟩
  · rw [hg.block j (Nat.lt_of_lt_of_le hj S2.size) (fun e2 => hjr e2.symm)]
    refine S2.old j hj fun e' he' e2 => ?_
    rcases List.mem_cons.1 he' with rfl | he'
    · simp only at e2; omega
    rcases List.mem_cons.1 he' with rfl | he'
    · simp only at e2; omega
    · exact hjk (e2 ▸ hks e' he')
def zmC : List Value := [.int .i64 0, .slice none 0 0, .int .i64 0, .int .i64 0, .int .i64 0, .int .i64 0, .slice none 0 0]
set_option maxHeartbeats 4000000 in
set_option maxRecDepth 10000 in
theorem round_err {B D l gl gs gb g8 g7 g6 gf : Nat} {W w : World} {fn : FuncId} {a : Act} {assign body : Code} {ol os ob : Obj} {v e x : Value} {c : Code} {n : Nat}
    (hc : Tryz.f54.body = some c) (hr : rfOf c = some (assign, body))
    (hf : Fits 25 [] [(6, .pointer (some ⟨g6, 0, none⟩)), (7, .pointer (some ⟨g7, 0, none⟩)), (8, .pointer (some ⟨g8, 0, none⟩))] a)
    (hs : Sys B W (L8 l D gl gs gb g8 g7 g6 (recO fn a.tmps #[15, 16] assign body D .ready none) ol os ob v e x) w) :
    (Instr.yield l (#[.agg ⟨zmC⟩, .iface 150 (.pointer (some ⟨gf, 0, none⟩))] : Array Value)).run Tryz.prog w = .ok (.round l fn (twoV a.tmps (.agg ⟨zmC⟩) (.iface 150 (.pointer (some ⟨gf, 0, none⟩)))) assign body) w ∧
    RoundIn Fence.wide n Tryz.prog l fn (twoV a.tmps (.agg ⟨zmC⟩) (.iface 150 (.pointer (some ⟨gf, 0, none⟩)))) assign body w fun e1 w' => ∃ u, e1 = .returned u ∧ u = .bool false ∧
      Sys B W (L8 l D gl gs gb g8 g7 g6 (recO fn a.tmps #[15, 16] assign body D .done (some .ret)) ol os ob v (.iface 150 (.pointer (some ⟨gf, 0, none⟩))) (.slice none 0 0)) w' := by
  have hloop := (hs.own _ List.mem_cons_self).2
  refine ⟨run_yield (args := #[.agg ⟨zmC⟩, .iface 150 (.pointer (some ⟨gf, 0, none⟩))]) hloop rfl, ?_⟩
  obtain ⟨r0, hr0, hr1, r1, hr4, hr3⟩ : ∃ r0, recO fn a.tmps #[15, 16] assign body D .ready none = r0 ∧ r0.state = .ready ∧ ∃ r1, recO fn a.tmps #[15, 16] assign body D .done (some .ret) = r1 ∧ { { r0 with state := .busy } with state := .done, pending := some .ret } = r1 := ⟨_, rfl, rfl, _, rfl, rfl⟩
  rw [hr0] at hs
  rw [hr4]
  clear hloop hr0 hr4
  have e1 : Tryz.f54.body = some _ := rfl
  rw [e1] at hc
  cases hc
  simp only [rfOf, Option.some.injEq, Prod.mk.injEq] at hr
  obtain ⟨rfl, rfl⟩ := hr
  clear e1
  refine round_of (hf.params2 rfl rfl) hs ?_
  simp only [zmC]
  repeat (first | (refine M0 ?_; first | refine SL ?_ | refine SB fun _ _ => ?_) | (refine XI.id ?_; first | refine XI.done ?_ | refine XI.one1 rfl ?_) | (refine XR'.id ?_; first | refine XR'.seq ?_ | refine XR'.region ?_ | refine XR'.block ?_ | refine XR'.skip ?_ | refine XR'.ret ?_ | refine XR'.cond_t rfl ?_ | refine XR'.cond_f rfl ?_ | refine XR'.exit ?_) | (refine M1 ?_; first | refine SC ?_ | refine SD ?_) | (refine M2 ?_; first | refine XE.nextI ?_ | refine XE.nextR ?_ | refine SE ?_))
  refine XE.begin (i := 1) rfl hr1 rfl ?_
  repeat (first | (refine M0 ?_; first | refine SL ?_ | refine SB fun _ _ => ?_ | refine Y4 (Ev.ifNeq rfl rfl err_if) ?_) | (refine XI.id ?_; first | refine XI.done ?_ | refine XI.one1 rfl ?_) | (refine XR'.id ?_; first | refine XR'.seq ?_ | refine XR'.region ?_ | refine XR'.block ?_ | refine XR'.skip ?_ | refine XR'.ret ?_ | refine XR'.cond_t rfl ?_ | refine XR'.cond_f rfl ?_ | refine XR'.exit ?_) | (refine M1 ?_; first | refine SC ?_ | refine SD ?_) | (refine M2 ?_; first | refine XE.nextI ?_ | refine XE.nextR ?_ | refine SE ?_))
  refine XL.store_at tok 8 (o := 0) (j := 0) (cs := [x]) rfl rfl rfl rfl rfl (Nat.zero_lt_succ 0) rfl ?_
  repeat (first | (refine M0 ?_; first | refine SL ?_ | refine SB fun _ _ => ?_) | (refine XI.id ?_; first | refine XI.done ?_ | refine XI.one1 rfl ?_) | (refine XR'.id ?_; first | refine XR'.seq ?_ | refine XR'.region ?_ | refine XR'.block ?_ | refine XR'.skip ?_ | refine XR'.ret ?_ | refine XR'.cond_t rfl ?_ | refine XR'.cond_f rfl ?_ | refine XR'.exit ?_) | (refine M1 ?_; first | refine SC ?_ | refine SD ?_) | (refine M2 ?_; first | refine XE.nextI ?_ | refine XE.nextR ?_ | refine SE ?_))
  refine XL.store_at tok 7 (o := 0) (j := 0) (cs := [e]) rfl rfl rfl rfl rfl (Nat.zero_lt_succ 0) rfl ?_
  repeat (first | (refine M0 ?_; first | refine SL ?_ | refine SB fun _ _ => ?_) | (refine XI.id ?_; first | refine XI.done ?_ | refine XI.one1 rfl ?_) | (refine XR'.id ?_; first | refine XR'.seq ?_ | refine XR'.region ?_ | refine XR'.block ?_ | refine XR'.skip ?_ | refine XR'.ret ?_ | refine XR'.cond_t rfl ?_ | refine XR'.cond_f rfl ?_ | refine XR'.exit ?_) | (refine M1 ?_; first | refine SC ?_ | refine SD ?_) | (refine M2 ?_; first | refine XE.nextI ?_ | refine XE.nextR ?_ | refine SE ?_))
  refine XE.endRet (i := 1) rfl rfl (fun w' S => ?_)
  simp only at hr3
  simp only [List.set_cons_zero, Nat.zero_add, hr3] at S
  exact ⟨_, rfl, rfl, S.pop (by assumption)⟩
end X
end Go.Proofs.YtgddcbpbadookaaGreatDoor
