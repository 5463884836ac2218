/-
  The tables of this seat's types: made by a program of mine (gentab.py) off the translation's type rows; each list is held against the program by one closed fact.
-/
import Derived.Test.YtlfjdbilblfknaaProg
import Derived.Test.YtlfjdbilblfknaaPart1
import Derived.KernelRfl
import Derived.WalkSpells
import Derived.Deep.Slices
import Derived.WideShapes
import Derived.ChangeArms
import Derived.ChangeOld
import Derived.RangeFuncIn
import Derived.RangeFuncRecord
import Derived.RangeFuncLeaves
import Derived.RangeFuncCalls
import Derived.TacticsIn
import Derived.LaidEql
import Derived.Laws.MakeOwn
set_option linter.unusedVariables false
set_option linter.unusedSimpArgs false
namespace Go.Proofs.Ytlfjdbilblfknaa.X
open Go
def TB : TT := {
  agg := [(7, 4), (8, 4), (13, 2), (14, 2), (18, 1), (19, 1), (24, 5), (25, 5), (27, 2), (28, 2), (32, 15), (33, 15), (34, 5), (35, 5), (37, 8), (38, 8), (45, 2), (46, 2), (53, 2), (54, 2), (65, 5), (66, 5), (74, 3), (75, 3), (92, 3), (93, 3), (99, 18), (100, 18), (108, 6), (109, 9), (110, 9), (117, 4), (118, 4), (120, 3), (121, 5), (124, 3), (125, 3), (132, 5), (133, 5), (136, 3), (137, 3), (141, 15), (142, 15), (143, 5), (144, 2), (145, 2), (154, 4), (155, 4), (166, 11), (167, 11)]
  one := [(1, ()), (2, ()), (3, ()), (4, ()), (5, ()), (6, ()), (9, ()), (10, ()), (11, ()), (12, ()), (15, ()), (16, ()), (17, ()), (20, ()), (21, ()), (22, ()), (23, ()), (26, ()), (29, ()), (30, ()), (31, ()), (36, ()), (39, ()), (40, ()), (42, ()), (43, ()), (44, ()), (48, ()), (49, ()), (50, ()), (52, ()), (55, ()), (56, ()), (57, ()), (59, ()), (60, ()), (61, ()), (63, ()), (64, ()), (68, ()), (70, ()), (71, ()), (73, ()), (76, ()), (77, ()), (78, ()), (79, ()), (80, ()), (81, ()), (82, ()), (84, ()), (85, ()), (86, ()), (87, ()), (88, ()), (89, ()), (90, ()), (91, ()), (94, ()), (95, ()), (96, ()), (97, ()), (98, ()), (102, ()), (103, ()), (104, ()), (105, ()), (107, ()), (111, ()), (114, ()), (115, ()), (116, ()), (119, ()), (122, ()), (123, ()), (126, ()), (128, ()), (129, ()), (130, ()), (131, ()), (135, ()), (138, ()), (139, ()), (140, ()), (146, ()), (147, ()), (148, ()), (149, ()), (150, ()), (151, ()), (152, ()), (153, ()), (159, ()), (160, ()), (161, ()), (162, ()), (163, ()), (164, ()), (165, ()), (168, ()), (169, ())]
  fld := [(7, [(0, 1, 2), (1, 1, 3), (2, 1, 4), (3, 1, 6)]), (8, [(0, 1, 2), (1, 1, 3), (2, 1, 4), (3, 1, 6)]), (13, [(0, 1, 9), (1, 1, 12)]), (14, [(0, 1, 9), (1, 1, 12)]), (18, [(0, 1, 17)]), (19, [(0, 1, 17)]), (24, [(0, 1, 22), (1, 1, 3), (2, 1, 3), (3, 1, 3), (4, 1, 23)]), (25, [(0, 1, 22), (1, 1, 3), (2, 1, 3), (3, 1, 3), (4, 1, 23)]), (27, [(0, 1, 3), (1, 1, 26)]), (28, [(0, 1, 3), (1, 1, 26)]), (32, [(0, 5, 25), (5, 2, 28), (7, 1, 26), (8, 1, 26), (9, 1, 26), (10, 1, 3), (11, 1, 3), (12, 1, 29), (13, 1, 30), (14, 1, 31)]), (33, [(0, 5, 25), (5, 2, 28), (7, 1, 26), (8, 1, 26), (9, 1, 26), (10, 1, 3), (11, 1, 3), (12, 1, 29), (13, 1, 30), (14, 1, 31)]), (34, [(0, 1, 9), (1, 1, 3), (2, 1, 3), (3, 1, 3), (4, 1, 3)]), (35, [(0, 1, 9), (1, 1, 3), (2, 1, 3), (3, 1, 3), (4, 1, 3)]), (37, [(0, 5, 35), (5, 1, 36), (6, 1, 36), (7, 1, 36)]), (38, [(0, 5, 35), (5, 1, 36), (6, 1, 36), (7, 1, 36)]), (45, [(0, 1, 3), (1, 1, 3)]), (46, [(0, 1, 3), (1, 1, 3)]), (53, [(0, 1, 3), (1, 1, 3)]), (54, [(0, 1, 3), (1, 1, 3)]), (65, [(0, 2, 28), (2, 1, 3), (3, 1, 3), (4, 1, 3)]), (66, [(0, 2, 28), (2, 1, 3), (3, 1, 3), (4, 1, 3)]), (74, [(0, 1, 4), (1, 1, 3), (2, 1, 39)]), (75, [(0, 1, 4), (1, 1, 3), (2, 1, 39)]), (92, [(0, 1, 9), (1, 1, 3), (2, 1, 3)]), (93, [(0, 1, 9), (1, 1, 3), (2, 1, 3)]), (99, [(0, 15, 33), (15, 1, 81), (16, 1, 97), (17, 1, 98)]), (100, [(0, 15, 33), (15, 1, 81), (16, 1, 97), (17, 1, 98)]), (109, [(0, 1, 3), (1, 1, 3), (2, 1, 3), (3, 6, 108)]), (110, [(0, 1, 3), (1, 1, 3), (2, 1, 3), (3, 6, 108)]), (117, [(0, 1, 9), (1, 1, 3), (2, 1, 3), (3, 1, 3)]), (118, [(0, 1, 9), (1, 1, 3), (2, 1, 3), (3, 1, 3)]), (120, [(0, 1, 9), (1, 1, 3), (2, 1, 3)]), (121, [(0, 1, 9), (1, 1, 3), (2, 1, 3), (3, 1, 3), (4, 1, 3)]), (124, [(0, 1, 3), (1, 1, 3), (2, 1, 3)]), (125, [(0, 1, 3), (1, 1, 3), (2, 1, 3)]), (132, [(0, 1, 3), (1, 1, 3), (2, 1, 3), (3, 1, 3), (4, 1, 26)]), (133, [(0, 1, 3), (1, 1, 3), (2, 1, 3), (3, 1, 3), (4, 1, 26)]), (136, [(0, 1, 3), (1, 1, 3), (2, 1, 3)]), (137, [(0, 1, 3), (1, 1, 3), (2, 1, 3)]), (141, [(0, 5, 25), (5, 2, 28), (7, 3, 137), (10, 5, 133)]), (142, [(0, 5, 25), (5, 2, 28), (7, 3, 137), (10, 5, 133)]), (144, [(0, 1, 3), (1, 1, 3)]), (145, [(0, 1, 3), (1, 1, 3)]), (154, [(0, 1, 17), (1, 1, 17), (2, 1, 17), (3, 1, 9)]), (155, [(0, 1, 17), (1, 1, 17), (2, 1, 17), (3, 1, 9)]), (157, [(0, 0, 156)]), (158, [(0, 0, 156)]), (166, [(0, 1, 12), (1, 1, 12), (2, 1, 159), (3, 1, 160), (4, 1, 5), (5, 1, 5), (6, 1, 161), (7, 1, 162), (8, 1, 163), (9, 1, 164), (10, 1, 165)]), (167, [(0, 1, 12), (1, 1, 12), (2, 1, 159), (3, 1, 160), (4, 1, 5), (5, 1, 5), (6, 1, 161), (7, 1, 162), (8, 1, 163), (9, 1, 164), (10, 1, 165)])]
  sl := [(22, 46, 2), (23, 118, 4), (26, 3, 1), (29, 93, 3), (30, 35, 5), (31, 4, 1), (39, 31, 1), (55, 54, 2), (61, 66, 5), (81, 86, 1)]
  zero := [(1, .nilFunc), (2, .int .i64 0), (3, .int .i64 0), (4, .bool false), (5, .int .u8 0), (6, .int .u8 0), (7, .agg #[.int .i64 0, .int .i64 0, .bool false, .int .u8 0]), (8, .agg #[.int .i64 0, .int .i64 0, .bool false, .int .u8 0]), (9, .string ByteArray.empty), (10, .string ByteArray.empty), (11, .string ByteArray.empty), (12, .int .u64 0), (13, .agg #[.string ByteArray.empty, .int .u64 0]), (14, .agg #[.string ByteArray.empty, .int .u64 0]), (15, .pointer none), (16, .pointer none), (17, .pointer none), (18, .agg #[.pointer none]), (19, .agg #[.pointer none]), (20, .nilIface), (21, .int .i32 0), (22, .slice none 0 0), (23, .slice none 0 0), (24, .agg #[.slice none 0 0, .int .i64 0, .int .i64 0, .int .i64 0, .slice none 0 0]), (25, .agg #[.slice none 0 0, .int .i64 0, .int .i64 0, .int .i64 0, .slice none 0 0]), (26, .slice none 0 0), (27, .agg #[.int .i64 0, .slice none 0 0]), (28, .agg #[.int .i64 0, .slice none 0 0]), (29, .slice none 0 0), (30, .slice none 0 0), (31, .slice none 0 0), (32, .agg #[.slice none 0 0, .int .i64 0, .int .i64 0, .int .i64 0, .slice none 0 0, .int .i64 0, .slice none 0 0, .slice none 0 0, .slice none 0 0, .slice none 0 0, .int .i64 0, .int .i64 0, .slice none 0 0, .slice none 0 0, .slice none 0 0]), (33, .agg #[.slice none 0 0, .int .i64 0, .int .i64 0, .int .i64 0, .slice none 0 0, .int .i64 0, .slice none 0 0, .slice none 0 0, .slice none 0 0, .slice none 0 0, .int .i64 0, .int .i64 0, .slice none 0 0, .slice none 0 0, .slice none 0 0]), (34, .agg #[.string ByteArray.empty, .int .i64 0, .int .i64 0, .int .i64 0, .int .i64 0]), (35, .agg #[.string ByteArray.empty, .int .i64 0, .int .i64 0, .int .i64 0, .int .i64 0]), (36, .int .u16 0), (37, .agg #[.string ByteArray.empty, .int .i64 0, .int .i64 0, .int .i64 0, .int .i64 0, .int .u16 0, .int .u16 0, .int .u16 0]), (38, .agg #[.string ByteArray.empty, .int .i64 0, .int .i64 0, .int .i64 0, .int .i64 0, .int .u16 0, .int .u16 0, .int .u16 0]), (39, .slice none 0 0), (40, .int .i64 0), (42, .nilFunc), (43, .nilFunc), (44, .nilFunc), (45, .agg #[.int .i64 0, .int .i64 0]), (46, .agg #[.int .i64 0, .int .i64 0]), (48, .nilFunc), (49, .nilFunc), (50, .nilFunc), (52, .nilFunc), (53, .agg #[.int .i64 0, .int .i64 0]), (54, .agg #[.int .i64 0, .int .i64 0]), (55, .slice none 0 0), (56, .nilFunc), (57, .nilFunc), (59, .nilFunc), (60, .nilFunc), (61, .slice none 0 0), (63, .nilFunc), (64, .nilFunc), (65, .agg #[.int .i64 0, .slice none 0 0, .int .i64 0, .int .i64 0, .int .i64 0]), (66, .agg #[.int .i64 0, .slice none 0 0, .int .i64 0, .int .i64 0, .int .i64 0]), (68, .nilFunc), (70, .nilFunc), (71, .pointer none), (73, .nilFunc), (74, .agg #[.bool false, .int .i64 0, .slice none 0 0]), (75, .agg #[.bool false, .int .i64 0, .slice none 0 0]), (76, .nilFunc), (77, .nilFunc), (78, .nilFunc), (79, .nilFunc), (80, .nilFunc), (81, .slice none 0 0), (82, .nilFunc), (84, .nilFunc), (85, .nilIface), (86, .nilIface), (87, .nilFunc), (88, .nilFunc), (89, .nilFunc), (90, .nilFunc), (91, .nilFunc), (92, .agg #[.string ByteArray.empty, .int .i64 0, .int .i64 0]), (93, .agg #[.string ByteArray.empty, .int .i64 0, .int .i64 0]), (94, .nilFunc), (95, .nilFunc), (96, .nilFunc), (97, .nilFunc), (98, .map none), (99, .agg #[.slice none 0 0, .int .i64 0, .int .i64 0, .int .i64 0, .slice none 0 0, .int .i64 0, .slice none 0 0, .slice none 0 0, .slice none 0 0, .slice none 0 0, .int .i64 0, .int .i64 0, .slice none 0 0, .slice none 0 0, .slice none 0 0, .slice none 0 0, .nilFunc, .map none]), (100, .agg #[.slice none 0 0, .int .i64 0, .int .i64 0, .int .i64 0, .slice none 0 0, .int .i64 0, .slice none 0 0, .slice none 0 0, .slice none 0 0, .slice none 0 0, .int .i64 0, .int .i64 0, .slice none 0 0, .slice none 0 0, .slice none 0 0, .slice none 0 0, .nilFunc, .map none]), (102, .nilFunc), (103, .nilFunc), (104, .nilFunc), (105, .nilFunc), (107, .nilFunc), (108, .agg #[.int .i64 0, .int .i64 0, .int .i64 0, .int .i64 0, .int .i64 0, .int .i64 0]), (109, .agg #[.int .i64 0, .int .i64 0, .int .i64 0, .int .i64 0, .int .i64 0, .int .i64 0, .int .i64 0, .int .i64 0, .int .i64 0]), (110, .agg #[.int .i64 0, .int .i64 0, .int .i64 0, .int .i64 0, .int .i64 0, .int .i64 0, .int .i64 0, .int .i64 0, .int .i64 0]), (111, .nilFunc), (114, .nilFunc), (115, .nilFunc), (116, .map none), (117, .agg #[.string ByteArray.empty, .int .i64 0, .int .i64 0, .int .i64 0]), (118, .agg #[.string ByteArray.empty, .int .i64 0, .int .i64 0, .int .i64 0]), (119, .nilFunc), (120, .agg #[.string ByteArray.empty, .int .i64 0, .int .i64 0]), (121, .agg #[.string ByteArray.empty, .int .i64 0, .int .i64 0, .int .i64 0, .int .i64 0]), (122, .nilFunc), (123, .nilFunc), (124, .agg #[.int .i64 0, .int .i64 0, .int .i64 0]), (125, .agg #[.int .i64 0, .int .i64 0, .int .i64 0]), (126, .nilFunc), (128, .nilFunc), (129, .nilFunc), (130, .nilFunc), (131, .nilFunc), (132, .agg #[.int .i64 0, .int .i64 0, .int .i64 0, .int .i64 0, .slice none 0 0]), (133, .agg #[.int .i64 0, .int .i64 0, .int .i64 0, .int .i64 0, .slice none 0 0]), (135, .nilFunc), (136, .agg #[.int .i64 0, .int .i64 0, .int .i64 0]), (137, .agg #[.int .i64 0, .int .i64 0, .int .i64 0]), (138, .nilFunc), (139, .nilFunc), (140, .pointer none), (141, .agg #[.slice none 0 0, .int .i64 0, .int .i64 0, .int .i64 0, .slice none 0 0, .int .i64 0, .slice none 0 0, .int .i64 0, .int .i64 0, .int .i64 0, .int .i64 0, .int .i64 0, .int .i64 0, .int .i64 0, .slice none 0 0]), (142, .agg #[.slice none 0 0, .int .i64 0, .int .i64 0, .int .i64 0, .slice none 0 0, .int .i64 0, .slice none 0 0, .int .i64 0, .int .i64 0, .int .i64 0, .int .i64 0, .int .i64 0, .int .i64 0, .int .i64 0, .slice none 0 0]), (143, .agg #[.nilFunc, .nilFunc, .nilFunc, .nilFunc, .nilFunc]), (144, .agg #[.int .i64 0, .int .i64 0]), (145, .agg #[.int .i64 0, .int .i64 0]), (146, .nilFunc), (147, .nilFunc), (148, .nilIface), (149, .nilIface), (150, .nilFunc), (151, .nilFunc), (152, .nilFunc), (153, .int .u64 0), (154, .agg #[.pointer none, .pointer none, .pointer none, .string ByteArray.empty]), (155, .agg #[.pointer none, .pointer none, .pointer none, .string ByteArray.empty]), (156, .agg #[]), (157, .agg #[]), (158, .agg #[]), (159, .int .u32 0), (160, .int .u8 0), (161, .int .u8 0), (162, .nilFunc), (163, .pointer none), (164, .int .i32 0), (165, .int .i32 0), (166, .agg #[.int .u64 0, .int .u64 0, .int .u32 0, .int .u8 0, .int .u8 0, .int .u8 0, .int .u8 0, .nilFunc, .pointer none, .int .i32 0, .int .i32 0]), (167, .agg #[.int .u64 0, .int .u64 0, .int .u32 0, .int .u8 0, .int .u8 0, .int .u8 0, .int .u8 0, .nilFunc, .pointer none, .int .i32 0, .int .i32 0]), (168, .nilFunc), (169, .pointer none)] }
set_option maxRecDepth 100000
theorem tok_agg : TB.agg.map (fun e => aggSize Try.prog e.1) = TB.agg.map (fun e => some e.2) := by kernel_rfl
theorem tok_one : TB.one.map (fun e => oneCell Try.prog e.1) = TB.one.map (fun e => some e.2) := by kernel_rfl
theorem tok_fld : TB.fld.map (fun e => fldOf Try.prog e.1) = TB.fld.map (fun e => some e.2) := by kernel_rfl
theorem tok_sl : TB.sl.map (fun e => slOf Try.prog e.1) = TB.sl.map (fun e => some e.2) := by kernel_rfl
theorem tok_zero : TB.zero.map (fun e => zeroOf Try.prog e.1) = TB.zero.map (fun e => some e.2) := by kernel_rfl
theorem tok : TOK Try.prog TB := ⟨tok_agg, tok_one, tok_fld, tok_sl, tok_zero⟩
def okFs : List Nat := [2, 3, 4, 5, 6, 7, 8, 9, 10, 11, 12, 13, 14, 15, 16, 17, 18, 19, 20, 21, 22, 23, 24, 25, 26, 27, 28, 29, 30, 31, 32, 33, 34, 35, 36, 37, 38, 39, 40, 41, 42, 43, 44, 45, 46, 47, 48, 49, 50, 51, 52, 53, 54, 55, 56, 57, 58, 59, 60, 61, 62, 63, 64, 65, 81, 82, 83, 84, 85, 86, 87, 88, 89, 90, 91, 92]
theorem okFs_all : okFs.all (callOk Try.prog) = true := by kernel_rfl
theorem ck {f : Nat} (h : okFs.contains f = true) : callOk Try.prog f = true := List.all_eq_true.1 okFs_all f (by simpa using h)
theorem mixed : Try.prog.follows .mixedOrders = true := by kernel_rfl
end Go.Proofs.Ytlfjdbilblfknaa.X
/-
  The plain words of layer 4 (basin): rows, polders, states, ticks, and what Check says of them, in plain terms. No program stands here.
-/
namespace Go.Proofs.Ytlfjdbilblfknaa.Bs
set_option linter.unusedVariables false

structure Row where
  level : Int
  vol : Int
structure Pol where
  name : ByteArray
  sill : Int
  take : Int
  room : Int
structure Bas where
  rows : List Row
  leak : Int
  crest : Int
  over : Int
  pols : List Pol
structure Sta where
  vol : Int
  fil : List Int
structure Tick where
  outer : Int
  river : Int
  out : Int
structure Flo where
  river : Int
  over : Int
  leak : Int
  out : Int
  taken : List Int

def r0 : Row := ⟨0, 0⟩
def p0 : Pol := ⟨ByteArray.empty, 0, 0, 0⟩
def Bas.row (b : Bas) (i : Nat) : Row := b.rows[i]?.getD r0
def Bas.pol (b : Bas) (i : Nat) : Pol := b.pols[i]?.getD p0

/-- not from lo to hi. -/
def outB (n lo hi : Int) : Bool := decide (n < lo) || decide (hi < n)
theorem outB_f {n lo hi : Int} : outB n lo hi = false ↔ lo ≤ n ∧ n ≤ hi := by simp [outB]
theorem outB_t {n lo hi : Int} : outB n lo hi = true ↔ n < lo ∨ hi < n := by simp [outB]
def highB (n : Int) : Bool := outB n (-20000) 20000

/-- the first i below n at which f is not 0. -/
def firstN (f : Nat → Int) : Nat → Option Nat
  | 0 => none
  | n + 1 => match firstN f n with
    | some i => some i
    | none => if f n = 0 then none else some n
theorem firstN_none {f : Nat → Int} {n : Nat} (h : ∀ j, j < n → f j = 0) : firstN f n = none := by
  induction n with
  | zero => rfl
  | succ n ih => simp [firstN, ih (fun j hj => h j (by omega)), h n (by omega)]
theorem firstN_some {f : Nat → Int} {n i : Nat} (hi : i < n) (h : ∀ j, j < i → f j = 0) (hf : f i ≠ 0) : firstN f n = some i := by
  induction n with
  | zero => omega
  | succ n ih =>
    by_cases e : i = n
    · subst e; simp [firstN, firstN_none h, hf]
    · simp [firstN, ih (by omega)]
theorem firstN_none_iff {f : Nat → Int} {n : Nat} (h : firstN f n = none) : ∀ j, j < n → f j = 0 := by
  induction n with
  | zero => intro j hj; omega
  | succ n ih =>
    simp only [firstN] at h
    cases hx : firstN f n with
    | some i => rw [hx] at h; cases h
    | none =>
      rw [hx] at h
      simp only at h
      intro j hj
      by_cases e : j = n
      · subst e
        by_cases hf : f j = 0
        · exact hf
        · rw [if_neg hf] at h; cases h
      · exact ih hx j (by omega)

/-- a name: its bytes. -/
def lowB (c : Int) : Bool := decide (97 ≤ c) && decide (c ≤ 122)
def digB (c : Int) : Bool := decide (48 ≤ c) && decide (c ≤ 57)
/-- byte i, as a number. -/
def bt (s : ByteArray) (i : Nat) : Int := if h : i < s.size then (s[i].toNat : Int) else 0
theorem bt_eq {s : ByteArray} {i : Nat} (h : i < s.size) : bt s i = (s[i].toNat : Int) := by simp [bt, h]
def byteOk (s : ByteArray) (i : Nat) : Bool := lowB (bt s i) || (decide (0 < i) && (decide (bt s i = 45) || digB (bt s i)))
theorem byteOk_t {s : ByteArray} {i : Nat} (h : (97 ≤ bt s i ∧ bt s i ≤ 122) ∨ (0 < i ∧ (bt s i = 45 ∨ (48 ≤ bt s i ∧ bt s i ≤ 57)))) : byteOk s i = true := by
  simp [byteOk, lowB, digB]; omega
theorem byteOk_f {s : ByteArray} {i : Nat} (h : ¬ ((97 ≤ bt s i ∧ bt s i ≤ 122) ∨ (0 < i ∧ (bt s i = 45 ∨ (48 ≤ bt s i ∧ bt s i ≤ 57))))) : byteOk s i = false := by
  rw [← Bool.not_eq_true]
  simp [byteOk, lowB, digB]; omega
def nameB (s : ByteArray) : Bool := decide (0 < s.size) && decide (s.size ≤ 24) && decide (∀ i, i < s.size → byteOk s i = true)

theorem nameB_of {s : ByteArray} (h0 : 0 < s.size) (h1 : s.size ≤ 24) (h : ∀ i, i < s.size → byteOk s i = true) : nameB s = true := by
  simp only [nameB, Bool.and_eq_true, decide_eq_true_eq]
  exact ⟨⟨h0, h1⟩, h⟩
theorem nameB_byte {s : ByteArray} {i : Nat} (hi : i < s.size) (h : byteOk s i = false) : nameB s = false := by
  cases hn : nameB s with
  | false => rfl
  | true =>
    simp only [nameB, Bool.and_eq_true, decide_eq_true_eq] at hn
    rw [hn.2 i hi] at h; cases h
theorem nameB_size {s : ByteArray} (h : ¬ (0 < s.size ∧ s.size ≤ 24)) : nameB s = false := by
  cases hn : nameB s with
  | false => rfl
  | true =>
    simp only [nameB, Bool.and_eq_true, decide_eq_true_eq] at hn
    exact absurd hn.1 h
theorem nameB_end {s : ByteArray} (h : ∀ i, i < s.size → byteOk s i = true) : nameB s = (decide (0 < s.size) && decide (s.size ≤ 24)) := by
  cases hb : (decide (0 < s.size) && decide (s.size ≤ 24)) with
  | true =>
    simp only [Bool.and_eq_true, decide_eq_true_eq] at hb
    exact nameB_of hb.1 hb.2 h
  | false =>
    refine nameB_size fun h2 => ?_
    rw [← Bool.not_eq_true] at hb
    exact hb (by simpa using h2)
theorem size_0 {s : ByteArray} : s.size = 0 ↔ s = ⟨#[]⟩ := by
  constructor
  · intro h
    apply ByteArray.ext
    apply Array.eq_empty_of_size_eq_zero
    exact h
  · intro h; subst h; rfl

section
variable (b : Bas)
def rowErr (i : Nat) : Int :=
  if highB (b.row i).level || outB (b.row i).vol 0 1000000000 then 7
  else if 0 < i ∧ ((b.row i).level ≤ (b.row (i - 1)).level ∨ (b.row i).vol ≤ (b.row (i - 1)).vol) then 2 else 0
def polErr (i : Nat) : Int :=
  if nameB (b.pol i).name = false then 6
  else if ∃ k, k < i ∧ (b.pol k).name = (b.pol i).name then 5
  else if outB (b.pol i).sill (b.row 0).level 20000 || (outB (b.pol i).take 0 10000 || outB (b.pol i).room 0 1000000000) then 7 else 0
/-- wide enough for a rate, between the rows before i and i. -/
def wideAt (rate : Int) (i : Nat) : Prop := rate * ((b.row (i + 1)).level - (b.row i).level) ≤ (b.row (i + 1)).vol - (b.row i).vol
def wide (rate : Int) : Prop := ∀ i, i + 1 < b.rows.length → wideAt b rate i
instance (rate : Int) (i : Nat) : Decidable (wideAt b rate i) := by unfold wideAt; infer_instance
/-- the greatest of Leak and the first k Takes. -/
def great : Nat → Int
  | 0 => b.leak
  | k + 1 => max (great k) (b.pol k).take
open Classical in
noncomputable def chk : Int × Int × Int :=
  if outB b.rows.length 2 12 then (1, 0, 3) else
  match firstN (rowErr b) b.rows.length with
  | some i => (1, i, rowErr b i)
  | none =>
    if outB b.leak 0 10000 || (outB b.over 0 10000 || highB b.crest) then (2, 0, 7) else
    if 6 < b.pols.length then (3, 0, 3) else
    match firstN (polErr b) b.pols.length with
    | some i => (3, i, polErr b i)
    | none => if wide b (great b b.pols.length) then (0, 0, 0) else (4, 0, 2)
noncomputable def chkE : Int := (chk b).2.2
end

/-- what a valid basin is. -/
structure Ok (b : Bas) : Prop where
  n2 : 2 ≤ b.rows.length
  n12 : b.rows.length ≤ 12
  level : ∀ i, i < b.rows.length → -20000 ≤ (b.row i).level ∧ (b.row i).level ≤ 20000
  vol : ∀ i, i < b.rows.length → 0 ≤ (b.row i).vol ∧ (b.row i).vol ≤ 1000000000
  levelUp : ∀ i, i + 1 < b.rows.length → (b.row i).level < (b.row (i + 1)).level
  volUp : ∀ i, i + 1 < b.rows.length → (b.row i).vol < (b.row (i + 1)).vol
  leak : 0 ≤ b.leak ∧ b.leak ≤ 10000
  over : 0 ≤ b.over ∧ b.over ≤ 10000
  crest : -20000 ≤ b.crest ∧ b.crest ≤ 20000
  m6 : b.pols.length ≤ 6
  name : ∀ i, i < b.pols.length → nameB (b.pol i).name = true
  names : ∀ i k, k < i → i < b.pols.length → (b.pol k).name ≠ (b.pol i).name
  sill : ∀ i, i < b.pols.length → (b.row 0).level ≤ (b.pol i).sill ∧ (b.pol i).sill ≤ 20000
  take : ∀ i, i < b.pols.length → 0 ≤ (b.pol i).take ∧ (b.pol i).take ≤ 10000
  room : ∀ i, i < b.pols.length → 0 ≤ (b.pol i).room ∧ (b.pol i).room ≤ 1000000000
  wide : wide b (great b b.pols.length)

theorem rowErr_0 {b : Bas} {i : Nat} (h : rowErr b i = 0) : (-20000 ≤ (b.row i).level ∧ (b.row i).level ≤ 20000) ∧ (0 ≤ (b.row i).vol ∧ (b.row i).vol ≤ 1000000000) ∧
    (0 < i → (b.row (i - 1)).level < (b.row i).level ∧ (b.row (i - 1)).vol < (b.row i).vol) := by
  unfold rowErr at h
  split at h
  · cases h
  · rename_i h1
    simp only [Bool.or_eq_true, not_or, Bool.not_eq_true] at h1
    split at h
    · cases h
    · rename_i h2
      refine ⟨outB_f.1 h1.1, outB_f.1 h1.2, fun hi => ?_⟩
      have : ¬ ((b.row i).level ≤ (b.row (i - 1)).level ∨ (b.row i).vol ≤ (b.row (i - 1)).vol) := fun h3 => h2 ⟨hi, h3⟩
      omega
theorem polErr_0 {b : Bas} {i : Nat} (h : polErr b i = 0) : nameB (b.pol i).name = true ∧ (∀ k, k < i → (b.pol k).name ≠ (b.pol i).name) ∧ ((b.row 0).level ≤ (b.pol i).sill ∧ (b.pol i).sill ≤ 20000) ∧
    (0 ≤ (b.pol i).take ∧ (b.pol i).take ≤ 10000) ∧ (0 ≤ (b.pol i).room ∧ (b.pol i).room ≤ 1000000000) := by
  unfold polErr at h
  split at h
  · cases h
  · rename_i h1
    split at h
    · cases h
    · rename_i h2
      split at h
      · cases h
      · rename_i h3
        simp only [Bool.or_eq_true, not_or, Bool.not_eq_true] at h3
        exact ⟨by simpa using h1, fun k hk e => h2 ⟨k, hk, e⟩, outB_f.1 h3.1, outB_f.1 h3.2.1, outB_f.1 h3.2.2⟩

/-- an error of 0: the basin is valid. -/
theorem ok_of {b : Bas} (h : chkE b = 0) : Ok b := by
  unfold chkE chk at h
  split at h
  · cases h
  · rename_i h1
    have h1 := outB_f.1 (by simpa using h1)
    split at h
    · rename_i i hi
      exfalso
      simp only at h
      have : ∀ n, firstN (rowErr b) n = some i → rowErr b i ≠ 0 := by
        intro n
        induction n with
        | zero => intro e; cases e
        | succ n ih =>
          intro e
          simp only [firstN] at e
          split at e
          · rename_i j hj; cases e; exact ih hj
          · split at e
            · cases e
            · rename_i hf; cases e; exact hf
      exact this _ hi h
    · rename_i hr
      have hr := firstN_none_iff hr
      split at h
      · cases h
      · rename_i h2
        simp only [Bool.or_eq_true, not_or, Bool.not_eq_true] at h2
        split at h
        · cases h
        · rename_i h3
          split at h
          · rename_i i hi
            exfalso
            simp only at h
            have : ∀ n, firstN (polErr b) n = some i → polErr b i ≠ 0 := by
              intro n
              induction n with
              | zero => intro e; cases e
              | succ n ih =>
                intro e
                simp only [firstN] at e
                split at e
                · rename_i j hj; cases e; exact ih hj
                · split at e
                  · cases e
                  · rename_i hf; cases e; exact hf
            exact this _ hi h
          · rename_i hp
            have hp := firstN_none_iff hp
            split at h
            · rename_i hw
              refine ⟨by omega, by omega, fun i hi => (rowErr_0 (hr i hi)).1, fun i hi => (rowErr_0 (hr i hi)).2.1, fun i hi => ((rowErr_0 (hr (i + 1) hi)).2.2 (by omega)).1, fun i hi => ((rowErr_0 (hr (i + 1) hi)).2.2 (by omega)).2,
                outB_f.1 h2.1, outB_f.1 h2.2.1, outB_f.1 h2.2.2, by omega, fun i hi => (polErr_0 (hp i hi)).1, fun i k hk hi => (polErr_0 (hp i hi)).2.1 k hk, fun i hi => (polErr_0 (hp i hi)).2.2.1,
                fun i hi => (polErr_0 (hp i hi)).2.2.2.1, fun i hi => (polErr_0 (hp i hi)).2.2.2.2, hw⟩
            · cases h
end Go.Proofs.Ytlfjdbilblfknaa.Bs
namespace Go.Proofs.Ytlfjdbilblfknaa.Bs
section
variable {b : Bas}
theorem chk_len (h : outB b.rows.length 2 12 = true) : chk b = (1, 0, 3) := by unfold chk; rw [if_pos h]
theorem chk_row {i : Nat} (h : outB b.rows.length 2 12 = false) (hi : i < b.rows.length) (h0 : ∀ j, j < i → rowErr b j = 0) {e : Int} (he : rowErr b i = e) (hne : e ≠ 0) : chk b = (1, (i : Int), e) := by
  unfold chk; rw [if_neg (by simp [h]), firstN_some hi h0 (by rw [he]; exact hne)]; simp only [he]
theorem chk_2 (h : outB b.rows.length 2 12 = false) (h0 : ∀ j, j < b.rows.length → rowErr b j = 0) (h1 : (outB b.leak 0 10000 || (outB b.over 0 10000 || highB b.crest)) = true) : chk b = (2, 0, 7) := by
  unfold chk; rw [if_neg (by simp [h]), firstN_none h0]; simp only; rw [if_pos h1]
theorem chk_3 (h : outB b.rows.length 2 12 = false) (h0 : ∀ j, j < b.rows.length → rowErr b j = 0) (h1 : (outB b.leak 0 10000 || (outB b.over 0 10000 || highB b.crest)) = false) (h2 : 6 < b.pols.length) : chk b = (3, 0, 3) := by
  unfold chk; rw [if_neg (by simp [h]), firstN_none h0]; simp only; rw [if_neg (by simp [h1]), if_pos h2]
theorem chk_pol {i : Nat} (h : outB b.rows.length 2 12 = false) (h0 : ∀ j, j < b.rows.length → rowErr b j = 0) (h1 : (outB b.leak 0 10000 || (outB b.over 0 10000 || highB b.crest)) = false) (h2 : ¬ 6 < b.pols.length)
    (hi : i < b.pols.length) (h3 : ∀ j, j < i → polErr b j = 0) {e : Int} (he : polErr b i = e) (hne : e ≠ 0) : chk b = (3, (i : Int), e) := by
  unfold chk; rw [if_neg (by simp [h]), firstN_none h0]; simp only; rw [if_neg (by simp [h1]), if_neg h2, firstN_some hi h3 (by rw [he]; exact hne)]; simp only [he]
theorem chk_4 (h : outB b.rows.length 2 12 = false) (h0 : ∀ j, j < b.rows.length → rowErr b j = 0) (h1 : (outB b.leak 0 10000 || (outB b.over 0 10000 || highB b.crest)) = false) (h2 : ¬ 6 < b.pols.length)
    (h3 : ∀ j, j < b.pols.length → polErr b j = 0) (hw : ¬ wide b (great b b.pols.length)) : chk b = (4, 0, 2) := by
  unfold chk; rw [if_neg (by simp [h]), firstN_none h0]; simp only; rw [if_neg (by simp [h1]), if_neg h2, firstN_none h3]; simp only; rw [if_neg hw]
theorem chk_0 (h : outB b.rows.length 2 12 = false) (h0 : ∀ j, j < b.rows.length → rowErr b j = 0) (h1 : (outB b.leak 0 10000 || (outB b.over 0 10000 || highB b.crest)) = false) (h2 : ¬ 6 < b.pols.length)
    (h3 : ∀ j, j < b.pols.length → polErr b j = 0) (hw : wide b (great b b.pols.length)) : chk b = (0, 0, 0) := by
  unfold chk; rw [if_neg (by simp [h]), firstN_none h0]; simp only; rw [if_neg (by simp [h1]), if_neg h2, firstN_none h3]; simp only; rw [if_pos hw]
theorem rowErr_7 {i : Nat} (h : highB (b.row i).level = true ∨ outB (b.row i).vol 0 1000000000 = true) : rowErr b i = 7 := by
  unfold rowErr; rw [if_pos (by simpa using h)]
theorem rowErr_2 {i : Nat} (h1 : highB (b.row i).level = false) (h2 : outB (b.row i).vol 0 1000000000 = false) (h : 0 < i ∧ ((b.row i).level ≤ (b.row (i - 1)).level ∨ (b.row i).vol ≤ (b.row (i - 1)).vol)) : rowErr b i = 2 := by
  unfold rowErr; rw [if_neg (by simp [h1, h2]), if_pos h]
theorem rowErr_n {i : Nat} (h1 : highB (b.row i).level = false) (h2 : outB (b.row i).vol 0 1000000000 = false) (h : ¬ (0 < i ∧ ((b.row i).level ≤ (b.row (i - 1)).level ∨ (b.row i).vol ≤ (b.row (i - 1)).vol))) : rowErr b i = 0 := by
  unfold rowErr; rw [if_neg (by simp [h1, h2]), if_neg h]
theorem polErr_6 {i : Nat} (h : nameB (b.pol i).name = false) : polErr b i = 6 := by unfold polErr; rw [if_pos h]
theorem polErr_5 {i : Nat} (h : nameB (b.pol i).name = true) (k : Nat) (hk : k < i) (h2 : (b.pol k).name = (b.pol i).name) : polErr b i = 5 := by
  unfold polErr; rw [if_neg (by simp [h]), if_pos ⟨k, hk, h2⟩]
theorem polErr_7 {i : Nat} (h : nameB (b.pol i).name = true) (h2 : ∀ k, k < i → (b.pol k).name ≠ (b.pol i).name)
    (h3 : (outB (b.pol i).sill (b.row 0).level 20000 || (outB (b.pol i).take 0 10000 || outB (b.pol i).room 0 1000000000)) = true) : polErr b i = 7 := by
  unfold polErr; rw [if_neg (by simp [h]), if_neg (fun ⟨k, hk, e⟩ => h2 k hk e), if_pos h3]
theorem polErr_n {i : Nat} (h : nameB (b.pol i).name = true) (h2 : ∀ k, k < i → (b.pol k).name ≠ (b.pol i).name)
    (h3 : (outB (b.pol i).sill (b.row 0).level 20000 || (outB (b.pol i).take 0 10000 || outB (b.pol i).room 0 1000000000)) = false) : polErr b i = 0 := by
  unfold polErr; rw [if_neg (by simp [h]), if_neg (fun ⟨k, hk, e⟩ => h2 k hk e), if_neg (by simp [h3])]
end
end Go.Proofs.Ytlfjdbilblfknaa.Bs
/-
  The walks of the small functions: out, in, high, level, Name (both texts).
-/
namespace Go.Proofs.Ytlfjdbilblfknaa.X
open Go Go.RowKit Go.Proofs.Ytlfjdbilblfknaa.Bs
set_option linter.unusedVariables false
theorem out_any (n lo hi : Int) (w : World) :
    Calls Try.prog 40 #[.int .i64 n, .int .i64 lo, .int .i64 hi] w fun e w' => e = .returned (.bool (outB n lo hi)) ∧ Below w.heap.size w w' := by
  refine enter Try.func40 rfl Try.ntmps40 rfl ?_; simp only [frame, Nat.zero_add, Nat.reduceAdd]
  repeat (any_goals (first | (refine M0 ?_; first | refine SL ?_ | refine SB fun _ _ => ?_ | (refine XL.split _ _ rfl (fun h => ?_) (fun h => ?_) <;> rw [h])) | (refine M1 ?_; first | refine SC ?_ | refine SD ?_ | refine XC.cond _ rfl (fun h => ?_) (fun h => ?_)) | (refine M2 ?_; refine SE ?_) | (refine M3 ?_; first | refine SG ?_ | refine SF ?_ | (refine Fw.split _ _ rfl (fun h => ?_) (fun h => ?_) <;> rw [h])) | (refine M4 ?_; refine SR ?_) | (refine M5 ?_; first | exact M7 | refine YM ?_ | refine YN ?_ ?_)))
  all_goals
    refine XE.ret1 Try.results40 rfl (fun w' S => ?_)
    exact ⟨by simp only [outB, h, Bool.true_or, Bool.false_or], S.toBelow⟩
theorem high_any (n : Int) (w : World) :
    Calls Try.prog 41 #[.int .i64 n] w fun e w' => e = .returned (.bool (highB n)) ∧ Below w.heap.size w w' := by
  refine enter Try.func41 rfl Try.ntmps41 rfl ?_; simp only [frame, Nat.zero_add, Nat.reduceAdd]
  repeat (any_goals (first | (refine M0 ?_; first | refine SL ?_ | refine SB fun _ _ => ?_ | (refine XL.split _ _ rfl (fun h => ?_) (fun h => ?_) <;> rw [h]) | refine Y4 (Ev.call (f := 40) (ck rfl) rfl (fun w _ => out_any _ _ _ w)) ?_) | (refine M1 ?_; first | refine SC ?_ | refine SD ?_ | refine XC.cond _ rfl (fun h => ?_) (fun h => ?_)) | (refine M2 ?_; refine SE ?_) | (refine M3 ?_; first | refine SG ?_ | refine SF ?_ | (refine Fw.split _ _ rfl (fun h => ?_) (fun h => ?_) <;> rw [h]) | refine YF (Ev.call (f := 40) (ck rfl) rfl (fun w _ => out_any _ _ _ w)) ?_) | (refine M4 ?_; refine SR ?_) | (refine M5 ?_; first | exact M7 | refine YM ?_ | refine YN ?_ ?_)))
  refine XE.ret1 Try.results41 rfl (fun w' S => ?_)
  exact ⟨rfl, S.toBelow⟩
set_option maxHeartbeats 4000000 in
theorem name_any (s : ByteArray) (hs : s.size ≤ 9223372036854775807) (w : World) :
    Calls Try.prog 27 #[.string s] w fun e w' => e = .returned (.bool (nameB s)) ∧ Below w.heap.size w w' := by
  refine enter Try.func27 rfl Try.ntmps27 rfl ?_; simp only [frame, Nat.zero_add, Nat.reduceAdd]
  repeat (any_goals (first | (refine M0 ?_; first | refine SL ?_ | refine SB fun _ _ => ?_ | (refine XL.split _ _ rfl (fun h => ?_) (fun h => ?_) <;> rw [h]) | refine Y4 (Ev.len_str Try.underlying9 rfl) ?_) | (refine M1 ?_; first | refine SC ?_ | refine SD ?_ | refine XC.cond _ rfl (fun h => ?_) (fun h => ?_)) | (refine M2 ?_; refine SE ?_) | (refine M3 ?_; first | refine SG ?_ | refine SF ?_ | (refine Fw.split _ _ rfl (fun h => ?_) (fun h => ?_) <;> rw [h]) | refine YF (Ev.len_str Try.underlying9 rfl) ?_) | (refine M4 ?_; refine SR ?_) | (refine M5 ?_; first | exact M7 | refine YM ?_ | refine YN ?_ ?_)))
  refine XC.loopk [0, 6] rfl (fun k : Nat => [(7, .int .i64 (k : Int))]) (fun _ => []) (fun _ => w) (fun k => k ≤ s.size ∧ ∀ i, i < k → byteOk s i = true) (fun k => s.size - k) 0 ⟨Nat.zero_le _, fun i hi => by omega⟩ (Sub.cons rfl Sub.nil) (fun _ h => h) ?_
  rintro k ⟨hk, hok⟩
  dsimp only [List.cons_append, List.nil_append]
  repeat (first | (refine M0 ?_; first | refine SL ?_ | refine SB fun _ _ => ?_) | (refine M1 ?_; first | refine SC ?_ | refine SD ?_) | (refine M2 ?_; refine SE ?_) | (refine M3 ?_; first | refine SG ?_ | refine SF ?_) | (refine M4 ?_; refine SR ?_) | (refine M5 ?_; first | exact M7 | refine YM ?_ | refine YN ?_ ?_))
  refine XC.cond _ rfl (fun h1 => ?_) (fun h1 => ?_)
  · have hlt : k < s.size := by simpa using h1
    repeat (any_goals (first | (refine M0 ?_; first | refine SL ?_ | refine SB fun _ _ => ?_ | (refine XL.split _ _ rfl (fun h => ?_) (fun h => ?_) <;> rw [h]) | refine Y4 (Ev.index_str (bt s k) Try.underlying9 rfl rfl hlt (bt_eq hlt)) ?_) | (refine M1 ?_; first | refine SC ?_ | refine SD ?_ | refine XC.cond _ rfl (fun h => ?_) (fun h => ?_)) | (refine M2 ?_; refine SE ?_) | (refine M3 ?_; first | refine SG ?_ | refine SF ?_ | (refine Fw.split _ _ rfl (fun h => ?_) (fun h => ?_) <;> rw [h]) | refine YF (Ev.index_str (bt s k) Try.underlying9 rfl rfl hlt (bt_eq hlt)) ?_) | (refine M4 ?_; refine SR ?_) | (refine M5 ?_; first | exact M7 | refine YM ?_ | refine YN ?_ ?_)))
    all_goals first
      | (refine XE.round (k + 1) ⟨hlt, fun i hi => ?_⟩ (by omega) ZZSUB (fun _ h => by first | exact h | exact h.pop (by assumption) | exact (h.pop (by assumption)).pop (by assumption) | exact ((h.pop (by assumption)).pop (by assumption)).pop (by assumption) | exact (((h.pop (by assumption)).pop (by assumption)).pop (by assumption)).pop (by assumption) | exact Sys.anchor (by assumption) h (by simp) (by simp))
         by_cases hik : i < k
         · exact hok i hik
         · obtain rfl : i = k := by omega
           exact byteOk_t (by simp only [decide_eq_true_eq, decide_eq_false_iff_not, Bool.not_eq_true', Bool.not_eq_false', Bool.not_not, Int.not_lt, Int.not_le, ne_eq, Decidable.not_not] at *; omega))
      | (refine XE.ret1 Try.results27 rfl (fun w' S => ?_)
         refine ⟨?_, S.toBelow⟩
         rw [nameB_byte hlt (byteOk_f (by simp only [decide_eq_true_eq, decide_eq_false_iff_not, Bool.not_eq_true', Bool.not_eq_false', Bool.not_not, Int.not_lt, Int.not_le, ne_eq, Decidable.not_not] at *; omega))])
  · have hge : k = s.size := by simp at h1; omega
    subst hge
    repeat (any_goals (first | (refine M0 ?_; first | refine SL ?_ | refine SB fun _ _ => ?_ | (refine XL.split _ _ rfl (fun h => ?_) (fun h => ?_) <;> rw [h]) | refine Y4 (Ev.len_str Try.underlying9 rfl) ?_ | refine Y4 (Ev.neq_str rfl rfl) ?_) | (refine M1 ?_; first | refine SC ?_ | refine SD ?_ | refine XC.cond _ rfl (fun h => ?_) (fun h => ?_)) | (refine M2 ?_; refine SE ?_) | (refine M3 ?_; first | refine SG ?_ | refine SF ?_ | (refine Fw.split _ _ rfl (fun h => ?_) (fun h => ?_) <;> rw [h]) | refine YF (Ev.len_str Try.underlying9 rfl) ?_ | refine YF (Ev.neq_str rfl rfl) ?_) | (refine M4 ?_; refine SR ?_) | (refine M5 ?_; first | exact M7 | refine YM ?_ | refine YN ?_ ?_)))
    all_goals
      refine XE.ret1 Try.results27 rfl (fun w' S => ?_)
      refine ⟨?_, S.toBelow⟩
      rw [nameB_end hok]
      congr 2
      simp only [Bool.not_eq_true', Bool.not_eq_false', decide_eq_true_eq, decide_eq_false_iff_not, ← size_0] at h
      rw [Bool.eq_iff_iff]
      simp only [Bool.and_eq_true, decide_eq_true_eq, Bool.false_eq_true, false_iff]
      omega
end Go.Proofs.Ytlfjdbilblfknaa.X
/-
  How a basin, a state, ticks and flows lie in memory.
-/
namespace Go.Proofs.Ytlfjdbilblfknaa.X
open Go Go.RowKit Go.Proofs.Ytlfjdbilblfknaa.Bs
set_option linter.unusedVariables false

structure BV where
  A : Option Addr
  n : Nat
  c : Nat
  A2 : Option Addr
  n2 : Nat
  c2 : Nat
def basC (p : BV) (b : Bas) : List Value := [.slice p.A p.n p.c, .int .i64 b.leak, .int .i64 b.crest, .int .i64 b.over, .slice p.A2 p.n2 p.c2]
def basV (p : BV) (b : Bas) : Value := .agg ⟨basC p b⟩
def rowC (r : Row) : List Value := [.int .i64 r.level, .int .i64 r.vol]
def polC (q : Pol) : List Value := [.string q.name, .int .i64 q.sill, .int .i64 q.take, .int .i64 q.room]
theorem rowC_len (r : Row) : (rowC r).length = 2 := rfl
theorem polC_len (q : Pol) : (polC q).length = 4 := rfl
structure BasAt (w : World) (B : Nat) (p : BV) (b : Bas) : Prop where
  rows : Reads w B 2 p.A p.n (b.rows.flatMap rowC)
  pols : Reads w B 4 p.A2 p.n2 (b.pols.flatMap polC)
  cap : p.n ≤ p.c
  len : p.n ≤ 9223372036854775807
  len2 : p.n2 ≤ 9223372036854775807
  names : ∀ q, q ∈ b.pols → q.name.size ≤ 9223372036854775807
section
variable {w w' w0 : World} {B B' : Nat} {p : BV} {b : Bas} {L : Lo}
theorem BasAt.below (h : BasAt w B p b) (hb : Below B w w') : BasAt w' B p b := ⟨h.rows.below hb, h.pols.below hb, h.cap, h.len, h.len2, h.names⟩
theorem BasAt.more (h : BasAt w B p b) (hB : B ≤ B') : BasAt w B' p b := ⟨h.rows.more hB, h.pols.more hB, h.cap, h.len, h.len2, h.names⟩
/-- where a walk stands: the basin as it was at the base world. -/
theorem BasAt.sys (h : BasAt w0 B p b) (S : Sys B w0 L w) : BasAt w w.heap.size p b := (h.below S.toBelow).more (Nat.le_trans S.base S.size)
theorem BasAt.n_eq (h : BasAt w B p b) : p.n = b.rows.length := (Reads.len rowC_len (by decide) h.rows).symm
theorem BasAt.n2_eq (h : BasAt w B p b) : p.n2 = b.pols.length := (Reads.len polC_len (by decide) h.pols).symm
theorem row_some {i : Nat} (h : i < b.rows.length) : b.rows[i]? = some (b.row i) := by
  unfold Bas.row
  rw [List.getElem?_eq_getElem h]; rfl
theorem pol_some {i : Nat} (h : i < b.pols.length) : b.pols[i]? = some (b.pol i) := by
  unfold Bas.pol
  rw [List.getElem?_eq_getElem h]; rfl
theorem BasAt.row {ad : Addr} {n c : Nat} {A2 : Option Addr} {n2 c2 : Nat} (h : BasAt w B ⟨some ad, n, c, A2, n2, c2⟩ b) {i : Nat} (hi : i < b.rows.length) :
    ∀ j v, (rowC (b.row i))[j]? = some v → w.cell? ((ad.add (i * 2)).add j) = some v :=
  fun j v hj => Reads.fld rowC_len h.rows (row_some hi) hj
theorem BasAt.rowLevel {ad : Addr} {n c : Nat} {A2 : Option Addr} {n2 c2 : Nat} (h : BasAt w B ⟨some ad, n, c, A2, n2, c2⟩ b) {i : Nat} (hi : i < b.rows.length) :
    w.cell? ((ad.add (i * 2)).add 0) = some (.int .i64 (b.row i).level) := h.row hi 0 _ rfl
theorem BasAt.rowVol {ad : Addr} {n c : Nat} {A2 : Option Addr} {n2 c2 : Nat} (h : BasAt w B ⟨some ad, n, c, A2, n2, c2⟩ b) {i : Nat} (hi : i < b.rows.length) :
    w.cell? ((ad.add (i * 2)).add 1) = some (.int .i64 (b.row i).vol) := h.row hi 1 _ rfl
theorem BasAt.pol {ad : Addr} {A : Option Addr} {n c n2 c2 : Nat} (h : BasAt w B ⟨A, n, c, some ad, n2, c2⟩ b) {i : Nat} (hi : i < b.pols.length) :
    ∀ j v, (polC (b.pol i))[j]? = some v → w.cell? ((ad.add (i * 4)).add j) = some v :=
  fun j v hj => Reads.fld polC_len h.pols (pol_some hi) hj
theorem BasAt.name (h : BasAt w B p b) {i : Nat} (hi : i < b.pols.length) : (b.pol i).name.size ≤ 9223372036854775807 := h.names _ (List.mem_of_getElem? (pol_some hi))
end
/-- the names of the first k polders, as the entries of a map. -/
def nameKV (b : Bas) : Nat → List (ByteArray × Value)
  | 0 => []
  | k + 1 => nameKV b k ++ [((b.pol k).name, .bool true)]
theorem findS_push (kvs : List (ByteArray × Value)) (k s : ByteArray) (v : Value) : findS (kvs ++ [(k, v)]) s = match findS kvs s with
    | some u => some u
    | none => if s = k then some v else none := by
  unfold findS
  rw [List.find?_append]
  cases h : kvs.find? fun e => decide (s = e.1) with
  | some u => simp
  | none => by_cases hs : s = k <;> simp [hs]
theorem findS_none {b : Bas} {s : ByteArray} : ∀ {k : Nat}, (∀ j, j < k → (b.pol j).name ≠ s) → findS (nameKV b k) s = none := by
  intro k
  induction k with
  | zero => intro _; rfl
  | succ k ih =>
    intro h
    rw [nameKV, findS_push, ih fun j hj => h j (by omega)]
    simp only
    rw [if_neg fun e => h k (by omega) e.symm]
theorem findS_some {b : Bas} {s : ByteArray} : ∀ {k : Nat}, (∃ j, j < k ∧ (b.pol j).name = s) → findS (nameKV b k) s = some (.bool true) := by
  intro k
  induction k with
  | zero => rintro ⟨j, hj, _⟩; omega
  | succ k ih =>
    rintro ⟨j, hj, e⟩
    rw [nameKV, findS_push]
    by_cases h : ∃ j, j < k ∧ (b.pol j).name = s
    · rw [ih h]
    · rw [findS_none fun i hi e2 => h ⟨i, hi, e2⟩]
      have : j = k := by
        rcases Nat.lt_or_ge j k with h1 | h1
        · exact absurd ⟨j, h1, e⟩ h
        · omega
      subst this
      simp [e]
def seenB (b : Bas) (k : Nat) (s : ByteArray) : Bool := (b.pols.take k).any fun q => decide (q.name = s)
open Classical in
theorem seen_iff {b : Bas} {k : Nat} {s : ByteArray} (hk : k ≤ b.pols.length) : seenB b k s = true ↔ ∃ j, j < k ∧ (b.pol j).name = s := by
  unfold seenB
  rw [List.any_eq_true]
  constructor
  · rintro ⟨q, hq, e⟩
    obtain ⟨j, hj, rfl⟩ := List.mem_iff_getElem.1 hq
    have hj' : j < k := by simp at hj; omega
    refine ⟨j, hj', ?_⟩
    have hl : j < b.pols.length := by omega
    rw [List.getElem_take] at e
    unfold Bas.pol
    rw [List.getElem?_eq_getElem hl]
    simpa using e
  · rintro ⟨j, hj, e⟩
    have hl : j < b.pols.length := by omega
    refine ⟨b.pol j, List.mem_iff_getElem.2 ⟨j, by simp; omega, ?_⟩, by simpa using e⟩
    rw [List.getElem_take]
    unfold Bas.pol
    rw [List.getElem?_eq_getElem hl]; rfl
theorem seen_look {b : Bas} {k : Nat} {s : ByteArray} (hk : k ≤ b.pols.length) : (findS (nameKV b k) s).getD (.bool false) = .bool (seenB b k s) := by
  by_cases h : ∃ j, j < k ∧ (b.pol j).name = s
  · rw [findS_some h, (seen_iff hk).2 h]; rfl
  · rw [findS_none fun j hj e => h ⟨j, hj, e⟩, Bool.eq_false_iff.2 fun e => h ((seen_iff hk).1 e)]; rfl
theorem BasAt.row1 {w : World} {B : Nat} {b : Bas} {ad : Addr} {n c : Nat} {A2 : Option Addr} {n2 c2 : Nat} (h : BasAt w B ⟨some ad, n, c, A2, n2, c2⟩ b) {i : Nat} (hi : i + 1 < b.rows.length) :
    ∀ j v, (rowC (b.row (i + 1)))[j]? = some v → w.cell? (((ad.add (1 * 2)).add (i * 2)).add j) = some v := fun j v hj => by
  have := h.row hi j v hj
  rwa [add_add ad, show 1 * 2 + i * 2 = (i + 1) * 2 from by omega]
theorem mul_in {x y X Y : Int} (hx : -X ≤ x ∧ x ≤ X) (hy : -Y ≤ y ∧ y ≤ Y) (h : X * Y ≤ 9223372036854775807) : i64in (x * y) := by
  have h1 : x.natAbs * y.natAbs ≤ X.toNat * Y.toNat := Nat.mul_le_mul (by omega) (by omega)
  rw [← Int.natAbs_mul] at h1
  have h2 : ((X.toNat * Y.toNat : Nat) : Int) = X * Y := by rw [Int.natCast_mul, Int.toNat_of_nonneg (by omega), Int.toNat_of_nonneg (by omega)]
  unfold i64in
  omega
theorem great_in {b : Bas} (h : 0 ≤ b.leak ∧ b.leak ≤ 10000) : ∀ k, (∀ j, j < k → 0 ≤ (b.pol j).take ∧ (b.pol j).take ≤ 10000) → 0 ≤ great b k ∧ great b k ≤ 10000 := by
  intro k
  induction k with
  | zero => intro _; exact h
  | succ k ih =>
    intro hk
    have h1 := ih fun j hj => hk j (by omega)
    have h2 := hk k (by omega)
    simp only [great]
    omega
end Go.Proofs.Ytlfjdbilblfknaa.X
/-
  The walk of basin.Check.
-/
namespace Go.Proofs.Ytlfjdbilblfknaa.X
open Go Go.RowKit Go.Proofs.Ytlfjdbilblfknaa.Bs
set_option linter.unusedVariables false
noncomputable def chkV (b : Bas) : Value := .tuple ⟨[.int .i64 (chk b).1, .int .i64 (chk b).2.1, .int .i64 (chk b).2.2]⟩
theorem chkV_of {b : Bas} {x y z : Int} (h : chk b = (x, y, z)) : Ending.returned (.tuple #[.int .i64 x, .int .i64 y, .int .i64 z]) = .returned (chkV b) := by unfold chkV; rw [h]
set_option maxHeartbeats 4000000 in
theorem check_any (p : BV) (b : Bas) (w : World) (hb : BasAt w w.heap.size p b) :
    Calls Try.prog 22 #[basV p b] w fun e w' => e = .returned (chkV b) ∧ Below w.heap.size w w' := by
  obtain ⟨A, n, c, A2, n2, c2⟩ := p
  have hn := hb.n_eq
  have hn2 := hb.n2_eq
  simp only at hn hn2
  subst hn hn2
  simp only [basV, basC]
  refine enter Try.func22 rfl Try.ntmps22 rfl ?_; simp only [frame, Nat.zero_add, Nat.reduceAdd]
  repeat (first | (refine M0 ?_; first | refine SL ?_ | refine SB fun _ _ => ?_ | refine Y4 (Ev.call (f := 40) (ck rfl) rfl (fun w _ => out_any _ _ _ w)) ?_) | (refine M1 ?_; first | refine SC ?_ | refine SD ?_) | (refine M2 ?_; refine SE ?_) | (refine M3 ?_; first | refine SG ?_ | refine SF ?_ | refine YF (Ev.call (f := 40) (ck rfl) rfl (fun w _ => out_any _ _ _ w)) ?_) | (refine M4 ?_; refine SR ?_) | (refine M5 ?_; first | exact M7 | refine YM ?_ | refine YN ?_ ?_))
  refine XC.cond _ rfl (fun h0 => ?_) (fun h0 => ?_)
  · repeat (first | (refine M0 ?_; first | refine SL ?_ | refine SB fun _ _ => ?_) | (refine M1 ?_; first | refine SC ?_ | refine SD ?_) | (refine M2 ?_; refine SE ?_) | (refine M3 ?_; first | refine SG ?_ | refine SF ?_) | (refine M4 ?_; refine SR ?_) | (refine M5 ?_; first | exact M7 | refine YM ?_ | refine YN ?_ ?_))
    refine XE.ret3 Try.results22 rfl rfl rfl (fun w' S => ?_)
    exact ⟨chkV_of (chk_len h0), S.toBelow⟩
  have hlen := outB_f.1 h0
  obtain ⟨ad, rfl, hlt⟩ := hb.rows.addr (by simp only; omega)
  repeat (first | (refine M0 ?_; first | refine SL ?_ | refine SB fun _ _ => ?_) | (refine M1 ?_; first | refine SC ?_ | refine SD ?_) | (refine M2 ?_; refine SE ?_) | (refine M3 ?_; first | refine SG ?_ | refine SF ?_) | (refine M4 ?_; refine SR ?_) | (refine M5 ?_; first | exact M7 | refine YM ?_ | refine YN ?_ ?_))
  rename_i g0 hg0
  refine XC.loopk [1, 19, 20] rfl (fun k : Nat => [(21, .int .i64 (k : Int))]) (fun _ => _) (fun _ => w) (fun k => k ≤ b.rows.length ∧ ∀ j, j < k → rowErr b j = 0) (fun k => b.rows.length - k) 0 ⟨Nat.zero_le _, fun i hi => by omega⟩ ZZSUB (fun _ h => h) ?_
  rintro k ⟨hk, hok⟩
  dsimp only [List.cons_append, List.nil_append]
  repeat (first | (refine M0 ?_; first | refine SL ?_ | refine SB fun _ _ => ?_) | (refine M1 ?_; first | refine SC ?_ | refine SD ?_) | (refine M2 ?_; refine SE ?_) | (refine M3 ?_; first | refine SG ?_ | refine SF ?_) | (refine M4 ?_; refine SR ?_) | (refine M5 ?_; first | exact M7 | refine YM ?_ | refine YN ?_ ?_))
  refine XC.cond _ rfl (fun h1 => ?_) (fun h1 => ?_)
  · have hlk : k < b.rows.length := by simpa using h1
    have hk1 : 0 < k → w.cell? ((ad.add (((k : Int) - 1).toNat * 2)).add 0) = some (.int .i64 (b.row (k - 1)).level) ∧ w.cell? ((ad.add (((k : Int) - 1).toNat * 2)).add 1) = some (.int .i64 (b.row (k - 1)).vol) := fun h => by
      have e1 : ((k : Int) - 1).toNat = k - 1 := by omega
      rw [e1]
      exact ⟨hb.rowLevel (by omega), hb.rowVol (by omega)⟩
    repeat (any_goals (first | (refine M0 ?_; first | refine SL ?_ | refine SB fun _ _ => ?_ | (refine XL.split _ _ rfl (fun h => ?_) (fun h => ?_) <;> rw [h]) | refine Y4 (Ev.load_old_agg tok (rowC (b.row k)) rfl rfl rfl (add_lt hlt) (hb.row hlk)) ?_ | refine Y4 (Ev.call (f := 40) (ck rfl) rfl (fun w _ => out_any _ _ _ w)) ?_ | refine Y4 (Ev.call (f := 41) (ck rfl) rfl (fun w _ => high_any _ w)) ?_ | refine Y4 (Ev.load_old tok rfl rfl (add_lt2 hlt) (hk1 (by simp only [decide_eq_true_eq] at *; omega)).1) ?_ | refine Y4 (Ev.load_old tok rfl rfl (add_lt2 hlt) (hk1 (by simp only [decide_eq_true_eq] at *; omega)).2) ?_) | (refine M1 ?_; first | refine SC ?_ | refine SD ?_ | refine XC.cond _ rfl (fun h => ?_) (fun h => ?_)) | (refine M2 ?_; refine SE ?_) | (refine M3 ?_; first | refine SG ?_ | refine SF ?_ | (refine Fw.split _ _ rfl (fun h => ?_) (fun h => ?_) <;> rw [h]) | refine YF (Ev.load_old_agg tok (rowC (b.row k)) rfl rfl rfl (add_lt hlt) (hb.row hlk)) ?_ | refine YF (Ev.call (f := 40) (ck rfl) rfl (fun w _ => out_any _ _ _ w)) ?_ | refine YF (Ev.call (f := 41) (ck rfl) rfl (fun w _ => high_any _ w)) ?_ | refine YF (Ev.load_old tok rfl rfl (add_lt2 hlt) (hk1 (by simp only [decide_eq_true_eq] at *; omega)).1) ?_ | refine YF (Ev.load_old tok rfl rfl (add_lt2 hlt) (hk1 (by simp only [decide_eq_true_eq] at *; omega)).2) ?_) | (refine M4 ?_; refine SR ?_) | (refine M5 ?_; first | exact M7 | refine YM ?_ | refine YN ?_ ?_)))
    all_goals first
      | (refine XE.round (k + 1) ⟨hlk, fun j hj => ?_⟩ (by omega) ZZSUB (fun _ h => by first | exact h | exact h.pop (by assumption) | exact (h.pop (by assumption)).pop (by assumption) | exact ((h.pop (by assumption)).pop (by assumption)).pop (by assumption) | exact (((h.pop (by assumption)).pop (by assumption)).pop (by assumption)).pop (by assumption) | exact Sys.anchor (by assumption) h (by simp) (by simp))
         rcases Nat.lt_succ_iff_lt_or_eq.1 hj with hj | rfl
         · exact hok j hj
         · exact rowErr_n (by assumption) (by assumption) (by simp only [decide_eq_true_eq, decide_eq_false_iff_not, Bool.not_eq_true', Bool.not_eq_false', Bool.not_not, Int.not_lt, Int.not_le, ne_eq, Decidable.not_not] at *; omega))
      | (refine XE.ret3 Try.results22 rfl rfl rfl (fun w' S => ?_)
         refine ⟨chkV_of (chk_row h0 hlk hok ?_ (by decide)), S.toBelow⟩
         first
           | exact rowErr_7 (.inl (by assumption))
           | exact rowErr_7 (.inr (by assumption))
           | exact rowErr_2 (by assumption) (by assumption) (by simp only [decide_eq_true_eq, decide_eq_false_iff_not, Bool.not_eq_true', Bool.not_eq_false', Bool.not_not, Int.not_lt, Int.not_le, ne_eq, Decidable.not_not] at *; omega))
  have hge : k = b.rows.length := by simp at h1; omega
  subst hge
  repeat (any_goals (first | (refine M0 ?_; first | refine SL ?_ | refine SB fun _ _ => ?_ | (refine XL.split _ _ rfl (fun h => ?_) (fun h => ?_) <;> rw [h]) | refine Y4 (Ev.call (f := 40) (ck rfl) rfl (fun w _ => out_any _ _ _ w)) ?_ | refine Y4 (Ev.call (f := 41) (ck rfl) rfl (fun w _ => high_any _ w)) ?_) | (refine M1 ?_; first | refine SC ?_ | refine SD ?_ | refine XC.cond _ rfl (fun h => ?_) (fun h => ?_)) | (refine M2 ?_; refine SE ?_) | (refine M3 ?_; first | refine SG ?_ | refine SF ?_ | (refine Fw.split _ _ rfl (fun h => ?_) (fun h => ?_) <;> rw [h]) | refine YF (Ev.call (f := 40) (ck rfl) rfl (fun w _ => out_any _ _ _ w)) ?_ | refine YF (Ev.call (f := 41) (ck rfl) rfl (fun w _ => high_any _ w)) ?_) | (refine M4 ?_; refine SR ?_) | (refine M5 ?_; first | exact M7 | refine YM ?_ | refine YN ?_ ?_)))
  all_goals try (refine XE.ret3 Try.results22 rfl rfl rfl (fun w' S => ?_)
                 refine ⟨chkV_of ?_, S.toBelow⟩
                 first
                   | exact chk_2 h0 hok (by simp [*])
                   | exact chk_3 h0 hok (by simp [*]) (by have h6 := ‹decide (6 < (b.pols.length : Int)) = true›; simp only [decide_eq_true_eq] at h6; omega))
  have hc1 : (outB b.leak 0 10000 || (outB b.over 0 10000 || highB b.crest)) = false := by simp [*]
  have hlk := outB_f.1 ‹outB b.leak 0 10000 = false›
  have h6 : ¬ 6 < b.pols.length := by rename_i h; simp only [decide_eq_false_iff_not] at h; omega
  refine XL.makeMap rfl fun gm hgm => ?_
  repeat (first | (refine M0 ?_; first | refine SL ?_ | refine SB fun _ _ => ?_) | (refine M1 ?_; first | refine SC ?_ | refine SD ?_) | (refine M2 ?_; refine SE ?_) | (refine M3 ?_; first | refine SG ?_ | refine SF ?_) | (refine M4 ?_; refine SR ?_) | (refine M5 ?_; first | exact M7 | refine YM ?_ | refine YN ?_ ?_))
  have hrow := fun j (hj : j < b.rows.length) => rowErr_0 (hok j hj)
  have hmap := Try.underlying116
  have hstr := Try.underlying9
  refine XC.loopk [1, 7, 88, 89] rfl (fun k : Nat => [(8, .int .i64 (great b k)), (90, .int .i64 (k : Int))]) (fun k => [(gm, mapS (nameKV b k)), _]) (fun _ => w) (fun k => k ≤ b.pols.length ∧ ∀ j, j < k → polErr b j = 0) (fun k => b.pols.length - k) 0 ⟨Nat.zero_le _, fun i hi => by omega⟩ ZZSUB (fun _ h => h) ?_
  rintro k ⟨hk, hpk⟩
  dsimp only [List.cons_append, List.nil_append]
  repeat (first | (refine M0 ?_; first | refine SL ?_ | refine SB fun _ _ => ?_) | (refine M1 ?_; first | refine SC ?_ | refine SD ?_) | (refine M2 ?_; refine SE ?_) | (refine M3 ?_; first | refine SG ?_ | refine SF ?_) | (refine M4 ?_; refine SR ?_) | (refine M5 ?_; first | exact M7 | refine YM ?_ | refine YN ?_ ?_))
  refine XC.cond _ rfl (fun h1 => ?_) (fun h1 => ?_)
  · have hkm : k < b.pols.length := by simpa using h1
    obtain ⟨ad2, rfl, hlt2⟩ := hb.pols.addr (by simp only; omega)
    repeat (any_goals (first | (refine M0 ?_; first | refine SL ?_ | refine SB fun _ _ => ?_ | (refine XL.split _ _ rfl (fun h => ?_) (fun h => ?_) <;> rw [h]) | refine Y4 (Ev.load_old_agg tok (polC (b.pol k)) rfl rfl rfl (add_lt hlt2) (hb.pol hkm)) ?_ | refine Y4 (Ev.call (f := 27) (ck rfl) rfl (fun w _ => name_any _ (hb.name hkm) w)) ?_ | refine Y4 (Ev.call (f := 40) (ck rfl) rfl (fun w _ => out_any _ _ _ w)) ?_ | refine Y4 (Ev.load_old tok rfl rfl (add_lt2 hlt) (hb.rowLevel (i := 0) (by omega))) ?_ | refine Y4 (Ev.lookupV tok 1 (nameKV b k) rfl rfl rfl hmap hstr rfl (seen_look hk)) ?_) | (refine M1 ?_; first | refine SC ?_ | refine SD ?_ | refine XC.cond _ rfl (fun h => ?_) (fun h => ?_)) | (refine M2 ?_; refine SE ?_) | (refine M3 ?_; first | refine SG ?_ | refine SF ?_ | (refine Fw.split _ _ rfl (fun h => ?_) (fun h => ?_) <;> rw [h]) | refine YF (Ev.load_old_agg tok (polC (b.pol k)) rfl rfl rfl (add_lt hlt2) (hb.pol hkm)) ?_ | refine YF (Ev.call (f := 27) (ck rfl) rfl (fun w _ => name_any _ (hb.name hkm) w)) ?_ | refine YF (Ev.call (f := 40) (ck rfl) rfl (fun w _ => out_any _ _ _ w)) ?_ | refine YF (Ev.load_old tok rfl rfl (add_lt2 hlt) (hb.rowLevel (i := 0) (by omega))) ?_ | refine YF (Ev.lookupV tok 1 (nameKV b k) rfl rfl rfl hmap hstr rfl (seen_look hk)) ?_) | (refine M4 ?_; refine SR ?_) | (refine M5 ?_; first | exact M7 | refine YM ?_ | refine YN ?_ ?_)))
    all_goals try (refine XE.ret3 Try.results22 rfl rfl rfl (fun w' S => ?_)
                   refine ⟨chkV_of (chk_pol h0 hok hc1 h6 hkm hpk ?_ (by decide)), S.toBelow⟩)
    · exact polErr_6 (by simpa using h)
    · rename_i h2
      obtain ⟨j, hj, e⟩ := (seen_iff hk).1 h
      exact polErr_5 (by simpa using h2) j hj e
    · rename_i h2 h3
      exact polErr_7 (by simpa using h2) (fun j hj e => by rw [(seen_iff hk).2 ⟨j, hj, e⟩] at h3; cases h3) (by simp [h])
    · rename_i h2 h3 _
      exact polErr_7 (by simpa using h2) (fun j hj e => by rw [(seen_iff hk).2 ⟨j, hj, e⟩] at h3; cases h3) (by simp [h])
    · rename_i h2 h3 _ _
      exact polErr_7 (by simpa using h2) (fun j hj e => by rw [(seen_iff hk).2 ⟨j, hj, e⟩] at h3; cases h3) (by simp [h])
    rename_i hx1 hx2 hx3 hx4
    have hfr : ∀ j, j < k → (b.pol j).name ≠ (b.pol k).name := fun j hj e => by
      have := (seen_iff hk).2 ⟨j, hj, e⟩
      rw [this] at hx2; cases hx2
    refine XL.updateS 1 (nameKV b k) rfl rfl rfl rfl hmap hstr (findS_none hfr) rfl ?_
    repeat (first | (refine M0 ?_; first | refine SL ?_ | refine SB fun _ _ => ?_) | (refine M1 ?_; first | refine SC ?_ | refine SD ?_) | (refine M2 ?_; refine SE ?_) | (refine M3 ?_; first | refine SG ?_ | refine SF ?_) | (refine M4 ?_; refine SR ?_) | (refine M5 ?_; first | exact M7 | refine YM ?_ | refine YN ?_ ?_))
    refine XE.round (k + 1) ⟨hkm, fun j hj => ?_⟩ (by omega) ZZSUB (fun _ h => by first | exact h | exact h.pop (by assumption) | exact (h.pop (by assumption)).pop (by assumption) | exact ((h.pop (by assumption)).pop (by assumption)).pop (by assumption) | exact (((h.pop (by assumption)).pop (by assumption)).pop (by assumption)).pop (by assumption) | exact Sys.anchor (by assumption) h (by simp) (by simp))
    rcases Nat.lt_succ_iff_lt_or_eq.1 hj with hj | rfl
    · exact hpk j hj
    · exact polErr_n (by simpa using hx1) hfr (by simp [hx3, hx4, h])
  have hge : k = b.pols.length := by simp at h1; omega
  subst hge
  have hpol := fun j (hj : j < b.pols.length) => polErr_0 (hpk j hj)
  have hgr := great_in hlk b.pols.length fun j hj => (hpol j hj).2.2.2.1
  refine XC.keep [1, 8] rfl ?_
  repeat (first | (refine M0 ?_; first | refine SL ?_ | refine SB fun _ _ => ?_ | refine Y4 (Ev.slice_lo tok 1 rfl rfl rfl rfl (by omega) (by have := hb.cap; simp only at this; omega)) ?_) | (refine M1 ?_; first | refine SC ?_ | refine SD ?_) | (refine M2 ?_; refine SE ?_) | (refine M3 ?_; first | refine SG ?_ | refine SF ?_ | refine YF (Ev.slice_lo tok 1 rfl rfl rfl rfl (by omega) (by have := hb.cap; simp only at this; omega)) ?_) | (refine M4 ?_; refine SR ?_) | (refine M5 ?_; first | exact M7 | refine YM ?_ | refine YN ?_ ?_))
  refine XC.loopk [1, 8, 137, 138] rfl (fun k : Nat => [(139, .int .i64 (k : Int))]) (fun k => _) (fun _ => w) (fun k => k ≤ b.rows.length - 1 ∧ ∀ j, j < k → wideAt b (great b b.pols.length) j) (fun k => b.rows.length - 1 - k) 0 ⟨Nat.zero_le _, fun i hi => by omega⟩ ZZSUB (fun _ h => h) ?_
  rintro k ⟨hk, hwk⟩
  dsimp only [List.cons_append, List.nil_append]
  repeat (first | (refine M0 ?_; first | refine SL ?_ | refine SB fun _ _ => ?_) | (refine M1 ?_; first | refine SC ?_ | refine SD ?_) | (refine M2 ?_; refine SE ?_) | (refine M3 ?_; first | refine SG ?_ | refine SF ?_) | (refine M4 ?_; refine SR ?_) | (refine M5 ?_; first | exact M7 | refine YM ?_ | refine YN ?_ ?_))
  refine XC.cond _ rfl (fun h1 => ?_) (fun h1 => ?_)
  · have hkn : k + 1 < b.rows.length := by simp only [decide_eq_true_eq] at h1; omega
    have r1 := hrow k (by omega)
    have r2 := hrow (k + 1) hkn
    have hm := mul_in (x := great b b.pols.length) (y := (b.row (k + 1)).level - (b.row k).level) (X := 10000) (Y := 40000) (by omega) (by omega) (by omega)
    repeat (any_goals (first | (refine M0 ?_; first | refine SL ?_ | refine SB fun _ _ => ?_ | (refine XL.split _ _ rfl (fun h => ?_) (fun h => ?_) <;> rw [h]) | refine Y4 (Ev.load_old_agg tok (rowC (b.row (k + 1))) rfl rfl rfl (add_lt2 hlt) (hb.row1 hkn)) ?_ | refine Y4 (Ev.load_old_agg tok (rowC (b.row k)) rfl rfl rfl (add_lt hlt) (hb.row (by omega))) ?_) | (refine M1 ?_; first | refine SC ?_ | refine SD ?_ | refine XC.cond _ rfl (fun h => ?_) (fun h => ?_)) | (refine M2 ?_; refine SE ?_) | (refine M3 ?_; first | refine SG ?_ | refine SF ?_ | (refine Fw.split _ _ rfl (fun h => ?_) (fun h => ?_) <;> rw [h]) | refine YF (Ev.load_old_agg tok (rowC (b.row (k + 1))) rfl rfl rfl (add_lt2 hlt) (hb.row1 hkn)) ?_ | refine YF (Ev.load_old_agg tok (rowC (b.row k)) rfl rfl rfl (add_lt hlt) (hb.row (by omega))) ?_) | (refine M4 ?_; refine SR ?_) | (refine M5 ?_; first | exact M7 | refine YM ?_ | refine YN ?_ ?_)))
    · refine XE.ret3 Try.results22 rfl rfl rfl (fun w' S => ?_)
      refine ⟨chkV_of (chk_4 h0 hok hc1 h6 hpk fun hw => ?_), S.toBelow⟩
      have := hw k hkn
      unfold wideAt at this
      rename_i h
      simp only [decide_eq_true_eq] at h
      omega
    · refine XE.round (k + 1) ⟨by omega, fun j hj => ?_⟩ (by omega) ZZSUB (fun _ h => by first | exact h | exact h.pop (by assumption) | exact (h.pop (by assumption)).pop (by assumption) | exact ((h.pop (by assumption)).pop (by assumption)).pop (by assumption) | exact (((h.pop (by assumption)).pop (by assumption)).pop (by assumption)).pop (by assumption) | exact Sys.anchor (by assumption) h (by simp) (by simp))
      rcases Nat.lt_succ_iff_lt_or_eq.1 hj with hj | rfl
      · exact hwk j hj
      · rename_i h _
        simp only [decide_eq_false_iff_not] at h
        unfold wideAt
        omega
  · have hge : k = b.rows.length - 1 := by simp only [decide_eq_false_iff_not] at h1; omega
    subst hge
    repeat (first | (refine M0 ?_; first | refine SL ?_ | refine SB fun _ _ => ?_) | (refine M1 ?_; first | refine SC ?_ | refine SD ?_) | (refine M2 ?_; refine SE ?_) | (refine M3 ?_; first | refine SG ?_ | refine SF ?_) | (refine M4 ?_; refine SR ?_) | (refine M5 ?_; first | exact M7 | refine YM ?_ | refine YN ?_ ?_))
    refine XE.ret3 Try.results22 rfl rfl rfl (fun w' S => ?_)
    exact ⟨chkV_of (chk_0 h0 hok hc1 h6 hpk fun j hj => hwk j (by omega)), S.toBelow⟩
end Go.Proofs.Ytlfjdbilblfknaa.X
/-
  The plain words of layer 4: the piece of the table in which a volume lies, and its exact level.
-/
namespace Go.Proofs.Ytlfjdbilblfknaa.Bs
set_option linter.unusedVariables false

/-- the rows are in order. -/
structure RowsOk (b : Bas) : Prop where
  n2 : 2 ≤ b.rows.length
  n12 : b.rows.length ≤ 12
  level : ∀ i, i < b.rows.length → -20000 ≤ (b.row i).level ∧ (b.row i).level ≤ 20000
  vol : ∀ i, i < b.rows.length → 0 ≤ (b.row i).vol ∧ (b.row i).vol ≤ 1000000000
  levelUp : ∀ i, i + 1 < b.rows.length → (b.row i).level < (b.row (i + 1)).level
  volUp : ∀ i, i + 1 < b.rows.length → (b.row i).vol < (b.row (i + 1)).vol
theorem Ok.rowsOk {b : Bas} (h : Ok b) : RowsOk b := ⟨h.n2, h.n12, h.level, h.vol, h.levelUp, h.volUp⟩
theorem RowsOk.lt {b : Bas} (h : RowsOk b) {i : Nat} : ∀ {j : Nat}, i < j → j < b.rows.length → (b.row i).vol < (b.row j).vol ∧ (b.row i).level < (b.row j).level := by
  intro j
  induction j with
  | zero => intro h; omega
  | succ j ih =>
    intro hij hj
    have h1 := h.volUp j hj
    have h2 := h.levelUp j hj
    by_cases e : i = j
    · subst e; exact ⟨h1, h2⟩
    · have := ih (by omega) (by omega); omega
/-- how many rows lie below a volume. -/
def cntTo (b : Bas) (v : Int) : Nat → Nat
  | 0 => 0
  | k + 1 => if (b.row k).vol < v then k + 1 else cntTo b v k
theorem cntTo_eq {b : Bas} {v : Int} {i : Nat} : ∀ {n : Nat}, i ≤ n → (∀ j, j < i → (b.row j).vol < v) → (∀ j, i ≤ j → j < n → v ≤ (b.row j).vol) → cntTo b v n = i := by
  intro n
  induction n with
  | zero => intro h _ _; simp [cntTo]; omega
  | succ n ih =>
    intro h h1 h2
    unfold cntTo
    by_cases e : i = n + 1
    · rw [if_pos (h1 n (by omega))]; omega
    · have := h2 n (by omega) (by omega)
      rw [if_neg (by omega)]
      exact ih (by omega) h1 fun j hj hjn => h2 j hj (by omega)
theorem cntTo_spec {b : Bas} (h : RowsOk b) {v : Int} : ∀ {n : Nat}, n ≤ b.rows.length → cntTo b v n ≤ n ∧ (∀ j, j < cntTo b v n → (b.row j).vol < v) ∧ (∀ j, cntTo b v n ≤ j → j < n → v ≤ (b.row j).vol) := by
  intro n
  induction n with
  | zero => intro _; exact ⟨Nat.le_refl _, fun j hj => by simp [cntTo] at hj, fun j _ hj => by omega⟩
  | succ n ih =>
    intro hn
    unfold cntTo
    by_cases hc : (b.row n).vol < v
    · rw [if_pos hc]
      refine ⟨Nat.le_refl _, fun j hj => ?_, fun j h1 h2 => by omega⟩
      by_cases e : j = n
      · subst e; exact hc
      · have := (h.lt (i := j) (j := n) (by omega) (by omega)).1; omega
    · rw [if_neg hc]
      obtain ⟨h1, h2, h3⟩ := ih (by omega)
      refine ⟨by omega, h2, fun j h4 h5 => ?_⟩
      by_cases e : j = n
      · subst e; omega
      · exact h3 j h4 (by omega)
/-- the piece, as the document looks for it. -/
def segTo (b : Bas) (v : Int) : Nat → Nat
  | 0 => 0
  | k + 1 => if (b.row (k + 1)).vol ≤ v then k + 1 else segTo b v k
def seg (b : Bas) (v : Int) : Nat := segTo b v (b.rows.length - 2)
theorem segTo_eq {b : Bas} {v : Int} {s : Nat} : ∀ {n : Nat}, s ≤ n → (s = 0 ∨ (b.row s).vol ≤ v) → (∀ j, s < j → j ≤ n → v < (b.row j).vol) → segTo b v n = s := by
  intro n
  induction n with
  | zero => intro h _ _; simp [segTo]; omega
  | succ n ih =>
    intro h h1 h2
    unfold segTo
    by_cases e : s = n + 1
    · have : (b.row (n + 1)).vol ≤ v := by
        rcases h1 with h1 | h1
        · omega
        · rw [← e]; exact h1
      rw [if_pos this]; omega
    · have := h2 (n + 1) (by omega) (by omega)
      rw [if_neg (by omega)]
      exact ih (by omega) h1 fun j hj hjn => h2 j hj (by omega)
theorem segTo_spec {b : Bas} {v : Int} : ∀ (n : Nat), segTo b v n ≤ n ∧ (segTo b v n = 0 ∨ (b.row (segTo b v n)).vol ≤ v) ∧ (∀ j, segTo b v n < j → j ≤ n → v < (b.row j).vol) := by
  intro n
  induction n with
  | zero => exact ⟨by simp [segTo], .inl rfl, fun j h1 h2 => by omega⟩
  | succ n ih =>
    unfold segTo
    by_cases h : (b.row (n + 1)).vol ≤ v
    · rw [if_pos h]; exact ⟨by omega, .inr h, fun j h1 h2 => by omega⟩
    · rw [if_neg h]
      refine ⟨by omega, ih.2.1, fun j h1 h2 => ?_⟩
      by_cases e : j = n + 1
      · subst e; omega
      · exact ih.2.2 j h1 (by omega)
theorem seg_lt {b : Bas} (h : RowsOk b) (v : Int) : seg b v + 1 < b.rows.length := by
  have := (segTo_spec (b := b) (v := v) (b.rows.length - 2)).1
  have := h.n2
  unfold seg; omega
/-- the exact level is num / den. -/
def den (b : Bas) (v : Int) : Int := (b.row (seg b v + 1)).vol - (b.row (seg b v)).vol
def num (b : Bas) (v : Int) : Int := (b.row (seg b v)).level * den b v + (v - (b.row (seg b v)).vol) * ((b.row (seg b v + 1)).level - (b.row (seg b v)).level)
theorem den_pos {b : Bas} (h : RowsOk b) (v : Int) : 1 ≤ den b v ∧ den b v ≤ 1000000000 := by
  have h1 := h.volUp _ (seg_lt h v)
  have h2 := h.vol _ (seg_lt h v)
  have h3 := h.vol (seg b v) (by have := seg_lt h v; omega)
  unfold den; omega
/-- what BinarySearchFunc's answer comes to. -/
theorem seg_of_cnt {b : Bas} (h : RowsOk b) {v : Int} (hv : (b.row 0).vol ≤ v) {i : Nat} (hi : i ≤ b.rows.length) (h1 : ∀ j, j < i → (b.row j).vol < v) (h2 : ∀ j, i ≤ j → j < b.rows.length → v ≤ (b.row j).vol) :
    min (if i < b.rows.length ∧ (b.row i).vol = v then i else i - 1) (b.rows.length - 2) = seg b v ∧ (¬ (i < b.rows.length ∧ (b.row i).vol = v) → 1 ≤ i) := by
  have hn := h.n2
  have hi0 : ¬ (i < b.rows.length ∧ (b.row i).vol = v) → 1 ≤ i := by
    intro hne
    rcases Nat.eq_zero_or_pos i with h0 | h0
    · subst h0
      have := h2 0 (by omega) (by omega)
      exact absurd ⟨by omega, by omega⟩ hne
    · exact h0
  refine ⟨?_, hi0⟩
  symm
  unfold seg
  by_cases he : i < b.rows.length ∧ (b.row i).vol = v
  · rw [if_pos he]
    refine segTo_eq (by omega) ?_ fun j hj hjn => ?_
    · by_cases hm : i ≤ b.rows.length - 2
      · rw [Nat.min_eq_left hm]; exact .inr (by omega)
      · rw [Nat.min_eq_right (by omega)]; exact .inr (by have := (h.lt (i := b.rows.length - 2) (j := i) (by omega) he.1).1; omega)
    · have := (h.lt (i := i) (j := j) (by omega) (by omega)).1; omega
  · rw [if_neg he]
    have h0 := hi0 he
    refine segTo_eq (by omega) ?_ fun j hj hjn => ?_
    · by_cases hm : i - 1 ≤ b.rows.length - 2
      · rw [Nat.min_eq_left hm]; exact .inr (by have := h1 (i - 1) (by omega); omega)
      · rw [Nat.min_eq_right (by omega)]; exact .inr (by have := h1 (b.rows.length - 2) (by omega); omega)
    · have h3 := h2 j (by omega) (by omega)
      by_cases e : (b.row j).vol = v
      · by_cases e2 : j = i
        · subst e2; exact absurd ⟨by omega, e⟩ he
        · have := (h.lt (i := i) (j := j) (by omega) (by omega)).1
          have := h2 i (by omega) (by omega)
          omega
      · omega
end Go.Proofs.Ytlfjdbilblfknaa.Bs
/-
  The walks of the document's Check, and of what returns its error alone (good, valid).
-/
namespace Go.Proofs.Ytlfjdbilblfknaa.X
open Go Go.RowKit Go.Proofs.Ytlfjdbilblfknaa.Bs
set_option linter.unusedVariables false
open Classical in
noncomputable def wideB (b : Bas) (rate : Int) : Bool := decide (wide b rate)
end Go.Proofs.Ytlfjdbilblfknaa.X
/-
  The walk of the document's Check, and of what returns its error alone (good, valid).
-/
namespace Go.Proofs.Ytlfjdbilblfknaa.X
open Go Go.RowKit Go.Proofs.Ytlfjdbilblfknaa.Bs
set_option linter.unusedVariables false
theorem valid_any {p : BV} {b : Bas} {w : World} (hb : BasAt w w.heap.size p b) :
    Calls Try.prog 42 #[basV p b] w fun e w' => e = .returned (.int .i64 (chkE b)) ∧ Below w.heap.size w w' := by
  simp only [basV, basC]
  refine enter Try.func42 rfl Try.ntmps42 rfl ?_; simp only [frame, Nat.zero_add, Nat.reduceAdd]
  repeat (any_goals (first | (refine M0 ?_; first | refine SL ?_ | refine SB fun _ _ => ?_ | (refine XL.split _ _ rfl (fun h => ?_) (fun h => ?_) <;> rw [h]) | refine Y4 (Ev.call (f := 22) (ck rfl) rfl (fun w S => check_any p b w (hb.sys S))) ?_) | (refine M1 ?_; first | refine SC ?_ | refine SD ?_ | refine XC.cond _ rfl (fun h => ?_) (fun h => ?_)) | (refine M2 ?_; refine SE ?_) | (refine M3 ?_; first | refine SG ?_ | refine SF ?_ | (refine Fw.split _ _ rfl (fun h => ?_) (fun h => ?_) <;> rw [h]) | refine YF (Ev.call (f := 22) (ck rfl) rfl (fun w S => check_any p b w (hb.sys S))) ?_) | (refine M4 ?_; refine SR ?_) | (refine M5 ?_; first | exact M7 | refine YM ?_ | refine YN ?_ ?_)))
  refine XE.ret1 Try.results42 rfl (fun w' S => ?_)
  exact ⟨rfl, S.toBelow⟩
end Go.Proofs.Ytlfjdbilblfknaa.X
/-
  The walks of the exact level: the program's (by BinarySearchFunc) and the document's; what is rounded down; the methods of a ratio.
-/
namespace Go.Proofs.Ytlfjdbilblfknaa.X
open Go Go.RowKit Go.Proofs.Ytlfjdbilblfknaa.Bs
set_option linter.unusedVariables false
def cmpI (m n : Int) : Int := if m < n then -1 else if n < m then 1 else 0
theorem isNaN_any (n : Int) (w : World) : Calls Try.prog 65 #[.int .i64 n] w fun e w' => e = .returned (.bool false) ∧ Below w.heap.size w w' := by
  refine enter Try.func65 rfl Try.ntmps65 rfl ?_; simp only [frame, Nat.zero_add, Nat.reduceAdd]
  repeat (first | (refine M0 ?_; first | refine SL ?_ | refine SB fun _ _ => ?_) | (refine M1 ?_; first | refine SC ?_ | refine SD ?_) | (refine M2 ?_; refine SE ?_) | (refine M3 ?_; first | refine SG ?_ | refine SF ?_) | (refine M4 ?_; refine SR ?_) | (refine M5 ?_; first | exact M7 | refine YM ?_ | refine YN ?_ ?_))
  refine XE.ret1 Try.results65 rfl (fun w' S => ?_)
  exact ⟨by simp, S.toBelow⟩
theorem compare_any (m n : Int) (w : World) : Calls Try.prog 64 #[.int .i64 m, .int .i64 n] w fun e w' => e = .returned (.int .i64 (cmpI m n)) ∧ Below w.heap.size w w' := by
  refine enter Try.func64 rfl Try.ntmps64 rfl ?_; simp only [frame, Nat.zero_add, Nat.reduceAdd]
  repeat (any_goals (first | (refine M0 ?_; first | refine SL ?_ | refine SB fun _ _ => ?_ | (refine XL.split _ _ rfl (fun h => ?_) (fun h => ?_) <;> rw [h]) | refine Y4 (Ev.call (f := 65) (ck rfl) rfl (fun w _ => isNaN_any _ w)) ?_) | (refine M1 ?_; first | refine SC ?_ | refine SD ?_ | refine XC.cond _ rfl (fun h => ?_) (fun h => ?_)) | (refine M2 ?_; refine SE ?_) | (refine M3 ?_; first | refine SG ?_ | refine SF ?_ | (refine Fw.split _ _ rfl (fun h => ?_) (fun h => ?_) <;> rw [h]) | refine YF (Ev.call (f := 65) (ck rfl) rfl (fun w _ => isNaN_any _ w)) ?_) | (refine M4 ?_; refine SR ?_) | (refine M5 ?_; first | exact M7 | refine YM ?_ | refine YN ?_ ?_)))
  all_goals
    refine XE.ret1 Try.results64 rfl (fun w' S => ?_)
    refine ⟨?_, S.toBelow⟩
    simp only [decide_eq_true_eq, decide_eq_false_iff_not] at *
    simp [cmpI, *]
theorem exact1_any (r : Row) (v : Int) (w : World) : Calls Try.prog 63 #[.agg ⟨rowC r⟩, .int .i64 v] w fun e w' => e = .returned (.int .i64 (cmpI r.vol v)) ∧ Below w.heap.size w w' := by
  simp only [rowC]
  refine enter Try.func63 rfl Try.ntmps63 rfl ?_; simp only [frame, Nat.zero_add, Nat.reduceAdd]
  repeat (any_goals (first | (refine M0 ?_; first | refine SL ?_ | refine SB fun _ _ => ?_ | (refine XL.split _ _ rfl (fun h => ?_) (fun h => ?_) <;> rw [h]) | refine Y4 (Ev.call (f := 64) (ck rfl) rfl (fun w _ => compare_any _ _ w)) ?_) | (refine M1 ?_; first | refine SC ?_ | refine SD ?_ | refine XC.cond _ rfl (fun h => ?_) (fun h => ?_)) | (refine M2 ?_; refine SE ?_) | (refine M3 ?_; first | refine SG ?_ | refine SF ?_ | (refine Fw.split _ _ rfl (fun h => ?_) (fun h => ?_) <;> rw [h]) | refine YF (Ev.call (f := 64) (ck rfl) rfl (fun w _ => compare_any _ _ w)) ?_) | (refine M4 ?_; refine SR ?_) | (refine M5 ?_; first | exact M7 | refine YM ?_ | refine YN ?_ ?_)))
  refine XE.ret1 Try.results63 rfl (fun w' S => ?_)
  exact ⟨rfl, S.toBelow⟩
theorem wrap_u {n : Int} (h : 0 ≤ n ∧ n ≤ 9223372036854775807) : IntKind.u64.wrap n = n := by rw [IntKind.wrap_u64]; omega
theorem wrap_i {n : Int} (h : 0 ≤ n ∧ n ≤ 9223372036854775807) : IntKind.i64.wrap n = n := by rw [IntKind.wrap_i64]; omega
theorem half {n : Nat} : ((n : Int)).fdiv (2 ^ (Nat.min (1 : Int).toNat IntKind.u64.bits)) = ((n / 2 : Nat) : Int) := by
  rw [show (2 : Int) ^ (Nat.min (1 : Int).toNat IntKind.u64.bits) = 2 from by decide]
  rw [Int.fdiv_eq_ediv_of_nonneg _ (by decide)]
  simp
theorem cmpI_lt {m n : Int} : decide (cmpI m n < 0) = decide (m < n) := by unfold cmpI; by_cases h1 : m < n <;> by_cases h2 : n < m <;> simp [h1, h2] <;> omega
theorem cmpI_eq {m n : Int} : decide (cmpI m n = 0) = decide (m = n) := by unfold cmpI; by_cases h1 : m < n <;> by_cases h2 : n < m <;> simp [h1, h2] <;> omega
def bsV (b : Bas) (v : Int) : Value := .tuple ⟨[.int .i64 (cntTo b v b.rows.length), .bool (decide (cntTo b v b.rows.length < b.rows.length ∧ (b.row (cntTo b v b.rows.length)).vol = v))]⟩
set_option maxHeartbeats 4000000 in
theorem bs_any {ad : Addr} {c : Nat} {A2 : Option Addr} {n2 c2 : Nat} {b : Bas} {w : World} (hb : BasAt w w.heap.size ⟨some ad, b.rows.length, c, A2, n2, c2⟩ b) (ho : RowsOk b) (v : Int) :
    Calls Try.prog 62 #[.slice (some ad) b.rows.length c, .int .i64 v, .func (.func 63) #[] #[]] w fun e w' => e = .returned (bsV b v) ∧ Below w.heap.size w w' := by
  have h12 := ho.n12
  have hint := Try.underlying3
  have huint := Try.underlying153
  have hlt : ad.block < w.heap.size := by
    obtain ⟨ad', e, h⟩ := hb.rows.addr (by have := ho.n2; simp only; omega)
    simp only [Option.some.injEq] at e
    subst e; exact h
  refine enter Try.func62 rfl Try.ntmps62 rfl ?_; simp only [frame, Nat.zero_add, Nat.reduceAdd]
  repeat (first | (refine M0 ?_; first | refine SL ?_ | refine SB fun _ _ => ?_) | (refine M1 ?_; first | refine SC ?_ | refine SD ?_) | (refine M2 ?_; refine SE ?_) | (refine M3 ?_; first | refine SG ?_ | refine SF ?_) | (refine M4 ?_; refine SR ?_) | (refine M5 ?_; first | exact M7 | refine YM ?_ | refine YN ?_ ?_))
  refine XC.loopk [0, 1, 2, 8] rfl (fun s : Nat × Nat => [(9, .int .i64 (s.1 : Int)), (10, .int .i64 (s.2 : Int))]) (fun _ => []) (fun _ => w)
    (fun s => s.1 ≤ s.2 ∧ s.2 ≤ b.rows.length ∧ (∀ j, j < s.1 → (b.row j).vol < v) ∧ (∀ j, s.2 ≤ j → j < b.rows.length → v ≤ (b.row j).vol)) (fun s => s.2 - s.1) (0, b.rows.length) ⟨Nat.zero_le _, Nat.le_refl _, fun j hj => by simp only at hj; omega, fun j h1 h2 => by simp only at h1; omega⟩ ZZSUB (fun _ h => h) ?_
  rintro ⟨i, j⟩ ⟨hij, hjn, h1, h2⟩
  simp only at hij hjn h1 h2
  dsimp only [List.cons_append, List.nil_append]
  repeat (first | (refine M0 ?_; first | refine SL ?_ | refine SB fun _ _ => ?_) | (refine M1 ?_; first | refine SC ?_ | refine SD ?_) | (refine M2 ?_; refine SE ?_) | (refine M3 ?_; first | refine SG ?_ | refine SF ?_) | (refine M4 ?_; refine SR ?_) | (refine M5 ?_; first | exact M7 | refine YM ?_ | refine YN ?_ ?_))
  refine XC.cond _ rfl (fun hc => ?_) (fun hc => ?_)
  · simp only [decide_eq_true_eq] at hc
    have hm : (i + j) / 2 < b.rows.length := by omega
    have w1 : IntKind.u64.wrap ((i : Int) + (j : Int)) = ((i + j : Nat) : Int) := by rw [wrap_u (by omega)]; omega
    have w2 : IntKind.i64.wrap (((i + j) / 2 : Nat) : Int) = (((i + j) / 2 : Nat) : Int) := wrap_i (by omega)
    repeat (first | (refine M0 ?_; first | refine SL ?_ | refine SB fun _ _ => ?_ | refine Y4 (Ev.conv (s := 3) (d := 153) hint huint rfl w1) ?_ | refine Y4 (Ev.conv (s := 153) (d := 3) huint hint rfl w2) ?_ | refine Y4 (Ev.shr rfl rfl (by decide) half) ?_ | refine Y4 (Ev.load_old_agg tok (rowC (b.row ((i + j) / 2))) rfl rfl rfl (add_lt hlt) (hb.row hm)) ?_ | refine Y4 (Ev.callv (f := 63) (fst := []) (cap := []) (ck rfl) rfl rfl (fun w _ => exact1_any _ _ w)) ?_) | (refine M1 ?_; first | refine SC ?_ | refine SD ?_) | (refine M2 ?_; refine SE ?_) | (refine M3 ?_; first | refine SG ?_ | refine SF ?_ | refine YF (Ev.conv (s := 3) (d := 153) hint huint rfl w1) ?_ | refine YF (Ev.conv (s := 153) (d := 3) huint hint rfl w2) ?_ | refine YF (Ev.shr rfl rfl (by decide) half) ?_ | refine YF (Ev.load_old_agg tok (rowC (b.row ((i + j) / 2))) rfl rfl rfl (add_lt hlt) (hb.row hm)) ?_ | refine YF (Ev.callv (f := 63) (fst := []) (cap := []) (ck rfl) rfl rfl (fun w _ => exact1_any _ _ w)) ?_) | (refine M4 ?_; refine SR ?_) | (refine M5 ?_; first | exact M7 | refine YM ?_ | refine YN ?_ ?_))
    refine XC.cond _ rfl (fun hd => ?_) (fun hd => ?_)
    · rw [cmpI_lt] at hd
      simp only [decide_eq_true_eq] at hd
      repeat (first | (refine M0 ?_; first | refine SL ?_ | refine SB fun _ _ => ?_) | (refine M1 ?_; first | refine SC ?_ | refine SD ?_) | (refine M2 ?_; refine SE ?_) | (refine M3 ?_; first | refine SG ?_ | refine SF ?_) | (refine M4 ?_; refine SR ?_) | (refine M5 ?_; first | exact M7 | refine YM ?_ | refine YN ?_ ?_))
      refine XE.round (s := (i, j)) ((i + j) / 2 + 1, j) ⟨by simp only; omega, hjn, fun k hk => ?_, h2⟩ (by simp only; omega) ZZSUB (fun _ h => by first | exact h | exact h.pop (by assumption) | exact (h.pop (by assumption)).pop (by assumption) | exact ((h.pop (by assumption)).pop (by assumption)).pop (by assumption) | exact (((h.pop (by assumption)).pop (by assumption)).pop (by assumption)).pop (by assumption) | exact Sys.anchor (by assumption) h (by simp) (by simp))
      simp only at hk
      by_cases e : k = (i + j) / 2
      · subst e; exact hd
      · have := (ho.lt (i := k) (j := (i + j) / 2) (by omega) hm).1; omega
    · rw [cmpI_lt] at hd
      simp only [decide_eq_false_iff_not] at hd
      repeat (first | (refine M0 ?_; first | refine SL ?_ | refine SB fun _ _ => ?_) | (refine M1 ?_; first | refine SC ?_ | refine SD ?_) | (refine M2 ?_; refine SE ?_) | (refine M3 ?_; first | refine SG ?_ | refine SF ?_) | (refine M4 ?_; refine SR ?_) | (refine M5 ?_; first | exact M7 | refine YM ?_ | refine YN ?_ ?_))
      refine XE.round (s := (i, j)) (i, (i + j) / 2) ⟨by simp only; omega, by simp only; omega, h1, fun k hk hkn => ?_⟩ (by simp only; omega) ZZSUB (fun _ h => by first | exact h | exact h.pop (by assumption) | exact (h.pop (by assumption)).pop (by assumption) | exact ((h.pop (by assumption)).pop (by assumption)).pop (by assumption) | exact (((h.pop (by assumption)).pop (by assumption)).pop (by assumption)).pop (by assumption) | exact Sys.anchor (by assumption) h (by simp) (by simp))
      simp only at hk
      by_cases e : k = (i + j) / 2
      · subst e; omega
      · have := (ho.lt (i := (i + j) / 2) (j := k) (by omega) hkn).1; omega
  · simp only [decide_eq_false_iff_not] at hc
    obtain rfl : i = j := by omega
    have hcnt := cntTo_eq hjn h1 h2
    by_cases hin : i < b.rows.length
    · repeat (any_goals (first | (refine M0 ?_; first | refine SL ?_ | refine SB fun _ _ => ?_ | (refine XL.split _ _ rfl (fun h => ?_) (fun h => ?_) <;> rw [h]) | refine Y4 (Ev.load_old_agg tok (rowC (b.row i)) rfl rfl rfl (add_lt hlt) (hb.row hin)) ?_ | refine Y4 (Ev.callv (f := 63) (fst := []) (cap := []) (vs := [.agg ⟨rowC (b.row i)⟩, .int .i64 v]) (ck rfl) rfl rfl (fun w _ => exact1_any _ _ w)) ?_) | (refine M1 ?_; first | refine SC ?_ | refine SD ?_ | refine XC.cond _ rfl (fun h => ?_) (fun h => ?_)) | (refine M2 ?_; refine SE ?_) | (refine M3 ?_; first | refine SG ?_ | refine SF ?_ | (refine Fw.split _ _ rfl (fun h => ?_) (fun h => ?_) <;> rw [h]) | refine YF (Ev.load_old_agg tok (rowC (b.row i)) rfl rfl rfl (add_lt hlt) (hb.row hin)) ?_ | refine YF (Ev.callv (f := 63) (fst := []) (cap := []) (vs := [.agg ⟨rowC (b.row i)⟩, .int .i64 v]) (ck rfl) rfl rfl (fun w _ => exact1_any _ _ w)) ?_) | (refine M4 ?_; refine SR ?_) | (refine M5 ?_; first | exact M7 | refine YM ?_ | refine YN ?_ ?_)))
      · refine XE.ret2 Try.results62 rfl rfl (fun w' S => ?_)
        refine ⟨?_, S.toBelow⟩
        unfold bsV
        rw [hcnt, cmpI_eq]
        simp [hin]
      · simp only [decide_eq_false_iff_not] at h
        omega
    · repeat (first | (refine M0 ?_; first | refine SL ?_ | refine SB fun _ _ => ?_) | (refine M1 ?_; first | refine SC ?_ | refine SD ?_) | (refine M2 ?_; refine SE ?_) | (refine M3 ?_; first | refine SG ?_ | refine SF ?_) | (refine M4 ?_; refine SR ?_) | (refine M5 ?_; first | exact M7 | refine YM ?_ | refine YN ?_ ?_))
      refine XL.split _ _ rfl (fun h => ?_) (fun h => ?_) <;> rw [h]
      · simp only [decide_eq_true_eq] at h
        omega
      · repeat (any_goals (first | (refine M0 ?_; first | refine SL ?_ | refine SB fun _ _ => ?_ | (refine XL.split _ _ rfl (fun h => ?_) (fun h => ?_) <;> rw [h])) | (refine M1 ?_; first | refine SC ?_ | refine SD ?_ | refine XC.cond _ rfl (fun h => ?_) (fun h => ?_)) | (refine M2 ?_; refine SE ?_) | (refine M3 ?_; first | refine SG ?_ | refine SF ?_ | (refine Fw.split _ _ rfl (fun h => ?_) (fun h => ?_) <;> rw [h])) | (refine M4 ?_; refine SR ?_) | (refine M5 ?_; first | exact M7 | refine YM ?_ | refine YN ?_ ?_)))
        refine XE.ret2 Try.results62 rfl rfl (fun w' S => ?_)
        refine ⟨?_, S.toBelow⟩
        unfold bsV
        rw [hcnt]
        simp [hin]
end Go.Proofs.Ytlfjdbilblfknaa.X
/-
  The plain words of layer 4: bounds of the exact level; what is rounded down.
-/
namespace Go.Proofs.Ytlfjdbilblfknaa.Bs
set_option linter.unusedVariables false
theorem mul_bd {x y X Y : Int} (hx : -X ≤ x ∧ x ≤ X) (hy : -Y ≤ y ∧ y ≤ Y) : -(X * Y) ≤ x * y ∧ x * y ≤ X * Y := by
  have hX : 0 ≤ X := by omega
  have hY : 0 ≤ Y := by omega
  have h1 : x.natAbs ≤ X.natAbs := by omega
  have h2 : y.natAbs ≤ Y.natAbs := by omega
  have h3 : (x * y).natAbs ≤ (X * Y).natAbs := by rw [Int.natAbs_mul, Int.natAbs_mul]; exact Nat.mul_le_mul h1 h2
  have h4 : 0 ≤ X * Y := Int.mul_nonneg hX hY
  omega
theorem seg_vol {b : Bas} {v : Int} (hv : (b.row 0).vol ≤ v) : (b.row (seg b v)).vol ≤ v := by
  rcases (segTo_spec (b := b) (v := v) (b.rows.length - 2)).2.1 with h | h
  · unfold seg; rw [h]; exact hv
  · exact h
section
variable {b : Bas} (h : RowsOk b) {v : Int} (hv : (b.row 0).vol ≤ v ∧ v ≤ 1000000000)
include h hv
/-- the parts of the exact level. -/
theorem parts_bd : (-20000 ≤ (b.row (seg b v)).level ∧ (b.row (seg b v)).level ≤ 20000) ∧ (1 ≤ den b v ∧ den b v ≤ 1000000000) ∧ (0 ≤ v - (b.row (seg b v)).vol ∧ v - (b.row (seg b v)).vol ≤ 1000000000) ∧
    (1 ≤ (b.row (seg b v + 1)).level - (b.row (seg b v)).level ∧ (b.row (seg b v + 1)).level - (b.row (seg b v)).level ≤ 40000) := by
  have hs := seg_lt h v
  have h1 := h.level _ (show seg b v < b.rows.length by omega)
  have h2 := h.level _ hs
  have h3 := h.levelUp _ hs
  have h4 := h.vol _ (show seg b v < b.rows.length by omega)
  have h5 := seg_vol hv.1
  exact ⟨h1, den_pos h v, by omega, by omega⟩
theorem terms_bd : (-20000000000000 ≤ (b.row (seg b v)).level * den b v ∧ (b.row (seg b v)).level * den b v ≤ 20000000000000) ∧
    (0 ≤ (v - (b.row (seg b v)).vol) * ((b.row (seg b v + 1)).level - (b.row (seg b v)).level) ∧ (v - (b.row (seg b v)).vol) * ((b.row (seg b v + 1)).level - (b.row (seg b v)).level) ≤ 40000000000000) := by
  obtain ⟨h1, h2, h3, h4⟩ := parts_bd h hv
  have m1 := mul_bd (X := 20000) (Y := 1000000000) (x := (b.row (seg b v)).level) (y := den b v) (by omega) (by omega)
  have m2 := mul_bd (X := 1000000000) (Y := 40000) (x := v - (b.row (seg b v)).vol) (y := (b.row (seg b v + 1)).level - (b.row (seg b v)).level) (by omega) (by omega)
  have m3 : 0 ≤ (v - (b.row (seg b v)).vol) * ((b.row (seg b v + 1)).level - (b.row (seg b v)).level) := Int.mul_nonneg h3.1 (by omega)
  exact ⟨by omega, m3, by omega⟩
theorem num_bd : -20000000000000 ≤ num b v ∧ num b v ≤ 60000000000000 := by
  have := terms_bd h hv
  unfold num; omega
end
/-- Go's division, then 1 less where it went up: rounded down. -/
theorem tdiv_bd {a b : Int} (hb : 1 ≤ b) : -(a.natAbs : Int) ≤ a.tdiv b ∧ a.tdiv b ≤ a.natAbs := by
  have h1 : (a.tdiv b).natAbs = a.natAbs / b.natAbs := Int.natAbs_tdiv a b
  have h2 : a.natAbs / b.natAbs ≤ a.natAbs := Nat.div_le_self _ _
  omega
theorem tdiv_mul {a b : Int} (hb : 1 ≤ b) : -(a.natAbs : Int) ≤ a.tdiv b * b ∧ a.tdiv b * b ≤ a.natAbs ∧ (0 ≤ a → a.tdiv b * b ≤ a ∧ a < a.tdiv b * b + b) ∧ (a ≤ 0 → a ≤ a.tdiv b * b ∧ a.tdiv b * b < a + b) := by
  have e := Int.mul_tdiv_add_tmod a b
  rw [Int.mul_comm] at e
  rcases Int.le_total 0 a with h | h
  · have h1 := Int.tmod_nonneg b h
    have h2 := Int.tmod_lt_of_pos a (show 0 < b by omega)
    have h3 : 0 ≤ a.tdiv b := Int.tdiv_nonneg h (by omega)
    have h4 : 0 ≤ a.tdiv b * b := Int.mul_nonneg h3 (by omega)
    refine ⟨by omega, by omega, fun _ => by omega, fun h' => ?_⟩
    have : a = 0 := by omega
    subst this
    simp
    omega
  · have h1 : a.tmod b ≤ 0 := by
      have := Int.tmod_nonneg b (show 0 ≤ -a by omega)
      rw [Int.neg_tmod] at this; omega
    have h2 : -b < a.tmod b := by
      have := Int.tmod_lt_of_pos (-a) (show 0 < b by omega)
      rw [Int.neg_tmod] at this; omega
    have h3 : a.tdiv b ≤ 0 := by
      have := Int.tdiv_nonneg (show 0 ≤ -a by omega) (show 0 ≤ b by omega)
      rw [Int.neg_tdiv] at this; omega
    have h4 : a.tdiv b * b ≤ 0 := Int.mul_nonpos_of_nonpos_of_nonneg h3 (by omega)
    refine ⟨by omega, by omega, fun h' => ?_, fun _ => by omega⟩
    have : a = 0 := by omega
    subst this
    simp
    omega
theorem floor_eq {a b : Int} (hb : 1 ≤ b) : a / b = if a < a.tdiv b * b then a.tdiv b - 1 else a.tdiv b := by
  obtain ⟨_, _, h1, h2⟩ := tdiv_mul (a := a) hb
  have key : ∀ q : Int, q * b ≤ a → a < q * b + b → a / b = q := fun q h3 h4 => by
    have h5 : q ≤ a / b := (Int.le_ediv_iff_mul_le (by omega)).2 h3
    have h6 : a / b < q + 1 := (Int.ediv_lt_iff_lt_mul (by omega)).2 (by rw [Int.add_mul]; omega)
    omega
  by_cases hc : a < a.tdiv b * b
  · rw [if_pos hc]
    refine key _ ?_ ?_
    · rw [Int.sub_mul]
      rcases Int.le_total 0 a with h | h
      · have := h1 h; omega
      · have := h2 h; omega
    · rw [Int.sub_mul]; omega
  · rw [if_neg hc]
    refine key _ (by omega) ?_
    rcases Int.le_total 0 a with h | h
    · have := h1 h; omega
    · have := h2 h; omega
theorem floor_bd {a b : Int} (hb : 1 ≤ b) : -(a.natAbs : Int) ≤ a / b ∧ a / b ≤ a.natAbs := by
  have h1 := Int.ediv_mul_le a (show b ≠ 0 by omega)
  rcases Int.le_total 0 a with h | h
  · have h2 : 0 ≤ a / b := Int.ediv_nonneg h (by omega)
    have h3 : a / b ≤ a := Int.ediv_le_self b h
    omega
  · have h2 : a / b ≤ 0 := Int.ediv_nonpos_of_nonpos_of_neg h (by omega)
    have h3 : a ≤ a / b := by
      have : a * b ≤ a * 1 := Int.mul_le_mul_of_nonpos_left h hb
      exact (Int.le_ediv_iff_mul_le (by omega)).2 (by omega)
    omega
end Go.Proofs.Ytlfjdbilblfknaa.Bs
/-
  The walks of the exact level, the program's and the document's.
-/
namespace Go.Proofs.Ytlfjdbilblfknaa.X
open Go Go.RowKit Go.Proofs.Ytlfjdbilblfknaa.Bs
set_option linter.unusedVariables false
def ratV (b : Bas) (v : Int) : Value := .agg ⟨[.int .i64 (num b v), .int .i64 (den b v)]⟩
set_option maxHeartbeats 4000000 in
theorem exact_any {p : BV} {b : Bas} {w : World} (hb : BasAt w w.heap.size p b) (ho : RowsOk b) {v : Int} (hv : (b.row 0).vol ≤ v ∧ v ≤ 1000000000) :
    Calls Try.prog 59 #[basV p b, .int .i64 v] w fun e w' => e = .returned (ratV b v) ∧ Below w.heap.size w w' := by
  obtain ⟨A, n, c, A2, n2, c2⟩ := p
  have hn := hb.n_eq
  have hn2 := hb.n2_eq
  simp only at hn hn2
  subst hn hn2
  have h2 := ho.n2
  have h12 := ho.n12
  obtain ⟨ad, rfl, hlt⟩ := hb.rows.addr (by simp only; omega)
  simp only [basV, basC]
  obtain ⟨hi, hi1, hi2⟩ := cntTo_spec ho (v := v) (Nat.le_refl b.rows.length)
  refine enter Try.func59 rfl Try.ntmps59 rfl ?_; simp only [frame, Nat.zero_add, Nat.reduceAdd]
  repeat (first | (refine M0 ?_; first | refine SL ?_ | refine SB fun _ _ => ?_ | refine Y4 (Ev.call (f := 62) (ck rfl) rfl (fun w S => bs_any (hb.sys S) ho v)) ?_) | (refine M1 ?_; first | refine SC ?_ | refine SD ?_) | (refine M2 ?_; refine SE ?_) | (refine M3 ?_; first | refine SG ?_ | refine SF ?_ | refine YF (Ev.call (f := 62) (ck rfl) rfl (fun w S => bs_any (hb.sys S) ho v)) ?_) | (refine M4 ?_; refine SR ?_) | (refine M5 ?_; first | exact M7 | refine YM ?_ | refine YN ?_ ?_))
  have key := (seg_of_cnt ho hv.1 hi hi1 hi2).1
  have key2 := (seg_of_cnt ho hv.1 hi hi1 hi2).2
  have hs := seg_lt ho v
  obtain ⟨cc, hcc⟩ : ∃ cc, cc = if cntTo b v b.rows.length < b.rows.length ∧ (b.row (cntTo b v b.rows.length)).vol = v then cntTo b v b.rows.length else cntTo b v b.rows.length - 1 := ⟨_, rfl⟩
  rw [← hcc] at key
  rename_i gr hgr
  refine XC.cutln [1, 2, 4] rfl (fun _ : Unit => [(5, .int .i64 (cc : Nat))]) (fun _ => []) (fun _ => True) ?_ (fun _ _ => ?_)
  · repeat (any_goals (first | (refine M0 ?_; first | refine SL ?_ | refine SB fun _ _ => ?_ | (refine XL.split _ _ rfl (fun h => ?_) (fun h => ?_) <;> rw [h])) | (refine M1 ?_; first | refine SC ?_ | refine SD ?_ | refine XC.cond _ rfl (fun h => ?_) (fun h => ?_)) | (refine M2 ?_; refine SE ?_) | (refine M3 ?_; first | refine SG ?_ | refine SF ?_ | (refine Fw.split _ _ rfl (fun h => ?_) (fun h => ?_) <;> rw [h])) | (refine M4 ?_; refine SR ?_) | (refine M5 ?_; first | exact M7 | refine YM ?_ | refine YN ?_ ?_)))
    · simp only [Bool.not_eq_true', decide_eq_false_iff_not] at h
      rw [if_neg h] at hcc
      have := key2 h
      rw [show (cntTo b v b.rows.length : Int) - 1 = (cc : Nat) from by omega]
      refine XE.leaf () ZZSUB (fun _ S' => by first | exact S' | exact S'.perm (by repeat (first | exact List.Perm.refl _ | refine perm1 ?_ | refine List.Perm.cons _ ?_ | refine perm2 ?_)) | exact (S'.pop (by assumption)) | exact (S'.pop2 (by assumption))) ?_
      trivial
    · simp only [Bool.not_eq_false', decide_eq_true_eq] at h
      rw [if_pos h] at hcc
      rw [← hcc]
      refine XE.leaf () ZZSUB (fun _ S' => by first | exact S' | exact S'.perm (by repeat (first | exact List.Perm.refl _ | refine perm1 ?_ | refine List.Perm.cons _ ?_ | refine perm2 ?_)) | exact (S'.pop (by assumption)) | exact (S'.pop2 (by assumption))) ?_
      trivial
  dsimp only [List.cons_append, List.nil_append]
  repeat (first | (refine M0 ?_; first | refine SL ?_ | refine SB fun _ _ => ?_) | (refine M1 ?_; first | refine SC ?_ | refine SD ?_) | (refine M2 ?_; refine SE ?_) | (refine M3 ?_; first | refine SG ?_ | refine SF ?_) | (refine M4 ?_; refine SR ?_) | (refine M5 ?_; first | exact M7 | refine YM ?_ | refine YN ?_ ?_))
  rw [show min (cc : Int) ((b.rows.length : Int) - 2) = ((seg b v : Nat) : Int) from by omega]
  refine XC.cutln [1, 4] rfl (fun s : Nat × Nat => [(7, .pointer (some ⟨s.1, 0, none⟩)), (8, .pointer (some ⟨s.2, 0, none⟩))]) (fun s => [(s.1, cel 46 (rowC (b.row (seg b v)))), (s.2, cel 46 (rowC (b.row (seg b v + 1))))]) (fun s => w.heap.size ≤ s.1 ∧ w.heap.size ≤ s.2) ?_ ?_
  · refine XC.drawR _ [0, 1, 2, 3, 4, 5, 6, 7, 8, 9, 10] [11, 12, 13, 14] mixed (fun _ h => h) rfl (by kernel_rfl) ?_
    repeat (any_goals (first | (refine M0 ?_; first | refine SL ?_ | refine SB fun _ _ => ?_ | (refine XL.split _ _ rfl (fun h => ?_) (fun h => ?_) <;> rw [h]) | refine Y4 (Ev.load_old_agg tok (rowC (b.row (seg b v))) rfl rfl rfl (add_lt hlt) (hb.row (by omega))) ?_ | refine Y4 (Ev.load_old_agg tok (rowC (b.row (seg b v + 1))) rfl rfl rfl (add_lt hlt) (hb.row hs)) ?_) | (refine M1 ?_; first | refine SC ?_ | refine SD ?_ | refine XC.cond _ rfl (fun h => ?_) (fun h => ?_)) | (refine M2 ?_; refine SE ?_) | (refine M3 ?_; first | refine SG ?_ | refine SF ?_ | (refine Fw.split _ _ rfl (fun h => ?_) (fun h => ?_) <;> rw [h]) | refine YF (Ev.load_old_agg tok (rowC (b.row (seg b v))) rfl rfl rfl (add_lt hlt) (hb.row (by omega))) ?_ | refine YF (Ev.load_old_agg tok (rowC (b.row (seg b v + 1))) rfl rfl rfl (add_lt hlt) (hb.row hs)) ?_) | (refine M4 ?_; refine SR ?_) | (refine M5 ?_; first | exact M7 | refine YM ?_ | refine YN ?_ ?_)))
    all_goals
      refine XE.leaf (_, _) ZZSUB (fun _ S' => by first | exact S' | exact S'.perm (by repeat (first | exact List.Perm.refl _ | refine perm1 ?_ | refine List.Perm.cons _ ?_ | refine perm2 ?_)) | exact (S'.pop (by assumption)) | exact (S'.pop2 (by assumption))) ?_
      exact ⟨by assumption, by assumption⟩
  rintro ⟨g1, g2⟩ ⟨hg1, hg2⟩
  simp only at hg1 hg2
  dsimp only [List.cons_append, List.nil_append]
  refine XC.hint 7 3 (XC.hint 8 2 ?_)
  obtain ⟨hp1, hp2, hp3, hp4⟩ := parts_bd ho hv
  obtain ⟨ht1, ht2⟩ := terms_bd ho hv
  unfold den at hp2
  repeat (first | (refine M0 ?_; first | refine SL ?_ | refine SB fun _ _ => ?_) | (refine M1 ?_; first | refine SC ?_ | refine SD ?_) | (refine M2 ?_; refine SE ?_) | (refine M3 ?_; first | refine SG ?_ | refine SF ?_) | (refine M4 ?_; refine SR ?_) | (refine M5 ?_; first | exact M7 | refine YM ?_ | refine YN ?_ ?_))
  rw [show (b.row (seg b v + 1)).vol - (b.row (seg b v)).vol = den b v from rfl] at *
  repeat (first | (refine M0 ?_; first | refine SL ?_ | refine SB fun _ _ => ?_) | (refine M1 ?_; first | refine SC ?_ | refine SD ?_) | (refine M2 ?_; refine SE ?_) | (refine M3 ?_; first | refine SG ?_ | refine SF ?_) | (refine M4 ?_; refine SR ?_) | (refine M5 ?_; first | exact M7 | refine YM ?_ | refine YN ?_ ?_))
  refine XE.retg tok Try.results59 rfl (by simp only [and_self, and_true]) (fun w' S => ?_)
  exact ⟨rfl, S.toBelow⟩
theorem floor_any {a b : Int} (hb : 1 ≤ b) (ha : -9223372036854775807 ≤ a ∧ a ≤ 9223372036854775807) (w : World) :
    Calls Try.prog 92 #[.int .i64 a, .int .i64 b] w fun e w' => e = .returned (.int .i64 (a / b)) ∧ Below w.heap.size w w' := by
  have h1 := tdiv_bd (a := a) hb
  have h2 := tdiv_mul (a := a) hb
  have h3 := floor_bd (a := a) hb
  have h4 := floor_eq (a := a) hb
  have h5 : i64in a := by unfold i64in; omega
  have h6 : i64in (a.tdiv b * b) := by unfold i64in; omega
  refine enter Try.func92 rfl Try.ntmps92 rfl ?_; simp only [frame, Nat.zero_add, Nat.reduceAdd]
  repeat (first | (refine M0 ?_; first | refine SL ?_ | refine SB fun _ _ => ?_) | (refine M1 ?_; first | refine SC ?_ | refine SD ?_) | (refine M2 ?_; refine SE ?_) | (refine M3 ?_; first | refine SG ?_ | refine SF ?_) | (refine M4 ?_; refine SR ?_) | (refine M5 ?_; first | exact M7 | refine YM ?_ | refine YN ?_ ?_))
  refine XC.cond _ rfl (fun h => ?_) (fun h => ?_)
  · simp only [decide_eq_true_eq] at h
    rw [if_pos h] at h4
    have h7 : i64in (a.tdiv b - 1) := by unfold i64in; omega
    repeat (first | (refine M0 ?_; first | refine SL ?_ | refine SB fun _ _ => ?_) | (refine M1 ?_; first | refine SC ?_ | refine SD ?_) | (refine M2 ?_; refine SE ?_) | (refine M3 ?_; first | refine SG ?_ | refine SF ?_) | (refine M4 ?_; refine SR ?_) | (refine M5 ?_; first | exact M7 | refine YM ?_ | refine YN ?_ ?_))
    refine XE.retg tok Try.results92 rfl (by simp only [and_self, and_true]) (fun w' S => ?_)
    exact ⟨by rw [h4]; rfl, S.toBelow⟩
  · simp only [decide_eq_false_iff_not] at h
    rw [if_neg h] at h4
    repeat (first | (refine M0 ?_; first | refine SL ?_ | refine SB fun _ _ => ?_) | (refine M1 ?_; first | refine SC ?_ | refine SD ?_) | (refine M2 ?_; refine SE ?_) | (refine M3 ?_; first | refine SG ?_ | refine SF ?_) | (refine M4 ?_; refine SR ?_) | (refine M5 ?_; first | exact M7 | refine YM ?_ | refine YN ?_ ?_))
    refine XE.retg tok Try.results92 rfl (by simp only [and_self, and_true]) (fun w' S => ?_)
    exact ⟨by rw [h4]; rfl, S.toBelow⟩
/-- a ratio. -/
def rV (n d : Int) : Value := .agg ⟨[.int .i64 n, .int .i64 d]⟩
theorem above_any {n d level : Int} (h1 : i64in (level * d)) (w : World) :
    Calls Try.prog 90 #[rV n d, .int .i64 level] w fun e w' => e = .returned (.bool (decide (level * d < n))) ∧ Below w.heap.size w w' := by
  unfold rV
  refine enter Try.func90 rfl Try.ntmps90 rfl ?_; simp only [frame, Nat.zero_add, Nat.reduceAdd]
  repeat (first | (refine M0 ?_; first | refine SL ?_ | refine SB fun _ _ => ?_) | (refine M1 ?_; first | refine SC ?_ | refine SD ?_) | (refine M2 ?_; refine SE ?_) | (refine M3 ?_; first | refine SG ?_ | refine SF ?_) | (refine M4 ?_; refine SR ?_) | (refine M5 ?_; first | exact M7 | refine YM ?_ | refine YN ?_ ?_))
  refine XE.retg tok Try.results90 rfl (by simp only [and_self, and_true]) (fun w' S => ?_)
  exact ⟨rfl, S.toBelow⟩
theorem over_any {n d level rate : Int} (hd : 1 ≤ d) (h1 : i64in (level * d)) (h2 : i64in (n - level * d)) (h3 : -9223372036854775807 ≤ rate * (n - level * d) ∧ rate * (n - level * d) ≤ 9223372036854775807) (w : World) :
    Calls Try.prog 91 #[rV n d, .int .i64 level, .int .i64 rate] w fun e w' => e = .returned (.int .i64 (rate * (n - level * d) / d)) ∧ Below w.heap.size w w' := by
  unfold rV
  have h4 : i64in (rate * (n - level * d)) := by unfold i64in; omega
  refine enter Try.func91 rfl Try.ntmps91 rfl ?_; simp only [frame, Nat.zero_add, Nat.reduceAdd]
  repeat (first | (refine M0 ?_; first | refine SL ?_ | refine SB fun _ _ => ?_ | refine Y4 (Ev.call (f := 92) (ck rfl) rfl (fun w S => floor_any hd h3 w)) ?_) | (refine M1 ?_; first | refine SC ?_ | refine SD ?_) | (refine M2 ?_; refine SE ?_) | (refine M3 ?_; first | refine SG ?_ | refine SF ?_ | refine YF (Ev.call (f := 92) (ck rfl) rfl (fun w S => floor_any hd h3 w)) ?_) | (refine M4 ?_; refine SR ?_) | (refine M5 ?_; first | exact M7 | refine YM ?_ | refine YN ?_ ?_))
  refine XE.retg tok Try.results91 rfl (by simp only [and_self, and_true]) (fun w' S => ?_)
  exact ⟨rfl, S.toBelow⟩
theorem minus_any {n d : Int} (h1 : i64in (-n)) (w : World) :
    Calls Try.prog 60 #[rV n d] w fun e w' => e = .returned (rV (-n) d) ∧ Below w.heap.size w w' := by
  unfold rV
  refine enter Try.func60 rfl Try.ntmps60 rfl ?_; simp only [frame, Nat.zero_add, Nat.reduceAdd]
  repeat (first | (refine M0 ?_; first | refine SL ?_ | refine SB fun _ _ => ?_) | (refine M1 ?_; first | refine SC ?_ | refine SD ?_) | (refine M2 ?_; refine SE ?_) | (refine M3 ?_; first | refine SG ?_ | refine SF ?_) | (refine M4 ?_; refine SR ?_) | (refine M5 ?_; first | exact M7 | refine YM ?_ | refine YN ?_ ?_))
  refine XE.retg tok Try.results60 rfl (by simp only [and_self, and_true]) (fun w' S => ?_)
  exact ⟨rfl, S.toBelow⟩
def spanV (lo hi : Int) : Value := .agg ⟨[.int .i64 lo, .int .i64 hi]⟩
end Go.Proofs.Ytlfjdbilblfknaa.X
/-
  How a state, ticks and flows lie in memory: slices whose blocks meet a condition; and the plain words of a state.
-/
namespace Go.Proofs.Ytlfjdbilblfknaa.X
open Go Go.RowKit Go.Proofs.Ytlfjdbilblfknaa.Bs
set_option linter.unusedVariables false

/-- the slice value '.slice A n c' holds the cells xs, 'size' of them an element; its block is one of ok. -/
structure ReadsP (w : World) (ok : Nat → Prop) (size : Nat) (A : Option Addr) (n : Nat) (xs : List Value) : Prop where
  len : xs.length = n * size
  at_ : 0 < n → ∃ ad, A = some ad ∧ ok ad.block ∧ ∀ j u, xs[j]? = some u → w.cell? (ad.add j) = some u
/-- these blocks stand as they stood at the base world. -/
def Keep (ok : Nat → Prop) (w0 : World) (L : Lo) : Prop := ∀ k, ok k → k < w0.heap.size ∧ ∀ e, e ∈ L → e.1 ≠ k
/-- the blocks below B. -/
def Lt (B : Nat) : Nat → Prop := fun k => k < B
/-- the blocks from a on, below b. -/
def Btw (a b : Nat) : Nat → Prop := fun k => a ≤ k ∧ k < b
section
variable {w w' w0 : World} {ok ok' : Nat → Prop} {B size n : Nat} {A : Option Addr} {xs : List Value} {L : Lo}
theorem ReadsP.to (h : ReadsP w (Lt B) size A n xs) : Reads w B size A n xs := ⟨h.1, h.2⟩
theorem ReadsP.nil : ReadsP w ok size A 0 [] := ⟨by simp, fun h => absurd h (by omega)⟩
theorem ReadsP.keep (h : ReadsP w ok size A n xs) (hk : ∀ k, ok k → w'.heap[k]? = w.heap[k]?) : ReadsP w' ok size A n xs :=
  ⟨h.1, fun hn => by
    obtain ⟨ad, e, hb, hc⟩ := h.2 hn
    exact ⟨ad, e, hb, fun j u hu => (World.cell?_of_block (hk _ (by rw [add_block]; exact hb))).trans (hc j u hu)⟩⟩
theorem ReadsP.mono (h : ReadsP w ok size A n xs) (hk : ∀ k, ok k → ok' k) : ReadsP w ok' size A n xs :=
  ⟨h.1, fun hn => by
    obtain ⟨ad, e, hb, hc⟩ := h.2 hn
    exact ⟨ad, e, hk _ hb, hc⟩⟩
theorem Keep.sys (hk : Keep ok w0 L) (S : Sys B w0 L w) : ∀ k, ok k → w.heap[k]? = w0.heap[k]? := fun k h => S.old k (hk k h).1 (hk k h).2
theorem Keep.lt (hk : Keep ok w0 L) (S : Sys B w0 L w) : ∀ k, ok k → Lt w.heap.size k := fun k h => Nat.lt_of_lt_of_le (hk k h).1 S.size
/-- where a walk stands. -/
theorem ReadsP.sys (h : ReadsP w0 ok size A n xs) (S : Sys B w0 L w) (hk : Keep ok w0 L) : ReadsP w (Lt w.heap.size) size A n xs := (h.keep (hk.sys S)).mono (hk.lt S)
theorem Keep.arg (S : Sys B w0 L w) : Keep (Lt B) w0 L := fun k h => ⟨Nat.lt_of_lt_of_le h S.base, fun e he e1 => by have := (S.own e he).1; have : k < B := h; omega⟩
theorem ReadsP.arg (h : ReadsP w0 (Lt B) size A n xs) (S : Sys B w0 L w) : ReadsP w (Lt w.heap.size) size A n xs := h.sys S (Keep.arg S)
/-- another content. -/
theorem Keep.turn {L' : Lo} (h : Keep ok w0 L) (e : L'.map (·.1) = L.map (·.1)) : Keep ok w0 L' := fun k hk => ⟨(h k hk).1, fun x hx e1 => by
  have : x.1 ∈ L'.map (·.1) := List.mem_map.2 ⟨x, hx, rfl⟩
  rw [e] at this
  obtain ⟨y, hy, e2⟩ := List.mem_map.1 this
  exact (h k hk).2 y hy (e2.trans e1)⟩
/-- at the world behind a call: what was made in it. -/
theorem Keep.made (S : Sys B w0 L w) {hi : Nat} (hh : hi ≤ w'.heap.size) : Keep (Btw w.heap.size hi) w' L := fun k hk => ⟨Nat.lt_of_lt_of_le hk.2 hh, fun e he e1 => by have := S.lt he; have := hk.1; omega⟩
end

/-- a slice of numbers. -/
structure SV where
  A : Option Addr
  n : Nat
  c : Nat
def svV (q : SV) : Value := .slice q.A q.n q.c
structure IntsAt (w : World) (ok : Nat → Prop) (q : SV) (l : List Int) : Prop where
  rd : ReadsP w ok 1 q.A q.n (ints l)
  max : q.n ≤ 9223372036854775807
def at0 (l : List Int) (i : Nat) : Int := l[i]?.getD 0
section
variable {w w' w0 : World} {ok ok' : Nat → Prop} {B : Nat} {q : SV} {l : List Int} {L : Lo}
theorem IntsAt.len (h : IntsAt w ok q l) : q.n = l.length := by have := h.rd.len; rw [ints_len] at this; omega
theorem IntsAt.keep (h : IntsAt w ok q l) (hk : ∀ k, ok k → w'.heap[k]? = w.heap[k]?) : IntsAt w' ok q l := ⟨h.rd.keep hk, h.max⟩
theorem IntsAt.mono (h : IntsAt w ok q l) (hk : ∀ k, ok k → ok' k) : IntsAt w ok' q l := ⟨h.rd.mono hk, h.max⟩
theorem IntsAt.arg (h : IntsAt w0 (Lt B) q l) (S : Sys B w0 L w) : IntsAt w (Lt w.heap.size) q l := ⟨h.rd.arg S, h.max⟩
theorem IntsAt.at_ {A : Option Addr} {n c : Nat} (h : IntsAt w ok ⟨A, n, c⟩ l) (hn : 0 < l.length) : ∃ ad, A = some ad ∧ ok ad.block ∧ ∀ i, i < l.length → w.cell? (ad.add (i * 1)) = some (.int .i64 (at0 l i)) := by
  have e := h.len
  simp only at e
  obtain ⟨ad, e1, h1, h2⟩ := h.rd.at_ (by simp only; omega)
  refine ⟨ad, e1, h1, fun i hi => ?_⟩
  rw [Nat.mul_one]
  refine h2 i _ ?_
  simp [ints, at0, hi]
end
def staC (q : SV) (s : Sta) : List Value := [.int .i64 s.vol, .slice q.A q.n q.c]
def staV (q : SV) (s : Sta) : Value := .agg ⟨staC q s⟩
def tickC (t : Tick) : List Value := [.int .i64 t.outer, .int .i64 t.river, .int .i64 t.out]
def tickV (t : Tick) : Value := .agg ⟨tickC t⟩
def floC (q : SV) (f : Flo) : List Value := [.int .i64 f.river, .int .i64 f.over, .int .i64 f.leak, .int .i64 f.out, .slice q.A q.n q.c]
def floV (q : SV) (f : Flo) : Value := .agg ⟨floC q f⟩
end Go.Proofs.Ytlfjdbilblfknaa.X
namespace Go.Proofs.Ytlfjdbilblfknaa.Bs
def Sta.f (s : Sta) (i : Nat) : Int := s.fil[i]?.getD 0
/-- a state that is none of the basin's, though it has as many polders. -/
def staBad (b : Bas) (s : Sta) : Prop := outB s.vol (b.row 0).vol 1000000000 = true ∨ ∃ i, i < b.pols.length ∧ outB (s.f i) 0 (b.pol i).room = true
open Classical in
noncomputable def staErr (b : Bas) (s : Sta) : Int := if chkE b ≠ 0 then chkE b else if s.fil.length ≠ b.pols.length then 2 else if staBad b s then 7 else 0
structure StaOk (b : Bas) (s : Sta) : Prop where
  len : s.fil.length = b.pols.length
  vol : (b.row 0).vol ≤ s.vol ∧ s.vol ≤ 1000000000
  fil : ∀ i, i < b.pols.length → 0 ≤ s.f i ∧ s.f i ≤ (b.pol i).room
theorem staErr_c {b : Bas} {s : Sta} (h : chkE b ≠ 0) : staErr b s = chkE b := by unfold staErr; rw [if_pos h]
theorem staErr_2 {b : Bas} {s : Sta} (h : chkE b = 0) (h1 : s.fil.length ≠ b.pols.length) : staErr b s = 2 := by unfold staErr; rw [if_neg (by simp [h]), if_pos h1]
theorem staErr_7 {b : Bas} {s : Sta} (h : chkE b = 0) (h1 : s.fil.length = b.pols.length) (h2 : staBad b s) : staErr b s = 7 := by unfold staErr; rw [if_neg (by simp [h]), if_neg (by simp [h1]), if_pos h2]
theorem staErr_0 {b : Bas} {s : Sta} (h : chkE b = 0) (h1 : s.fil.length = b.pols.length) (h2 : ¬ staBad b s) : staErr b s = 0 := by unfold staErr; rw [if_neg (by simp [h]), if_neg (by simp [h1]), if_neg h2]
theorem staOk_of {b : Bas} {s : Sta} (h : staErr b s = 0) : Ok b ∧ StaOk b s := by
  unfold staErr at h
  split at h
  · rename_i h1; exact absurd h h1
  · rename_i h1
    split at h
    · cases h
    · rename_i h2
      split at h
      · cases h
      · rename_i h3
        refine ⟨ok_of (by simpa using h1), by simpa using h2, ?_, fun i hi => ?_⟩
        · exact outB_f.1 (by cases hx : outB s.vol (b.row 0).vol 1000000000 with | false => rfl | true => exact absurd (.inl hx) h3)
        · exact outB_f.1 (by cases hx : outB (s.f i) 0 (b.pol i).room with | false => rfl | true => exact absurd (.inr ⟨i, hi, hx⟩) h3)
theorem staErr_ok {b : Bas} {s : Sta} (hc : chkE b = 0) (h : StaOk b s) : staErr b s = 0 := staErr_0 hc h.len fun hb => by
  rcases hb with hb | ⟨i, hi, hb⟩
  · have := outB_t.1 hb; have := h.vol; omega
  · have := outB_t.1 hb; have := h.fil i hi; omega
end Go.Proofs.Ytlfjdbilblfknaa.Bs
/-
  The walks of what looks at a state: stored, limited, Ints, SameState, SameFlows, CheckState (both texts).
-/
namespace Go.Proofs.Ytlfjdbilblfknaa.X
open Go Go.RowKit Go.Proofs.Ytlfjdbilblfknaa.Bs
set_option linter.unusedVariables false
theorem at0_len {l : List Int} {i : Nat} (h : i < l.length) : at0 l i = l[i] := by simp [at0, h]
set_option maxHeartbeats 4000000 in
theorem intsEq_any {q r : SV} {l m : List Int} {w : World} (hq : IntsAt w (Lt w.heap.size) q l) (hr : IntsAt w (Lt w.heap.size) r m) :
    Calls Try.prog 11 #[svV q, svV r] w fun e w' => e = .returned (.bool (decide (l = m))) ∧ Below w.heap.size w w' := by
  obtain ⟨A, n, c⟩ := q
  obtain ⟨A2, n2, c2⟩ := r
  have hn := hq.len
  have hn2 := hr.len
  have hmx := hq.max
  simp only at hn hn2 hmx
  subst hn hn2
  simp only [svV]
  refine enter Try.func11 rfl Try.ntmps11 rfl ?_; simp only [frame, Nat.zero_add, Nat.reduceAdd]
  repeat (first | (refine M0 ?_; first | refine SL ?_ | refine SB fun _ _ => ?_) | (refine M1 ?_; first | refine SC ?_ | refine SD ?_) | (refine M2 ?_; refine SE ?_) | (refine M3 ?_; first | refine SG ?_ | refine SF ?_) | (refine M4 ?_; refine SR ?_) | (refine M5 ?_; first | exact M7 | refine YM ?_ | refine YN ?_ ?_))
  refine XC.cond _ rfl (fun h0 => ?_) (fun h0 => ?_)
  · repeat (first | (refine M0 ?_; first | refine SL ?_ | refine SB fun _ _ => ?_) | (refine M1 ?_; first | refine SC ?_ | refine SD ?_) | (refine M2 ?_; refine SE ?_) | (refine M3 ?_; first | refine SG ?_ | refine SF ?_) | (refine M4 ?_; refine SR ?_) | (refine M5 ?_; first | exact M7 | refine YM ?_ | refine YN ?_ ?_))
    refine XE.retg tok Try.results11 rfl (by simp only [and_self, and_true]) (fun w' S => ?_)
    refine ⟨?_, S.toBelow⟩
    simp only [ne_eq, decide_eq_true_eq] at h0
    rw [decide_eq_false (fun e => h0 (by rw [e]))]; rfl
  have he : l.length = m.length := by simp only [ne_eq, decide_eq_false_iff_not, Decidable.not_not] at h0; omega
  repeat (first | (refine M0 ?_; first | refine SL ?_ | refine SB fun _ _ => ?_) | (refine M1 ?_; first | refine SC ?_ | refine SD ?_) | (refine M2 ?_; refine SE ?_) | (refine M3 ?_; first | refine SG ?_ | refine SF ?_) | (refine M4 ?_; refine SR ?_) | (refine M5 ?_; first | exact M7 | refine YM ?_ | refine YN ?_ ?_))
  refine XC.loopk [0, 1] rfl (fun k : Nat => [(5, .int .i64 (k : Nat))]) (fun _ => _) (fun _ => w) (fun k => k ≤ l.length ∧ ∀ j, j < k → at0 l j = at0 m j) (fun k => l.length - k) 0 ⟨Nat.zero_le _, fun j hj => by omega⟩ ZZSUB (fun _ h => h) ?_
  rintro k ⟨hk, hok⟩
  dsimp only [List.cons_append, List.nil_append]
  repeat (first | (refine M0 ?_; first | refine SL ?_ | refine SB fun _ _ => ?_) | (refine M1 ?_; first | refine SC ?_ | refine SD ?_) | (refine M2 ?_; refine SE ?_) | (refine M3 ?_; first | refine SG ?_ | refine SF ?_) | (refine M4 ?_; refine SR ?_) | (refine M5 ?_; first | exact M7 | refine YM ?_ | refine YN ?_ ?_))
  refine XC.cond _ rfl (fun h1 => ?_) (fun h1 => ?_)
  · have hlt : k < l.length := by simpa using h1
    obtain ⟨ad, rfl, hb, hc⟩ := hq.at_ (by omega)
    obtain ⟨ad2, rfl, hb2, hc2⟩ := hr.at_ (by omega)
    repeat (any_goals (first | (refine M0 ?_; first | refine SL ?_ | refine SB fun _ _ => ?_ | (refine XL.split _ _ rfl (fun h => ?_) (fun h => ?_) <;> rw [h]) | refine Y4 (Ev.load_old tok rfl rfl (add_lt hb) (hc k hlt)) ?_ | refine Y4 (Ev.load_old tok rfl rfl (add_lt hb2) (hc2 k (by omega))) ?_) | (refine M1 ?_; first | refine SC ?_ | refine SD ?_ | refine XC.cond _ rfl (fun h => ?_) (fun h => ?_)) | (refine M2 ?_; refine SE ?_) | (refine M3 ?_; first | refine SG ?_ | refine SF ?_ | (refine Fw.split _ _ rfl (fun h => ?_) (fun h => ?_) <;> rw [h]) | refine YF (Ev.load_old tok rfl rfl (add_lt hb) (hc k hlt)) ?_ | refine YF (Ev.load_old tok rfl rfl (add_lt hb2) (hc2 k (by omega))) ?_) | (refine M4 ?_; refine SR ?_) | (refine M5 ?_; first | exact M7 | refine YM ?_ | refine YN ?_ ?_)))
    · refine XE.retg tok Try.results11 rfl (by simp only [and_self, and_true]) (fun w' S => ?_)
      refine ⟨?_, S.toBelow⟩
      simp only [ne_eq, decide_eq_true_eq] at h
      rw [decide_eq_false (fun e => h (by rw [e]))]; rfl
    · simp only [ne_eq, decide_eq_false_iff_not, Decidable.not_not] at h
      refine XE.round (k + 1) ⟨hlt, fun j hj => ?_⟩ (by omega) ZZSUB (fun _ h => by first | exact h | exact h.pop (by assumption) | exact (h.pop (by assumption)).pop (by assumption) | exact ((h.pop (by assumption)).pop (by assumption)).pop (by assumption) | exact (((h.pop (by assumption)).pop (by assumption)).pop (by assumption)).pop (by assumption) | exact Sys.anchor (by assumption) h (by simp) (by simp))
      rcases Nat.lt_succ_iff_lt_or_eq.1 hj with hj | rfl
      · exact hok j hj
      · exact h
  · have hge : k = l.length := by simp at h1; omega
    subst hge
    repeat (first | (refine M0 ?_; first | refine SL ?_ | refine SB fun _ _ => ?_) | (refine M1 ?_; first | refine SC ?_ | refine SD ?_) | (refine M2 ?_; refine SE ?_) | (refine M3 ?_; first | refine SG ?_ | refine SF ?_) | (refine M4 ?_; refine SR ?_) | (refine M5 ?_; first | exact M7 | refine YM ?_ | refine YN ?_ ?_))
    refine XE.retg tok Try.results11 rfl (by simp only [and_self, and_true]) (fun w' S => ?_)
    refine ⟨?_, S.toBelow⟩
    rw [decide_eq_true (List.ext_getElem he fun i h1 h2 => by have := hok i h1; rwa [at0_len h1, at0_len h2] at this)]; rfl
def sameStaB (s t : Sta) : Bool := decide (s.vol = t.vol) && decide (s.fil = t.fil)
def sameFloB (s t : Flo) : Bool := decide (s.river = t.river) && (decide (s.over = t.over) && (decide (s.leak = t.leak) && (decide (s.out = t.out) && decide (s.taken = t.taken))))
end Go.Proofs.Ytlfjdbilblfknaa.X
/-
  The walks of CheckState (both texts), and of the water's methods: spill, least, river, over, leak, off.
-/
namespace Go.Proofs.Ytlfjdbilblfknaa.X
open Go Go.RowKit Go.Proofs.Ytlfjdbilblfknaa.Bs
set_option linter.unusedVariables false
theorem polRoom {w : World} {B : Nat} {A : Option Addr} {n c n2 c2 : Nat} {ad : Addr} {b : Bas} (hb : BasAt w B ⟨A, n, c, some ad, n2, c2⟩ b) {i : Nat} (hi : i < b.pols.length) : w.cell? ((ad.add (i * 4)).add 3) = some (.int .i64 (b.pol i).room) := hb.pol hi 3 _ rfl

set_option maxHeartbeats 4000000 in
theorem checkState_any {p : BV} {b : Bas} {q : SV} {s : Sta} {w : World} (hb : BasAt w w.heap.size p b) (hs : IntsAt w (Lt w.heap.size) q s.fil) :
    Calls Try.prog 23 #[basV p b, staV q s] w fun e w' => e = .returned (.int .i64 (staErr b s)) ∧ Below w.heap.size w w' := by
  obtain ⟨A, n, c, A2, n2, c2⟩ := p
  obtain ⟨A3, n3, c3⟩ := q
  have hn := hb.n_eq
  have hn2 := hb.n2_eq
  have hn3 := hs.len
  have hl2 := hb.len2
  have hl3 := hs.max
  simp only at hn hn2 hn3 hl2 hl3
  subst hn hn2 hn3
  simp only [basV, basC, staV, staC]
  refine enter Try.func23 rfl Try.ntmps23 rfl ?_; simp only [frame, Nat.zero_add, Nat.reduceAdd]
  repeat (first | (refine M0 ?_; first | refine SL ?_ | refine SB fun _ _ => ?_ | refine Y4 (Ev.call (f := 42) (ck rfl) rfl (fun w S => (valid_any (hb.sys S) :))) ?_) | (refine M1 ?_; first | refine SC ?_ | refine SD ?_) | (refine M2 ?_; refine SE ?_) | (refine M3 ?_; first | refine SG ?_ | refine SF ?_ | refine YF (Ev.call (f := 42) (ck rfl) rfl (fun w S => (valid_any (hb.sys S) :))) ?_) | (refine M4 ?_; refine SR ?_) | (refine M5 ?_; first | exact M7 | refine YM ?_ | refine YN ?_ ?_))
  refine XC.cond _ rfl (fun h0 => ?_) (fun h0 => ?_)
  · repeat (first | (refine M0 ?_; first | refine SL ?_ | refine SB fun _ _ => ?_) | (refine M1 ?_; first | refine SC ?_ | refine SD ?_) | (refine M2 ?_; refine SE ?_) | (refine M3 ?_; first | refine SG ?_ | refine SF ?_) | (refine M4 ?_; refine SR ?_) | (refine M5 ?_; first | exact M7 | refine YM ?_ | refine YN ?_ ?_))
    refine XE.retg tok Try.results23 rfl (by simp only [and_self, and_true]) (fun w' S => ?_)
    exact ⟨by rw [staErr_c (by simpa using h0)]; rfl, S.toBelow⟩
  have hc : chkE b = 0 := by simpa using h0
  have ho := (ok_of hc).rowsOk
  have h2 := ho.n2
  obtain ⟨ad, rfl, hlt⟩ := hb.rows.addr (by simp only; omega)
  repeat (first | (refine M0 ?_; first | refine SL ?_ | refine SB fun _ _ => ?_) | (refine M1 ?_; first | refine SC ?_ | refine SD ?_) | (refine M2 ?_; refine SE ?_) | (refine M3 ?_; first | refine SG ?_ | refine SF ?_) | (refine M4 ?_; refine SR ?_) | (refine M5 ?_; first | exact M7 | refine YM ?_ | refine YN ?_ ?_))
  refine XC.cond _ rfl (fun h1 => ?_) (fun h1 => ?_)
  · repeat (first | (refine M0 ?_; first | refine SL ?_ | refine SB fun _ _ => ?_) | (refine M1 ?_; first | refine SC ?_ | refine SD ?_) | (refine M2 ?_; refine SE ?_) | (refine M3 ?_; first | refine SG ?_ | refine SF ?_) | (refine M4 ?_; refine SR ?_) | (refine M5 ?_; first | exact M7 | refine YM ?_ | refine YN ?_ ?_))
    refine XE.retg tok Try.results23 rfl (by simp only [and_self, and_true]) (fun w' S => ?_)
    exact ⟨by rw [staErr_2 hc (by simp only [ne_eq, decide_eq_true_eq] at h1; omega)]; rfl, S.toBelow⟩
  have hl : s.fil.length = b.pols.length := by simp only [ne_eq, decide_eq_false_iff_not, Decidable.not_not] at h1; omega
  repeat (first | (refine M0 ?_; first | refine SL ?_ | refine SB fun _ _ => ?_ | refine Y4 (Ev.load_old tok rfl rfl (add_lt2 hlt) (hb.rowVol (i := 0) (by omega))) ?_ | refine Y4 (Ev.call (f := 40) (ck rfl) rfl (fun w _ => out_any _ _ _ w)) ?_) | (refine M1 ?_; first | refine SC ?_ | refine SD ?_) | (refine M2 ?_; refine SE ?_) | (refine M3 ?_; first | refine SG ?_ | refine SF ?_ | refine YF (Ev.load_old tok rfl rfl (add_lt2 hlt) (hb.rowVol (i := 0) (by omega))) ?_ | refine YF (Ev.call (f := 40) (ck rfl) rfl (fun w _ => out_any _ _ _ w)) ?_) | (refine M4 ?_; refine SR ?_) | (refine M5 ?_; first | exact M7 | refine YM ?_ | refine YN ?_ ?_))
  refine XC.cond _ rfl (fun h3 => ?_) (fun h3 => ?_)
  · repeat (first | (refine M0 ?_; first | refine SL ?_ | refine SB fun _ _ => ?_) | (refine M1 ?_; first | refine SC ?_ | refine SD ?_) | (refine M2 ?_; refine SE ?_) | (refine M3 ?_; first | refine SG ?_ | refine SF ?_) | (refine M4 ?_; refine SR ?_) | (refine M5 ?_; first | exact M7 | refine YM ?_ | refine YN ?_ ?_))
    refine XE.retg tok Try.results23 rfl (by simp only [and_self, and_true]) (fun w' S => ?_)
    exact ⟨by rw [staErr_7 hc hl (.inl h3)]; rfl, S.toBelow⟩
  repeat (first | (refine M0 ?_; first | refine SL ?_ | refine SB fun _ _ => ?_) | (refine M1 ?_; first | refine SC ?_ | refine SD ?_) | (refine M2 ?_; refine SE ?_) | (refine M3 ?_; first | refine SG ?_ | refine SF ?_) | (refine M4 ?_; refine SR ?_) | (refine M5 ?_; first | exact M7 | refine YM ?_ | refine YN ?_ ?_))
  refine XC.loopk [2, 32, 33] rfl (fun k : Nat => [(34, .int .i64 (k : Nat))]) (fun _ => _) (fun _ => w) (fun k => k ≤ s.fil.length ∧ ∀ j, j < k → outB (s.f j) 0 (b.pol j).room = false) (fun k => s.fil.length - k) 0 ⟨Nat.zero_le _, fun j hj => by omega⟩ ZZSUB (fun _ h => h) ?_
  rintro k ⟨hk, hok⟩
  dsimp only [List.cons_append, List.nil_append]
  repeat (first | (refine M0 ?_; first | refine SL ?_ | refine SB fun _ _ => ?_) | (refine M1 ?_; first | refine SC ?_ | refine SD ?_) | (refine M2 ?_; refine SE ?_) | (refine M3 ?_; first | refine SG ?_ | refine SF ?_) | (refine M4 ?_; refine SR ?_) | (refine M5 ?_; first | exact M7 | refine YM ?_ | refine YN ?_ ?_))
  refine XC.cond _ rfl (fun h4 => ?_) (fun h4 => ?_)
  · have hlk : k < s.fil.length := by simpa using h4
    obtain ⟨ad2, rfl, hlt2⟩ := hb.pols.addr (by simp only; omega)
    obtain ⟨ad3, rfl, hlt3, hc3⟩ := hs.at_ (by omega)
    repeat (any_goals (first | (refine M0 ?_; first | refine SL ?_ | refine SB fun _ _ => ?_ | (refine XL.split _ _ rfl (fun h => ?_) (fun h => ?_) <;> rw [h]) | refine Y4 (Ev.load_old tok rfl rfl (add_lt hlt3) (hc3 k hlk)) ?_ | refine Y4 (Ev.load_old tok rfl rfl (add_lt2 hlt2) (polRoom hb (i := k) (by omega))) ?_ | refine Y4 (Ev.call (f := 40) (ck rfl) rfl (fun w _ => out_any _ _ _ w)) ?_) | (refine M1 ?_; first | refine SC ?_ | refine SD ?_ | refine XC.cond _ rfl (fun h => ?_) (fun h => ?_)) | (refine M2 ?_; refine SE ?_) | (refine M3 ?_; first | refine SG ?_ | refine SF ?_ | (refine Fw.split _ _ rfl (fun h => ?_) (fun h => ?_) <;> rw [h]) | refine YF (Ev.load_old tok rfl rfl (add_lt hlt3) (hc3 k hlk)) ?_ | refine YF (Ev.load_old tok rfl rfl (add_lt2 hlt2) (polRoom hb (i := k) (by omega))) ?_ | refine YF (Ev.call (f := 40) (ck rfl) rfl (fun w _ => out_any _ _ _ w)) ?_) | (refine M4 ?_; refine SR ?_) | (refine M5 ?_; first | exact M7 | refine YM ?_ | refine YN ?_ ?_)))
    · refine XE.retg tok Try.results23 rfl (by simp only [and_self, and_true]) (fun w' S => ?_)
      exact ⟨by rw [staErr_7 hc hl (.inr ⟨k, by omega, h⟩)]; rfl, S.toBelow⟩
    · refine XE.round (k + 1) ⟨hlk, fun j hj => ?_⟩ (by omega) ZZSUB (fun _ h => by first | exact h | exact h.pop (by assumption) | exact (h.pop (by assumption)).pop (by assumption) | exact ((h.pop (by assumption)).pop (by assumption)).pop (by assumption) | exact (((h.pop (by assumption)).pop (by assumption)).pop (by assumption)).pop (by assumption) | exact Sys.anchor (by assumption) h (by simp) (by simp))
      rcases Nat.lt_succ_iff_lt_or_eq.1 hj with hj | rfl
      · exact hok j hj
      · exact h
  · have hge : k = s.fil.length := by simp at h4; omega
    subst hge
    repeat (first | (refine M0 ?_; first | refine SL ?_ | refine SB fun _ _ => ?_) | (refine M1 ?_; first | refine SC ?_ | refine SD ?_) | (refine M2 ?_; refine SE ?_) | (refine M3 ?_; first | refine SG ?_ | refine SF ?_) | (refine M4 ?_; refine SR ?_) | (refine M5 ?_; first | exact M7 | refine YM ?_ | refine YN ?_ ?_))
    refine XE.retg tok Try.results23 rfl (by simp only [and_self, and_true]) (fun w' S => ?_)
    refine ⟨?_, S.toBelow⟩
    rw [staErr_0 hc hl]
    · rfl
    · rintro (hx | ⟨i, hi, hx⟩)
      · rw [h3] at hx; cases hx
      · rw [hok i (by omega)] at hx; cases hx

/-! ### the water -/
def watC (p : BV) (b : Bas) (q : SV) (s : Sta) (t : Tick) (r : SV) (f : Flo) : List Value :=
  [.slice p.A p.n p.c, .int .i64 b.leak, .int .i64 b.crest, .int .i64 b.over, .slice p.A2 p.n2 p.c2, .int .i64 s.vol, .slice q.A q.n q.c, .int .i64 t.outer, .int .i64 t.river, .int .i64 t.out,
   .int .i64 f.river, .int .i64 f.over, .int .i64 f.leak, .int .i64 f.out, .slice r.A r.n r.c]
abbrev watO (p : BV) (b : Bas) (q : SV) (s : Sta) (t : Tick) (r : SV) (f : Flo) : Obj := cel 142 (watC p b q s t r f)
theorem Sys.same1 {B : Nat} {w w' : World} {g : Nat} {o : Obj} (h : w.heap[g]? = some o) (S : Sys B w [(g, o)] w') : Below w.heap.size w w' :=
  ⟨S.os, S.tape, S.output, S.size, fun k hk => by
    by_cases e : k = g
    · subst e; rw [(S.own (k, o) (by simp)).2, h]
    · exact S.old k hk fun x hx e1 => by simp only [List.mem_singleton] at hx; subst hx; exact e e1.symm⟩
section
variable {g : Nat} {p : BV} {b : Bas} {q r : SV} {s : Sta} {t : Tick} {f : Flo} {w : World}
theorem spill_any (h : w.heap[g]? = some (watO p b q s t r f)) :
    Calls Try.prog 58 #[.pointer (some ⟨g, 0, none⟩)] w fun e w' => e = .returned (.bool (decide (1000000000 < s.vol))) ∧ Below w.heap.size w w' := by
  simp only [watO, watC] at h
  refine enterL Try.func58 rfl Try.ntmps58 rfl (Sys.start1 (Nat.le_refl g) h) ?_; simp only [frame, Nat.zero_add, Nat.reduceAdd]
  refine XC.hint 0 0 ?_
  repeat (first | (refine M0 ?_; first | refine SL ?_ | refine SB fun _ _ => ?_) | (refine M1 ?_; first | refine SC ?_ | refine SD ?_) | (refine M2 ?_; refine SE ?_) | (refine M3 ?_; first | refine SG ?_ | refine SF ?_) | (refine M4 ?_; refine SR ?_) | (refine M5 ?_; first | exact M7 | refine YM ?_ | refine YN ?_ ?_))
  refine XE.retg tok Try.results58 rfl (by simp only [and_self, and_true]) (fun w' S => ?_)
  exact ⟨rfl, S.same1 h⟩
end
end Go.Proofs.Ytlfjdbilblfknaa.X
/-
  The plain words of layer 4: a tick.
-/
namespace Go.Proofs.Ytlfjdbilblfknaa.Bs
set_option linter.unusedVariables false
def Bas.v0 (b : Bas) : Int := (b.row 0).vol
/-- what leaks. -/
def leakQ (b : Bas) (outer v : Int) : Int := b.leak * (-(num b v) - (-outer) * den b v) / den b v
def leakOf (b : Bas) (outer v : Int) : Int := max (leakQ b outer v) (b.v0 - v)
/-- what polder i takes of the volume v, if so much has filled it. -/
def takeOf (b : Bas) (i : Nat) (v fil : Int) : Int := if (b.pol i).sill * den b v < num b v then min ((b.pol i).take * (num b v - (b.pol i).sill * den b v) / den b v) ((b.pol i).room - fil) else 0
/-- the volume when k polders have been flooded. -/
def polV (b : Bas) (s : Sta) (v : Int) : Nat → Int
  | 0 => v
  | k + 1 => polV b s v k - takeOf b k (polV b s v k) (s.f k)
def polT (b : Bas) (s : Sta) (v : Int) (k : Nat) : Int := takeOf b k (polV b s v k) (s.f k)
def rg (n : Nat) (f : Nat → Int) : List Int := (List.range n).map f
theorem rg_len (n : Nat) (f : Nat → Int) : (rg n f).length = n := by simp [rg]
theorem rg_at {n : Nat} {f : Nat → Int} {i : Nat} (h : i < n) : (rg n f)[i]?.getD 0 = f i := by simp [rg, h]
theorem rg_succ (n : Nat) (f : Nat → Int) : rg (n + 1) f = rg n f ++ [f n] := by simp [rg, List.range_succ]
section
variable (b : Bas) (s : Sta) (t : Tick)
def tickBad : Bool := highB t.outer || (outB t.river 0 10000000 || outB t.out 0 10000000)
def vol1 : Int := s.vol + t.river
def overOf : Int := b.over * max 0 (t.outer - b.crest)
def vol2 : Int := vol1 s t + overOf b t
def vol3 : Int := vol2 b s t + leakOf b t.outer (vol2 b s t)
def outOf : Int := min t.out (vol3 b s t - b.v0)
def vol4 : Int := vol3 b s t - outOf b s t
def stepE : Int := if tickBad t then 7 else if 1000000000 < vol1 s t then 3 else if 1000000000 < vol2 b s t then 3 else if 1000000000 < vol3 b s t then 3 else 0
def stepS : Sta := ⟨polV b s (vol4 b s t) b.pols.length, rg b.pols.length fun i => s.f i + polT b s (vol4 b s t) i⟩
def stepF : Flo := ⟨t.river, overOf b t, leakOf b t.outer (vol2 b s t), outOf b s t, rg b.pols.length fun i => polT b s (vol4 b s t) i⟩
end
theorem great_le (b : Bas) : ∀ (n i : Nat), i < n → (b.pol i).take ≤ great b n := by
  intro n
  induction n with
  | zero => intro i h; omega
  | succ n ih =>
    intro i h
    unfold great
    by_cases e : i = n
    · subst e; omega
    · have := ih i (by omega); omega
section
variable {b : Bas} (h : Ok b)
include h
theorem great_bd : 0 ≤ great b b.pols.length ∧ great b b.pols.length ≤ 10000 := by
  have : ∀ n, n ≤ b.pols.length → 0 ≤ great b n ∧ great b n ≤ 10000 := by
    intro n
    induction n with
    | zero => intro _; exact h.leak
    | succ n ih => intro hn; have := ih (by omega); have := h.take n (by omega); unfold great; omega
  exact this _ (Nat.le_refl _)
theorem wide_rows : ∀ i, i < b.rows.length → great b b.pols.length * ((b.row i).level - (b.row 0).level) ≤ (b.row i).vol - (b.row 0).vol := by
  intro i
  induction i with
  | zero => intro _; simp
  | succ i ih =>
    intro hi
    have h1 := ih (by omega)
    have h2 := h.wide i hi
    unfold wideAt at h2
    have e : great b b.pols.length * ((b.row (i + 1)).level - (b.row 0).level) = great b b.pols.length * ((b.row i).level - (b.row 0).level) + great b b.pols.length * ((b.row (i + 1)).level - (b.row i).level) := by rw [← Int.mul_add]; congr 1; omega
    omega
omit h in
theorem alg1 (G a a0 x dl d : Int) : G * ((a * d + x * dl) - a0 * d) = (G * (a - a0)) * d + x * (G * dl) := by grind
/-- so much above the first row's level is at most so much above its volume. -/
theorem wide_key {v : Int} (hv : b.v0 ≤ v) : great b b.pols.length * (num b v - (b.row 0).level * den b v) ≤ (v - b.v0) * den b v := by
  have hs := seg_lt h.rowsOk v
  have h1 := wide_rows h (seg b v) (by omega)
  have h2 := h.wide (seg b v) hs
  unfold wideAt at h2
  have h3 := seg_vol (b := b) (v := v) hv
  have hd := den_pos h.rowsOk v
  obtain ⟨G, hG⟩ : ∃ G, G = great b b.pols.length := ⟨_, rfl⟩
  rw [← hG] at h1 h2 ⊢
  have e : G * (num b v - (b.row 0).level * den b v) = (G * ((b.row (seg b v)).level - (b.row 0).level)) * den b v + (v - (b.row (seg b v)).vol) * (G * ((b.row (seg b v + 1)).level - (b.row (seg b v)).level)) := by
    unfold num
    exact alg1 _ _ _ _ _ _
  rw [e]
  have h4 : (G * ((b.row (seg b v)).level - (b.row 0).level)) * den b v ≤ ((b.row (seg b v)).vol - (b.row 0).vol) * den b v := Int.mul_le_mul_of_nonneg_right h1 (by omega)
  have h5 : (v - (b.row (seg b v)).vol) * (G * ((b.row (seg b v + 1)).level - (b.row (seg b v)).level)) ≤ (v - (b.row (seg b v)).vol) * den b v := Int.mul_le_mul_of_nonneg_left h2 (by omega)
  have h6 : (v - b.v0) * den b v = ((b.row (seg b v)).vol - (b.row 0).vol) * den b v + (v - (b.row (seg b v)).vol) * den b v := by
    rw [← Int.add_mul]; congr 1; unfold Bas.v0; omega
  omega
/-- the bounds of what a polder takes. -/
theorem takeOf_bd {v : Int} (hv : b.v0 ≤ v ∧ v ≤ 1000000000) {i : Nat} (hi : i < b.pols.length) {fil : Int} (hf : 0 ≤ fil ∧ fil ≤ (b.pol i).room) :
    0 ≤ takeOf b i v fil ∧ takeOf b i v fil ≤ v - b.v0 ∧ takeOf b i v fil ≤ (b.pol i).room - fil := by
  unfold takeOf
  have hd := den_pos h.rowsOk v
  have ht := h.take i hi
  have hsl := h.sill i hi
  by_cases hc : (b.pol i).sill * den b v < num b v
  · rw [if_pos hc]
    have h1 : 0 ≤ (b.pol i).take * (num b v - (b.pol i).sill * den b v) := Int.mul_nonneg ht.1 (by omega)
    have h2 : 0 ≤ (b.pol i).take * (num b v - (b.pol i).sill * den b v) / den b v := Int.ediv_nonneg h1 (by omega)
    have h3 : (b.pol i).take * (num b v - (b.pol i).sill * den b v) / den b v ≤ v - b.v0 := by
      have h4 := wide_key h hv.1
      have h5 : (b.row 0).level * den b v ≤ (b.pol i).sill * den b v := Int.mul_le_mul_of_nonneg_right hsl.1 (by omega)
      have h6 : (b.pol i).take * (num b v - (b.pol i).sill * den b v) ≤ great b b.pols.length * (num b v - (b.row 0).level * den b v) :=
        Int.le_trans (Int.mul_le_mul_of_nonneg_right (great_le b _ i hi) (by omega)) (Int.mul_le_mul_of_nonneg_left (by omega) (great_bd h).1)
      have h7 : (b.pol i).take * (num b v - (b.pol i).sill * den b v) / den b v ≤ (v - b.v0) * den b v / den b v := Int.ediv_le_ediv (by omega) (by omega)
      rw [Int.mul_ediv_cancel _ (by omega)] at h7
      exact h7
    omega
  · rw [if_neg hc]; omega
theorem polV_bd {s : Sta} (hs : StaOk b s) {v : Int} (hv : b.v0 ≤ v ∧ v ≤ 1000000000) : ∀ k, k ≤ b.pols.length → b.v0 ≤ polV b s v k ∧ polV b s v k ≤ v := by
  intro k
  induction k with
  | zero => intro _; simp [polV]; exact hv.1
  | succ k ih =>
    intro hk
    have h1 := ih (by omega)
    have h2 := takeOf_bd h (v := polV b s v k) (by omega) (i := k) (by omega) (hs.fil k (by omega))
    unfold polV; omega
theorem v0_bd : 0 ≤ b.v0 ∧ b.v0 ≤ 1000000000 := h.vol 0 (by have := h.n2; omega)
/-- where no error is: the volumes. -/
structure StepOk (b : Bas) (s : Sta) (t : Tick) : Prop where
  outer : -20000 ≤ t.outer ∧ t.outer ≤ 20000
  river : 0 ≤ t.river ∧ t.river ≤ 10000000
  out : 0 ≤ t.out ∧ t.out ≤ 10000000
  v1 : b.v0 ≤ vol1 s t ∧ vol1 s t ≤ 1000000000
  v2 : b.v0 ≤ vol2 b s t ∧ vol2 b s t ≤ 1000000000
  v3 : b.v0 ≤ vol3 b s t ∧ vol3 b s t ≤ 1000000000
  v4 : b.v0 ≤ vol4 b s t ∧ vol4 b s t ≤ 1000000000
theorem over_bd (t : Tick) (ht : -20000 ≤ t.outer ∧ t.outer ≤ 20000) : 0 ≤ overOf b t ∧ overOf b t ≤ 400000000 := by
  have h1 := h.over
  have h2 := h.crest
  have h3 := mul_bd (X := 10000) (Y := 40000) (x := b.over) (y := max 0 (t.outer - b.crest)) (by omega) (by omega)
  have h4 : 0 ≤ b.over * max 0 (t.outer - b.crest) := Int.mul_nonneg h1.1 (by omega)
  unfold overOf; omega
theorem stepOk_of {s : Sta} (hs : StaOk b s) {t : Tick} (he : stepE b s t = 0) : StepOk b s t := by
  unfold stepE at he
  split at he
  · cases he
  · rename_i h1
    simp only [tickBad, Bool.or_eq_true, not_or, Bool.not_eq_true] at h1
    have o1 := outB_f.1 h1.1
    have o2 := outB_f.1 h1.2.1
    have o3 := outB_f.1 h1.2.2
    split at he
    · cases he
    · split at he
      · cases he
      · split at he
        · cases he
        · have hv := hs.vol
          have h0 := v0_bd h
          have ho := over_bd h t o1
          have hl : b.v0 - vol2 b s t ≤ leakOf b t.outer (vol2 b s t) := by unfold leakOf; omega
          have hv1 : b.v0 ≤ vol1 s t := by unfold vol1; unfold Bas.v0; omega
          have hv2 : b.v0 ≤ vol2 b s t := by unfold vol2; omega
          have hv3 : b.v0 ≤ vol3 b s t := by unfold vol3; omega
          have hv4 : b.v0 ≤ vol4 b s t ∧ vol4 b s t ≤ vol3 b s t := by unfold vol4 outOf; omega
          exact ⟨o1, o2, o3, by omega, by omega, by omega, by omega⟩
/-- behind a tick the state is one of the basin's. -/
theorem stepS_ok {s : Sta} (hs : StaOk b s) {t : Tick} (he : stepE b s t = 0) : StaOk b (stepS b s t) := by
  have hk := stepOk_of h hs he
  have h1 := polV_bd h hs hk.v4
  refine ⟨by simp [stepS, rg_len], ?_, fun i hi => ?_⟩
  · have := h1 _ (Nat.le_refl _); have := hk.v4; simp only [stepS, Bas.v0] at *; omega
  · have e : (stepS b s t).f i = s.f i + polT b s (vol4 b s t) i := by simp only [stepS, Sta.f]; exact rg_at hi
    have h2 := h1 i (by omega)
    have h3 := takeOf_bd h (v := polV b s (vol4 b s t) i) (by have := hk.v4; omega) hi (hs.fil i hi)
    have h4 := hs.fil i hi
    rw [e]; unfold polT; omega
theorem leakQ_bd {v outer : Int} (hv : b.v0 ≤ v ∧ v ≤ 1000000000) (ho : -20000 ≤ outer ∧ outer ≤ 20000) :
    (-20000000000000 ≤ (-outer) * den b v ∧ (-outer) * den b v ≤ 20000000000000) ∧ (-900000000000000000 ≤ b.leak * (-(num b v) - (-outer) * den b v) ∧ b.leak * (-(num b v) - (-outer) * den b v) ≤ 900000000000000000) ∧
    (-900000000000000000 ≤ leakQ b outer v ∧ leakQ b outer v ≤ 900000000000000000) := by
  have hd := den_pos h.rowsOk v
  have hn := num_bd h.rowsOk hv
  have m1 := mul_bd (X := 20000) (Y := 1000000000) (x := -outer) (y := den b v) (by omega) (by omega)
  have hl := h.leak
  have m2 := mul_bd (X := 10000) (Y := 90000000000000) (x := b.leak) (y := -(num b v) - (-outer) * den b v) (by omega) (by omega)
  have m3 := floor_bd (a := b.leak * (-(num b v) - (-outer) * den b v)) hd.1
  refine ⟨by omega, by omega, ?_⟩
  unfold leakQ; omega
theorem takeOver_bd {v : Int} (hv : b.v0 ≤ v ∧ v ≤ 1000000000) {i : Nat} (hi : i < b.pols.length) :
    (-20000000000000 ≤ (b.pol i).sill * den b v ∧ (b.pol i).sill * den b v ≤ 20000000000000) ∧ (-900000000000000000 ≤ (b.pol i).take * (num b v - (b.pol i).sill * den b v) ∧ (b.pol i).take * (num b v - (b.pol i).sill * den b v) ≤ 900000000000000000) := by
  have hd := den_pos h.rowsOk v
  have hn := num_bd h.rowsOk hv
  have ht := h.take i hi
  have hsl := h.sill i hi
  have hl := h.level 0 (by have := h.n2; omega)
  have m1 := mul_bd (X := 20000) (Y := 1000000000) (x := (b.pol i).sill) (y := den b v) (by omega) (by omega)
  have m2 := mul_bd (X := 10000) (Y := 90000000000000) (x := (b.pol i).take) (y := num b v - (b.pol i).sill * den b v) (by omega) (by omega)
  exact ⟨by omega, by omega⟩
end
end Go.Proofs.Ytlfjdbilblfknaa.Bs
/-
  The walks of the water's methods: least, river, over, leak, off.
-/
namespace Go.Proofs.Ytlfjdbilblfknaa.X
open Go Go.RowKit Go.Proofs.Ytlfjdbilblfknaa.Bs
set_option linter.unusedVariables false
section
variable {g : Nat} {p : BV} {b : Bas} {q r : SV} {s : Sta} {t : Tick} {f : Flo} {w : World}
theorem least_any (h : w.heap[g]? = some (watO p b q s t r f)) (hb : BasAt w g p b) (ho : Ok b) :
    Calls Try.prog 61 #[.pointer (some ⟨g, 0, none⟩)] w fun e w' => e = .returned (.int .i64 b.v0) ∧ Below w.heap.size w w' := by
  obtain ⟨A, n, c, A2, n2, c2⟩ := p
  have hn := hb.n_eq
  simp only at hn
  subst hn
  have h2 := ho.n2
  obtain ⟨ad, rfl, hlt⟩ := hb.rows.addr (by simp only; omega)
  simp only [watO, watC] at h
  refine enterL Try.func61 rfl Try.ntmps61 rfl (Sys.start1 (Nat.le_refl g) h) ?_; simp only [frame, Nat.zero_add, Nat.reduceAdd]
  refine XC.hint 0 0 ?_
  repeat (first | (refine M0 ?_; first | refine SL ?_ | refine SB fun _ _ => ?_ | refine Y4 (Ev.load_old tok rfl rfl (add_lt2 hlt) (hb.rowVol (i := 0) (by omega))) ?_) | (refine M1 ?_; first | refine SC ?_ | refine SD ?_) | (refine M2 ?_; refine SE ?_) | (refine M3 ?_; first | refine SG ?_ | refine SF ?_ | refine YF (Ev.load_old tok rfl rfl (add_lt2 hlt) (hb.rowVol (i := 0) (by omega))) ?_) | (refine M4 ?_; refine SR ?_) | (refine M5 ?_; first | exact M7 | refine YM ?_ | refine YN ?_ ?_))
  refine XE.retg tok Try.results61 rfl (by simp only [and_self, and_true]) (fun w' S => ?_)
  exact ⟨rfl, S.same1 h⟩
theorem river_any (h : w.heap[g]? = some (watO p b q s t r f)) (h1 : i64in (s.vol + t.river)) :
    Calls Try.prog 53 #[.pointer (some ⟨g, 0, none⟩)] w fun e w' => e = .returned (.bool (!decide (1000000000 < s.vol + t.river))) ∧ Sys g w [(g, watO p b q { s with vol := s.vol + t.river } t r { f with river := t.river })] w' := by
  have h' := h
  simp only [watO, watC] at h
  refine enterL Try.func53 rfl Try.ntmps53 rfl (Sys.start1 (Nat.le_refl g) h) ?_; simp only [frame, Nat.zero_add, Nat.reduceAdd]
  refine XC.hint 0 0 ?_
  repeat (first | (refine M0 ?_; first | refine SL ?_ | refine SB fun _ _ => ?_) | (refine M1 ?_; first | refine SC ?_ | refine SD ?_) | (refine M2 ?_; refine SE ?_) | (refine M3 ?_; first | refine SG ?_ | refine SF ?_) | (refine M4 ?_; refine SR ?_) | (refine M5 ?_; first | exact M7 | refine YM ?_ | refine YN ?_ ?_))
  refine XL.step _ (Ev.call (f := 58) (ck rfl) rfl (fun w S => (spill_any (p := p) (b := b) (q := q) (s := { s with vol := s.vol + t.river }) (t := t) (r := r) (f := { f with river := t.river }) (S.obj (i := 0) rfl) :))) rfl ?_
  repeat (first | (refine M0 ?_; first | refine SL ?_ | refine SB fun _ _ => ?_) | (refine M1 ?_; first | refine SC ?_ | refine SD ?_) | (refine M2 ?_; refine SE ?_) | (refine M3 ?_; first | refine SG ?_ | refine SF ?_) | (refine M4 ?_; refine SR ?_) | (refine M5 ?_; first | exact M7 | refine YM ?_ | refine YN ?_ ?_))
  refine XE.retg tok Try.results53 rfl (by simp only [and_self, and_true]) (fun w' S => ?_)
  exact ⟨rfl, S⟩
theorem over_run (h : w.heap[g]? = some (watO p b q s t r f)) (ho : Ok b) (ht : -20000 ≤ t.outer ∧ t.outer ≤ 20000) (hv : 0 ≤ s.vol ∧ s.vol ≤ 1000000000) :
    Calls Try.prog 54 #[.pointer (some ⟨g, 0, none⟩)] w fun e w' => e = .returned (.bool (!decide (1000000000 < s.vol + overOf b t))) ∧ Sys g w [(g, watO p b q { s with vol := s.vol + overOf b t } t r { f with over := overOf b t })] w' := by
  have h' := h
  have hc := ho.crest
  have hbd := over_bd ho t ht
  have h1 : i64in (overOf b t) := by unfold i64in; omega
  have h2 : i64in (b.over * max 0 (t.outer - b.crest)) := h1
  have h3 : i64in (s.vol + b.over * max 0 (t.outer - b.crest)) := by have : i64in (s.vol + overOf b t) := by unfold i64in; omega
                                                                     exact this
  simp only [watO, watC] at h
  refine enterL Try.func54 rfl Try.ntmps54 rfl (Sys.start1 (Nat.le_refl g) h) ?_; simp only [frame, Nat.zero_add, Nat.reduceAdd]
  refine XC.hint 0 0 ?_
  repeat (first | (refine M0 ?_; first | refine SL ?_ | refine SB fun _ _ => ?_) | (refine M1 ?_; first | refine SC ?_ | refine SD ?_) | (refine M2 ?_; refine SE ?_) | (refine M3 ?_; first | refine SG ?_ | refine SF ?_) | (refine M4 ?_; refine SR ?_) | (refine M5 ?_; first | exact M7 | refine YM ?_ | refine YN ?_ ?_))
  refine XL.step _ (Ev.call (f := 58) (ck rfl) rfl (fun w S => (spill_any (p := p) (b := b) (q := q) (s := { s with vol := s.vol + overOf b t }) (t := t) (r := r) (f := { f with over := overOf b t }) (S.obj (i := 0) rfl) :))) rfl ?_
  repeat (first | (refine M0 ?_; first | refine SL ?_ | refine SB fun _ _ => ?_) | (refine M1 ?_; first | refine SC ?_ | refine SD ?_) | (refine M2 ?_; refine SE ?_) | (refine M3 ?_; first | refine SG ?_ | refine SF ?_) | (refine M4 ?_; refine SR ?_) | (refine M5 ?_; first | exact M7 | refine YM ?_ | refine YN ?_ ?_))
  refine XE.retg tok Try.results54 rfl (by simp only [and_self, and_true]) (fun w' S => ?_)
  exact ⟨rfl, S⟩
theorem ratio_con : conB (Try.prog.underlying 145) = true := by kernel_rfl
theorem over_m : methO Try.prog 145 "barrage/basin.over" = some 91 := by kernel_rfl
theorem above_m : methO Try.prog 145 "barrage/basin.above" = some 90 := by kernel_rfl
set_option maxHeartbeats 4000000 in
theorem leak_any (h : w.heap[g]? = some (watO p b q s t r f)) (hb : BasAt w g p b) (ho : Ok b) (ht : -20000 ≤ t.outer ∧ t.outer ≤ 20000) (hv : b.v0 ≤ s.vol ∧ s.vol ≤ 1000000000) :
    Calls Try.prog 55 #[.pointer (some ⟨g, 0, none⟩)] w fun e w' => e = .returned (.bool (!decide (1000000000 < s.vol + leakOf b t.outer s.vol))) ∧ Sys g w [(g, watO p b q { s with vol := s.vol + leakOf b t.outer s.vol } t r { f with leak := leakOf b t.outer s.vol })] w' := by
  have h' := h
  have hlt := (Array.getElem?_eq_some_iff.1 h).1
  have hd := den_pos ho.rowsOk s.vol
  have hn := num_bd ho.rowsOk hv
  have h0 := v0_bd ho
  obtain ⟨k1, k2, k3⟩ := leakQ_bd ho hv ht
  have k4 : i64in (-(num b s.vol)) := by unfold i64in; omega
  have k5 : i64in (s.vol + leakOf b t.outer s.vol) := by unfold i64in leakOf; omega
  have k6 : i64in (s.vol + max (leakQ b t.outer s.vol) (b.v0 - s.vol)) := k5
  simp only [watO, watC] at h
  refine enterL Try.func55 rfl Try.ntmps55 rfl (Sys.start1 (Nat.le_refl g) h) ?_; simp only [frame, Nat.zero_add, Nat.reduceAdd]
  refine XC.hint 0 0 ?_
  repeat (first | (refine M0 ?_; first | refine SL ?_ | refine SB fun _ _ => ?_ | refine Y4 (Ev.call (f := 59) (ck rfl) rfl (fun w S => (exact_any (p := p) (hb.sys S) ho.rowsOk hv :))) ?_ | refine Y4 (Ev.call (f := 60) (ck rfl) rfl (fun w S => (minus_any (n := num b s.vol) (d := den b s.vol) k4 w :))) ?_ | refine Y4 (Ev.makeI ratio_con rfl) ?_) | (refine M1 ?_; first | refine SC ?_ | refine SD ?_) | (refine M2 ?_; refine SE ?_) | (refine M3 ?_; first | refine SG ?_ | refine SF ?_ | refine YF (Ev.call (f := 59) (ck rfl) rfl (fun w S => (exact_any (p := p) (hb.sys S) ho.rowsOk hv :))) ?_ | refine YF (Ev.call (f := 60) (ck rfl) rfl (fun w S => (minus_any (n := num b s.vol) (d := den b s.vol) k4 w :))) ?_ | refine YF (Ev.makeI ratio_con rfl) ?_) | (refine M4 ?_; refine SR ?_) | (refine M5 ?_; first | exact M7 | refine YM ?_ | refine YN ?_ ?_))
  repeat (first | (refine M0 ?_; first | refine SL ?_ | refine SB fun _ _ => ?_ | refine Y4 (Ev.makeFunc rfl rfl) ?_ | refine Y4 (Ev.nilCheckM over_m rfl) ?_ | refine Y4 (Ev.invoke (t := 145) over_m (ck rfl) rfl rfl (fun w S => (over_any (n := -(num b s.vol)) (d := den b s.vol) (level := -t.outer) (rate := b.leak) hd.1 (by unfold i64in; omega) (by unfold i64in; omega) (by omega) w :))) ?_ | refine Y4 (Ev.call (f := 61) (ck rfl) rfl (fun w S => (least_any (p := p) (b := b) (q := q) (s := s) (t := t) (r := r) (f := f) (S.obj (i := 0) rfl) (hb.below S.toBelow) ho :))) ?_) | (refine M1 ?_; first | refine SC ?_ | refine SD ?_) | (refine M2 ?_; refine SE ?_) | (refine M3 ?_; first | refine SG ?_ | refine SF ?_ | refine YF (Ev.makeFunc rfl rfl) ?_ | refine YF (Ev.nilCheckM over_m rfl) ?_ | refine YF (Ev.invoke (t := 145) over_m (ck rfl) rfl rfl (fun w S => (over_any (n := -(num b s.vol)) (d := den b s.vol) (level := -t.outer) (rate := b.leak) hd.1 (by unfold i64in; omega) (by unfold i64in; omega) (by omega) w :))) ?_ | refine YF (Ev.call (f := 61) (ck rfl) rfl (fun w S => (least_any (p := p) (b := b) (q := q) (s := s) (t := t) (r := r) (f := f) (S.obj (i := 0) rfl) (hb.below S.toBelow) ho :))) ?_) | (refine M4 ?_; refine SR ?_) | (refine M5 ?_; first | exact M7 | refine YM ?_ | refine YN ?_ ?_))
  rw [show b.leak * (-(num b s.vol) - (-t.outer) * den b s.vol) / den b s.vol = leakQ b t.outer s.vol from rfl]
  repeat (first | (refine M0 ?_; first | refine SL ?_ | refine SB fun _ _ => ?_) | (refine M1 ?_; first | refine SC ?_ | refine SD ?_) | (refine M2 ?_; refine SE ?_) | (refine M3 ?_; first | refine SG ?_ | refine SF ?_) | (refine M4 ?_; refine SR ?_) | (refine M5 ?_; first | exact M7 | refine YM ?_ | refine YN ?_ ?_))
  refine XL.step _ (Ev.call (f := 58) (ck rfl) rfl (fun w S => (spill_any (p := p) (b := b) (q := q) (s := { s with vol := s.vol + leakOf b t.outer s.vol }) (t := t) (r := r) (f := { f with leak := leakOf b t.outer s.vol }) (S.obj (i := 0) rfl) :))) rfl ?_
  repeat (first | (refine M0 ?_; first | refine SL ?_ | refine SB fun _ _ => ?_) | (refine M1 ?_; first | refine SC ?_ | refine SD ?_) | (refine M2 ?_; refine SE ?_) | (refine M3 ?_; first | refine SG ?_ | refine SF ?_) | (refine M4 ?_; refine SR ?_) | (refine M5 ?_; first | exact M7 | refine YM ?_ | refine YN ?_ ?_))
  refine XE.retg tok Try.results55 rfl (by simp only [and_self, and_true]) (fun w' S => ?_)
  exact ⟨rfl, S⟩
theorem off_any (h : w.heap[g]? = some (watO p b q s t r f)) (hb : BasAt w g p b) (ho : Ok b) (ht : 0 ≤ t.out ∧ t.out ≤ 10000000) (hv : b.v0 ≤ s.vol ∧ s.vol ≤ 1000000000) :
    Calls Try.prog 56 #[.pointer (some ⟨g, 0, none⟩)] w fun e w' => e = .returned (.bool true) ∧ Sys g w [(g, watO p b q { s with vol := s.vol - min t.out (s.vol - b.v0) } t r { f with out := min t.out (s.vol - b.v0) })] w' := by
  have h' := h
  have hlt := (Array.getElem?_eq_some_iff.1 h).1
  have h0 := v0_bd ho
  have k5 : i64in (s.vol - min t.out (s.vol - b.v0)) := by unfold i64in; omega
  simp only [watO, watC] at h
  refine enterL Try.func56 rfl Try.ntmps56 rfl (Sys.start1 (Nat.le_refl g) h) ?_; simp only [frame, Nat.zero_add, Nat.reduceAdd]
  refine XC.hint 0 0 ?_
  repeat (first | (refine M0 ?_; first | refine SL ?_ | refine SB fun _ _ => ?_ | refine Y4 (Ev.call (f := 61) (ck rfl) rfl (fun w S => (least_any (p := p) (b := b) (q := q) (s := s) (t := t) (r := r) (f := f) (S.obj (i := 0) rfl) (hb.below S.toBelow) ho :))) ?_) | (refine M1 ?_; first | refine SC ?_ | refine SD ?_) | (refine M2 ?_; refine SE ?_) | (refine M3 ?_; first | refine SG ?_ | refine SF ?_ | refine YF (Ev.call (f := 61) (ck rfl) rfl (fun w S => (least_any (p := p) (b := b) (q := q) (s := s) (t := t) (r := r) (f := f) (S.obj (i := 0) rfl) (hb.below S.toBelow) ho :))) ?_) | (refine M4 ?_; refine SR ?_) | (refine M5 ?_; first | exact M7 | refine YM ?_ | refine YN ?_ ?_))
  refine XE.retg tok Try.results56 rfl (by simp only [and_self, and_true]) (fun w' S => ?_)
  exact ⟨rfl, S⟩
end
end Go.Proofs.Ytlfjdbilblfknaa.X
/-
  A walk by lemmas (12): elements of own blocks at a reckoned index; slices that are built; append to a slice of the call's own.
-/
namespace Go.Proofs.Ytlfjdbilblfknaa.X
open Go Go.RowKit
set_option linter.unusedVariables false
theorem setN_of_lt {α : Type} : ∀ (l : List α) (n : Nat) (x : α), n < l.length → setN l n x = some (l.set n x) := by
  intro l
  induction l with
  | nil => intro n x h; simp at h
  | cons a r ih => intro n x h; cases n with
    | zero => rfl
    | succ n => simp [setN, ih n x (by simpa using h)]
def elemOk (P : Program) (t e size bytes : Nat) : Bool :=
  match P.underlying t with
  | some (.slice e') => Nat.beq e' e && match P.info? e with
    | some i => Nat.beq i.size size && (Nat.beq i.bytes bytes && match i.zero with
      | some z => Nat.beq z.cells.size size
      | none => false)
    | none => false
  | _ => false
theorem elemOk_spec {P : Program} {t e size bytes : Nat} (h : elemOk P t e size bytes = true) : P.underlying t = some (.slice e) ∧ ∃ i z, P.info? e = some i ∧ i.zero = some z ∧ i.size = size ∧ i.bytes = bytes ∧ z.cells.size = size := by
  unfold elemOk at h
  split at h
  · rename_i e' hu
    simp only [Bool.and_eq_true] at h
    obtain ⟨h1, h2⟩ := h
    have := Nat.eq_of_beq_eq_true h1
    subst this
    refine ⟨hu, ?_⟩
    split at h2
    · rename_i i hi
      simp only [Bool.and_eq_true] at h2
      obtain ⟨h3, h4, h5⟩ := h2
      split at h5
      · rename_i z hz
        exact ⟨i, z, hi, hz, Nat.eq_of_beq_eq_true h3, Nat.eq_of_beq_eq_true h4, Nat.eq_of_beq_eq_true h5⟩
      · cases h5
    · cases h2
  · cases h
section
variable {P : Program} {T : TT} {N : Nat} {B : Nat} {w0 : World} {ds : List Deferred} {Q : Exit → Act → World → Prop} {F : Fr} {L : Lo} {pu : Prop} {ops : Array Oper} {rest : List Oper}
variable {dst : Option Tmp} {ty : TypeId} {p : String} {af : Array Edge} {gd : Option (Nat × Bool)}
theorem Sys.trans {L' : Lo} {w w' : World} (h : Sys B w0 L w) (k : Sys B w L' w') (hi : ∀ x, x ∈ L.map (·.1) → x ∈ L'.map (·.1)) : Sys B w0 L' w' :=
  ⟨k.os.trans h.os, k.tape.trans h.tape, k.output.trans h.output, Nat.le_trans h.size k.size, h.base, fun q hq hn => by
    have hL' : ∀ e, e ∈ L → e.1 ≠ q := fun e he e1 => by
      have := hi e.1 (List.mem_map.2 ⟨e, he, rfl⟩)
      obtain ⟨x, hx, e2⟩ := List.mem_map.1 this
      exact hn x hx (e2.trans e1)
    rw [k.old q (Nat.lt_of_lt_of_le hq h.size) hn, h.old q hq hL'], k.own, k.nd⟩
theorem Ev.load_at (hT : TOK P T) (i : Nat) {t : TypeId} {x : Operand} {g o j : Nat} {tg : TypeId} {cs : List Value} {v : Value} (hx : evo F x = some (.pointer (some ((⟨g, o, none⟩ : Addr).add j)))) (hL : L[i]? = some (g, cel tg cs))
    (h1 : lkG T.one t = some ()) (hv : cs[o + j]? = some v) : Ev P N B w0 ds pu F L ⟨dst, .load t x, ty, p, af, gd⟩ v := by
  rw [add_off] at hx
  exact Ev.load_loc hT i hx hL h1 hv
theorem XL.store_at (hT : TOK P T) (i : Nat) {t : TypeId} {x y : Operand} {g o j : Nat} {tg : TypeId} {v : Value} {cs : List Value} {L' : Lo}
    (hx : evo F x = some (.pointer (some ((⟨g, o, none⟩ : Addr).add j)))) (hy : evo F y = some v) (hL : L[i]? = some (g, cel tg cs)) (ht : lkG T.one t = some ()) (h1 : one1 v = true) (hj : o + j < cs.length)
    (hL' : setN L i (g, cel tg (cs.set (o + j) v)) = some L') (k : XL P N B w0 ds Q ops rest F L') :
    XL P N B w0 ds Q ops ({ dst := none, op := .store t x y, type := ty, pos := p, after := af, guard := none } :: rest) F L := by
  rw [add_off] at hx
  have hc : cellsO v = some [v] := by cases v <;> first | rfl | (simp [one1] at h1)
  refine XL.store hT i hx hy hL hc (.inl ⟨ht, rfl⟩) (by simp [h1]) ?_ hL' k
  simp [putN, setN_of_lt _ _ _ hj]

/-! ### a slice is built -/
def fillS (F : Fr) (size : Nat) : List Value → List (Nat × Operand) → Option (List Value)
  | cs, [] => some cs
  | cs, (i, x) :: r => match evo F x with
    | some v => match cellsO v with
      | some vs => match Nat.beq vs.length size with
        | true => match putN cs (i * size) vs with
          | some cs' => fillS F size cs' r
          | none => none
        | false => none
      | none => none
    | none => none
def zerosN (zs : List Value) : Nat → List Value
  | 0 => []
  | n + 1 => zs ++ zerosN zs n
/-- the same, forced. -/
def appO : List Value → List Value → Option (List Value)
  | [], l => some l
  | v :: r, l => match appO r l with
    | some x => some (v :: x)
    | none => none
def zerosO (zs : List Value) : Nat → Option (List Value)
  | 0 => some []
  | n + 1 => match zerosO zs n with
    | some l => appO zs l
    | none => none
theorem appO_eq : ∀ (a l : List Value), appO a l = some (a ++ l) := by
  intro a
  induction a with
  | nil => intro l; rfl
  | cons v r ih => intro l; simp [appO, ih]
theorem zerosO_eq (zs : List Value) : ∀ n, zerosO zs n = some (zerosN zs n) := by
  intro n
  induction n with
  | zero => rfl
  | succ n ih => simp [zerosO, ih, appO_eq, zerosN]
theorem fillS_spec {a : Act} (hf : Fits N ds F a) {size : Nat} : ∀ (ps : List (Nat × Operand)) (cs cs' : List Value), fillS F size cs ps = some cs' → 0 < size →
    Instr.fill (fun i => some (i * size, size)) cs.toArray (ps.map fun x => (x.1, a.eval x.2)) = some cs'.toArray := by
  intro ps
  induction ps with
  | nil => intro cs cs' h _; simp only [fillS, Option.some.injEq] at h; subst h; rfl
  | cons e r ih =>
    intro cs cs' h h0
    obtain ⟨i, x⟩ := e
    simp only [fillS] at h
    split at h
    · rename_i v hx
      split at h
      · rename_i vs hv
        split at h
        · rename_i hs
          split at h
          · rename_i cs1 hpn
            have hs' := Nat.eq_of_beq_eq_true hs
            obtain ⟨h1, h2, h3⟩ := putN_fold vs cs (i * size) cs1 0 (by simpa using hpn)
            have hc := cellsO_spec hv
            simp only [List.map_cons, Instr.fill, hf.eval hx, hc]
            have hz : vs.toArray.zipIdx = (vs.zipIdx 0).toArray := by simp
            rw [if_neg]
            · rw [hz]
              simp only [List.foldl_toArray]
              have : (List.foldl (fun cs (x : Value × Nat) => cs.setIfInBounds (i * size + x.2) x.1) cs.toArray (vs.zipIdx 0)) = cs1.toArray := h1
              rw [this]
              exact ih cs1 cs' h h0
            · intro hgt
              simp only [List.size_toArray, Bool.or_eq_true, decide_eq_true_eq, ne_eq, gt_iff_lt] at hgt
              rcases hgt with hgt | hgt
              · exact hgt hs'
              · have hne : vs ≠ [] := by intro e; subst e; simp at hs'; omega
                have := h3 hne; omega
          · cases h
        · cases h
      · cases h
    · cases h
theorem zerosN_len (zs : List Value) : ∀ n, (zerosN zs n).length = n * zs.length := by
  intro n
  induction n with
  | zero => simp [zerosN]
  | succ n ih => simp [zerosN, ih, Nat.succ_mul]; omega
theorem zerosN_at (zs : List Value) (hz : 0 < zs.length) : ∀ (n i : Nat), i < n * zs.length → (zerosN zs n)[i]? = zs[i % zs.length]? := by
  intro n
  induction n with
  | zero => intro i h; simp at h
  | succ n ih =>
    intro i h
    simp only [zerosN]
    by_cases hi : i < zs.length
    · rw [List.getElem?_append_left hi, Nat.mod_eq_of_lt hi]
    · rw [List.getElem?_append_right (by omega), ih (i - zs.length) (by rw [Nat.succ_mul] at h; omega)]
      congr 1
      rw [Nat.mod_eq_sub_mod (a := i) (by omega)]
theorem zeros_eq (zs : List Value) (hz : 0 < zs.length) (n : Nat) : (Array.range (n * zs.length)).map (fun i => zs.toArray[i % zs.toArray.size]!) = (zerosN zs n).toArray := by
  apply Array.ext
  · simp [zerosN_len]
  · intro i h1 h2
    have hi : i < n * zs.length := by simpa using h1
    have h3 := zerosN_at zs hz n i hi
    have hm : i % zs.length < zs.length := Nat.mod_lt _ hz
    have hlen : i < (zerosN zs n).length := by rw [zerosN_len]; exact hi
    rw [List.getElem?_eq_getElem hlen, List.getElem?_eq_getElem hm] at h3
    simp only [Array.getElem_map, Array.getElem_range, List.size_toArray, List.getElem_toArray, Option.some.injEq] at h3 ⊢
    rw [h3]
    simp [hm]
theorem XL.buildSlice (hT : TOK P T) {d : Nat} {t e : TypeId} {n size : Nat} {ps : List (Nat × Operand)} {z : Value} {zs cs : List Value} (hs : lkG T.sl t = some (e, size)) (hz : lkG T.zero e = some z) (hzs : cellsO z = some zs)
    (hsz : Nat.beq zs.length size = true) (h0 : Nat.blt 0 size = true) (hbig : Nat.ble (n * size) 16777216 = true) {zl : List Value} (hzl : zerosO zs n = some zl) (hc : fillS F size zl ps = some cs) (hd : Nat.blt d N = true)
    (k : ∀ g, w0.heap.size ≤ g → XL P N B w0 ds Q ops rest ((1000000 + d, .slice none L.length 0) :: (d, .slice (some ⟨g, 0, none⟩) n n) :: F) ((g, cel e cs) :: L)) :
    XL P N B w0 ds Q ops ({ dst := some d, op := .buildSlice t n ps.toArray, type := ty, pos := p, after := af, guard := none } :: rest) F L := by
  refine ⟨fun a w hf hw => ?_⟩
  refine wpList_plain rfl fun K hK => ?_
  unfold Oper.wp
  have hsz' := Nat.eq_of_beq_eq_true hsz
  have h0' : 0 < size := Nat.le_of_ble_eq_true h0
  have hbig' : n * size ≤ 16777216 := Nat.le_of_ble_eq_true hbig
  rw [zerosO_eq] at hzl
  obtain rfl := Option.some.inj hzl
  have : (execOp a.eval { dst := some d, op := .buildSlice t n ps.toArray, type := ty, pos := p, after := af, guard := none }).run P w = .ok (.value (.slice (some ⟨w.heap.size, 0, none⟩) n n)) (w.alloc (.cells cs.toArray e)) := by
    have h := tab_ok hT.sl hs
    unfold slOf at h
    cases hu : P.underlying t with
    | none => rw [hu] at h; cases h
    | some dd =>
      rw [hu] at h
      cases dd <;> simp at h
      obtain ⟨i, hi, rfl, rfl⟩ := h
      have hfill := fillS_spec hf ps _ _ hc h0'
      have hbig2 : ¬ (n * i.size > 2 ^ 24) := by omega
      by_cases hn : n = 0
      · subst hn
        simp only [zerosN] at hfill
        have hps : ((Array.range 0).map fun x => (#[] : Array Value)[x % (#[] : Array Value).size]!) = ([] : List Value).toArray := by simp
        simp only [execOp, Instr.buildSlice, Sem.run_bind, run_underlying hu, Result.andThen_ok, sizeOf_run hi, if_neg hbig2, Nat.zero_mul, if_pos, Sem.run_pure]
        have h20 : ¬ (0 > 2 ^ 24) := by decide
        simp only [if_neg h20, Sem.run_bind, Sem.run_pure, Result.andThen_ok]
        rw [hps]
        simp only [List.map_toArray]
        rw [hfill]
        simp [newRow]
      · have hne : ¬ (n * i.size = 0) := by intro e; rcases Nat.mul_eq_zero.1 e with h | h <;> omega
        have hzz := zeros_eq zs (by omega) n
        rw [hsz'] at hzz
        simp only [execOp, Instr.buildSlice, Sem.run_bind, run_underlying hu, Result.andThen_ok, sizeOf_run hi, if_neg hbig2, if_neg hne, zero_run hT hz, Sem.run_pure, cellsO_spec hzs]
        rw [hzz]
        simp only [List.map_toArray]
        rw [hfill]
        simp [newRow]
  rw [this]
  exact hK _ _ ((k w.heap.size hw.size).run _ _ ((hf.put hd).hint d _) (hw.box (cel e cs)))

/-! ### append to a slice of the call's own; the world behind it is the new base -/
/-- the new row is the old one, or a block that was not there. -/
theorem append_fresh {w : World} {base t ty e : Nat} {i : TypeInfo} {z : Value} {size bytes : Nat} (ht : P.underlying t = some (.slice e)) (hi : P.info? e = some i) (hz : i.zero = some z)
    (hsize : i.size = size) (hby : i.bytes = bytes) (hzs : z.cells.size = size) (hsz : 0 < size) {v : Value} {n : Nat} {xs : List Value} (hown : w.ownsRow base e size v n xs)
    {a : Addr} {m c : Nat} {news : List Value} (hl : news.length = m * size) (hnews : ∀ j u, news[j]? = some u → w.cell? (a.add j) = some u) (h1 : ∀ u ∈ news, u.oneCell' = true)
    (h63 : n + m ≤ maxLen) (hbytes : (n + m) * bytes ≤ 140737488355328) {v' : Value} {w' : World} (hrun : (Builtin.append_ #[t, t] ty #[v, .slice (some a) m c]).run P w = .ok v' w') :
    ∀ q, v'.ownBlock = some q → v.ownBlock = some q ∨ w.heap.size ≤ q := by
  intro q hq
  rcases hown.2 with ⟨rfl, rfl⟩ | ⟨g, cap, cur, rfl, hbg, hg, hc, hcm, hcs, htake⟩
  · have hx : xs = [] := List.eq_nil_of_length_eq_zero (by simpa using hown.1)
    subst hx
    obtain ⟨v2, w2, hr, ho, _⟩ := run_append_own w w.heap.size t ty e i z size bytes ht hi hz hsize hby hzs hsz (.slice none 0 0) 0 [] (World.ownsRow_nil w w.heap.size e size) a m c news hl hnews h1 h63 hbytes (Nat.le_refl _)
    rw [hrun] at hr
    cases hr
    exact .inr (ho.lt q hq).1
  · subst hsize hby
    by_cases hroom : n + m ≤ cap
    · have hfit : n * i.size + news.length ≤ cur.size := by rw [hl, hcs, ← Nat.add_mul]; exact Nat.mul_le_mul_right _ hroom
      have hr := run_append_room (P := P) w t ty e i ht hi g n cap cur hg a m c news hl hnews h1 hroom hfit
      rw [hrun] at hr
      cases hr
      exact .inl hq
    · have holds : ∀ j u, xs[j]? = some u → w.cell? ((⟨g, 0, none⟩ : Addr).add j) = some u := hown.cells (g := g) rfl
      simp only [maxLen] at h63
      have hr := run_append_grow (P := P) w t ty e i z ht hi hz ⟨g, 0, none⟩ n cap xs hown.1 holds a m c news hl hnews (by omega) (by omega) (growslice_fits (by omega) hbytes)
      rw [hrun] at hr
      cases hr
      simp only [Value.ownBlock, Option.some.injEq] at hq
      exact .inr (by omega)
theorem XL.append2 {d : Nat} {t e : TypeId} {x y : Operand} {v : Value} {n m c size bytes base : Nat} {xs news : List Value} {A : Addr} {L' : Lo} (he : elemOk P t e size bytes = true) (h0 : 0 < size)
    (hx : evo F x = some v) (hy : evo F y = some (.slice (some A) m c)) (hd : Nat.blt d N = true) (hown : w0.ownsRow base e size v n xs) (hsep : ∀ k, v.ownBlock = some k → ∀ e, e ∈ L → e.1 ≠ k)
    (hl : news.length = m * size) (hnews : ∀ w, Sys B w0 L w → ∀ j u, news[j]? = some u → w.cell? (A.add j) = some u) (h1 : news.all Value.oneCell' = true) (h63 : n + m ≤ maxLen) (hbytes : (n + m) * bytes ≤ 140737488355328) (hbase : base ≤ w0.heap.size)
    (hsub : List.Sublist L' L)
    (k : ∀ w v' w', Sys B w0 L w → w'.ownsRow base e size v' (n + m) (xs ++ news) → w.grownBy w' v.ownBlock → (v' = .slice none 0 0 ↔ v = .slice none 0 0 ∧ m = 0) → (∀ q, v'.ownBlock = some q → v.ownBlock = some q ∨ w.heap.size ≤ q) → XL P N B w' ds Q ops rest ((d, v') :: F) L') :
    XL P N B w0 ds Q ops ({ dst := some d, op := .call { callee := .builtin .append, args := #[x, y], argTypes := #[t, t] }, type := ty, pos := p, after := af, guard := none } :: rest) F L := by
  refine ⟨fun a w hf hs => ?_⟩
  refine wpList_plain rfl fun K hK => ?_
  unfold Oper.wp
  obtain ⟨hu, i, z, hi, hz, e1, e2, e3⟩ := elemOk_spec he
  have hown' : w.ownsRow base e size v n xs := by
    refine ⟨hown.1, ?_⟩
    rcases hown.2 with h | ⟨g, cap, cur, rfl, hb, hg, h⟩
    · exact .inl h
    · refine .inr ⟨g, cap, cur, rfl, hb, ?_, h⟩
      rw [hs.old g (Array.getElem?_eq_some_iff.1 hg).1 (hsep g rfl)]
      exact hg
  obtain ⟨v', w', hrun, ho', hgrow, hnil⟩ := run_append_own w base t ty e i z size bytes hu hi hz e1 e2 e3 h0 v n xs hown' A m c news hl (hnews w hs) (fun u hu => List.all_eq_true.1 h1 u hu) h63 hbytes (Nat.le_trans hbase hs.size)
  have : (execOp a.eval { dst := some d, op := .call { callee := .builtin .append, args := #[x, y], argTypes := #[t, t] }, type := ty, pos := p, after := af, guard := none }).run P w = .ok (.value v') w' := by
    have hm : (#[x, y] : Array Operand).map a.eval = #[v, .slice (some A) m c] := by simp [hf.eval hx, hf.eval hy]
    simp only [execOp, resolve, Sem.run_bind, Sem.run_pure, Result.andThen_ok, invoke, builtin, hm, hrun]
  rw [this]
  have hfr := append_fresh hu hi hz e1 e2 e3 h0 hown' hl (hnews w hs) (fun u hu => List.all_eq_true.1 h1 u hu) h63 hbytes hrun
  refine hK _ _ ((k w v' w' hs ho' hgrow hnil hfr).run _ _ (hf.put hd) ?_)
  have hr := hs.rebase (L' := L') hsub
  refine Sys.start (Nat.le_trans hr.base hgrow.size) (fun e he => ⟨(hr.own e he).1, ?_⟩) hr.nd
  rw [hgrow.block e.1 (hr.lt he) (fun e2 => hsep e.1 e2.symm e (hsub.subset he) rfl)]
  exact (hr.own e he).2
theorem XL.append {d : Nat} {t e : TypeId} {x y : Operand} {v : Value} {n m c size bytes base : Nat} {xs news : List Value} {A : Addr} {L' : Lo} (he : elemOk P t e size bytes = true) (h0 : 0 < size)
    (hx : evo F x = some v) (hy : evo F y = some (.slice (some A) m c)) (hd : Nat.blt d N = true) (hown : w0.ownsRow base e size v n xs) (hsep : ∀ k, v.ownBlock = some k → ∀ e, e ∈ L → e.1 ≠ k)
    (hl : news.length = m * size) (hnews : ∀ w, Sys B w0 L w → ∀ j u, news[j]? = some u → w.cell? (A.add j) = some u) (h1 : news.all Value.oneCell' = true) (h63 : n + m ≤ maxLen) (hbytes : (n + m) * bytes ≤ 140737488355328) (hbase : base ≤ w0.heap.size)
    (hsub : List.Sublist L' L)
    (k : ∀ w v' w', Sys B w0 L w → w'.ownsRow base e size v' (n + m) (xs ++ news) → w.grownBy w' v.ownBlock → (v' = .slice none 0 0 ↔ v = .slice none 0 0 ∧ m = 0) → XL P N B w' ds Q ops rest ((d, v') :: F) L') :
    XL P N B w0 ds Q ops ({ dst := some d, op := .call { callee := .builtin .append, args := #[x, y], argTypes := #[t, t] }, type := ty, pos := p, after := af, guard := none } :: rest) F L :=
  XL.append2 he h0 hx hy hd hown hsep hl hnews h1 h63 hbytes hbase hsub (fun w v' w' S a b c _ => k w v' w' S a b c)
theorem owns_sys {base e size n : Nat} {v : Value} {xs : List Value} {w : World} (h : w0.ownsRow base e size v n xs) (S : Sys B w0 L w) (hsep : ∀ k, v.ownBlock = some k → ∀ e, e ∈ L → e.1 ≠ k) : w.ownsRow base e size v n xs := by
  refine ⟨h.1, ?_⟩
  rcases h.2 with h | ⟨g, cap, cur, rfl, hb, hg, h⟩
  · exact .inl h
  · refine .inr ⟨g, cap, cur, rfl, hb, ?_, h⟩
    rw [S.old g (Array.getElem?_eq_some_iff.1 hg).1 (hsep g rfl)]
    exact hg
theorem XE.roundW {σ : Type} {G : σ → Fr} {M : σ → Lo} {W : σ → World} {pre : σ → Prop} {μ : σ → Nat} {s : σ}
    (h : ∀ w, Sys B w0 L w → ∃ s', pre s' ∧ μ s' < μ s ∧ Sub (G s') F ∧ Sys B (W s') (M s') w) :
    XE N B w0 ds (Exit.then (fun a w => ∃ s', pre s' ∧ μ s' < μ s ∧ Fits N ds (G s') a ∧ Sys B (W s') (M s') w) Q) .normal F L :=
  ⟨fun a w hf hs => by
    obtain ⟨s', h1, h2, h3, h4⟩ := h w hs
    exact ⟨s', h1, h2, h3.fits hf, h4⟩⟩
theorem Sys.grown {w w' : World} {row : Option Nat} (S : Sys B w0 L w) (h : w.grownBy w' row) (hr : ∀ k, row = some k → w0.heap.size ≤ k ∧ ∀ e, e ∈ L → e.1 ≠ k) : Sys B w0 L w' :=
  ⟨h.os.trans S.os, h.tape.trans S.tape, h.output.trans S.output, Nat.le_trans S.size h.size, S.base,
   fun k hk hn => by rw [h.block k (Nat.lt_of_lt_of_le hk S.size) (fun e => by have := (hr k e.symm).1; omega), S.old k hk hn],
   fun e he => ⟨(S.own e he).1, by rw [h.block e.1 (S.lt he) (fun e2 => (hr e.1 e2.symm).2 e he rfl)]; exact (S.own e he).2⟩, S.nd⟩
/-- what was there, but for the slice's own block and L. -/
theorem grown_old {w w' : World} {row : Option Nat} (S : Sys B w0 L w) (h : w.grownBy w' row) {k : Nat} (hk : k < w0.heap.size) (hL : ∀ e, e ∈ L → e.1 ≠ k) (hr : some k ≠ row) : w'.heap[k]? = w0.heap[k]? := by
  rw [h.block k (Nat.lt_of_lt_of_le hk S.size) hr, S.old k hk hL]
theorem grown_below {w w' : World} {row : Option Nat} (S : Sys B w0 L w) (h : w.grownBy w' row) (hr : ∀ k, row = some k → B ≤ k) : Below B w0 w' :=
  Below.trans S.toBelow ⟨h.os, h.tape, h.output, h.size, fun k hk => h.block k (Nat.lt_of_lt_of_le hk (Nat.le_trans S.base S.size)) fun e => by have := hr k e.symm; omega⟩
end
/-- what a slice of the call's own reads. -/
theorem ReadsP.own {w : World} {base e size n : Nat} {A : Option Addr} {m c : Nat} {xs : List Value} (h : w.ownsRow base e size (.slice A m c) n xs) : ReadsP w (Btw base w.heap.size) size A n xs ∧ m = n ∧ (0 < n → n ≤ c) ∧ n ≤ maxLen := by
  rcases h.2 with ⟨e1, rfl⟩ | ⟨g, cap, cur, e1, hb, hg, hc, hm, hsz, hx⟩
  · cases e1
    have : xs = [] := by have := h.1; simp at this; exact this
    subst this
    exact ⟨ReadsP.nil, rfl, fun h => absurd h (by omega), Nat.zero_le _⟩
  · cases e1
    refine ⟨⟨h.1, fun hn => ⟨_, rfl, ⟨hb, (Array.getElem?_eq_some_iff.1 hg).1⟩, fun j u hj => ?_⟩⟩, rfl, fun _ => hc, by omega⟩
    rw [add_off]
    simp only [World.cell?, hg, Nat.zero_add]
    rw [← hx, List.getElem?_take] at hj
    split at hj
    · simpa using hj
    · cases hj
/-- a slice of the call's own is a slice value. -/
theorem owns_sv {w : World} {base e size n : Nat} {v : Value} {xs : List Value} (h : w.ownsRow base e size v n xs) : ∃ r : SV, v = svV r ∧ r.n = n := by
  rcases h.2 with ⟨rfl, rfl⟩ | ⟨g, cap, cur, rfl, _⟩
  · exact ⟨⟨none, 0, 0⟩, rfl, rfl⟩
  · exact ⟨⟨_, _, _⟩, rfl, rfl⟩
theorem owns_sep {w : World} {base e size n : Nat} {v : Value} {xs : List Value} (h : w.ownsRow base e size v n xs) {L : Lo} (hL : ∀ x, x ∈ L → x.1 < base ∨ w.heap.size ≤ x.1) : ∀ k, v.ownBlock = some k → ∀ e, e ∈ L → e.1 ≠ k := fun k hk x hx e1 => by
  have := h.lt k hk
  have := hL x hx
  omega
end Go.Proofs.Ytlfjdbilblfknaa.X
/-
  The walk of the water's polders.
-/
namespace Go.Proofs.Ytlfjdbilblfknaa.X
open Go Go.RowKit Go.Proofs.Ytlfjdbilblfknaa.Bs
set_option linter.unusedVariables false
theorem int_el : elemOk Try.prog 26 3 1 8 = true := by kernel_rfl
/-- what has filled the polders when k have been flooded. -/
def filK (b : Bas) (s : Sta) (k : Nat) : List Int := rg b.pols.length fun i => if i < k then s.f i + polT b s s.vol i else s.f i
theorem filK_0 {b : Bas} {s : Sta} (h : s.fil.length = b.pols.length) : filK b s 0 = s.fil := by
  apply List.ext_getElem (by simp [filK, rg_len, h])
  intro i h1 h2
  simp [filK, rg, Sta.f, h2]
theorem filK_at {b : Bas} {s : Sta} {k : Nat} (h : k < b.pols.length) (sp : List Value) : (ints (filK b s k) ++ sp)[k]? = some (.int .i64 (s.f k)) := by
  have hl : k < (ints (filK b s k)).length := by rw [ints_len]; simpa [filK, rg_len] using h
  rw [List.getElem?_append_left hl]
  simp [ints, filK, rg, h]
theorem filK_set {b : Bas} {s : Sta} {k : Nat} (h : k < b.pols.length) (sp : List Value) : (ints (filK b s k) ++ sp).set k (.int .i64 (s.f k + polT b s s.vol k)) = ints (filK b s (k + 1)) ++ sp := by
  have hl : k < (ints (filK b s k)).length := by rw [ints_len]; simpa [filK, rg_len] using h
  rw [List.set_append_left _ _ hl]
  congr 1
  apply List.ext_getElem (by simp [ints, filK, rg_len])
  intro i h1 h2
  simp only [ints, List.length_map, filK, rg_len] at h2
  rw [List.getElem_set]
  by_cases e : k = i
  · subst e; simp [ints, filK, rg]
  · rw [if_neg e]
    simp only [ints, filK, rg, List.getElem_map, List.getElem_range]
    by_cases hi : i < k
    · rw [if_pos hi, if_pos (by omega)]
    · rw [if_neg hi, if_neg (by omega)]
theorem filK_end (b : Bas) (s : Sta) : filK b s b.pols.length = rg b.pols.length fun i => s.f i + polT b s s.vol i := by
  unfold filK rg
  apply List.map_congr_left
  intro i hi
  rw [if_pos (by simpa using hi)]
section
variable {g fb B n c : Nat} {p : BV} {b : Bas} {s : Sta} {t : Tick} {f : Flo} {w : World} {sp : List Value}
set_option maxHeartbeats 8000000 in
theorem polders_any (h : w.heap[g]? = some (watO p b ⟨some ⟨fb, 0, none⟩, n, c⟩ s t ⟨none, 0, 0⟩ f)) (hfb : w.heap[fb]? = some (cel 3 (ints s.fil ++ sp))) (hne : g ≠ fb) (hBg : B ≤ g) (hBf : B ≤ fb)
    (hb : BasAt w B p b) (ho : Ok b) (hs : StaOk b s) (hn : n = b.pols.length) :
    Calls Try.prog 57 #[.pointer (some ⟨g, 0, none⟩)] w fun e w' => e = .returned (.bool true) ∧ ∃ r : SV, Sys B w [(g, watO p b ⟨some ⟨fb, 0, none⟩, n, c⟩ { s with vol := polV b s s.vol b.pols.length } t r f), (fb, cel 3 (ints (rg b.pols.length fun i => s.f i + polT b s s.vol i) ++ sp))] w' ∧
      w'.ownsRow w.heap.size 3 1 (svV r) b.pols.length (ints (rg b.pols.length fun i => polT b s s.vol i)) := by
  obtain ⟨A, n1, c1, A2, n2, c2⟩ := p
  have hn1 := hb.n_eq
  have hn2 := hb.n2_eq
  simp only at hn1 hn2
  subst hn1 hn2 hn
  have hm := ho.m6
  have h' := h
  have hfb' := hfb
  simp only [watO, watC] at h
  have S0 := Sys.start2 hBg hBf h hfb hne
  have hgl := (Array.getElem?_eq_some_iff.1 h).1
  have hfl := (Array.getElem?_eq_some_iff.1 hfb).1
  refine enterL Try.func57 rfl Try.ntmps57 rfl (S0) ?_; simp only [frame, Nat.zero_add, Nat.reduceAdd]
  refine XC.hint 0 1 ?_
  repeat (first | (refine M0 ?_; first | refine SL ?_ | refine SB fun _ _ => ?_) | (refine M1 ?_; first | refine SC ?_ | refine SD ?_) | (refine M2 ?_; refine SE ?_) | (refine M3 ?_; first | refine SG ?_ | refine SF ?_) | (refine M4 ?_; refine SR ?_) | (refine M5 ?_; first | exact M7 | refine YM ?_ | refine YN ?_ ?_))
  refine XC.loopk [0, 11, 12] rfl (fun s' : Nat × World × SV => [(13, .int .i64 (s'.1 : Nat))])
    (fun s' => [(g, cel 142 (watC ⟨A, b.rows.length, c1, A2, b.pols.length, c2⟩ b ⟨some ⟨fb, 0, none⟩, b.pols.length, c⟩ { s with vol := polV b s s.vol s'.1 } t s'.2.2 f)), (fb, cel 3 (ints (filK b s s'.1) ++ sp))]) (fun s' => s'.2.1)
    (fun s' => s'.1 ≤ b.pols.length ∧ Sys B w [(g, cel 142 (watC ⟨A, b.rows.length, c1, A2, b.pols.length, c2⟩ b ⟨some ⟨fb, 0, none⟩, b.pols.length, c⟩ { s with vol := polV b s s.vol s'.1 } t s'.2.2 f)), (fb, cel 3 (ints (filK b s s'.1) ++ sp))] s'.2.1 ∧
      s'.2.1.ownsRow w.heap.size 3 1 (svV s'.2.2) s'.1 (ints (rg s'.1 fun i => polT b s s.vol i)))
    (fun s' => b.pols.length - s'.1) (0, w, ⟨none, 0, 0⟩) ⟨Nat.zero_le _, ?_, World.ownsRow_nil _ _ _ _⟩ ZZSUB ?_ ?_
  · simp only [filK_0 hs.len]; exact S0
  · intro w' S; simp only [filK_0 hs.len]; exact S
  rintro ⟨k, W, r⟩ ⟨hk, SW, hown⟩
  simp only at hk SW hown
  simp only [watC]
  dsimp only [List.cons_append, List.nil_append]
  repeat (first | (refine M0 ?_; first | refine SL ?_ | refine SB fun _ _ => ?_) | (refine M1 ?_; first | refine SC ?_ | refine SD ?_) | (refine M2 ?_; refine SE ?_) | (refine M3 ?_; first | refine SG ?_ | refine SF ?_) | (refine M4 ?_; refine SR ?_) | (refine M5 ?_; first | exact M7 | refine YM ?_ | refine YN ?_ ?_))
  refine XC.cond _ rfl (fun h1 => ?_) (fun h1 => ?_)
  · have hkm : k < b.pols.length := by simpa using h1
    have hbW := hb.below SW.toBelow
    obtain ⟨ad2, rfl, hlt2⟩ := hb.pols.addr (by simp only; omega)
    have hpv := polV_bd ho hs (v := s.vol) hs.vol k hk
    have hv : b.v0 ≤ polV b s s.vol k ∧ polV b s s.vol k ≤ 1000000000 := by have := hs.vol; omega
    have hd := den_pos ho.rowsOk (polV b s s.vol k)
    have hnm := num_bd ho.rowsOk hv
    obtain ⟨k1, k2⟩ := takeOver_bd ho hv hkm
    have k3 : i64in ((b.pol k).sill * den b (polV b s s.vol k)) := by unfold i64in; omega
    repeat (first | (refine M0 ?_; first | refine SL ?_ | refine SB fun _ _ => ?_ | refine Y4 (Ev.load_old_agg tok (polC (b.pol k)) rfl rfl rfl (add_lt hlt2) (hbW.pol hkm)) ?_) | (refine M1 ?_; first | refine SC ?_ | refine SD ?_) | (refine M2 ?_; refine SE ?_) | (refine M3 ?_; first | refine SG ?_ | refine SF ?_ | refine YF (Ev.load_old_agg tok (polC (b.pol k)) rfl rfl rfl (add_lt hlt2) (hbW.pol hkm)) ?_) | (refine M4 ?_; refine SR ?_) | (refine M5 ?_; first | exact M7 | refine YM ?_ | refine YN ?_ ?_))
    rename_i gx hgx
    have htk := takeOf_bd ho hv hkm (hs.fil k hkm)
    have hrm := ho.room k hkm
    have h0 := v0_bd ho
    have hfk := hs.fil k hkm
    obtain ⟨tk, htkq⟩ : ∃ tk, tk = takeOf b k (polV b s s.vol k) (s.f k) := ⟨_, rfl⟩
    repeat (first | (refine M0 ?_; first | refine SL ?_ | refine SB fun _ _ => ?_ | refine Y4 (Ev.call (f := 59) (ck rfl) rfl (fun w S => (exact_any (p := ⟨A, b.rows.length, c1, some ad2, b.pols.length, c2⟩) (hbW.sys S) ho.rowsOk hv :))) ?_ | refine Y4 (Ev.makeI ratio_con rfl) ?_) | (refine M1 ?_; first | refine SC ?_ | refine SD ?_) | (refine M2 ?_; refine SE ?_) | (refine M3 ?_; first | refine SG ?_ | refine SF ?_ | refine YF (Ev.call (f := 59) (ck rfl) rfl (fun w S => (exact_any (p := ⟨A, b.rows.length, c1, some ad2, b.pols.length, c2⟩) (hbW.sys S) ho.rowsOk hv :))) ?_ | refine YF (Ev.makeI ratio_con rfl) ?_) | (refine M4 ?_; refine SR ?_) | (refine M5 ?_; first | exact M7 | refine YM ?_ | refine YN ?_ ?_))
    refine XL.step _ (Ev.invoke (t := 145) above_m (ck rfl) rfl rfl (fun w S => (above_any (n := num b (polV b s s.vol k)) (d := den b (polV b s s.vol k)) (level := (b.pol k).sill) k3 w :))) rfl ?_
    repeat (first | (refine M0 ?_; first | refine SL ?_ | refine SB fun _ _ => ?_) | (refine M1 ?_; first | refine SC ?_ | refine SD ?_) | (refine M2 ?_; refine SE ?_) | (refine M3 ?_; first | refine SG ?_ | refine SF ?_) | (refine M4 ?_; refine SR ?_) | (refine M5 ?_; first | exact M7 | refine YM ?_ | refine YN ?_ ?_))
    refine XC.cutln [0, 3, 11, 12, 13] rfl (fun _ : Unit => [(6, .int .i64 tk)]) (fun _ => []) (fun _ => True) ?_ (fun _ _ => ?_)
    · refine XC.cond _ rfl (fun h2 => ?_) (fun h2 => ?_)
      · simp only [decide_eq_true_eq] at h2
        unfold takeOf at htkq
        rw [if_pos h2] at htkq
        have htkr := htk
        unfold takeOf at htkr
        rw [if_pos h2] at htkr
        repeat (first | (refine M0 ?_; first | refine SL ?_ | refine SB fun _ _ => ?_ | refine Y4 (Ev.invoke (t := 145) over_m (ck rfl) rfl rfl (fun w S => (over_any (n := num b (polV b s s.vol k)) (d := den b (polV b s s.vol k)) (level := (b.pol k).sill) (rate := (b.pol k).take) hd.1 k3 (by unfold i64in; omega) (by omega) w :))) ?_ | refine Y4 (Ev.load_at tok 2 (v := .int .i64 (s.f k)) rfl rfl rfl (by simpa using filK_at hkm sp)) ?_) | (refine M1 ?_; first | refine SC ?_ | refine SD ?_) | (refine M2 ?_; refine SE ?_) | (refine M3 ?_; first | refine SG ?_ | refine SF ?_ | refine YF (Ev.invoke (t := 145) over_m (ck rfl) rfl rfl (fun w S => (over_any (n := num b (polV b s s.vol k)) (d := den b (polV b s s.vol k)) (level := (b.pol k).sill) (rate := (b.pol k).take) hd.1 k3 (by unfold i64in; omega) (by omega) w :))) ?_ | refine YF (Ev.load_at tok 2 (v := .int .i64 (s.f k)) rfl rfl rfl (by simpa using filK_at hkm sp)) ?_) | (refine M4 ?_; refine SR ?_) | (refine M5 ?_; first | exact M7 | refine YM ?_ | refine YN ?_ ?_))
        rw [← htkq]
        refine XE.leaf () ZZSUB (fun _ S' => by first | exact S' | exact S'.perm (by repeat (first | exact List.Perm.refl _ | refine perm1 ?_ | refine List.Perm.cons _ ?_ | refine perm2 ?_)) | exact (S'.pop (by assumption)) | exact (S'.pop2 (by assumption))) ?_
        trivial
      · simp only [decide_eq_false_iff_not] at h2
        unfold takeOf at htkq
        rw [if_neg h2] at htkq
        rw [htkq]
        repeat (first | (refine M0 ?_; first | refine SL ?_ | refine SB fun _ _ => ?_) | (refine M1 ?_; first | refine SC ?_ | refine SD ?_) | (refine M2 ?_; refine SE ?_) | (refine M3 ?_; first | refine SG ?_ | refine SF ?_) | (refine M4 ?_; refine SR ?_) | (refine M5 ?_; first | exact M7 | refine YM ?_ | refine YN ?_ ?_))
        refine XE.leaf () ZZSUB (fun _ S' => by first | exact S' | exact S'.perm (by repeat (first | exact List.Perm.refl _ | refine perm1 ?_ | refine List.Perm.cons _ ?_ | refine perm2 ?_)) | exact (S'.pop (by assumption)) | exact (S'.pop2 (by assumption))) ?_
        trivial
    dsimp only [List.cons_append, List.nil_append]
    rw [← htkq] at htk
    have k4 : i64in (s.f k + tk) := by unfold i64in; omega
    repeat (first | (refine M0 ?_; first | refine SL ?_ | refine SB fun _ _ => ?_ | refine Y4 (Ev.load_at tok 2 (v := .int .i64 (s.f k)) rfl rfl rfl (by simpa using filK_at hkm sp)) ?_) | (refine M1 ?_; first | refine SC ?_ | refine SD ?_) | (refine M2 ?_; refine SE ?_) | (refine M3 ?_; first | refine SG ?_ | refine SF ?_ | refine YF (Ev.load_at tok 2 (v := .int .i64 (s.f k)) rfl rfl rfl (by simpa using filK_at hkm sp)) ?_) | (refine M4 ?_; refine SR ?_) | (refine M5 ?_; first | exact M7 | refine YM ?_ | refine YN ?_ ?_))
    have hlen : b.pols.length ≤ (ints (filK b s k) ++ sp).length := by simp [ints, filK, rg_len]
    refine XL.store_at tok 2 rfl rfl rfl rfl rfl (show 0 + (k : Int).toNat * 1 < (ints (filK b s k) ++ sp).length by rw [Int.toNat_natCast]; omega) rfl ?_
    repeat (first | (refine M0 ?_; first | refine SL ?_ | refine SB fun _ _ => ?_) | (refine M1 ?_; first | refine SC ?_ | refine SD ?_) | (refine M2 ?_; refine SE ?_) | (refine M3 ?_; first | refine SG ?_ | refine SF ?_) | (refine M4 ?_; refine SR ?_) | (refine M5 ?_; first | exact M7 | refine YM ?_ | refine YN ?_ ?_))
    refine XL.buildSlice tok rfl rfl rfl rfl rfl rfl rfl rfl rfl (fun gb hgb => ?_)
    have hWs : w.heap.size ≤ W.heap.size := SW.size
    refine XL.append (v := svV r) (m := 1) (n := k) (size := 1) (bytes := 8) (news := [.int .i64 tk]) int_el (by decide) rfl rfl rfl hown
      (owns_sep hown (fun x hx => by simp only [List.mem_cons, List.not_mem_nil, or_false] at hx; rcases hx with rfl | rfl | rfl | rfl <;> simp only <;> omega)) rfl
      (fun w' S j u hj => by rw [add_off]; exact (S.cell (List.mem_cons_self) _).trans (by simpa using hj)) rfl (by unfold maxLen; omega) (by omega) SW.size
      (List.Sublist.cons _ (List.Sublist.cons _ (List.Sublist.refl _))) (fun w1 v' w2 S1 ho1 hg1 _ => ?_)
    obtain ⟨r2, rfl, hr2⟩ := owns_sv ho1
    simp only [svV]
    repeat (first | (refine M0 ?_; first | refine SL ?_ | refine SB fun _ _ => ?_) | (refine M1 ?_; first | refine SC ?_ | refine SD ?_) | (refine M2 ?_; refine SE ?_) | (refine M3 ?_; first | refine SG ?_ | refine SF ?_) | (refine M4 ?_; refine SR ?_) | (refine M5 ?_; first | exact M7 | refine YM ?_ | refine YN ?_ ?_))
    refine XE.roundW (s := (k, W, r)) ?_
    intro w3 S3
    have e1 : polV b s s.vol (k + 1) = polV b s s.vol k - tk := by rw [htkq]; rfl
    have e2 : (ints (filK b s k) ++ sp).set (0 + (k : Int).toNat * 1) (.int .i64 (s.f k + tk)) = ints (filK b s (k + 1)) ++ sp := by
      rw [Nat.zero_add, Int.toNat_natCast, Nat.mul_one, htkq]; exact filK_set hkm sp
    rw [e2] at S3
    refine ⟨(k + 1, w3, r2), ⟨hkm, ?_, ?_⟩, ?_, ZZSUB, ?_⟩
    · simp only [e1]
      refine ((SW.trans ((S1.pop hgb).pop hgx) (fun x hx => by simpa using hx)).grown hg1 fun q hq => ?_).trans S3 (fun x hx => by simpa using hx)
      have := hown.lt q hq
      exact ⟨this.1, fun x hx e2 => by simp only [List.mem_cons, List.not_mem_nil, or_false] at hx; rcases hx with rfl | rfl <;> simp only at e2 <;> omega⟩
    · have e3 : ints (rg (k + 1) fun i => polT b s s.vol i) = ints (rg k fun i => polT b s s.vol i) ++ [.int .i64 tk] := by rw [rg_succ, htkq]; simp [ints, polT]
      simp only [e3]
      exact owns_sys ho1 S3 (owns_sep ho1 (fun x hx => by simp only [List.mem_cons, List.not_mem_nil, or_false] at hx; rcases hx with rfl | rfl <;> simp only <;> omega))
    · simp only; omega
    · simp only [e1]
      exact S3.rebase (List.Sublist.refl _)
  · have hge : k = b.pols.length := by simp at h1; omega
    subst hge
    repeat (first | (refine M0 ?_; first | refine SL ?_ | refine SB fun _ _ => ?_) | (refine M1 ?_; first | refine SC ?_ | refine SD ?_) | (refine M2 ?_; refine SE ?_) | (refine M3 ?_; first | refine SG ?_ | refine SF ?_) | (refine M4 ?_; refine SR ?_) | (refine M5 ?_; first | exact M7 | refine YM ?_ | refine YN ?_ ?_))
    refine XE.retg tok Try.results57 rfl (by simp only [and_self, and_true]) (fun w' S => ?_)
    refine ⟨rfl, r, ?_, ?_⟩
    · rw [← filK_end]
      exact SW.trans S (fun x hx => by simpa using hx)
    · exact owns_sys hown S (owns_sep hown (fun x hx => by simp only [List.mem_cons, List.not_mem_nil, or_false] at hx; rcases hx with rfl | rfl <;> simp only <;> omega))
end
end Go.Proofs.Ytlfjdbilblfknaa.X
/-
  A walk by lemmas (13): a slice against nil; arrays as values; the world at hand as the new base; what a slice of one's own is behind a call.
-/
namespace Go.Proofs.Ytlfjdbilblfknaa.X
open Go Go.RowKit
set_option linter.unusedVariables false
section
variable {P : Program} {T : TT} {N : Nat} {B : Nat} {w0 : World} {ds : List Deferred} {Q : Exit → Act → World → Prop} {F : Fr} {L L' : Lo} {pu : Prop} {ops : Array Oper} {rest : List Oper}
variable {dst : Option Tmp} {ty : TypeId} {p : String} {af : Array Edge} {gd : Option (Nat × Bool)}
theorem XL.rebase (hs : List.Sublist L' L) (k : ∀ w1, Sys B w0 L w1 → XL P N B w1 ds Q ops rest F L') : XL P N B w0 ds Q ops rest F L :=
  ⟨fun a w hf h => (k w h).run a w hf (h.rebase hs)⟩
theorem XC.rebase {c : Code} (hs : List.Sublist L' L) (k : ∀ w1, Sys B w0 L w1 → XC P N B w1 ds Q c F L') : XC P N B w0 ds Q c F L :=
  ⟨fun a w hf h => (k w h).run a w hf (h.rebase hs)⟩
theorem Ev.eqNil (hT : TOK P T) {x y : Operand} {t e es : Nat} {u : TypeId} {A : Option Addr} {n c : Nat} (hx : evo F x = some (.slice A n c)) (hy : evo F y = some (.slice none 0 0)) (hs : lkG T.sl t = some (e, es)) :
    Ev P N B w0 ds pu F L ⟨dst, .binOp .eql t x y u, ty, p, af, gd⟩ (.bool A.isNone) := .of_run fun a w hf hw => by
  have h := tab_ok hT.sl hs
  unfold slOf at h
  cases hu : P.underlying t with
  | none => rw [hu] at h; cases h
  | some d =>
    rw [hu] at h
    cases d <;> simp at h
    rename_i e'
    have h1 := Lib.run_eql_slice_nil (P := P) w t e' A n c 0 0 hu
    have h2 : (eqGuard .eql t x y (.slice A n c) (.slice none 0 0)).run P w = .ok () w := by simp [eqGuard]
    simp only [execOp, hf.eval hx, hf.eval hy, Sem.run_bind, h2, Result.andThen_ok, h1, Sem.run_pure]
/-- a call that turns one own block. -/
theorem XL.callT (i : Nat) {f : FuncId} {d : Nat} {c : Operand} {fst cap : List Value} {args : Array Operand} {vs : List Value} {ats : Array TypeId} {g B' : Nat} {o o' : Obj} {v : Value} (h : callOk P f = true)
    (hcv : evo F c = some (.func (.func f) fst.toArray cap.toArray)) (ha : evos F args.toList = some vs) (hd : Nat.blt d N = true) (hL : L[i]? = some (g, o)) (hL' : setN L i (g, o') = some L')
    (hc : ∀ w, Sys B w0 L w → Calls P f (fst ++ vs ++ cap).toArray w fun e w' => e = .returned v ∧ Sys B' w [(g, o')] w') (k : XL P N B w0 ds Q ops rest ((d, v) :: F) L') :
    XL P N B w0 ds Q ops ({ dst := some d, op := .call { callee := .value c, args := args, argTypes := ats }, type := ty, pos := p, after := af, guard := none } :: rest) F L :=
  XL.callr (fun w u w' => u = v ∧ Sys B' w [(g, o')] w') h hcv ha hd (fun w S => (hc w S).mono fun e w' he => ⟨v, he.1, rfl, he.2⟩)
    (fun w u w' S hR => ⟨L', w0, S.turned i hL hL' hR.2, by rw [hR.1]; exact k⟩)
theorem set_cases {i g : Nat} {o o' : Obj} (nd : (L.map (·.1)).Nodup) (hi : L[i]? = some (g, o)) : (L.set i (g, o')).map (·.1) = L.map (·.1) ∧ ∀ e, e ∈ L.set i (g, o') → e = (g, o') ∨ (e ∈ L ∧ e.1 ≠ g) := by
  have hlt : i < L.length := (List.getElem?_eq_some_iff.1 hi).1
  have hLi : L[i] = (g, o) := (List.getElem?_eq_some_iff.1 hi).2
  refine ⟨?_, fun e he => ?_⟩
  · rw [List.map_set]
    have : (L.map (·.1))[i]'(by simpa using hlt) = g := by simp [hLi]
    conv => rhs; rw [← @List.set_getElem_self _ (L.map (·.1)) i (by simpa using hlt)]
    rw [this]
  · obtain ⟨j, hj, rfl⟩ := List.mem_iff_getElem.1 he
    by_cases hij : i = j
    · subst hij; left; simp
    · right
      rw [List.getElem_set_ne hij]
      simp at hj
      refine ⟨List.getElem_mem _, fun e2 => ?_⟩
      have hn := List.getElem_inj (xs := L.map (·.1)) (i := i) (j := j) (h₀ := by simpa using hlt) (h₁ := by simpa using hj) nd
      exact hij (hn.1 (by simp [hLi, e2]))
/-- one own block has been turned, and one of no matter here. -/
theorem Sys.turnedF {w5 w6 : World} {B' g f : Nat} {o o' o2 : Obj} (S : Sys B w0 L w5) (i : Nat) (hL : L[i]? = some (g, o)) (hL' : setN L i (g, o') = some L') (h' : Sys B' w5 [(g, o'), (f, o2)] w6) (hf : ∀ e, e ∈ L → e.1 ≠ f) : Sys B w6 L' w6 := by
  obtain ⟨e, _⟩ := setN_spec _ _ _ _ hL'
  subst e
  obtain ⟨h1, h2⟩ := set_cases (o' := o') S.nd hL
  refine Sys.start (Nat.le_trans S.base (Nat.le_trans S.size h'.size)) (fun x hx => ?_) (by rw [h1]; exact S.nd)
  rcases h2 x hx with rfl | ⟨hm, hne⟩
  · exact ⟨(S.own _ (List.mem_of_getElem? hL)).1, (h'.own _ (List.mem_cons_self)).2⟩
  · refine ⟨(S.own x hm).1, ?_⟩
    rw [h'.old x.1 (S.lt hm) (fun y hy e1 => ?_)]
    · exact (S.own x hm).2
    · simp only [List.mem_cons, List.not_mem_nil, or_false] at hy
      rcases hy with rfl | rfl
      · exact hne e1.symm
      · exact hf x hm e1.symm
/-- an array of one-cell elements is built. -/
theorem Ev.buildArr (hT : TOK P T) {t e n : Nat} {parts : List (Nat × Operand)} {z : Value} {zs cs : List Value} (hu : P.underlying t = some (.array n e)) (he : (P.info? e).map (·.size) = some 1) (hz : lkG T.zero t = some z) (hzs : cellsO z = some zs)
    (hc : fillS F 1 zs parts = some cs) : Ev P N B w0 ds pu F L ⟨dst, .build t parts.toArray, ty, p, af, gd⟩ (.agg cs.toArray) := .of_run fun a w hf hw => by
  cases hi : P.info? e with
  | none => rw [hi] at he; cases he
  | some i =>
    rw [hi] at he
    simp only [Option.map_some, Option.some.injEq] at he
    have hfill := fillS_spec hf parts zs cs hc (by decide)
    simp only [execOp, Instr.build, Sem.run_bind, zero_run hT hz, Result.andThen_ok, run_underlying hu, sizeOf_run hi, he, cellsO_spec hzs, List.map_toArray]
    rw [hfill]
    simp
theorem Ev.indexArr (hT : TOK P T) {t e n : Nat} {x i : Operand} {cs : List Value} {k : IntKind} {j : Nat} {v : Value} (hu : P.underlying t = some (.array n e)) (he : lkG T.one e = some ()) (hx : evo F x = some (.agg cs.toArray)) (hi : evo F i = some (.int k (j : Int))) (hj : j < n)
    (hv : cs[j]? = some v) : Ev P N B w0 ds pu F L ⟨dst, .index t x i, ty, p, af, gd⟩ v := .of_run fun a w hf hw => by
  obtain ⟨h1, h2⟩ := isAgg_of_one (tab_ok hT.one he) w
  simp [execOp, Instr.index, hf.eval hx, hf.eval hi, run_underlying hu, asIntOf, hj, h2, part, asAgg, h1, hv]
end
theorem owns_base {w : World} {base base' e size n : Nat} {v : Value} {xs : List Value} (h : w.ownsRow base e size v n xs) (hb : base' ≤ base) : w.ownsRow base' e size v n xs := by
  refine ⟨h.1, ?_⟩
  rcases h.2 with h | ⟨g, cap, cur, rfl, hb2, h⟩
  · exact .inl h
  · exact .inr ⟨g, cap, cur, rfl, by omega, h⟩
/-- its block, known whole. -/
theorem owns_block {w : World} {base e n : Nat} {A : Option Addr} {m c : Nat} {xs : List Value} (h : w.ownsRow base e 1 (.slice A m c) n xs) (hn : 0 < n) : ∃ g sp, A = some ⟨g, 0, none⟩ ∧ m = n ∧ base ≤ g ∧ w.heap[g]? = some (cel e (xs ++ sp)) ∧ xs.length + sp.length = c ∧ c ≤ maxLen := by
  rcases h.2 with ⟨e1, rfl⟩ | ⟨g, cap, cur, e1, hb, hg, hc, hm, hsz, hx⟩
  · omega
  · cases e1
    refine ⟨g, cur.toList.drop (n * 1), rfl, rfl, hb, ?_, ?_, hm⟩
    · rw [hg, ← hx, List.take_append_drop]
    · have := h.1
      have h2 : cur.toList.length = c := by simp [hsz]
      simp only [List.length_drop, h2]
      omega
theorem owns_of {w : World} {base e g n c : Nat} {xs sp : List Value} (hg : w.heap[g]? = some (cel e (xs ++ sp))) (hb : base ≤ g) (hn : xs.length = n) (hc : xs.length + sp.length = c) (hm : c ≤ maxLen) : w.ownsRow base e 1 (.slice (some ⟨g, 0, none⟩) n c) n xs :=
  ⟨by omega, .inr ⟨g, c, (xs ++ sp).toArray, rfl, hb, hg, by omega, hm, by simp; omega, by simp [← hn]⟩⟩
theorem IntsAt.own {w : World} {base e : Nat} {r : SV} {l : List Int} (h : w.ownsRow base e 1 (svV r) l.length (ints l)) : IntsAt w (Btw base w.heap.size) r l := by
  obtain ⟨h1, h2, _, h4⟩ := ReadsP.own h
  exact ⟨by rw [h2]; exact h1, by rw [h2]; simp only [maxLen] at h4; omega⟩
theorem IntsAt.nil {w : World} {ok : Nat → Prop} : IntsAt w ok ⟨none, 0, 0⟩ [] := ⟨ReadsP.nil, by simp⟩
theorem Keep.sysT {ok : Nat → Prop} {w0 w : World} {B : Nat} {L L' : Lo} (h : Keep ok w0 L) (S : Sys B w0 L' w) (e : L'.map (·.1) = L.map (·.1)) : ∀ k, ok k → w.heap[k]? = w0.heap[k]? := (h.turn e).sys S
end Go.Proofs.Ytlfjdbilblfknaa.X
/-
  The walks of slices.Clone and of the polders of a basin without any.
-/
namespace Go.Proofs.Ytlfjdbilblfknaa.X
open Go Go.RowKit Go.Proofs.Ytlfjdbilblfknaa.Bs
set_option linter.unusedVariables false
theorem clone_any {q : SV} {l : List Int} {w : World} (hq : IntsAt w (Lt w.heap.size) q l) (hl : l.length ≤ 1000) :
    Calls Try.prog 52 #[svV q] w fun e w' => ∃ v, e = .returned v ∧ ((∃ r : SV, v = svV r ∧ w'.ownsRow w.heap.size 3 1 (svV r) l.length (ints l)) ∧ Below w.heap.size w w') := by
  obtain ⟨A, n, c⟩ := q
  have hn := hq.len
  simp only at hn
  subst hn
  simp only [svV]
  cases A with
  | none =>
    have h0 : l = [] := by
      cases l with
      | nil => rfl
      | cons x r => obtain ⟨ad, e, _⟩ := hq.at_ (by simp); cases e
    subst h0
    refine enter Try.func52 rfl Try.ntmps52 rfl ?_; simp only [frame, Nat.zero_add, Nat.reduceAdd]
    repeat (first | (refine M0 ?_; first | refine SL ?_ | refine SB fun _ _ => ?_ | refine Y4 (Ev.eqNil tok rfl rfl rfl) ?_) | (refine M1 ?_; first | refine SC ?_ | refine SD ?_) | (refine M2 ?_; refine SE ?_) | (refine M3 ?_; first | refine SG ?_ | refine SF ?_ | refine YF (Ev.eqNil tok rfl rfl rfl) ?_) | (refine M4 ?_; refine SR ?_) | (refine M5 ?_; first | exact M7 | refine YM ?_ | refine YN ?_ ?_))
    refine XE.retg tok Try.results52 rfl (by simp only [and_self, and_true]) (fun w' S => ?_)
    exact ⟨_, rfl, ⟨⟨none, 0, 0⟩, rfl, World.ownsRow_nil _ _ _ _⟩, S.toBelow⟩
  | some ad =>
    refine enter Try.func52 rfl Try.ntmps52 rfl ?_; simp only [frame, Nat.zero_add, Nat.reduceAdd]
    repeat (first | (refine M0 ?_; first | refine SL ?_ | refine SB fun _ _ => ?_ | refine Y4 (Ev.eqNil tok rfl rfl rfl) ?_) | (refine M1 ?_; first | refine SC ?_ | refine SD ?_) | (refine M2 ?_; refine SE ?_) | (refine M3 ?_; first | refine SG ?_ | refine SF ?_ | refine YF (Ev.eqNil tok rfl rfl rfl) ?_) | (refine M4 ?_; refine SR ?_) | (refine M5 ?_; first | exact M7 | refine YM ?_ | refine YN ?_ ?_))
    refine XL.buildSlice tok rfl rfl rfl rfl rfl rfl rfl rfl rfl (fun gb hgb => ?_)
    refine XL.rebase (L' := []) (List.nil_sublist _) (fun w1 S1 => ?_)
    have hg1 := (S1.own _ (List.mem_cons_self)).2
    have hb1 := (hq.arg S1)
    repeat (first | (refine M0 ?_; first | refine SL ?_ | refine SB fun _ _ => ?_) | (refine M1 ?_; first | refine SC ?_ | refine SD ?_) | (refine M2 ?_; refine SE ?_) | (refine M3 ?_; first | refine SG ?_ | refine SF ?_) | (refine M4 ?_; refine SR ?_) | (refine M5 ?_; first | exact M7 | refine YM ?_ | refine YN ?_ ?_))
    have hcell : ∀ j u, (ints l)[j]? = some u → w1.cell? (ad.add j) = some u ∧ ad.block < w1.heap.size := fun j u hj => by
      have hlen := hq.rd.len
      obtain ⟨ad', e1, h1, h2⟩ := hb1.rd.at_ (by have := (List.getElem?_eq_some_iff.1 hj).1; rw [ints_len] at this; simp only; omega)
      cases e1
      exact ⟨h2 j u hj, h1⟩
    refine XL.append (v := .slice (some ⟨gb, 0, none⟩) 0 0) (m := l.length) (n := 0) (size := 1) (bytes := 8) (base := w.heap.size) (xs := []) (news := ints l) (L' := []) int_el (by decide) rfl rfl rfl
      ⟨by simp, .inr ⟨gb, 0, #[], rfl, hgb, hg1, Nat.le_refl _, Nat.zero_le _, by simp, by simp⟩⟩ (fun k hk x hx => by cases hx) (by rw [ints_len]; simp)
      (fun w2 S2 j u hj => by
        obtain ⟨h3, h4⟩ := hcell j u hj
        exact (S2.farCell (by rw [add_block]; exact h4) (fun x hx => by cases hx)).trans h3) (by simp [ints, Value.oneCell']) (by unfold maxLen; omega) (by omega) S1.size (List.nil_sublist _) (fun w2 v' w3 S2 ho hg _ => ?_)
    obtain ⟨r, rfl, hr⟩ := owns_sv ho
    rw [Nat.zero_add, List.nil_append] at ho
    have hB : Below w.heap.size w w3 := S1.toBelow.trans (Below.trans S2.toBelow ⟨hg.os, hg.tape, hg.output, hg.size, fun k hk => hg.block k (Nat.lt_of_lt_of_le (Nat.lt_of_lt_of_le hk S1.size) S2.size) fun e => by simp [Value.ownBlock] at e; omega⟩)
    repeat (first | (refine M0 ?_; first | refine SL ?_ | refine SB fun _ _ => ?_) | (refine M1 ?_; first | refine SC ?_ | refine SD ?_) | (refine M2 ?_; refine SE ?_) | (refine M3 ?_; first | refine SG ?_ | refine SF ?_) | (refine M4 ?_; refine SR ?_) | (refine M5 ?_; first | exact M7 | refine YM ?_ | refine YN ?_ ?_))
    refine XE.retg tok Try.results52 rfl (by simp only [and_self, and_true]) (fun w' S => ?_)
    exact ⟨_, rfl, ⟨r, rfl, owns_sys ho S (fun k hk x hx => by cases hx)⟩, hB.trans S.toBelow⟩
section
variable {g : Nat} {p : BV} {b : Bas} {q r : SV} {s : Sta} {t : Tick} {f : Flo} {w : World}
theorem polders0_any (h : w.heap[g]? = some (watO p b q s t r f)) (hb : BasAt w g p b) (hm : b.pols.length = 0) :
    Calls Try.prog 57 #[.pointer (some ⟨g, 0, none⟩)] w fun e w' => e = .returned (.bool true) ∧ Sys g w [(g, watO p b q s t r f)] w' := by
  obtain ⟨A, n, c, A2, n2, c2⟩ := p
  have hn2 := hb.n2_eq
  simp only at hn2
  subst hn2
  simp only [watO, watC] at h
  refine enterL Try.func57 rfl Try.ntmps57 rfl (Sys.start1 (Nat.le_refl g) h) ?_; simp only [frame, Nat.zero_add, Nat.reduceAdd]
  refine XC.hint 0 0 ?_
  repeat (first | (refine M0 ?_; first | refine SL ?_ | refine SB fun _ _ => ?_) | (refine M1 ?_; first | refine SC ?_ | refine SD ?_) | (refine M2 ?_; refine SE ?_) | (refine M3 ?_; first | refine SG ?_ | refine SF ?_) | (refine M4 ?_; refine SR ?_) | (refine M5 ?_; first | exact M7 | refine YM ?_ | refine YN ?_ ?_))
  refine XC.loopk [0, 11, 12] rfl (fun _ : Unit => [(13, .int .i64 0)]) (fun _ => _) (fun _ => w) (fun _ => True) (fun _ => 0) () trivial ZZSUB (fun _ h => h) ?_
  intro _ _
  dsimp only [List.cons_append, List.nil_append]
  repeat (first | (refine M0 ?_; first | refine SL ?_ | refine SB fun _ _ => ?_) | (refine M1 ?_; first | refine SC ?_ | refine SD ?_) | (refine M2 ?_; refine SE ?_) | (refine M3 ?_; first | refine SG ?_ | refine SF ?_) | (refine M4 ?_; refine SR ?_) | (refine M5 ?_; first | exact M7 | refine YM ?_ | refine YN ?_ ?_))
  refine XC.cond _ rfl (fun h1 => ?_) (fun h1 => ?_)
  · simp [hm] at h1
  · repeat (first | (refine M0 ?_; first | refine SL ?_ | refine SB fun _ _ => ?_) | (refine M1 ?_; first | refine SC ?_ | refine SD ?_) | (refine M2 ?_; refine SE ?_) | (refine M3 ?_; first | refine SG ?_ | refine SF ?_) | (refine M4 ?_; refine SR ?_) | (refine M5 ?_; first | exact M7 | refine YM ?_ | refine YN ?_ ?_))
    refine XE.retg tok Try.results57 rfl (by simp only [and_self, and_true]) (fun w' S => ?_)
    exact ⟨rfl, S⟩
end
end Go.Proofs.Ytlfjdbilblfknaa.X
/-
  The walk of the program's step.
-/
namespace Go.Proofs.Ytlfjdbilblfknaa.Bs
theorem polV_vol (b : Bas) (s : Sta) (x v : Int) : ∀ k, polV b ⟨x, s.fil⟩ v k = polV b s v k := by
  intro k
  induction k with
  | zero => rfl
  | succ k ih => simp only [polV, ih]; rfl
theorem polT_vol (b : Bas) (s : Sta) (x v : Int) (k : Nat) : polT b ⟨x, s.fil⟩ v k = polT b s v k := by unfold polT; rw [polV_vol]; rfl
def outS (b : Bas) (s : Sta) (t : Tick) : Sta := if stepE b s t = 0 then stepS b s t else ⟨0, []⟩
def outF (b : Bas) (s : Sta) (t : Tick) : Flo := if stepE b s t = 0 then stepF b s t else ⟨0, 0, 0, 0, []⟩
def staK (b : Bas) (s : Sta) (t : Tick) : Nat → Sta
  | 0 => s
  | 1 => ⟨vol1 s t, s.fil⟩
  | 2 => ⟨vol2 b s t, s.fil⟩
  | 3 => ⟨vol3 b s t, s.fil⟩
  | 4 => ⟨vol4 b s t, s.fil⟩
  | _ => ⟨polV b s (vol4 b s t) b.pols.length, s.fil⟩
def floK (b : Bas) (s : Sta) (t : Tick) : Nat → Flo
  | 0 => ⟨0, 0, 0, 0, []⟩
  | 1 => ⟨t.river, 0, 0, 0, []⟩
  | 2 => ⟨t.river, overOf b t, 0, 0, []⟩
  | 3 => ⟨t.river, overOf b t, leakOf b t.outer (vol2 b s t), 0, []⟩
  | _ => ⟨t.river, overOf b t, leakOf b t.outer (vol2 b s t), outOf b s t, []⟩
def filS (b : Bas) (s : Sta) (t : Tick) (k : Nat) : List Int := if k ≤ 4 then s.fil else (stepS b s t).fil
def tkS (b : Bas) (s : Sta) (t : Tick) (k : Nat) : List Int := if k ≤ 4 then [] else (stepF b s t).taken
theorem stepE_7 {b : Bas} {s : Sta} {t : Tick} (h : tickBad t = true) : stepE b s t = 7 := by unfold stepE; rw [if_pos h]
theorem stepE_3 {b : Bas} {s : Sta} {t : Tick} (h : tickBad t = false) (h1 : 1000000000 < vol1 s t ∨ 1000000000 < vol2 b s t ∨ 1000000000 < vol3 b s t) : stepE b s t = 3 := by
  unfold stepE
  rw [if_neg (by simp [h])]
  by_cases a : 1000000000 < vol1 s t
  · rw [if_pos a]
  · rw [if_neg a]
    by_cases c : 1000000000 < vol2 b s t
    · rw [if_pos c]
    · rw [if_neg c, if_pos (by omega)]
theorem stepE_0 {b : Bas} {s : Sta} {t : Tick} (h : tickBad t = false) (h1 : vol1 s t ≤ 1000000000) (h2 : vol2 b s t ≤ 1000000000) (h3 : vol3 b s t ≤ 1000000000) : stepE b s t = 0 := by
  unfold stepE
  rw [if_neg (by simp [h]), if_neg (by omega), if_neg (by omega), if_neg (by omega)]
theorem outS_n {b : Bas} {s : Sta} {t : Tick} (h : stepE b s t ≠ 0) : outS b s t = ⟨0, []⟩ := by unfold outS; rw [if_neg h]
theorem outF_n {b : Bas} {s : Sta} {t : Tick} (h : stepE b s t ≠ 0) : outF b s t = ⟨0, 0, 0, 0, []⟩ := by unfold outF; rw [if_neg h]
theorem outS_0 {b : Bas} {s : Sta} {t : Tick} (h : stepE b s t = 0) : outS b s t = stepS b s t := by unfold outS; rw [if_pos h]
theorem outF_0 {b : Bas} {s : Sta} {t : Tick} (h : stepE b s t = 0) : outF b s t = stepF b s t := by unfold outF; rw [if_pos h]
end Go.Proofs.Ytlfjdbilblfknaa.Bs
namespace Go.Proofs.Ytlfjdbilblfknaa.X
open Go Go.RowKit Go.Proofs.Ytlfjdbilblfknaa.Bs
set_option linter.unusedVariables false
/-- what a tick's call returns. -/
def StepR (b : Bas) (s : Sta) (t : Tick) (w : World) (v : Value) (w' : World) : Prop :=
  ∃ q r : SV, v = .tuple ⟨[staV q (outS b s t), floV r (outF b s t), .int .i64 (stepE b s t)]⟩ ∧ IntsAt w' (Btw w.heap.size w'.heap.size) q (outS b s t).fil ∧ IntsAt w' (Btw w.heap.size w'.heap.size) r (outF b s t).taken ∧ Below w.heap.size w w'
theorem StepR.err {b : Bas} {s : Sta} {t : Tick} {w w' : World} {e : Int} (he : stepE b s t = e) (hne : e ≠ 0) (hb : Below w.heap.size w w') :
    StepR b s t w (.tuple ⟨[.agg ⟨[.int .i64 0, .slice none 0 0]⟩, .agg ⟨[.int .i64 0, .int .i64 0, .int .i64 0, .int .i64 0, .slice none 0 0]⟩, .int .i64 e]⟩) w' :=
  ⟨⟨none, 0, 0⟩, ⟨none, 0, 0⟩, by rw [outS_n (by rw [he]; exact hne), outF_n (by rw [he]; exact hne), he]; rfl, by rw [outS_n (by rw [he]; exact hne)]; exact IntsAt.nil, by rw [outF_n (by rw [he]; exact hne)]; exact IntsAt.nil, hb⟩
theorem fn_one : lkG TB.one 44 = some () := by rfl
theorem fn_size : (Try.prog.info? 44).map (·.size) = some 1 := by kernel_rfl
set_option maxHeartbeats 16000000 in
theorem step_any {p : BV} {b : Bas} {q : SV} {s : Sta} {t : Tick} {w : World} (hb : BasAt w w.heap.size p b) (hq : IntsAt w (Lt w.heap.size) q s.fil) (ho : Ok b) (hs : StaOk b s) :
    Calls Try.prog 51 #[basV p b, staV q s, tickV t] w fun e w' => ∃ v, e = .returned v ∧ StepR b s t w v w' := by
  have hm := ho.m6
  have hl := hs.len
  obtain ⟨A, n, c⟩ := q
  have hn := hq.len
  simp only at hn
  subst hn
  simp only [basV, basC, staV, staC, tickV, tickC]
  refine enter Try.func51 rfl Try.ntmps51 rfl ?_; simp only [frame, Nat.zero_add, Nat.reduceAdd]
  repeat (any_goals (first | (refine M0 ?_; first | refine SL ?_ | refine SB fun _ _ => ?_ | (refine XL.split _ _ rfl (fun h => ?_) (fun h => ?_) <;> rw [h]) | refine Y4 (Ev.call (f := 41) (ck rfl) rfl (fun w _ => high_any _ w)) ?_ | refine Y4 (Ev.call (f := 40) (ck rfl) rfl (fun w _ => out_any _ _ _ w)) ?_) | (refine M1 ?_; first | refine SC ?_ | refine SD ?_ | refine XC.cond _ rfl (fun h => ?_) (fun h => ?_)) | (refine M2 ?_; refine SE ?_) | (refine M3 ?_; first | refine SG ?_ | refine SF ?_ | (refine Fw.split _ _ rfl (fun h => ?_) (fun h => ?_) <;> rw [h]) | refine YF (Ev.call (f := 41) (ck rfl) rfl (fun w _ => high_any _ w)) ?_ | refine YF (Ev.call (f := 40) (ck rfl) rfl (fun w _ => out_any _ _ _ w)) ?_) | (refine M4 ?_; refine SR ?_) | (refine M5 ?_; first | exact M7 | refine YM ?_ | refine YN ?_ ?_)))
  all_goals try (refine XE.retg tok Try.results51 rfl (by simp only [and_self, and_true]) (fun w' S => ?_)
                 refine ⟨_, rfl, StepR.err (stepE_7 (by simp [tickBad, *])) (by decide) S.toBelow⟩)
  rename_i g3 hg3 g4 hg4 g5 hg5 g6 hg6 g7 hg7 h1 h2
  have h3 := h
  have hbad : tickBad t = false := by simp [tickBad, *]
  have o1 := outB_f.1 h1
  have o2 := outB_f.1 h2
  have o3 := outB_f.1 h3
  refine XL.call (fst := []) (cap := []) (ck rfl) rfl rfl rfl (List.Sublist.refl _) (fun w1 v w2 => ∃ r : SV, v = svV r ∧ w2.ownsRow w1.heap.size 3 1 (svV r) s.fil.length (ints s.fil))
    (fun w1 S1 => (clone_any (hq.arg S1) (by omega)).mono fun e w' ⟨v, h, h4, h5⟩ => ⟨v, h, h4, h5⟩) (fun w1 v w2 S1 hR hB S2 => ?_)
  obtain ⟨q2, rfl, hown⟩ := hR
  have hownC := hown
  have hown := owns_base hown S1.size
  have hgs := fun e he => S1.lt (e := e) he
  simp only [List.mem_cons, forall_eq_or_imp, List.not_mem_nil, false_implies, implies_true, and_true] at hgs
  simp only [svV]
  repeat (first | (refine M0 ?_; first | refine SL ?_ | refine SB fun _ _ => ?_) | (refine M1 ?_; first | refine SC ?_ | refine SD ?_) | (refine M2 ?_; refine SE ?_) | (refine M3 ?_; first | refine SG ?_ | refine SF ?_) | (refine M4 ?_; refine SR ?_) | (refine M5 ?_; first | exact M7 | refine YM ?_ | refine YN ?_ ?_))
  rename_i g9 hg9
  repeat (first | (refine M0 ?_; first | refine SL ?_ | refine SB fun _ _ => ?_ | refine Y4 (Ev.makeFunc rfl rfl) ?_) | (refine M1 ?_; first | refine SC ?_ | refine SD ?_) | (refine M2 ?_; refine SE ?_) | (refine M3 ?_; first | refine SG ?_ | refine SF ?_ | refine YF (Ev.makeFunc rfl rfl) ?_) | (refine M4 ?_; refine SR ?_) | (refine M5 ?_; first | exact M7 | refine YM ?_ | refine YN ?_ ?_))
  refine XL.step _ (Ev.buildArr tok Try.underlying143 fn_size rfl rfl rfl) rfl ?_
  repeat (first | (refine M0 ?_; first | refine SL ?_ | refine SB fun _ _ => ?_) | (refine M1 ?_; first | refine SC ?_ | refine SD ?_) | (refine M2 ?_; refine SE ?_) | (refine M3 ?_; first | refine SG ?_ | refine SF ?_) | (refine M4 ?_; refine SR ?_) | (refine M5 ?_; first | exact M7 | refine YM ?_ | refine YN ?_ ?_))
  have hB2 : Below w.heap.size w w2 := S2.toBelow
  have hsQ : ∀ x, (svV q2).ownBlock = some x → x ∉ [g9, g7, g6, g5, g4, g3] := fun x hx hm' => by
    have := hownC.lt x hx
    simp only [List.mem_cons, List.not_mem_nil, or_false] at hm'
    omega
  have hb2 := hb.below hB2
  have hws : w.heap.size ≤ w2.heap.size := hB2.size
  refine XC.loopk [6, 7, 9, 46] rfl (fun s' : Nat × World × SV => [(47, .int .i64 (s'.1 : Nat))])
    (fun s' => [(g9, watO p b q2 (staK b s t s'.1) t s'.2.2 (floK b s t s'.1)), _, _, _, _, _]) (fun s' => s'.2.1)
    (fun s' => s'.1 ≤ 5 ∧ Below w.heap.size w s'.2.1 ∧ s'.2.1.ownsRow w.heap.size 3 1 (svV q2) s.fil.length (ints (filS b s t s'.1)) ∧ s'.2.1.ownsRow w.heap.size 3 1 (svV s'.2.2) (tkS b s t s'.1).length (ints (tkS b s t s'.1)) ∧
      (s'.1 ≤ 4 → s'.2 = (w2, ⟨none, 0, 0⟩)) ∧ (1 ≤ s'.1 → vol1 s t ≤ 1000000000) ∧ (2 ≤ s'.1 → vol2 b s t ≤ 1000000000) ∧ (3 ≤ s'.1 → vol3 b s t ≤ 1000000000) ∧ (∀ x, (svV s'.2.2).ownBlock = some x → x ∉ [g9, g7, g6, g5, g4, g3]))
    (fun s' => 5 - s'.1) (0, w2, ⟨none, 0, 0⟩) ⟨Nat.zero_le _, hB2, hown, World.ownsRow_nil _ _ _ _, fun _ => rfl, fun h => absurd h (by simp), fun h => absurd h (by simp), fun h => absurd h (by simp), fun x hx => by cases hx⟩ ZZSUB (fun _ h => h) ?_
  rintro ⟨k, W, r⟩ ⟨hk, hBW, hoF, hoT, h4, c1, c2, c3, hsR⟩
  simp only at hk hBW hoF hoT h4 c1 c2 c3 hsR
  dsimp only [List.cons_append, List.nil_append]
  repeat (first | (refine M0 ?_; first | refine SL ?_ | refine SB fun _ _ => ?_) | (refine M1 ?_; first | refine SC ?_ | refine SD ?_) | (refine M2 ?_; refine SE ?_) | (refine M3 ?_; first | refine SG ?_ | refine SF ?_) | (refine M4 ?_; refine SR ?_) | (refine M5 ?_; first | exact M7 | refine YM ?_ | refine YN ?_ ?_))
  refine XC.cond _ rfl (fun h5 => ?_) (fun h5 => ?_)
  · have hv0 := v0_bd ho
    have hvs := hs.vol
    have hov := over_bd ho t o1
    have e1 : vol1 s t = s.vol + t.river := rfl
    have e2 : vol2 b s t = vol1 s t + overOf b t := rfl
    have e3 : vol3 b s t = vol2 b s t + leakOf b t.outer (vol2 b s t) := rfl
    have e4 : b.v0 - vol2 b s t ≤ leakOf b t.outer (vol2 b s t) := by unfold leakOf; omega
    have e0 : b.v0 = (b.row 0).vol := rfl
    have hk4 : k ≤ 4 := by simp only [decide_eq_true_eq] at h5; omega
    obtain ⟨rfl, rfl⟩ := Prod.mk.inj (h4 hk4)
    have hoF : W.ownsRow w.heap.size 3 1 (svV q2) s.fil.length (ints s.fil) := hown
    have hoT : W.ownsRow w.heap.size 3 1 (svV ⟨none, 0, 0⟩) ([] : List Int).length (ints []) := World.ownsRow_nil _ _ _ _
    rcases k with _ | _ | _ | _ | _ | k
    · -- river
      repeat (first | (refine M0 ?_; first | refine SL ?_ | refine SB fun _ _ => ?_) | (refine M1 ?_; first | refine SC ?_ | refine SD ?_) | (refine M2 ?_; refine SE ?_) | (refine M3 ?_; first | refine SG ?_ | refine SF ?_) | (refine M4 ?_; refine SR ?_) | (refine M5 ?_; first | exact M7 | refine YM ?_ | refine YN ?_ ?_))
      refine XL.step _ (Ev.indexArr tok Try.underlying143 fn_one rfl (j := 0) rfl (by decide) rfl) rfl ?_
      repeat (first | (refine M0 ?_; first | refine SL ?_ | refine SB fun _ _ => ?_) | (refine M1 ?_; first | refine SC ?_ | refine SD ?_) | (refine M2 ?_; refine SE ?_) | (refine M3 ?_; first | refine SG ?_ | refine SF ?_) | (refine M4 ?_; refine SR ?_) | (refine M5 ?_; first | exact M7 | refine YM ?_ | refine YN ?_ ?_))
      refine XL.callT (B' := g9) 0 (fst := [.pointer (some ⟨g9, 0, none⟩)]) (cap := []) (vs := []) (ck rfl) rfl rfl rfl rfl rfl (fun w5 S5 => (river_any (g := g9) (p := p) (b := b) (q := q2) (s := s) (t := t) (r := ⟨none, 0, 0⟩) (f := ⟨0, 0, 0, 0, []⟩) (S5.obj (i := 0) rfl) (by unfold i64in; omega) :)) ?_
      repeat (first | (refine M0 ?_; first | refine SL ?_ | refine SB fun _ _ => ?_) | (refine M1 ?_; first | refine SC ?_ | refine SD ?_) | (refine M2 ?_; refine SE ?_) | (refine M3 ?_; first | refine SG ?_ | refine SF ?_) | (refine M4 ?_; refine SR ?_) | (refine M5 ?_; first | exact M7 | refine YM ?_ | refine YN ?_ ?_))
      refine XC.cond _ rfl (fun h6 => ?_) (fun h6 => ?_)
      · simp only [Bool.not_not, Bool.not_eq_true', Bool.not_eq_false', decide_eq_true_eq, decide_eq_false_iff_not] at h6
        repeat (first | (refine M0 ?_; first | refine SL ?_ | refine SB fun _ _ => ?_) | (refine M1 ?_; first | refine SC ?_ | refine SD ?_) | (refine M2 ?_; refine SE ?_) | (refine M3 ?_; first | refine SG ?_ | refine SF ?_) | (refine M4 ?_; refine SR ?_) | (refine M5 ?_; first | exact M7 | refine YM ?_ | refine YN ?_ ?_))
        refine XE.retg tok Try.results51 rfl (by simp only [and_self, and_true]) (fun w' S => ?_)
        exact ⟨_, rfl, StepR.err (stepE_3 hbad (.inl h6)) (by decide) (hB2.trans S.toBelow)⟩
      · simp only [Bool.not_not, Bool.not_eq_true', Bool.not_eq_false', decide_eq_true_eq, decide_eq_false_iff_not] at h6
        repeat (first | (refine M0 ?_; first | refine SL ?_ | refine SB fun _ _ => ?_) | (refine M1 ?_; first | refine SC ?_ | refine SD ?_) | (refine M2 ?_; refine SE ?_) | (refine M3 ?_; first | refine SG ?_ | refine SF ?_) | (refine M4 ?_; refine SR ?_) | (refine M5 ?_; first | exact M7 | refine YM ?_ | refine YN ?_ ?_))
        refine XE.round (s := (0, W, ⟨none, 0, 0⟩)) (0 + 1, W, ⟨none, 0, 0⟩) ⟨by simp, hB2, hoF, hoT, fun _ => rfl, fun _ => (by simp only [vol1]; omega), fun h => absurd h (by simp), fun h => absurd h (by simp), fun x hx => by cases hx⟩ (by simp) ZZSUB (fun _ h => h)
    · -- over
      repeat (first | (refine M0 ?_; first | refine SL ?_ | refine SB fun _ _ => ?_) | (refine M1 ?_; first | refine SC ?_ | refine SD ?_) | (refine M2 ?_; refine SE ?_) | (refine M3 ?_; first | refine SG ?_ | refine SF ?_) | (refine M4 ?_; refine SR ?_) | (refine M5 ?_; first | exact M7 | refine YM ?_ | refine YN ?_ ?_))
      refine XL.step _ (Ev.indexArr tok Try.underlying143 fn_one rfl (j := 1) rfl (by decide) rfl) rfl ?_
      repeat (first | (refine M0 ?_; first | refine SL ?_ | refine SB fun _ _ => ?_) | (refine M1 ?_; first | refine SC ?_ | refine SD ?_) | (refine M2 ?_; refine SE ?_) | (refine M3 ?_; first | refine SG ?_ | refine SF ?_) | (refine M4 ?_; refine SR ?_) | (refine M5 ?_; first | exact M7 | refine YM ?_ | refine YN ?_ ?_))
      refine XL.callT (B' := g9) 0 (fst := [.pointer (some ⟨g9, 0, none⟩)]) (cap := []) (vs := []) (ck rfl) rfl rfl rfl rfl rfl (fun w5 S5 => (over_run (g := g9) (p := p) (b := b) (q := q2) (s := ⟨vol1 s t, s.fil⟩) (t := t) (r := ⟨none, 0, 0⟩) (f := ⟨t.river, 0, 0, 0, []⟩) (S5.obj (i := 0) rfl) ho o1 (by simp only; omega) :)) ?_
      repeat (first | (refine M0 ?_; first | refine SL ?_ | refine SB fun _ _ => ?_) | (refine M1 ?_; first | refine SC ?_ | refine SD ?_) | (refine M2 ?_; refine SE ?_) | (refine M3 ?_; first | refine SG ?_ | refine SF ?_) | (refine M4 ?_; refine SR ?_) | (refine M5 ?_; first | exact M7 | refine YM ?_ | refine YN ?_ ?_))
      refine XC.cond _ rfl (fun h6 => ?_) (fun h6 => ?_)
      · simp only [Bool.not_not, Bool.not_eq_true', Bool.not_eq_false', decide_eq_true_eq, decide_eq_false_iff_not] at h6
        repeat (first | (refine M0 ?_; first | refine SL ?_ | refine SB fun _ _ => ?_) | (refine M1 ?_; first | refine SC ?_ | refine SD ?_) | (refine M2 ?_; refine SE ?_) | (refine M3 ?_; first | refine SG ?_ | refine SF ?_) | (refine M4 ?_; refine SR ?_) | (refine M5 ?_; first | exact M7 | refine YM ?_ | refine YN ?_ ?_))
        refine XE.retg tok Try.results51 rfl (by simp only [and_self, and_true]) (fun w' S => ?_)
        exact ⟨_, rfl, StepR.err (stepE_3 hbad (.inr <| .inl h6)) (by decide) (hB2.trans S.toBelow)⟩
      · simp only [Bool.not_not, Bool.not_eq_true', Bool.not_eq_false', decide_eq_true_eq, decide_eq_false_iff_not] at h6
        repeat (first | (refine M0 ?_; first | refine SL ?_ | refine SB fun _ _ => ?_) | (refine M1 ?_; first | refine SC ?_ | refine SD ?_) | (refine M2 ?_; refine SE ?_) | (refine M3 ?_; first | refine SG ?_ | refine SF ?_) | (refine M4 ?_; refine SR ?_) | (refine M5 ?_; first | exact M7 | refine YM ?_ | refine YN ?_ ?_))
        refine XE.round (s := (1, W, ⟨none, 0, 0⟩)) (1 + 1, W, ⟨none, 0, 0⟩) ⟨by simp, hB2, hoF, hoT, fun _ => rfl, fun _ => c1 (by omega), fun _ => (by rw [e2]; omega), fun h => absurd h (by simp), fun x hx => by cases hx⟩ (by simp) ZZSUB (fun _ h => h)
    · -- leak
      repeat (first | (refine M0 ?_; first | refine SL ?_ | refine SB fun _ _ => ?_) | (refine M1 ?_; first | refine SC ?_ | refine SD ?_) | (refine M2 ?_; refine SE ?_) | (refine M3 ?_; first | refine SG ?_ | refine SF ?_) | (refine M4 ?_; refine SR ?_) | (refine M5 ?_; first | exact M7 | refine YM ?_ | refine YN ?_ ?_))
      refine XL.step _ (Ev.indexArr tok Try.underlying143 fn_one rfl (j := 2) rfl (by decide) rfl) rfl ?_
      repeat (first | (refine M0 ?_; first | refine SL ?_ | refine SB fun _ _ => ?_) | (refine M1 ?_; first | refine SC ?_ | refine SD ?_) | (refine M2 ?_; refine SE ?_) | (refine M3 ?_; first | refine SG ?_ | refine SF ?_) | (refine M4 ?_; refine SR ?_) | (refine M5 ?_; first | exact M7 | refine YM ?_ | refine YN ?_ ?_))
      refine XL.callT (B' := g9) 0 (fst := [.pointer (some ⟨g9, 0, none⟩)]) (cap := []) (vs := []) (ck rfl) rfl rfl rfl rfl rfl (fun w5 S5 => (leak_any (g := g9) (p := p) (b := b) (q := q2) (s := ⟨vol2 b s t, s.fil⟩) (t := t) (r := ⟨none, 0, 0⟩) (f := ⟨t.river, overOf b t, 0, 0, []⟩) (S5.obj (i := 0) rfl) ((hb2.below S5.toBelow).more (by omega)) ho o1 (by simp only; omega) :)) ?_
      repeat (first | (refine M0 ?_; first | refine SL ?_ | refine SB fun _ _ => ?_) | (refine M1 ?_; first | refine SC ?_ | refine SD ?_) | (refine M2 ?_; refine SE ?_) | (refine M3 ?_; first | refine SG ?_ | refine SF ?_) | (refine M4 ?_; refine SR ?_) | (refine M5 ?_; first | exact M7 | refine YM ?_ | refine YN ?_ ?_))
      refine XC.cond _ rfl (fun h6 => ?_) (fun h6 => ?_)
      · simp only [Bool.not_not, Bool.not_eq_true', Bool.not_eq_false', decide_eq_true_eq, decide_eq_false_iff_not] at h6
        repeat (first | (refine M0 ?_; first | refine SL ?_ | refine SB fun _ _ => ?_) | (refine M1 ?_; first | refine SC ?_ | refine SD ?_) | (refine M2 ?_; refine SE ?_) | (refine M3 ?_; first | refine SG ?_ | refine SF ?_) | (refine M4 ?_; refine SR ?_) | (refine M5 ?_; first | exact M7 | refine YM ?_ | refine YN ?_ ?_))
        refine XE.retg tok Try.results51 rfl (by simp only [and_self, and_true]) (fun w' S => ?_)
        exact ⟨_, rfl, StepR.err (stepE_3 hbad (.inr <| .inr h6)) (by decide) (hB2.trans S.toBelow)⟩
      · simp only [Bool.not_not, Bool.not_eq_true', Bool.not_eq_false', decide_eq_true_eq, decide_eq_false_iff_not] at h6
        repeat (first | (refine M0 ?_; first | refine SL ?_ | refine SB fun _ _ => ?_) | (refine M1 ?_; first | refine SC ?_ | refine SD ?_) | (refine M2 ?_; refine SE ?_) | (refine M3 ?_; first | refine SG ?_ | refine SF ?_) | (refine M4 ?_; refine SR ?_) | (refine M5 ?_; first | exact M7 | refine YM ?_ | refine YN ?_ ?_))
        refine XE.round (s := (2, W, ⟨none, 0, 0⟩)) (2 + 1, W, ⟨none, 0, 0⟩) ⟨by simp, hB2, hoF, hoT, fun _ => rfl, fun _ => c1 (by omega), fun _ => c2 (by omega), fun _ => (by rw [e3]; omega), fun x hx => by cases hx⟩ (by simp) ZZSUB (fun _ h => h)
    · -- off
      repeat (first | (refine M0 ?_; first | refine SL ?_ | refine SB fun _ _ => ?_) | (refine M1 ?_; first | refine SC ?_ | refine SD ?_) | (refine M2 ?_; refine SE ?_) | (refine M3 ?_; first | refine SG ?_ | refine SF ?_) | (refine M4 ?_; refine SR ?_) | (refine M5 ?_; first | exact M7 | refine YM ?_ | refine YN ?_ ?_))
      refine XL.step _ (Ev.indexArr tok Try.underlying143 fn_one rfl (j := 3) rfl (by decide) rfl) rfl ?_
      repeat (first | (refine M0 ?_; first | refine SL ?_ | refine SB fun _ _ => ?_) | (refine M1 ?_; first | refine SC ?_ | refine SD ?_) | (refine M2 ?_; refine SE ?_) | (refine M3 ?_; first | refine SG ?_ | refine SF ?_) | (refine M4 ?_; refine SR ?_) | (refine M5 ?_; first | exact M7 | refine YM ?_ | refine YN ?_ ?_))
      refine XL.callT (B' := g9) 0 (fst := [.pointer (some ⟨g9, 0, none⟩)]) (cap := []) (vs := []) (ck rfl) rfl rfl rfl rfl rfl (fun w5 S5 => (off_any (g := g9) (p := p) (b := b) (q := q2) (s := ⟨vol3 b s t, s.fil⟩) (t := t) (r := ⟨none, 0, 0⟩) (f := ⟨t.river, overOf b t, leakOf b t.outer (vol2 b s t), 0, []⟩) (S5.obj (i := 0) rfl) ((hb2.below S5.toBelow).more (by omega)) ho o3 (by simp only; omega) :)) ?_
      repeat (first | (refine M0 ?_; first | refine SL ?_ | refine SB fun _ _ => ?_) | (refine M1 ?_; first | refine SC ?_ | refine SD ?_) | (refine M2 ?_; refine SE ?_) | (refine M3 ?_; first | refine SG ?_ | refine SF ?_) | (refine M4 ?_; refine SR ?_) | (refine M5 ?_; first | exact M7 | refine YM ?_ | refine YN ?_ ?_))
      refine XE.round (s := (3, W, ⟨none, 0, 0⟩)) (3 + 1, W, ⟨none, 0, 0⟩) ⟨by simp, hB2, hoF, hoT, fun _ => rfl, fun _ => c1 (by omega), fun _ => c2 (by omega), fun _ => c3 (by omega), fun x hx => by cases hx⟩ (by simp) ZZSUB (fun _ h => h)
    · -- polders
      repeat (first | (refine M0 ?_; first | refine SL ?_ | refine SB fun _ _ => ?_) | (refine M1 ?_; first | refine SC ?_ | refine SD ?_) | (refine M2 ?_; refine SE ?_) | (refine M3 ?_; first | refine SG ?_ | refine SF ?_) | (refine M4 ?_; refine SR ?_) | (refine M5 ?_; first | exact M7 | refine YM ?_ | refine YN ?_ ?_))
      refine XL.step _ (Ev.indexArr tok Try.underlying143 fn_one rfl (j := 4) rfl (by decide) rfl) rfl ?_
      repeat (first | (refine M0 ?_; first | refine SL ?_ | refine SB fun _ _ => ?_) | (refine M1 ?_; first | refine SC ?_ | refine SD ?_) | (refine M2 ?_; refine SE ?_) | (refine M3 ?_; first | refine SG ?_ | refine SF ?_) | (refine M4 ?_; refine SR ?_) | (refine M5 ?_; first | exact M7 | refine YM ?_ | refine YN ?_ ?_))
      have hk4v : b.v0 ≤ vol4 b s t ∧ vol4 b s t ≤ 1000000000 := (stepOk_of ho hs (stepE_0 hbad (c1 (by omega)) (c2 (by omega)) (c3 (by omega)))).v4
      by_cases hm0 : b.pols.length = 0
      · refine XL.callT (B' := g9) 0 (fst := [.pointer (some ⟨g9, 0, none⟩)]) (cap := []) (vs := []) (ck rfl) rfl rfl rfl rfl rfl (fun w5 S5 => (polders0_any (g := g9) (p := p) (b := b) (q := q2) (s := ⟨vol4 b s t, s.fil⟩) (t := t) (r := ⟨none, 0, 0⟩) (f := floK b s t 4) (S5.obj (i := 0) rfl) ((hb2.below S5.toBelow).more (by omega)) hm0 :)) ?_
        have e5 : staK b s t 5 = ⟨vol4 b s t, s.fil⟩ := by simp [staK, hm0, polV]
        have e6 : filS b s t 5 = s.fil := by simp [filS, stepS, hm0, rg]; rw [hm0] at hl; exact List.length_eq_zero_iff.1 hl
        have e7 : tkS b s t 5 = [] := by simp [tkS, stepF, hm0, rg]
        repeat (first | (refine M0 ?_; first | refine SL ?_ | refine SB fun _ _ => ?_) | (refine M1 ?_; first | refine SC ?_ | refine SD ?_) | (refine M2 ?_; refine SE ?_) | (refine M3 ?_; first | refine SG ?_ | refine SF ?_) | (refine M4 ?_; refine SR ?_) | (refine M5 ?_; first | exact M7 | refine YM ?_ | refine YN ?_ ?_))
        refine XE.round (s := (4, W, ⟨none, 0, 0⟩)) (4 + 1, W, ⟨none, 0, 0⟩) ⟨by simp, hB2, by simp only [e6]; exact hown, by simp only [e7]; exact World.ownsRow_nil _ _ _ _, fun h => absurd h (by simp), fun _ => c1 (by omega), fun _ => c2 (by omega), fun _ => c3 (by omega), fun x hx => by cases hx⟩ (by simp) ZZSUB (fun w6 S6 => by simp only [e5]; exact S6)
      · obtain ⟨fb, sp, hA, hnq, hbf, hheap, hlen, hcm⟩ := owns_block hownC (by omega)
        obtain ⟨Aq, nq, cq⟩ := q2
        simp only at hA hnq hlen hcm
        subst hA hnq
        have hfW := (Array.getElem?_eq_some_iff.1 hheap).1
        have hnot := hsQ fb rfl
        simp only [List.mem_cons, List.not_mem_nil, or_false, not_or] at hnot
        have hs' : StaOk b ⟨vol4 b s t, s.fil⟩ := ⟨hs.len, hk4v, hs.fil⟩
        refine XL.callr (fst := [.pointer (some ⟨g9, 0, none⟩)]) (cap := []) (vs := []) (fun w5 v w6 => v = .bool true ∧ ∃ r : SV, Sys w.heap.size w5 [(g9, watO p b ⟨some ⟨fb, 0, none⟩, s.fil.length, cq⟩ (staK b s t 5) t r (floK b s t 5)), (fb, cel 3 (ints (stepS b s t).fil ++ sp))] w6 ∧
          w6.ownsRow w5.heap.size 3 1 (svV r) (stepF b s t).taken.length (ints (stepF b s t).taken)) (ck rfl) rfl rfl rfl (fun w5 S5 => ?_) (fun w5 v w6 S5 hR => ?_)
        · have hfw5 : w5.heap[fb]? = some (cel 3 (ints s.fil ++ sp)) := by
            rw [S5.old fb hfW (fun e he e1 => by
              simp only [List.mem_cons, List.not_mem_nil, or_false] at he
              rcases he with rfl | rfl | rfl | rfl | rfl | rfl <;> simp only at e1 <;> omega)]
            exact hheap
          refine (polders_any (g := g9) (fb := fb) (B := w.heap.size) (p := p) (b := b) (n := s.fil.length) (c := cq) (s := ⟨vol4 b s t, s.fil⟩) (t := t) (f := floK b s t 4) (sp := sp) (S5.obj (i := 0) rfl) hfw5 (fun e => hnot.1 e.symm) (by omega) (by omega) (hb2.below S5.toBelow) ho hs' hs.len).mono fun e w6 he => ?_
          obtain ⟨rfl, r1, hS, hT⟩ := he
          refine ⟨_, rfl, rfl, r1, ?_, ?_⟩
          · simp only [polV_vol, polT_vol] at hS
            exact hS
          · simp only [polT_vol] at hT
            have : (stepF b s t).taken.length = b.pols.length := by simp [stepF, rg_len]
            rw [this]; exact hT
        · obtain ⟨rfl, r1, hS, hT⟩ := hR
          refine ⟨_, w6, S5.turnedF 0 rfl rfl hS (fun e he e1 => ?_), ?_⟩
          · simp only [List.mem_cons, List.not_mem_nil, or_false] at he
            rcases he with rfl | rfl | rfl | rfl | rfl | rfl <;> simp only at e1 <;> omega
          have hB6 : Below w.heap.size w w6 := hB2.trans (S5.toBelow.trans hS.toBelow)
          have hfil : (stepS b s t).fil.length = s.fil.length := by simp [stepS, rg_len, hl]
          have hfb6 := (hS.own (fb, _) (List.mem_cons_of_mem _ List.mem_cons_self)).2
          have hids := fun e he => S5.lt (e := e) he
          simp only [List.mem_cons, forall_eq_or_imp, List.not_mem_nil, false_implies, implies_true, and_true] at hids
          repeat (first | (refine M0 ?_; first | refine SL ?_ | refine SB fun _ _ => ?_) | (refine M1 ?_; first | refine SC ?_ | refine SD ?_) | (refine M2 ?_; refine SE ?_) | (refine M3 ?_; first | refine SG ?_ | refine SF ?_) | (refine M4 ?_; refine SR ?_) | (refine M5 ?_; first | exact M7 | refine YM ?_ | refine YN ?_ ?_))
          refine XE.round (s := (4, W, ⟨none, 0, 0⟩)) (4 + 1, w6, r1) ⟨by simp, hB6, ?_, ?_, fun h => absurd h (by simp), fun _ => c1 (by omega), fun _ => c2 (by omega), fun _ => c3 (by omega), fun x hx hm' => ?_⟩ (by simp) ZZSUB (fun _ h => h)
          · exact owns_of (xs := ints (stepS b s t).fil) hfb6 (by omega) (by rw [ints_len, hfil]) (by rw [ints_len, hfil, ← hlen, ints_len]) hcm
          · exact owns_base hT (Nat.le_trans hB2.size S5.size)
          · have := hT.lt x hx
            simp only [List.mem_cons, List.not_mem_nil, or_false] at hm'
            omega
    · omega
  · simp only [decide_eq_false_iff_not] at h5
    obtain rfl : k = 5 := by omega
    have hE : stepE b s t = 0 := stepE_0 hbad (c1 (by omega)) (c2 (by omega)) (c3 (by omega))
    repeat (first | (refine M0 ?_; first | refine SL ?_ | refine SB fun _ _ => ?_) | (refine M1 ?_; first | refine SC ?_ | refine SD ?_) | (refine M2 ?_; refine SE ?_) | (refine M3 ?_; first | refine SG ?_ | refine SF ?_) | (refine M4 ?_; refine SR ?_) | (refine M5 ?_; first | exact M7 | refine YM ?_ | refine YN ?_ ?_))
    refine XC.drawRS _ [(g9, watO p b q2 (staK b s t 5) t r (floK b s t 5))] [0, 1, 2, 3, 4, 5, 6, 7] [8, 9, 10] mixed (fun _ h => Sys.anchor (by assumption) h (by simp) (by simp)) rfl (by kernel_rfl) ?_
    repeat (any_goals (first | (refine M0 ?_; first | refine SL ?_ | refine SB fun _ _ => ?_ | (refine XL.split _ _ rfl (fun h => ?_) (fun h => ?_) <;> rw [h])) | (refine M1 ?_; first | refine SC ?_ | refine SD ?_ | refine XC.cond _ rfl (fun h => ?_) (fun h => ?_)) | (refine M2 ?_; refine SE ?_) | (refine M3 ?_; first | refine SG ?_ | refine SF ?_ | (refine Fw.split _ _ rfl (fun h => ?_) (fun h => ?_) <;> rw [h])) | (refine M4 ?_; refine SR ?_) | (refine M5 ?_; first | exact M7 | refine YM ?_ | refine YN ?_ ?_)))
    refine XE.retg tok Try.results51 rfl (by simp only [and_self, and_true]) (fun w' S => ?_)
    have sepL : ∀ (v : SV), (∀ x, (svV v).ownBlock = some x → x ∉ [g9, g7, g6, g5, g4, g3]) → ∀ k, (svV v).ownBlock = some k → ∀ e : Nat × Obj, e.1 ∈ [g9, g7, g6, g5, g4, g3] → e.1 ≠ k := fun v hv k hk e he e1 => hv k hk (e1 ▸ he)
    refine ⟨_, rfl, q2, r, by rw [outS_0 hE, outF_0 hE, hE]; rfl, ?_, ?_, hBW.trans S.toBelow⟩
    · rw [outS_0 hE]
      refine IntsAt.own (e := 3) ?_
      have := owns_sys hoF S (fun k hk e he => sepL q2 hsQ k hk e (by simp only [List.mem_cons, List.not_mem_nil, or_false] at he ⊢; rcases he with rfl | rfl | rfl | rfl | rfl | rfl <;> simp))
      have hfil : (stepS b s t).fil.length = s.fil.length := by simp [stepS, rg_len, hl]
      rw [hfil]; exact this
    · rw [outF_0 hE]
      exact IntsAt.own (e := 3) (owns_sys hoT S (fun k hk e he => sepL r hsR k hk e (by simp only [List.mem_cons, List.not_mem_nil, or_false] at he ⊢; rcases he with rfl | rfl | rfl | rfl | rfl | rfl <;> simp)))
end Go.Proofs.Ytlfjdbilblfknaa.X
/-
  The walk of the document's step.
-/
namespace Go.Proofs.Ytlfjdbilblfknaa.X
open Go Go.RowKit Go.Proofs.Ytlfjdbilblfknaa.Bs
set_option linter.unusedVariables false
end Go.Proofs.Ytlfjdbilblfknaa.X
/-
  The walks of Step (both texts), and of the examples' basin, state and tick.
-/
namespace Go.Proofs.Ytlfjdbilblfknaa.Bs
open Classical in
noncomputable def fullE (b : Bas) (s : Sta) (t : Tick) : Int := if staErr b s = 0 then stepE b s t else staErr b s
open Classical in
noncomputable def fullS (b : Bas) (s : Sta) (t : Tick) : Sta := if staErr b s = 0 then outS b s t else ⟨0, []⟩
open Classical in
noncomputable def fullF (b : Bas) (s : Sta) (t : Tick) : Flo := if staErr b s = 0 then outF b s t else ⟨0, 0, 0, 0, []⟩
theorem full_n {b : Bas} {s : Sta} {t : Tick} (h : staErr b s ≠ 0) : fullE b s t = staErr b s ∧ fullS b s t = ⟨0, []⟩ ∧ fullF b s t = ⟨0, 0, 0, 0, []⟩ := by simp [fullE, fullS, fullF, h]
theorem full_0 {b : Bas} {s : Sta} {t : Tick} (h : staErr b s = 0) : fullE b s t = stepE b s t ∧ fullS b s t = outS b s t ∧ fullF b s t = outF b s t := by simp [fullE, fullS, fullF, h]
end Go.Proofs.Ytlfjdbilblfknaa.Bs
namespace Go.Proofs.Ytlfjdbilblfknaa.X
open Go Go.RowKit Go.Proofs.Ytlfjdbilblfknaa.Bs
set_option linter.unusedVariables false
def StepCR (b : Bas) (s : Sta) (t : Tick) (w : World) (v : Value) (w' : World) : Prop :=
  ∃ q r : SV, v = .tuple ⟨[staV q (fullS b s t), floV r (fullF b s t), .int .i64 (fullE b s t)]⟩ ∧ IntsAt w' (Btw w.heap.size w'.heap.size) q (fullS b s t).fil ∧ IntsAt w' (Btw w.heap.size w'.heap.size) r (fullF b s t).taken ∧ Below w.heap.size w w'
set_option maxHeartbeats 4000000 in
theorem Step_any {p : BV} {b : Bas} {q : SV} {s : Sta} {t : Tick} {w : World} (hb : BasAt w w.heap.size p b) (hq : IntsAt w (Lt w.heap.size) q s.fil) :
    Calls Try.prog 49 #[basV p b, staV q s, tickV t] w fun e w' => ∃ v, e = .returned v ∧ StepCR b s t w v w' := by
  simp only [basV, basC, staV, staC, tickV, tickC]
  refine enter Try.func49 rfl Try.ntmps49 rfl ?_; simp only [frame, Nat.zero_add, Nat.reduceAdd]
  repeat (first | (refine M0 ?_; first | refine SL ?_ | refine SB fun _ _ => ?_ | refine Y4 (Ev.call (f := 23) (ck rfl) rfl (fun w S => (checkState_any (hb.sys S) (hq.arg S) :))) ?_) | (refine M1 ?_; first | refine SC ?_ | refine SD ?_) | (refine M2 ?_; refine SE ?_) | (refine M3 ?_; first | refine SG ?_ | refine SF ?_ | refine YF (Ev.call (f := 23) (ck rfl) rfl (fun w S => (checkState_any (hb.sys S) (hq.arg S) :))) ?_) | (refine M4 ?_; refine SR ?_) | (refine M5 ?_; first | exact M7 | refine YM ?_ | refine YN ?_ ?_))
  refine XC.cond _ rfl (fun h0 => ?_) (fun h0 => ?_)
  · repeat (first | (refine M0 ?_; first | refine SL ?_ | refine SB fun _ _ => ?_) | (refine M1 ?_; first | refine SC ?_ | refine SD ?_) | (refine M2 ?_; refine SE ?_) | (refine M3 ?_; first | refine SG ?_ | refine SF ?_) | (refine M4 ?_; refine SR ?_) | (refine M5 ?_; first | exact M7 | refine YM ?_ | refine YN ?_ ?_))
    refine XE.retg tok Try.results49 rfl (by simp only [and_self, and_true]) (fun w' S => ?_)
    obtain ⟨f1, f2, f3⟩ := full_n (t := t) (show staErr b s ≠ 0 by simpa using h0)
    exact ⟨_, rfl, ⟨none, 0, 0⟩, ⟨none, 0, 0⟩, by rw [f1, f2, f3]; rfl, by rw [f2]; exact IntsAt.nil, by rw [f3]; exact IntsAt.nil, S.toBelow⟩
  have hE : staErr b s = 0 := by simpa using h0
  obtain ⟨ho, hs⟩ := staOk_of hE
  obtain ⟨f1, f2, f3⟩ := full_0 (t := t) hE
  repeat (first | (refine M0 ?_; first | refine SL ?_ | refine SB fun _ _ => ?_) | (refine M1 ?_; first | refine SC ?_ | refine SD ?_) | (refine M2 ?_; refine SE ?_) | (refine M3 ?_; first | refine SG ?_ | refine SF ?_) | (refine M4 ?_; refine SR ?_) | (refine M5 ?_; first | exact M7 | refine YM ?_ | refine YN ?_ ?_))
  refine XL.call (fst := []) (cap := []) (ck rfl) rfl rfl rfl (List.Sublist.refl _) (fun w1 v w2 => StepR b s t w1 v w2)
    (fun w1 S1 => (step_any (p := p) (hb.sys S1) (hq.arg S1) ho hs).mono fun e w' ⟨v, h, h4⟩ => ⟨v, h, h4, h4.choose_spec.choose_spec.2.2.2⟩) (fun w1 v w2 S1 hR hB S2 => ?_)
  obtain ⟨q2, r2, rfl, hq2, hr2, _⟩ := hR
  simp only [staV, staC, floV, floC]
  repeat (first | (refine M0 ?_; first | refine SL ?_ | refine SB fun _ _ => ?_) | (refine M1 ?_; first | refine SC ?_ | refine SD ?_) | (refine M2 ?_; refine SE ?_) | (refine M3 ?_; first | refine SG ?_ | refine SF ?_) | (refine M4 ?_; refine SR ?_) | (refine M5 ?_; first | exact M7 | refine YM ?_ | refine YN ?_ ?_))
  refine XE.retg tok Try.results49 rfl (by simp only [and_self, and_true]) (fun w' S => ?_)
  have hk : Keep (Btw w1.heap.size w2.heap.size) w2 _ := Keep.made S1 (Nat.le_refl _)
  refine ⟨_, rfl, q2, r2, by rw [f1, f2, f3]; rfl, ?_, ?_, S2.toBelow.trans S.toBelow⟩
  · rw [f2]
    exact (hq2.keep (hk.sysT S rfl)).mono fun k hk' => ⟨Nat.le_trans S1.size hk'.1, Nat.lt_of_lt_of_le hk'.2 S.size⟩
  · rw [f3]
    exact (hr2.keep (hk.sysT S rfl)).mono fun k hk' => ⟨Nat.le_trans S1.size hk'.1, Nat.lt_of_lt_of_le hk'.2 S.size⟩
end Go.Proofs.Ytlfjdbilblfknaa.X
/-
  From the reading of the arguments to how they lie in memory.
-/
namespace Go.Proofs.Ytlfjdbilblfknaa.X
open Go Go.RowKit Go.Proofs.Ytlfjdbilblfknaa.Bs Go.WideShapes Go.ChangeShapes
set_option linter.unusedVariables false
section
variable {H : Type} {enc : TypeId × Value → H} {P : Program} {w : World} {base : Nat} {spare : Nat → Bool} {held : Bool}
end
section
variable {H : Type} {enc : TypeId × Value → H} {w : World} {base : Nat} {spare : Nat → Bool} {held : Bool} {fuel : Nat} {cs : List Value} {x : DataW H × List MemPlace}
end
end Go.Proofs.Ytlfjdbilblfknaa.X
/-
  A walk by lemmas (14): a range over a function: the frame of a round, the iterator's calls of yield, the function that holds the statement.
-/
namespace Go.Proofs.Ytlfjdbilblfknaa.X
open Go Go.RowKit
set_option linter.unusedVariables false
/-- everything is let in; a round's frame, or none. -/
def fen : Option Nat → Fence
  | none => Fence.wide
  | some l => Fence.wide.inRound l
theorem fen_fn (r : Option Nat) (f : FuncId) : (fen r).fn f := by cases r <;> trivial
theorem fen_round (r : Option Nat) : (fen r).round = r := by cases r <;> rfl
theorem fen_depth (r : Option Nat) : (fen r).depth.isSome = true → False := by cases r <;> (intro h; cases h)
theorem fen_calls {r : Option Nat} {n : Nat} {P : Program} {f : FuncId} {args : Array Value} {w : World} {R : Ending → World → Prop} (h : Calls P f args w R) : CallsIn (fen r) n P f args w R := by
  cases r with
  | none => exact callsIn_wide.2 h
  | some l => exact CallsIn.inRound l (callsIn_wide.2 h)
theorem fen_steps {r : Option Nat} {P : Program} {m m' : Machine} (h : Steps P m m') : StepsIn (Machine.fenced P (fen r)) P m m' := by
  cases r with
  | none => exact stepsIn_wide.2 h
  | some l =>
    show StepsIn (Machine.fenced P (Fence.wide.inRound l)) P m m'
    rw [fenced_inRound]; exact stepsIn_wide.2 h
def notDefer (o : Oper) : Bool := match o.op with
  | .defer _ => false
  | _ => true
theorem upon_in {r : Option Nat} {n : Nat} {P : Program} {o : Oper} {a : Act} {K : Act → World → Prop} {Q : Exit → Act → World → Prop} {res : Result Next} (hQ : ∀ e a w, Q e a w → e = .normal)
    {Q' : Exit → Act → World → Prop} (h : o.upon P a K Q res) : o.uponIn (fen r) n P a K Q' res := by
  cases res with
  | ok nx w =>
    cases nx <;> simp only [Oper.upon, Oper.uponIn] at h ⊢ <;> first
      | exact h
      | exact ⟨fun hd => (fen_depth r hd).elim, fen_calls (Calls.mono h fun e w'' he => by
          cases e with
          | returned v => exact he
          | panicked c => exact absurd (hQ _ _ _ he) (by simp)
          | outgrown => obtain ⟨a0, w0, q⟩ := he; exact absurd (hQ _ _ _ q) (by simp))⟩
      | exact ⟨fun hd => (fen_depth r hd).elim, fun c cs _ => (by obtain ⟨v, w', h1, h2⟩ := h c cs; exact ⟨v, w', h1, fen_steps h2⟩)⟩
      | exact h.elim
  | halt x w =>
    cases x <;> simp only [Oper.upon, Oper.uponIn] at h ⊢ <;> first
      | exact absurd (hQ _ _ _ h) (by simp)
      | exact h.elim
theorem only_normal {K : Act → World → Prop} : ∀ e a w, only K e a w → e = .normal := fun e a w h => by cases e <;> first | rfl | exact h.elim

section
variable {P : Program} {T : TT} {N : Nat} {B : Nat} {w0 : World} {ds : List Deferred} {Q : Exit → Act → World → Prop} {F : Fr} {L L' : Lo} {ops : Array Oper} {rest : List Oper} {r : Option Nat} {n : Nat}
variable (P N B w0 ds Q r n) in
/-- operations, in a frame of r's. -/
structure XI (ops : Array Oper) (l : List Oper) (F : Fr) (L : Lo) : Prop where
  run : ∀ a w, Fits N ds F a → Sys B w0 L w → wpListIn (fen r) n P ops Q l a w
variable (P N B w0 ds Q r n) in
/-- code, in a frame of r's. -/
structure XR' (c : Code) (F : Fr) (L : Lo) : Prop where
  run : ∀ a w, Fits N ds F a → Sys B w0 L w → c.wpIn (fen r) n P Q a w
theorem XI.done (h : XE N B w0 ds Q .normal F L) : XI P N B w0 ds Q r n ops [] F L := ⟨h.run⟩
theorem XI.one {o : Oper} (hd : notDefer o = true) (h : XL P N B w0 ds (only (wpListIn (fen r) n P ops Q rest)) ops [o] F L) : XI P N B w0 ds Q r n ops (o :: rest) F L := by
  refine ⟨fun a w hf hs => ?_⟩
  have h1 := h.run a w hf hs
  unfold wpList at h1
  unfold wpListIn
  split
  · rename_i hw
    rw [if_pos hw] at h1
    rcases h1 with h1 | ⟨_, a0, w0, q⟩
    · refine ⟨fun f _ => fen_fn r f, ?_⟩
      rw [fen_round]
      rw [Oper.semAt_eq r a.eval o (fun c e => by simp [notDefer, e] at hd)]
      exact upon_in only_normal h1
    · exact q.elim
  · rename_i hw
    rw [if_neg hw] at h1
    exact ⟨fun f _ => fen_fn r f, h1⟩
theorem XE.nextI (h : XI P N B w0 ds Q r n ops rest F L) : XE N B w0 ds (only (wpListIn (fen r) n P ops Q rest)) .normal F L := ⟨h.run⟩
/-- yield is called: what the round comes to is told by R. -/
theorem XI.yield {d : Nat} {c : Operand} {args : Array Operand} {vs : List Value} {l : Nat} {ats : Array TypeId} {ty : TypeId} {p : String} {af : Array Edge} (hcv : evo F c = some (.func (.yield l) #[] #[])) (ha : evos F args.toList = some vs) (hd : Nat.blt d N = true)
    (R : World → Value → World → Prop)
    (hy : ∀ w, Sys B w0 L w → ∃ fn tmps assign body, (Instr.yield l vs.toArray).run P w = .ok (.round l fn tmps assign body) w ∧ RoundIn (fen r) (n - 1) P l fn tmps assign body w fun e w' => ∃ v, e = .returned v ∧ R w v w')
    (k : ∀ w v w', Sys B w0 L w → R w v w' → ∃ L' w1, Sys B w1 L' w' ∧ XI P N B w1 ds Q r n ops rest ((d, v) :: F) L') :
    XI P N B w0 ds Q r n ops ({ dst := some d, op := .call { callee := .value c, args := args, argTypes := ats }, type := ty, pos := p, after := af, guard := none } :: rest) F L := by
  refine ⟨fun a w hf hs => ?_⟩
  obtain ⟨fn, tmps, assign, body, h1, h2⟩ := hy w hs
  refine wpListIn_plain rfl fun K hK => ⟨fun f _ => fen_fn r f, ?_⟩
  have hm : args.map a.eval = vs.toArray := by
    apply Array.ext'
    rw [Array.toList_map]
    exact evos_spec hf _ _ ha
  have hsem : ((Oper.semAt (fen r).round a.eval { dst := some d, op := .call { callee := .value c, args := args, argTypes := ats }, type := ty, pos := p, after := af, guard := none })).run P w = .ok (.round l fn tmps assign body) w := by
    rw [Oper.semAt_eq _ _ _ (fun c e => by cases e)]
    simp [execOp, resolve, hf.eval hcv, Deferred.ofValue, invoke, hm, h1]
  rw [hsem]
  refine ⟨fun hd => (fen_depth r hd).elim, h2.mono fun e w' he => ?_⟩
  obtain ⟨v, rfl, hR⟩ := he
  obtain ⟨L', w1, hS, hk⟩ := k w v w' hs hR
  exact hK _ _ (hk.run _ _ (hf.put hd) hS)
/-- a region in which yield is called, in a frame of no round's. -/
theorem XC.regionI {id : Nat} {l : List Oper} (n : Nat) (h : XI P N B w0 ds Q none n l.toArray l F L) : XC P N B w0 ds Q (.region id l.toArray false) F L :=
  ⟨fun a w hf hs => (wpIn_wide (n := n)).1 (wpIn_region_lit (F := Fence.wide) (h.run a w hf hs))⟩

/-! ### code in a round's frame -/
theorem XR'.region {id : Nat} {l : List Oper} (h : XI P N B w0 ds Q r n l.toArray l F L) : XR' P N B w0 ds Q r n (.region id l.toArray false) F L := ⟨fun a w hf hs => wpIn_region_lit (h.run a w hf hs)⟩
theorem XR'.seq {x y : Code} (h : XR' P N B w0 ds (Exit.then (y.wpIn (fen r) n P Q) Q) r n x F L) : XR' P N B w0 ds Q r n (.seq x y) F L := ⟨fun a w hf hs => wpIn_seq (h.run a w hf hs)⟩
theorem XE.nextR {y : Code} (h : XR' P N B w0 ds Q r n y F L) : XE N B w0 ds (Exit.then (y.wpIn (fen r) n P Q) Q) .normal F L := ⟨h.run⟩
theorem XR'.skip (h : XE N B w0 ds Q .normal F L) : XR' P N B w0 ds Q r n .skip F L := ⟨fun a w hf hs => wpIn_skip (h.run a w hf hs)⟩
theorem XR'.ret (h : XE N B w0 ds Q .ret F L) : XR' P N B w0 ds Q r n .ret F L := ⟨fun a w hf hs => wpIn_ret (h.run a w hf hs)⟩
theorem XR'.block {id : Nat} {c : Code} (h : XR' P N B w0 ds (Exit.inBlock id Q) r n c F L) : XR' P N B w0 ds Q r n (.block id c) F L := ⟨fun a w hf hs => wpIn_block (h.run a w hf hs)⟩
theorem XR'.cond {c : Operand} {x y : Code} (b : Bool) (hc : evo F c = some (.bool b)) (ht : b = true → XR' P N B w0 ds Q r n x F L) (he : b = false → XR' P N B w0 ds Q r n y F L) : XR' P N B w0 ds Q r n (.cond c x y) F L := ⟨fun a w hf hs => by
  cases b with
  | true => exact wpIn_cond_true (hf.eval hc) ((ht rfl).run a w hf hs)
  | false => exact wpIn_cond_false (hf.eval hc) ((he rfl).run a w hf hs)⟩
theorem XR'.cond_t {c : Operand} {x y : Code} (hc : evo F c = some (.bool true)) (ht : XR' P N B w0 ds Q r n x F L) : XR' P N B w0 ds Q r n (.cond c x y) F L := XR'.cond true hc (fun _ => ht) (fun h => by cases h)
theorem XR'.cond_f {c : Operand} {x y : Code} (hc : evo F c = some (.bool false)) (he : XR' P N B w0 ds Q r n y F L) : XR' P N B w0 ds Q r n (.cond c x y) F L := XR'.cond false hc (fun h => by cases h) (fun _ => he)
theorem XI.id {l : List Oper} (h : XI P N B w0 ds Q r n ops l F L) : XI P N B w0 ds Q r n ops l F L := h
theorem XR'.id {c : Code} (h : XR' P N B w0 ds Q r n c F L) : XR' P N B w0 ds Q r n c F L := h

/-! ### the function that holds the statement -/
/-- its deferred calls: the mark of the block D, which holds none. -/
def markD (D : Nat) : Deferred := { target := .collected D, args := #[] }
theorem enterM {f : FuncId} {fn : Func} {c : Code} {vs : List Value} {w : World} {R : Ending → World → Prop} {n : Nat} (hf : P.funcs[f]? = some fn) (hb : fn.body = some c) (hN : fn.ntmps = n)
    (hn : Nat.ble vs.length n = true) (h : XC P n w.heap.size w [] (bodyPostM Fence.wide 0 P fn R) c (frame 0 vs) []) : Calls P f vs.toArray w R := by
  subst hN
  have hn' := Nat.le_of_ble_eq_true hn
  refine (callsIn_wide (n := 0)).1 (callsIn_of_wp_marks (F := Fence.wide) hf hb trivial ((wpIn_wide (n := 0)).2 (h.run _ w ⟨?_, rfl, fun t v _ hv => ?_⟩ (Sys.enter w))))
  · simp; omega
  · obtain ⟨_, h2⟩ := lk_frame vs 0 t v hv
    have hlt : t < vs.length := (List.getElem?_eq_some_iff.1 h2).1
    simp only [Array.getD_eq_getD_getElem?]
    rw [Array.getElem?_append_left (by simpa using hlt)]
    simp at h2 ⊢
    rw [h2]; rfl
/-- it returns, the mark taken. -/
theorem XE.retM (hT : TOK P T) {fn : Func} {R : Ending → World → Prop} {rs : List ResultVar} {vs : List Value} {c : Prop} {D i : Nat} {L' : Lo} (h : fn.results = ⟨rs⟩) (hL : L[i]? = some (D, .deferred (some []))) (hL' : setN L i (D, .deferred none) = some L')
    (hv : resO T F L' rs = some (vs, c)) (hc : c) (hR : ∀ w, Sys B w0 L' w → R (.returned (tupV vs)) w) : XE N B w0 [markD D] (bodyPostM Fence.wide 0 P fn R) .ret F L := by
  refine ⟨fun a w hf hw => ?_⟩
  show LeavesInM Fence.wide 0 P fn a.tmps R a.defers .returning w
  rw [hf.defers]
  have hD := (hw.own _ (List.mem_of_getElem? hL)).2
  obtain ⟨e, hlt⟩ := setN_spec _ _ _ _ hL'
  have hsys : Sys B w0 L' (w.putObj D (.deferred none)) := hw.setObj hL e
  refine ⟨by simp, .inl ⟨D, w.putObj D (.deferred none), rfl, run_takeDeferred hD, ?_⟩⟩
  have hf' : Fits N [] F { a with defers := [] } := ⟨hf.size, rfl, hf.get⟩
  have h1 := resO_run hT hf' hsys hv hc
  have h2 : (results fn a.tmps).run P (w.putObj D (.deferred none)) = .ok (tupV vs) (w.putObj D (.deferred none)) := by
    unfold results
    rw [h, Array.mapM_eq_mapM_toList]
    simp only [Sem.run_bind, Sem.run_map]
    refine (congrArg (fun r : Result (List Value) => (r.andThen fun a w' => Result.ok a.toArray w').andThen fun a w' => Sem.run P (pure (if h : a.size = 1 then a[0] else Value.tuple a)) w') h1).trans ?_
    simp only [Result.andThen_ok, Sem.run_pure]
    cases vs with
    | nil => rfl
    | cons v vs => cases vs with
      | nil => rfl
      | cons u vs => simp [tupV]
  show LeavesIn Fence.wide 0 P fn a.tmps R [] .returning (w.putObj D (.deferred none))
  exact ⟨_, h2, hR _ hsys⟩
end
end Go.Proofs.Ytlfjdbilblfknaa.X
/-
  A walk by lemmas (15): the statement that ranges over a function; a round's beginning and its end.
-/
namespace Go.Proofs.Ytlfjdbilblfknaa.X
open Go Go.RowKit
set_option linter.unusedVariables false
/-- the loop's record. -/
abbrev recO (fn : FuncId) (tmps : Array Value) (ps : Array Tmp) (assign body : Code) (D : Nat) (st : LoopState) (pe : Option Code) : Loop :=
  { state := st, pending := pe, fn := fn, tmps := tmps, params := ps, assign := assign, body := body, defers := D }
section
variable {P : Program} {T : TT} {N : Nat} {B : Nat} {w0 : World} {ds : List Deferred} {Q : Exit → Act → World → Prop} {F : Fr} {L L' : Lo} {n : Nat}
theorem XE.begin {l i : Nat} {r : Loop} {body : Code} {Q' : Exit → Act → World → Prop} (hL : L[i]? = some (l, .loop r)) (hr : r.state = .ready) (hL' : setN L i (l, .loop { r with state := .busy }) = some L')
    (h : XR' P N B w0 ds Q' (some l) n body F L') :
    XE N B w0 ds (Exit.then (fun a₁ w₁ => ∃ w₂, (Instr.beginRound l).run P w₁ = .ok () w₂ ∧ body.wpIn (Fence.wide.inRound l) n P Q' a₁ w₂) (fun _ _ _ => False)) .normal F L :=
  ⟨fun a w hf hs => by
    obtain ⟨e, _⟩ := setN_spec _ _ _ _ hL'
    exact ⟨_, run_beginRound (hs.own _ (List.mem_of_getElem? hL)).2 hr, h.run a _ hf (hs.setObj hL e)⟩⟩
theorem XE.endR {l i : Nat} {r : Loop} {R : Ending → World → Prop} (hL : L[i]? = some (l, .loop r)) (hL' : setN L i (l, .loop { r with state := .ready, pending := none }) = some L')
    (h : ∀ w, Sys B w0 L' w → R (.returned (.bool true)) w) : XE N B w0 ds (roundPost P l R) .normal F L :=
  ⟨fun a w hf hs => by
    obtain ⟨e, _⟩ := setN_spec _ _ _ _ hL'
    exact ⟨_, _, run_endRound none (hs.own _ (List.mem_of_getElem? hL)).2, h _ (hs.setObj hL e)⟩⟩
/-- one round of yield. -/
theorem round_of {l : Nat} {fn : FuncId} {tmps : Array Value} {assign body : Code} {w : World} {R : Ending → World → Prop} (hf : Fits N [] F { tmps := tmps, defers := [] }) (hs : Sys B w0 L w)
    (h : XR' P N B w0 [] (Exit.then (fun a₁ w₁ => ∃ w₂, (Instr.beginRound l).run P w₁ = .ok () w₂ ∧ body.wpIn (Fence.wide.inRound l) n P (roundPost P l R) a₁ w₂) (fun _ _ _ => False)) (some l) n assign F L) :
    RoundIn Fence.wide n P l fn tmps assign body w R :=
  roundIn_of_wpIn trivial (h.run _ w hf hs)
theorem XC.rangeFunc {g : Operand} {ps : Array Tmp} {assign body : Code} {gf : FuncId} {cap : List Value} (hg : evo F g = some (.func (.func gf) #[] ⟨cap⟩)) (hk : callOk P gf = true)
    (hc : ∀ (fn : FuncId) (a : Act) (D : Nat) (w : World), w0.heap.size ≤ D → Fits N [] F a → Sys B w0 ((D + 1, .loop (recO fn a.tmps ps assign body D .ready none)) :: (D, .deferred (some [])) :: L) w →
      Calls P gf (Value.func (.yield (D + 1)) #[] #[] :: cap).toArray w fun e w3 => ∃ v, e = .returned v ∧
        ((∃ L3 w1, Sys B w1 ((D + 1, .loop (recO fn a.tmps ps assign body D .ready none)) :: L3) w3 ∧ XE N B w1 [markD D] Q .normal F ((D + 1, .loop (recO fn a.tmps ps assign body D .exhausted none)) :: L3)) ∨
         (∃ L3 w1, Sys B w1 ((D + 1, .loop (recO fn a.tmps ps assign body D .done (some .ret))) :: L3) w3 ∧ XE N B w1 [markD D] Q .ret F ((D + 1, .loop (recO fn a.tmps ps assign body D .exhausted (some .ret))) :: L3)))) :
    XC P N B w0 [] Q (.rangeFunc g ps assign body) F L := by
  refine ⟨fun a w hf hs => (wpIn_wide (n := 1)).1 (wpIn_rangeFunc (F := Fence.wide) fun fn _ => ?_)⟩
  have S1 := (hs.box (.deferred (some []))).box (.loop (recO fn a.tmps ps assign body w.heap.size .ready none))
  have hsz : (w.alloc (.deferred (some []))).heap.size = w.heap.size + 1 := by simp
  rw [hsz] at S1
  obtain ⟨W1, hW1⟩ : ∃ W1, (w.alloc (.deferred (some []))).alloc (.loop (recO fn a.tmps ps assign body w.heap.size .ready none)) = W1 := ⟨_, rfl⟩
  rw [hW1] at S1
  have hcall := hc fn a w.heap.size W1 hs.size hf S1
  refine ⟨w.heap.size + 1, [markD w.heap.size], W1, { target := .fn (.func gf) ⟨cap⟩, args := #[.func (.yield (w.heap.size + 1)) #[] #[]] }, W1, gf, (Value.func (.yield (w.heap.size + 1)) #[] #[] :: cap).toArray, W1,
    by rw [← hW1]; exact run_enterLoop_outer _ _ _ _ _, ?_, fun f' _ => trivial, ?_, fun h => (by cases h), ?_⟩
  · have : evo F g = some (.func (.func gf) ⟨[]⟩ ⟨cap⟩) := hg
    have e := hf.eval this
    simp only [resolve, rangeCall, e, Deferred.ofValue]
    simp [Act.eval]
  · have : (#[Value.func (.yield (w.heap.size + 1)) #[] #[]] ++ (⟨cap⟩ : Array Value)) = (Value.func (.yield (w.heap.size + 1)) #[] #[] :: cap).toArray := by simp
    simp only [invoke, this]
    exact callFunc_run hk _ _
  · refine callsIn_wide.2 (hcall.mono fun e w3 he => ?_)
    obtain ⟨v, rfl, hR⟩ := he
    have hf' : Fits N [markD w.heap.size] F { a with defers := [markD w.heap.size] ++ a.defers } := ⟨hf.size, by simp [hf.defers], hf.get⟩
    rcases hR with ⟨L3, w1, hS, hx⟩ | ⟨L3, w1, hS, hx⟩
    · have hl := (hS.own _ List.mem_cons_self).2
      exact ⟨none, _, run_endLoop hl (by simp), hx.run _ _ hf' (hS.setObj (i := 0) rfl rfl)⟩
    · have hl := (hS.own _ List.mem_cons_self).2
      exact ⟨some .ret, _, run_endLoop hl (by simp), wpIn_ret (hx.run _ _ hf' (hS.setObj (i := 0) rfl rfl))⟩
end
end Go.Proofs.Ytlfjdbilblfknaa.X
/-
  A walk by lemmas (16): interfaces against nil.
-/
namespace Go.Proofs.Ytlfjdbilblfknaa.X
open Go Go.RowKit
set_option linter.unusedVariables false
def isIf (d : Option TypeDesc) : Bool := match d with
  | some (.interface _) => true
  | _ => false
def isNilI : Value → Option Bool
  | .nilIface => some true
  | .iface _ _ => some false
  | _ => none
section
variable {P : Program} {T : TT} {N : Nat} {B : Nat} {w0 : World} {ds : List Deferred} {F : Fr} {L : Lo} {pu : Prop}
variable {dst : Option Tmp} {ty : TypeId} {p : String} {af : Array Edge} {gd : Option (Nat × Bool)}
end
theorem XI.rebase {P : Program} {N B : Nat} {w0 : World} {ds : List Deferred} {Q : Exit → Act → World → Prop} {F : Fr} {L L' : Lo} {ops : Array Oper} {rest : List Oper} {r : Option Nat} {n : Nat} (hs : List.Sublist L' L) (k : ∀ w1, Sys B w0 L w1 → XI P N B w1 ds Q r n ops rest F L') : XI P N B w0 ds Q r n ops rest F L :=
  ⟨fun a w hf h => (k w h).run a w hf (h.rebase hs)⟩
/-- no call of a value that is held in a slot. -/
def plainO (o : Oper) : Bool := match o.op with
  | .defer _ => false
  | .call c => match c.callee with
    | .value (.tmp _) => false
    | _ => true
  | _ => true
theorem XI.one1 {P : Program} {N B : Nat} {w0 : World} {ds : List Deferred} {Q : Exit → Act → World → Prop} {F : Fr} {L : Lo} {ops : Array Oper} {rest : List Oper} {r : Option Nat} {n : Nat} {o : Oper} (hd : plainO o = true) (h : XL P N B w0 ds (only (wpListIn (fen r) n P ops Q rest)) ops [o] F L) : XI P N B w0 ds Q r n ops (o :: rest) F L :=
  XI.one (by
    unfold plainO at hd
    unfold notDefer
    split at hd <;> simp_all) h
end Go.Proofs.Ytlfjdbilblfknaa.X
/-
  Rows of the call's own that grow, and what else was made in the call: one word for all of it.
-/
namespace Go.Proofs.Ytlfjdbilblfknaa.X
open Go Go.RowKit
set_option linter.unusedVariables false
/-- something in memory, told of some blocks alone. -/
structure Held where
  p : World → (Nat → Prop) → Prop
  keep : ∀ {w w' : World} {ok : Nat → Prop}, p w ok → (∀ k, ok k → w'.heap[k]? = w.heap[k]?) → p w' ok
  mono : ∀ {w : World} {ok ok' : Nat → Prop}, p w ok → (∀ k, ok k → ok' k) → p w ok'
/-- a kind of elements: their type, how many cells they take, which; and what they point to. -/
structure Kind (α : Type) where
  ty : TypeId
  m : Nat
  c : α → List Value
  sl : α → List Held
  len : ∀ a, (c a).length = m
/-- a slice that is read. -/
structure ListAt {α : Type} (K : Kind α) (W : World) (ok : Nat → Prop) (r : SV) (l : List α) : Prop where
  rd : ReadsP W ok K.m r.A r.n (l.flatMap K.c)
  max : r.n ≤ 9223372036854775807
  ins : ∀ a, a ∈ l → ∀ h, h ∈ K.sl a → h.p W ok
section
variable {α : Type} {K : Kind α} {w w' w0 W : World} {ok ok' : Nat → Prop} {B : Nat} {r : SV} {l : List α} {L : Lo}
theorem ListAt.keep (h : ListAt K w ok r l) (hk : ∀ k, ok k → w'.heap[k]? = w.heap[k]?) : ListAt K w' ok r l := ⟨h.rd.keep hk, h.max, fun a ha x hx => x.keep (h.ins a ha x hx) hk⟩
theorem ListAt.mono (h : ListAt K w ok r l) (hk : ∀ k, ok k → ok' k) : ListAt K w ok' r l := ⟨h.rd.mono hk, h.max, fun a ha x hx => x.mono (h.ins a ha x hx) hk⟩
theorem ListAt.sys (h : ListAt K w0 ok r l) (S : Sys B w0 L w) (hk : Keep ok w0 L) : ListAt K w (Lt w.heap.size) r l := (h.keep (hk.sys S)).mono (hk.lt S)
theorem ListAt.arg (h : ListAt K w0 (Lt B) r l) (S : Sys B w0 L w) : ListAt K w (Lt w.heap.size) r l := h.sys S (Keep.arg S)
theorem ListAt.below (h : ListAt K w (Lt B) r l) (hb : Below B w w') : ListAt K w' (Lt B) r l := h.keep fun k hk => hb.block k hk
theorem ListAt.len (h : ListAt K w ok r l) (h0 : 0 < K.m) : r.n = l.length := by
  have := h.rd.len
  rw [flat_len K.c K.m K.len] at this
  exact (Nat.eq_of_mul_eq_mul_right h0 this).symm
theorem ListAt.nil : ListAt K w ok ⟨none, 0, 0⟩ [] := ⟨ReadsP.nil, Nat.zero_le _, fun a ha => by cases ha⟩
/-- an element's cells. -/
theorem ListAt.elem {ad : Addr} {n c : Nat} (h : ListAt K w ok ⟨some ad, n, c⟩ l) {k : Nat} {a : α} (hk : l[k]? = some a) : ∀ j u, (K.c a)[j]? = some u → w.cell? ((ad.add (k * K.m)).add j) = some u := fun j u hj => by
  have hj3 : j < K.m := by have := (List.getElem?_eq_some_iff.1 hj).1; rwa [K.len] at this
  have hn := h.len (by omega)
  have hkl := (List.getElem?_eq_some_iff.1 hk).1
  obtain ⟨ad', e, _, h1⟩ := h.rd.at_ (by simp only at hn ⊢; omega)
  cases e
  have e2 := flat_at K.c K.m K.len l k j a hk hj3
  have := h1 (k * K.m + j) u (e2.trans hj)
  rw [add_add]
  exact this
/-- its block. -/
theorem ListAt.addr {A : Option Addr} {n c : Nat} (h : ListAt K w ok ⟨A, n, c⟩ l) (h0 : 0 < K.m) (hn : 0 < l.length) : ∃ ad, A = some ad ∧ ok ad.block := by
  have := h.len h0
  obtain ⟨ad, e, h1, _⟩ := h.rd.at_ (by simp only at this ⊢; omega)
  exact ⟨ad, e, h1⟩
end
theorem owns_move' {W W' : World} {v : Value} {base e size n : Nat} {xs : List Value} (h : W.ownsRow base e size v n xs) (hk : ∀ k, v.ownBlock = some k → W'.heap[k]? = W.heap[k]?) : W'.ownsRow base e size v n xs := by
  refine ⟨h.1, ?_⟩
  rcases h.2 with h1 | ⟨g, cap, cur, rfl, hb, hg, h1⟩
  · exact .inl h1
  · exact .inr ⟨g, cap, cur, rfl, hb, by rw [hk g rfl]; exact hg, h1⟩
def hList {α : Type} (K : Kind α) (r : SV) (l : List α) : Held := ⟨fun w ok => ListAt K w ok r l, ListAt.keep, ListAt.mono⟩
def hInts (q : SV) (l : List Int) : Held := ⟨fun w ok => IntsAt w ok q l, IntsAt.keep, IntsAt.mono⟩
/-- a row that grows. -/
structure RowX where
  α : Type
  K : Kind α
  v : Value
  l : List α
/-- made in the call, and none of these. -/
def Free (W : World) (b0 : Nat) (ks : List Nat) (rs : List RowX) (j : Nat) : Prop := b0 ≤ j ∧ j < W.heap.size ∧ j ∉ ks ∧ ∀ r, r ∈ rs → r.v.ownBlock ≠ some j
/-- THE ROWS rs AND WHAT ELSE WAS MADE SINCE b0 (hs); ks: blocks that are none of theirs. -/
structure Fam (W : World) (b0 : Nat) (ks : List Nat) (rs : List RowX) (hs : List Held) : Prop where
  base : b0 ≤ W.heap.size
  row : ∀ r, r ∈ rs → W.ownsRow b0 r.K.ty r.K.m r.v r.l.length (r.l.flatMap r.K.c)
  sep : ∀ r, r ∈ rs → ∀ k, r.v.ownBlock = some k → k ∉ ks
  two : rs.Pairwise fun r s => ∀ k, r.v.ownBlock = some k → s.v.ownBlock ≠ some k
  ins : ∀ r, r ∈ rs → ∀ a, a ∈ r.l → ∀ h, h ∈ r.K.sl a → h.p W (Free W b0 ks rs)
  held : ∀ h, h ∈ hs → h.p W (Free W b0 ks rs)
section
variable {W W' w w0 w1 w2 : World} {b0 B : Nat} {ks ks' : List Nat} {rs : List RowX} {hs hs' : List Held} {L : Lo}
theorem Fam.start (h : b0 ≤ W.heap.size) : Fam W b0 ks [] [] := ⟨h, fun _ h => (by cases h), fun _ h => (by cases h), .nil, fun _ h => (by cases h), fun _ h => (by cases h)⟩
theorem Fam.lt (h : Fam W b0 ks rs hs) {r : RowX} (hr : r ∈ rs) {k : Nat} (hk : r.v.ownBlock = some k) : b0 ≤ k ∧ k < W.heap.size := (h.row r hr).lt k hk
theorem Fam.nil {α : Type} (K : Kind α) (h : Fam W b0 ks rs hs) : Fam W b0 ks (⟨α, K, .slice none 0 0, []⟩ :: rs) hs := by
  have hf : ∀ j, Free W b0 ks rs j → Free W b0 ks (⟨α, K, .slice none 0 0, []⟩ :: rs) j := fun j hj => ⟨hj.1, hj.2.1, hj.2.2.1, fun r hr => by
    rcases List.mem_cons.1 hr with rfl | hr
    · simp [Value.ownBlock]
    · exact hj.2.2.2 r hr⟩
  refine ⟨h.base, fun r hr => ?_, fun r hr k hk => ?_, .cons (fun s hs k hk => by cases hk) h.two, fun r hr a ha x hx => ?_, fun x hx => x.mono (h.held x hx) hf⟩
  · rcases List.mem_cons.1 hr with rfl | hr
    · exact World.ownsRow_nil _ _ _ _
    · exact h.row r hr
  · rcases List.mem_cons.1 hr with rfl | hr
    · cases hk
    · exact h.sep r hr k hk
  · rcases List.mem_cons.1 hr with rfl | hr
    · cases ha
    · exact x.mono (h.ins r hr a ha x hx) hf
theorem Fam.hold (h : Fam W b0 ks rs hs) {x : Held} {ok : Nat → Prop} (hx : x.p W ok) (hk : ∀ j, ok j → Free W b0 ks rs j) : Fam W b0 ks rs (x :: hs) :=
  ⟨h.base, h.row, h.sep, h.two, h.ins, fun y hy => by
    rcases List.mem_cons.1 hy with rfl | hy
    · exact y.mono hx hk
    · exact h.held y hy⟩
theorem Fam.forget (h : Fam W b0 ks rs hs) (hh : ∀ x, x ∈ hs' → x ∈ hs) : Fam W b0 ks rs hs' := ⟨h.base, h.row, h.sep, h.two, h.ins, fun y hy => h.held y (hh y hy)⟩
/-- the own blocks may be others. -/
theorem Fam.add (h : Fam W b0 ks rs hs) (hk : ∀ k, k ∈ ks' → k ∈ ks ∨ W.heap.size ≤ k) : Fam W b0 ks' rs hs := by
  have hf : ∀ j, Free W b0 ks rs j → Free W b0 ks' rs j := fun j hj => ⟨hj.1, hj.2.1, fun h1 => by
    rcases hk j h1 with h2 | h2
    · exact hj.2.2.1 h2
    · have := hj.2.1; omega, hj.2.2.2⟩
  exact ⟨h.base, h.row, fun r hr k h1 h2 => by
    rcases hk k h2 with h3 | h3
    · exact h.sep r hr k h1 h3
    · have := (h.lt hr h1).2; omega, h.two, fun r hr a ha x hx => x.mono (h.ins r hr a ha x hx) hf, fun x hx => x.mono (h.held x hx) hf⟩
theorem Fam.move (h : Fam W b0 ks rs hs) (hsz : W.heap.size ≤ W'.heap.size) (ho : ∀ j, j < W.heap.size → j ∉ ks → W'.heap[j]? = W.heap[j]?) : Fam W' b0 ks rs hs := by
  have hf : ∀ j, Free W b0 ks rs j → Free W' b0 ks rs j := fun j hj => ⟨hj.1, by have := hj.2.1; omega, hj.2.2⟩
  have hk : ∀ j, Free W b0 ks rs j → W'.heap[j]? = W.heap[j]? := fun j hj => ho j hj.2.1 hj.2.2.1
  exact ⟨Nat.le_trans h.base hsz, fun r hr => owns_move' (h.row r hr) fun k h1 => ho k (h.lt hr h1).2 (h.sep r hr k h1), h.sep, h.two, fun r hr a ha x hx => x.mono (x.keep (h.ins r hr a ha x hx) hk) hf, fun x hx => x.mono (x.keep (h.held x hx) hk) hf⟩
theorem Fam.sys (h : Fam w0 b0 ks rs hs) (S : Sys B w0 L w) (hL : ∀ e, e ∈ L → e.1 ∈ ks ∨ w0.heap.size ≤ e.1) : Fam w b0 ks rs hs :=
  h.move S.size fun j hj hn => S.old j hj fun e he e1 => by
    rcases hL e he with h2 | h2
    · exact hn (e1 ▸ h2)
    · omega
theorem Fam.below (h : Fam w b0 ks rs hs) (hb : Below w.heap.size w w2) : Fam w2 b0 ks rs hs := h.move hb.size fun j hj _ => hb.block j hj
/-- what a call made. -/
theorem Fam.made (h : Fam w1 b0 ks rs hs) (hb : Below w1.heap.size w1 w2) {x : Held} (hx : x.p w2 (Btw w1.heap.size w2.heap.size)) (hk : ∀ k, k ∈ ks → k < w1.heap.size) : Fam w2 b0 ks rs (x :: hs) :=
  (h.below hb).hold hx fun j hj => ⟨Nat.le_trans h.base hj.1, hj.2, fun h1 => by have := hk j h1; have := hj.1; omega, fun r hr h1 => by have := (h.lt hr h1).2; have := hj.1; omega⟩
/-- a row grows. -/
theorem Fam.push {α : Type} {K : Kind α} {v v' : Value} {l : List α} {a : α} {i : Nat} (h : Fam W b0 ks rs hs) (hi : rs[i]? = some ⟨α, K, v, l⟩) (ha : ∀ x, x ∈ K.sl a → x ∈ hs) (hrow : W'.ownsRow b0 K.ty K.m v' (l.length + 1) (l.flatMap K.c ++ K.c a))
    (hsz : W.heap.size ≤ W'.heap.size) (ho : ∀ j, j < W.heap.size → j ∉ ks → v.ownBlock ≠ some j → W'.heap[j]? = W.heap[j]?) (hfr : ∀ k, v'.ownBlock = some k → v.ownBlock = some k ∨ (W.heap.size ≤ k ∧ k ∉ ks)) :
    Fam W' b0 ks (rs.set i ⟨α, K, v', l ++ [a]⟩) hs := by
  have hm : ∀ r, r ∈ rs.set i ⟨α, K, v', l ++ [a]⟩ → r = ⟨α, K, v', l ++ [a]⟩ ∨ (r ∈ rs ∧ ∀ k, r.v.ownBlock = some k → v.ownBlock ≠ some k) := fun r hr => by
    obtain ⟨j, hj, rfl⟩ := List.mem_iff_getElem.1 hr
    by_cases hij : i = j
    · subst hij; left; simp
    · right
      rw [List.getElem_set_ne hij]
      simp at hj
      refine ⟨List.getElem_mem _, fun k hk h2 => ?_⟩
      obtain ⟨hil, hie⟩ := List.getElem?_eq_some_iff.1 hi
      have hp := List.pairwise_iff_getElem.1 h.two
      rcases Nat.lt_or_gt_of_ne hij with h3 | h3
      · have := hp i j hil hj h3 k (by rw [hie]; exact h2)
        exact this hk
      · have := hp j i hj hil h3 k hk
        rw [hie] at this
        exact this h2
  have hri : (⟨α, K, v, l⟩ : RowX) ∈ rs := List.mem_of_getElem? hi
  have hf : ∀ j, Free W b0 ks rs j → Free W' b0 ks (rs.set i ⟨α, K, v', l ++ [a]⟩) j := fun j hj => ⟨hj.1, by have := hj.2.1; omega, hj.2.2.1, fun r hr h1 => by
    rcases hm r hr with rfl | ⟨h2, _⟩
    · rcases hfr j h1 with h3 | h3
      · exact hj.2.2.2 _ hri h3
      · have := hj.2.1; omega
    · exact hj.2.2.2 r h2 h1⟩
  have hk : ∀ j, Free W b0 ks rs j → W'.heap[j]? = W.heap[j]? := fun j hj => ho j hj.2.1 hj.2.2.1 fun h1 => hj.2.2.2 _ hri h1
  refine ⟨Nat.le_trans h.base hsz, fun r hr => ?_, fun r hr k h1 => ?_, ?_, fun r hr b hb x hx => ?_, fun x hx => x.mono (x.keep (h.held x hx) hk) hf⟩
  · rcases hm r hr with rfl | ⟨h2, h3⟩
    · simpa using hrow
    · exact owns_move' (h.row r h2) fun k h4 => ho k (h.lt h2 h4).2 (h.sep r h2 k h4) (h3 k h4)
  · rcases hm r hr with rfl | ⟨h2, h3⟩
    · rcases hfr k h1 with h4 | h4
      · exact h.sep _ hri k h4
      · exact h4.2
    · exact h.sep r h2 k h1
  · rw [List.pairwise_iff_getElem]
    have hp := List.pairwise_iff_getElem.1 h.two
    obtain ⟨hil, hie⟩ := List.getElem?_eq_some_iff.1 hi
    intro p q hpl hql hpq k hk1 hk2
    simp at hpl hql
    by_cases h1 : i = p
    · subst h1
      have h2 : i ≠ q := by omega
      rw [List.getElem_set_ne h2] at hk2
      simp at hk1
      rcases hfr k hk1 with h4 | h4
      · exact hp i q hpl hql hpq k (by rw [hie]; exact h4) hk2
      · have := (h.lt (List.getElem_mem hql) hk2).2; omega
    · by_cases h2 : i = q
      · subst h2
        rw [List.getElem_set_ne h1] at hk1
        simp at hk2
        rcases hfr k hk2 with h4 | h4
        · have := hp p i hpl hql hpq k hk1
          rw [hie] at this
          exact this h4
        · have := (h.lt (List.getElem_mem hpl) hk1).2; omega
      · rw [List.getElem_set_ne h1] at hk1
        rw [List.getElem_set_ne h2] at hk2
        exact hp p q hpl hql hpq k hk1 hk2
  · rcases hm r hr with rfl | ⟨h2, h3⟩
    · rcases List.mem_append.1 hb with h4 | h4
      · exact x.mono (x.keep (h.ins _ hri b h4 x hx) hk) hf
      · have h5 : b = a := List.mem_singleton.1 h4
        have h6 : x ∈ K.sl b := hx
        rw [h5] at h6
        exact x.mono (x.keep (h.held x (ha x h6)) hk) hf
    · exact x.mono (x.keep (h.ins r h2 b hb x hx) hk) hf
/-- a row is read. -/
theorem Fam.list {α : Type} {K : Kind α} {v : Value} {l : List α} (h : Fam W b0 ks rs hs) (hr : (⟨α, K, v, l⟩ : RowX) ∈ rs) : ∃ r : SV, v = svV r ∧ ListAt K W (Btw b0 W.heap.size) r l := by
  have h1 := h.row _ hr
  obtain ⟨r, rfl, hrn⟩ := owns_sv h1
  obtain ⟨a1, a2, _, a4⟩ := ReadsP.own h1
  refine ⟨r, rfl, by rw [a2]; exact a1, by simp only [maxLen] at a4 hrn; omega, fun a ha x hx => x.mono (h.ins _ hr a ha x hx) fun j hj => ⟨hj.1, hj.2.1⟩⟩
theorem Fam.get {x : Held} (h : Fam W b0 ks rs hs) (hx : x ∈ hs) : x.p W (Btw b0 W.heap.size) := x.mono (h.held x hx) fun j hj => ⟨hj.1, hj.2.1⟩
end
section
variable {P : Program} {T : TT} {N : Nat} {B : Nat} {w0 : World} {ds : List Deferred} {Q : Exit → Act → World → Prop} {F : Fr} {L : Lo} {ops : Array Oper} {rest : List Oper} {ty : TypeId} {p : String} {af : Array Edge}
/-- append(row, one element). -/
theorem XL.push {α : Type} {K : Kind α} {d : Nat} {t : TypeId} {x y : Operand} {v : Value} {l : List α} {a : α} {c bytes b0 : Nat} {A : Addr} {ks : List Nat} {rs : List RowX} {hs : List Held} {wE : World} (i : Nat) (he : elemOk P t K.ty K.m bytes = true) (h0 : 0 < K.m)
    (hx : evo F x = some v) (hy : evo F y = some (.slice (some A) 1 c)) (hd : Nat.blt d N = true) (hF : Fam w0 b0 ks rs hs) (hi : rs[i]? = some ⟨α, K, v, l⟩) (hks : ∀ k, k ∈ ks → k < w0.heap.size) (hbl : Below B wE w0) (hB : B ≤ b0) (h1 : (K.c a).all Value.oneCell' = true) (h63 : l.length + 1 ≤ 10000000) (hb : bytes ≤ 10000000) (ha : ∀ x, x ∈ K.sl a → x ∈ hs)
    (k : ∀ w' v', Fam w' b0 (L.map (·.1) ++ ks) (rs.set i ⟨α, K, v', l ++ [a]⟩) hs → Below B wE w' → (∀ k, k ∈ L.map (·.1) ++ ks → k < w'.heap.size) → XL P N B w' ds Q ops rest ((d, v') :: F) L)
    (hL : ∀ e, e ∈ L → e.1 ∈ ks ∨ w0.heap.size ≤ e.1 := by (intro e he; repeat (first | (cases he; done) | (rcases List.mem_cons.1 he with rfl | he; · first | (right; assumption) | (left; simp <;> fail)))) <;> fail) (hnews : ∀ w, Sys B w0 L w → ∀ j u, (K.c a)[j]? = some u → w.cell? (A.add j) = some u := by (intro w S j u hj; first | (rw [add_off, Nat.zero_add, S.cell List.mem_cons_self j]; exact hj) | (rw [add_off, Nat.zero_add, S.cell (List.mem_cons_of_mem _ List.mem_cons_self) j]; exact hj) | (rw [add_off, Nat.zero_add, S.cell (List.mem_cons_of_mem _ (List.mem_cons_of_mem _ List.mem_cons_self)) j]; exact hj))) :
    XL P N B w0 ds Q ops ({ dst := some d, op := .call { callee := .builtin .append, args := #[x, y], argTypes := #[t, t] }, type := ty, pos := p, after := af, guard := none } :: rest) F L := by
  have hri : (⟨α, K, v, l⟩ : RowX) ∈ rs := List.mem_of_getElem? hi
  have hk2 : ∀ k, k ∈ L.map (·.1) ++ ks → k ∈ ks ∨ w0.heap.size ≤ k := fun k hk => by
    rcases List.mem_append.1 hk with h | h
    · obtain ⟨e, he, rfl⟩ := List.mem_map.1 h
      exact hL e he
    · exact .inl h
  have hk3 : ∀ w, Sys B w0 L w → ∀ k, k ∈ L.map (·.1) ++ ks → k < w.heap.size := fun w S k hk => by
    rcases List.mem_append.1 hk with h | h
    · obtain ⟨e, he, rfl⟩ := List.mem_map.1 h
      exact S.lt he
    · exact Nat.lt_of_lt_of_le (hks k h) S.size
  refine XL.append2 (v := v) (m := 1) (n := l.length) (size := K.m) (bytes := bytes) (base := b0) (A := A) (xs := l.flatMap K.c) (news := K.c a) (L' := L) he h0 hx hy hd (hF.row _ hri) (fun k hk e he e1 => ?_) (by rw [K.len]; omega) hnews h1 (by unfold maxLen; omega)
    (Nat.le_trans (Nat.mul_le_mul h63 hb) (by decide)) hF.base (List.Sublist.refl _) (fun w v' w' S ho hg _ hfr => ?_)
  · rcases hL e he with h | h
    · exact hF.sep _ hri k hk (e1 ▸ h)
    · have := (hF.lt hri hk).2; omega
  · have hsz := hg.size
    have hS := S.size
    refine k w' v' ?_ (hbl.trans (grown_below S hg fun k hk => Nat.le_trans hB (hF.lt hri hk).1)) fun q hq => Nat.lt_of_lt_of_le (hk3 w S q hq) hsz
    refine (hF.add (ks' := L.map (·.1) ++ ks) hk2).push hi ha ho (Nat.le_trans hS hsz) (fun j hj hn hv => ?_) (fun k hk => ?_)
    · exact grown_old S hg hj (fun e he e1 => hn (List.mem_append_left _ (List.mem_map.2 ⟨e, he, e1⟩))) fun e1 => hv e1.symm
    · rcases hfr k hk with h | h
      · exact .inl h
      · exact .inr ⟨Nat.le_trans hS h, fun h2 => by have := hk3 w S k h2; omega⟩
/-- what a call made: its value, and new things in memory. -/
def Made (w : World) (R : Value → List Held → Prop) (e : Ending) (w' : World) : Prop := ∃ v new, e = .returned v ∧ R v new ∧ (∀ x, x ∈ new → x.p w' (Btw w.heap.size w'.heap.size)) ∧ Below w.heap.size w w'
theorem Fam.call {w0 w1 w2 : World} {b0 : Nat} {ks : List Nat} {rs : List RowX} {hs new : List Held} (hF : Fam w0 b0 ks rs hs) (S : Sys B w0 L w1) (hb : Below w1.heap.size w1 w2) (hL : ∀ e, e ∈ L → e.1 ∈ ks ∨ w0.heap.size ≤ e.1) (hks : ∀ k, k ∈ ks → k < w0.heap.size)
    (hx : ∀ x, x ∈ new → x.p w2 (Btw w1.heap.size w2.heap.size)) : Fam w2 b0 (L.map (·.1) ++ ks) rs (new ++ hs) ∧ ∀ k, k ∈ L.map (·.1) ++ ks → k < w2.heap.size := by
  have hk3 : ∀ k, k ∈ L.map (·.1) ++ ks → k < w1.heap.size := fun k hk => by
    rcases List.mem_append.1 hk with h | h
    · obtain ⟨e, he, rfl⟩ := List.mem_map.1 h
      exact S.lt he
    · exact Nat.lt_of_lt_of_le (hks k h) S.size
  have h1 : Fam w0 b0 (L.map (·.1) ++ ks) rs hs := hF.add fun k hk => by
    rcases List.mem_append.1 hk with h | h
    · obtain ⟨e, he, rfl⟩ := List.mem_map.1 h
      exact hL e he
    · exact .inl h
  have h2 : Fam w1 b0 (L.map (·.1) ++ ks) rs hs := h1.sys S fun e he => .inl (List.mem_append_left _ (List.mem_map.2 ⟨e, he, rfl⟩))
  refine ⟨?_, fun k hk => Nat.lt_of_lt_of_le (hk3 k hk) hb.size⟩
  clear hL hks h1
  induction new with
  | nil => exact h2.below hb
  | cons x new ih =>
    have := ih fun y hy => hx y (List.mem_cons_of_mem _ hy)
    exact this.hold (hx x List.mem_cons_self) fun j hj => ⟨Nat.le_trans h2.base hj.1, hj.2, fun h3 => by have := hk3 j h3; have := hj.1; omega, fun r hr h3 => by have := (h2.lt hr h3).2; have := hj.1; omega⟩
theorem XL.at_call {N : Nat} {ds : List Deferred} {F : Fr} {d : Nat} (f : FuncId) {args : Array Operand} {ats : Array TypeId} (k : XL P N B w0 ds Q ops ({ dst := some d, op := .call { callee := .value (.func f), args := args, argTypes := ats }, type := ty, pos := p, after := af, guard := none } :: rest) F L) :
    XL P N B w0 ds Q ops ({ dst := some d, op := .call { callee := .value (.func f), args := args, argTypes := ats }, type := ty, pos := p, after := af, guard := none } :: rest) F L := k
/-- a call that makes new things; the world behind it is the new base. -/
theorem XL.callF {f : FuncId} {d : Nat} {args : Array Operand} {vs : List Value} {ats : Array TypeId} {b0 : Nat} {ks : List Nat} {rs : List RowX} {hs : List Held} {wE : World} (R : Value → List Held → Prop) (h : callOk P f = true)
    (ha : evos F args.toList = some vs) (hd : Nat.blt d N = true) (hF : Fam w0 b0 ks rs hs) (hks : ∀ k, k ∈ ks → k < w0.heap.size) (hbl : Below B wE w0)
    (hc : ∀ w, Sys B w0 L w → Fam w b0 (L.map (·.1) ++ ks) rs hs → Below B wE w → Calls P f vs.toArray w (Made w R))
    (k : ∀ w' v new, R v new → Fam w' b0 (L.map (·.1) ++ ks) rs (new ++ hs) → Below B wE w' → (∀ k, k ∈ L.map (·.1) ++ ks → k < w'.heap.size) → XL P N B w' ds Q ops rest ((d, v) :: F) L)
    (hL : ∀ e, e ∈ L → e.1 ∈ ks ∨ w0.heap.size ≤ e.1 := by (intro e he; repeat (first | (cases he; done) | (rcases List.mem_cons.1 he with rfl | he; · first | (right; assumption) | (left; simp <;> fail)))) <;> fail) :
    XL P N B w0 ds Q ops ({ dst := some d, op := .call { callee := .value (.func f), args := args, argTypes := ats }, type := ty, pos := p, after := af, guard := none } :: rest) F L := by
  refine XL.call (fst := []) (cap := []) (vs := vs) h rfl ha hd (List.Sublist.refl _) (fun w v w' => ∃ new, R v new ∧ (∀ x, x ∈ new → x.p w' (Btw w.heap.size w'.heap.size)) ∧ Below w.heap.size w w') (fun w S => ?_) (fun w v w' S hR hb S' => ?_)
  · have h1 := hF.call S (Below.refl _ _) hL hks (new := []) fun _ h => by cases h
    simp only [List.nil_append, List.append_nil] at h1 ⊢
    exact (hc w S h1.1 (hbl.trans S.toBelow)).mono fun e w' ⟨v, new, e1, e2, e3, e4⟩ => ⟨v, e1, ⟨new, e2, e3, e4⟩, e4⟩
  · obtain ⟨new, e2, e3, e4⟩ := hR
    have h1 := hF.call S hb hL hks e3
    exact k w' v new e2 h1.1 (hbl.trans S'.toBelow) h1.2
/-- a cut's end; the state may be told by the world. -/
theorem XE.leafW {N : Nat} {ds : List Deferred} {F : Fr} {σ : Type} {G0 : Fr} {G : σ → Fr} {M : σ → Lo} {W : σ → World} {pre : σ → Prop} (h : ∀ w, Sys B w0 L w → ∃ s, pre s ∧ Sub (G s ++ G0) F ∧ Sys B (W s) (M s) w) :
    XE N B w0 ds (cutQ N B ds Q G0 G M W pre) .normal F L := ⟨fun a w hf hs => by
  obtain ⟨s, hp, hG, hS⟩ := h w hs
  exact ⟨s, hp, hG.fits hf, hS⟩⟩
end
theorem Held.lt {x : Held} {w : World} {b0 : Nat} (h : x.p w (Btw b0 w.heap.size)) : x.p w (Lt w.heap.size) := x.mono h fun k hk => hk.2
end Go.Proofs.Ytlfjdbilblfknaa.X
/-
  Rows that take whole lists; rows that are built or made; a slice from a place on.
-/
namespace Go.Proofs.Ytlfjdbilblfknaa.X
open Go Go.RowKit
set_option linter.unusedVariables false
section
variable {W W' w w0 w1 w2 : World} {b0 B : Nat} {ks ks' : List Nat} {rs : List RowX} {hs hs' : List Held} {L : Lo}
/-- a row takes a list. -/
theorem Fam.pushL {α : Type} {K : Kind α} {v v' : Value} {l l2 : List α} {i : Nat} (h : Fam W b0 ks rs hs) (hi : rs[i]? = some ⟨α, K, v, l⟩) (ha : ∀ a, a ∈ l2 → ∀ x, x ∈ K.sl a → x.p W (Free W b0 ks rs)) (hrow : W'.ownsRow b0 K.ty K.m v' (l.length + l2.length) (l.flatMap K.c ++ l2.flatMap K.c))
    (hsz : W.heap.size ≤ W'.heap.size) (ho : ∀ j, j < W.heap.size → j ∉ ks → v.ownBlock ≠ some j → W'.heap[j]? = W.heap[j]?) (hfr : ∀ k, v'.ownBlock = some k → v.ownBlock = some k ∨ (W.heap.size ≤ k ∧ k ∉ ks)) :
    Fam W' b0 ks (rs.set i ⟨α, K, v', l ++ l2⟩) hs := by
  have hm : ∀ r, r ∈ rs.set i ⟨α, K, v', l ++ l2⟩ → r = ⟨α, K, v', l ++ l2⟩ ∨ (r ∈ rs ∧ ∀ k, r.v.ownBlock = some k → v.ownBlock ≠ some k) := fun r hr => by
    obtain ⟨j, hj, rfl⟩ := List.mem_iff_getElem.1 hr
    by_cases hij : i = j
    · subst hij; left; simp
    · right
      rw [List.getElem_set_ne hij]
      simp at hj
      refine ⟨List.getElem_mem _, fun k hk h2 => ?_⟩
      obtain ⟨hil, hie⟩ := List.getElem?_eq_some_iff.1 hi
      have hp := List.pairwise_iff_getElem.1 h.two
      rcases Nat.lt_or_gt_of_ne hij with h3 | h3
      · have := hp i j hil hj h3 k (by rw [hie]; exact h2)
        exact this hk
      · have := hp j i hj hil h3 k hk
        rw [hie] at this
        exact this h2
  have hri : (⟨α, K, v, l⟩ : RowX) ∈ rs := List.mem_of_getElem? hi
  have hf : ∀ j, Free W b0 ks rs j → Free W' b0 ks (rs.set i ⟨α, K, v', l ++ l2⟩) j := fun j hj => ⟨hj.1, by have := hj.2.1; omega, hj.2.2.1, fun r hr h1 => by
    rcases hm r hr with rfl | ⟨h2, _⟩
    · rcases hfr j h1 with h3 | h3
      · exact hj.2.2.2 _ hri h3
      · have := hj.2.1; omega
    · exact hj.2.2.2 r h2 h1⟩
  have hk : ∀ j, Free W b0 ks rs j → W'.heap[j]? = W.heap[j]? := fun j hj => ho j hj.2.1 hj.2.2.1 fun h1 => hj.2.2.2 _ hri h1
  refine ⟨Nat.le_trans h.base hsz, fun r hr => ?_, fun r hr k h1 => ?_, ?_, fun r hr b hb x hx => ?_, fun x hx => x.mono (x.keep (h.held x hx) hk) hf⟩
  · rcases hm r hr with rfl | ⟨h2, h3⟩
    · simpa using hrow
    · exact owns_move' (h.row r h2) fun k h4 => ho k (h.lt h2 h4).2 (h.sep r h2 k h4) (h3 k h4)
  · rcases hm r hr with rfl | ⟨h2, h3⟩
    · rcases hfr k h1 with h4 | h4
      · exact h.sep _ hri k h4
      · exact h4.2
    · exact h.sep r h2 k h1
  · rw [List.pairwise_iff_getElem]
    have hp := List.pairwise_iff_getElem.1 h.two
    obtain ⟨hil, hie⟩ := List.getElem?_eq_some_iff.1 hi
    intro p q hpl hql hpq k hk1 hk2
    simp at hpl hql
    by_cases h1 : i = p
    · subst h1
      have h2 : i ≠ q := by omega
      rw [List.getElem_set_ne h2] at hk2
      simp at hk1
      rcases hfr k hk1 with h4 | h4
      · exact hp i q hpl hql hpq k (by rw [hie]; exact h4) hk2
      · have := (h.lt (List.getElem_mem hql) hk2).2; omega
    · by_cases h2 : i = q
      · subst h2
        rw [List.getElem_set_ne h1] at hk1
        simp at hk2
        rcases hfr k hk2 with h4 | h4
        · have := hp p i hpl hql hpq k hk1
          rw [hie] at this
          exact this h4
        · have := (h.lt (List.getElem_mem hpl) hk1).2; omega
      · rw [List.getElem_set_ne h1] at hk1
        rw [List.getElem_set_ne h2] at hk2
        exact hp p q hpl hql hpq k hk1 hk2
  · rcases hm r hr with rfl | ⟨h2, h3⟩
    · rcases List.mem_append.1 hb with h4 | h4
      · exact x.mono (x.keep (h.ins _ hri b h4 x hx) hk) hf
      · exact x.mono (x.keep (ha b h4 x hx) hk) hf
    · exact x.mono (x.keep (h.ins r h2 b hb x hx) hk) hf
/-- a new row. -/
theorem Fam.fresh {α : Type} {K : Kind α} {v : Value} {l : List α} (h : Fam W b0 ks rs hs) (hsz : W.heap.size ≤ W'.heap.size) (ho : ∀ j, j < W.heap.size → j ∉ ks → W'.heap[j]? = W.heap[j]?) (hrow : W'.ownsRow b0 K.ty K.m v l.length (l.flatMap K.c))
    (hv : ∀ k, v.ownBlock = some k → W.heap.size ≤ k ∧ k ∉ ks) (ha : ∀ a, a ∈ l → ∀ x, x ∈ K.sl a → x.p W (Free W b0 ks rs)) : Fam W' b0 ks (⟨α, K, v, l⟩ :: rs) hs := by
  have h1 := h.move hsz ho
  have hf : ∀ j, Free W b0 ks rs j → Free W' b0 ks (⟨α, K, v, l⟩ :: rs) j := fun j hj => ⟨hj.1, by have := hj.2.1; omega, hj.2.2.1, fun r hr h2 => by
    rcases List.mem_cons.1 hr with rfl | hr
    · have := (hv j h2).1; have := hj.2.1; omega
    · exact hj.2.2.2 r hr h2⟩
  have hk : ∀ j, Free W b0 ks rs j → W'.heap[j]? = W.heap[j]? := fun j hj => ho j hj.2.1 hj.2.2.1
  refine ⟨h1.base, fun r hr => ?_, fun r hr k h2 => ?_, .cons (fun r hr k h2 h3 => ?_) h.two, fun r hr a hb x hx => ?_, fun x hx => x.mono (x.keep (h.held x hx) hk) hf⟩
  · rcases List.mem_cons.1 hr with rfl | hr
    · exact hrow
    · exact h1.row r hr
  · rcases List.mem_cons.1 hr with rfl | hr
    · exact (hv k h2).2
    · exact h.sep r hr k h2
  · have := (hv k h2).1; have := (h.lt hr h3).2; omega
  · rcases List.mem_cons.1 hr with rfl | hr
    · exact x.mono (x.keep (ha a hb x hx) hk) hf
    · exact x.mono (x.keep (h.ins r hr a hb x hx) hk) hf
end
section
variable {P : Program} {T : TT} {N : Nat} {B : Nat} {w0 : World} {ds : List Deferred} {Q : Exit → Act → World → Prop} {F : Fr} {L : Lo} {pu : Prop} {ops : Array Oper} {rest : List Oper} {ty : TypeId} {p : String} {af : Array Edge}
variable {dst : Option Tmp} {gd : Option (Nat × Bool)}
theorem append_none_run {w : World} {base t e size bytes n c : Nat} {v : Value} {xs : List Value} (he : elemOk P t e size bytes = true) (hown : w.ownsRow base e size v n xs) : (Builtin.append_ #[t, t] ty #[v, .slice none 0 c]).run P w = .ok v w := by
  obtain ⟨hu, i, z, hi, hz, e1, e2, e3⟩ := elemOk_spec he
  rcases hown.2 with ⟨rfl, rfl⟩ | ⟨g, cap, cur, rfl, hb, hg, hc, hm, h⟩
  · simp [Builtin.append_, run_underlying hu, sizeOf_run hi, Builtin.lenOf, Builtin.firstCells]
  · have : ¬ cap < n := by omega
    simp [Builtin.append_, run_underlying hu, sizeOf_run hi, Builtin.lenOf, Builtin.firstCells, storeCells, hc, this]
theorem XL.weak1 {t : Nat} {u : Value} (h : XL P N B w0 ds Q ops rest F L) : XL P N B w0 ds Q ops rest ((1000000 + t, u) :: F) L :=
  ⟨fun a w hf hs => h.run a w ⟨hf.size, hf.defers, fun t' v ht hv => hf.get t' v ht (by
    unfold lk
    have : Nat.beq (1000000 + t) t' = false := by
      cases hb : Nat.beq (1000000 + t) t' with
      | false => rfl
      | true => have := Nat.eq_of_beq_eq_true hb; omega
    rw [this]
    exact hv)⟩ hs⟩
end
end Go.Proofs.Ytlfjdbilblfknaa.X
