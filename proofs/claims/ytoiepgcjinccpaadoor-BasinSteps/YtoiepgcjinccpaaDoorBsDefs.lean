/-
  The plain words of layer 4 (basin): rows, polders, states, ticks, and what Check says of them, in plain terms. No program stands here.
-/
namespace Go.Proofs.YtoiepgcjinccpaaDoor.Bs
set_option linter.unusedVariables false

structure Row where
  level : Int
  vol : Int
structure Pol where
  name : ByteArray
  sill : Int
  take : Int
  room : Int
structure Bas where
  rows : List Row
  leak : Int
  crest : Int
  over : Int
  pols : List Pol
structure Sta where
  vol : Int
  fil : List Int
structure Tick where
  outer : Int
  river : Int
  out : Int
structure Flo where
  river : Int
  over : Int
  leak : Int
  out : Int
  taken : List Int

def r0 : Row := ⟨0, 0⟩
def p0 : Pol := ⟨ByteArray.empty, 0, 0, 0⟩
def Bas.row (b : Bas) (i : Nat) : Row := b.rows[i]?.getD r0
def Bas.pol (b : Bas) (i : Nat) : Pol := b.pols[i]?.getD p0

/-- not from lo to hi. -/
def outB (n lo hi : Int) : Bool := decide (n < lo) || decide (hi < n)
theorem outB_f {n lo hi : Int} : outB n lo hi = false ↔ lo ≤ n ∧ n ≤ hi := by simp [outB]
theorem outB_t {n lo hi : Int} : outB n lo hi = true ↔ n < lo ∨ hi < n := by simp [outB]
def highB (n : Int) : Bool := outB n (-20000) 20000

/-- the first i below n at which f is not 0. -/
def firstN (f : Nat → Int) : Nat → Option Nat
  | 0 => none
  | n + 1 => match firstN f n with
    | some i => some i
    | none => if f n = 0 then none else some n
theorem firstN_none {f : Nat → Int} {n : Nat} (h : ∀ j, j < n → f j = 0) : firstN f n = none := by
  induction n with
  | zero => rfl
  | succ n ih => simp [firstN, ih (fun j hj => h j (by omega)), h n (by omega)]
theorem firstN_some {f : Nat → Int} {n i : Nat} (hi : i < n) (h : ∀ j, j < i → f j = 0) (hf : f i ≠ 0) : firstN f n = some i := by
  induction n with
  | zero => omega
  | succ n ih =>
    by_cases e : i = n
    · subst e; simp [firstN, firstN_none h, hf]
    · simp [firstN, ih (by omega)]
theorem firstN_none_iff {f : Nat → Int} {n : Nat} (h : firstN f n = none) : ∀ j, j < n → f j = 0 := by
  induction n with
  | zero => intro j hj; omega
  | succ n ih =>
    simp only [firstN] at h
    cases hx : firstN f n with
    | some i => rw [hx] at h; cases h
    | none =>
      rw [hx] at h
      simp only at h
      intro j hj
      by_cases e : j = n
      · subst e
        by_cases hf : f j = 0
        · exact hf
        · rw [if_neg hf] at h; cases h
      · exact ih hx j (by omega)

/-- a name: its bytes. -/
def lowB (c : Int) : Bool := decide (97 ≤ c) && decide (c ≤ 122)
def digB (c : Int) : Bool := decide (48 ≤ c) && decide (c ≤ 57)
/-- byte i, as a number. -/
def bt (s : ByteArray) (i : Nat) : Int := if h : i < s.size then (s[i].toNat : Int) else 0
theorem bt_eq {s : ByteArray} {i : Nat} (h : i < s.size) : bt s i = (s[i].toNat : Int) := by simp [bt, h]
def byteOk (s : ByteArray) (i : Nat) : Bool := lowB (bt s i) || (decide (0 < i) && (decide (bt s i = 45) || digB (bt s i)))
theorem byteOk_t {s : ByteArray} {i : Nat} (h : (97 ≤ bt s i ∧ bt s i ≤ 122) ∨ (0 < i ∧ (bt s i = 45 ∨ (48 ≤ bt s i ∧ bt s i ≤ 57)))) : byteOk s i = true := by
  simp [byteOk, lowB, digB]; omega
theorem byteOk_f {s : ByteArray} {i : Nat} (h : ¬ ((97 ≤ bt s i ∧ bt s i ≤ 122) ∨ (0 < i ∧ (bt s i = 45 ∨ (48 ≤ bt s i ∧ bt s i ≤ 57))))) : byteOk s i = false := by
  rw [← Bool.not_eq_true]
  simp [byteOk, lowB, digB]; omega
def nameB (s : ByteArray) : Bool := decide (0 < s.size) && decide (s.size ≤ 24) && decide (∀ i, i < s.size → byteOk s i = true)

theorem nameB_of {s : ByteArray} (h0 : 0 < s.size) (h1 : s.size ≤ 24) (h : ∀ i, i < s.size → byteOk s i = true) : nameB s = true := by
  simp only [nameB, Bool.and_eq_true, decide_eq_true_eq]
  exact ⟨⟨h0, h1⟩, h⟩
theorem nameB_byte {s : ByteArray} {i : Nat} (hi : i < s.size) (h : byteOk s i = false) : nameB s = false := by
  cases hn : nameB s with
  | false => rfl
  | true =>
    simp only [nameB, Bool.and_eq_true, decide_eq_true_eq] at hn
    rw [hn.2 i hi] at h; cases h
theorem nameB_size {s : ByteArray} (h : ¬ (0 < s.size ∧ s.size ≤ 24)) : nameB s = false := by
  cases hn : nameB s with
  | false => rfl
  | true =>
    simp only [nameB, Bool.and_eq_true, decide_eq_true_eq] at hn
    exact absurd hn.1 h
theorem nameB_end {s : ByteArray} (h : ∀ i, i < s.size → byteOk s i = true) : nameB s = (decide (0 < s.size) && decide (s.size ≤ 24)) := by
  cases hb : (decide (0 < s.size) && decide (s.size ≤ 24)) with
  | true =>
    simp only [Bool.and_eq_true, decide_eq_true_eq] at hb
    exact nameB_of hb.1 hb.2 h
  | false =>
    refine nameB_size fun h2 => ?_
    rw [← Bool.not_eq_true] at hb
    exact hb (by simpa using h2)
theorem size_0 {s : ByteArray} : s.size = 0 ↔ s = ⟨#[]⟩ := by
  constructor
  · intro h
    apply ByteArray.ext
    apply Array.eq_empty_of_size_eq_zero
    exact h
  · intro h; subst h; rfl

section
variable (b : Bas)
def rowErr (i : Nat) : Int :=
  if highB (b.row i).level || outB (b.row i).vol 0 1000000000 then 7
  else if 0 < i ∧ ((b.row i).level ≤ (b.row (i - 1)).level ∨ (b.row i).vol ≤ (b.row (i - 1)).vol) then 2 else 0
def polErr (i : Nat) : Int :=
  if nameB (b.pol i).name = false then 6
  else if ∃ k, k < i ∧ (b.pol k).name = (b.pol i).name then 5
  else if outB (b.pol i).sill (b.row 0).level 20000 || (outB (b.pol i).take 0 10000 || outB (b.pol i).room 0 1000000000) then 7 else 0
/-- wide enough for a rate, between the rows before i and i. -/
def wideAt (rate : Int) (i : Nat) : Prop := rate * ((b.row (i + 1)).level - (b.row i).level) ≤ (b.row (i + 1)).vol - (b.row i).vol
def wide (rate : Int) : Prop := ∀ i, i + 1 < b.rows.length → wideAt b rate i
instance (rate : Int) (i : Nat) : Decidable (wideAt b rate i) := by unfold wideAt; infer_instance
/-- the greatest of Leak and the first k Takes. -/
def great : Nat → Int
  | 0 => b.leak
  | k + 1 => max (great k) (b.pol k).take
open Classical in
noncomputable def chk : Int × Int × Int :=
  if outB b.rows.length 2 12 then (1, 0, 3) else
  match firstN (rowErr b) b.rows.length with
  | some i => (1, i, rowErr b i)
  | none =>
    if outB b.leak 0 10000 || (outB b.over 0 10000 || highB b.crest) then (2, 0, 7) else
    if 6 < b.pols.length then (3, 0, 3) else
    match firstN (polErr b) b.pols.length with
    | some i => (3, i, polErr b i)
    | none => if wide b (great b b.pols.length) then (0, 0, 0) else (4, 0, 2)
noncomputable def chkE : Int := (chk b).2.2
end

/-- what a valid basin is. -/
structure Ok (b : Bas) : Prop where
  n2 : 2 ≤ b.rows.length
  n12 : b.rows.length ≤ 12
  level : ∀ i, i < b.rows.length → -20000 ≤ (b.row i).level ∧ (b.row i).level ≤ 20000
  vol : ∀ i, i < b.rows.length → 0 ≤ (b.row i).vol ∧ (b.row i).vol ≤ 1000000000
  levelUp : ∀ i, i + 1 < b.rows.length → (b.row i).level < (b.row (i + 1)).level
  volUp : ∀ i, i + 1 < b.rows.length → (b.row i).vol < (b.row (i + 1)).vol
  leak : 0 ≤ b.leak ∧ b.leak ≤ 10000
  over : 0 ≤ b.over ∧ b.over ≤ 10000
  crest : -20000 ≤ b.crest ∧ b.crest ≤ 20000
  m6 : b.pols.length ≤ 6
  name : ∀ i, i < b.pols.length → nameB (b.pol i).name = true
  names : ∀ i k, k < i → i < b.pols.length → (b.pol k).name ≠ (b.pol i).name
  sill : ∀ i, i < b.pols.length → (b.row 0).level ≤ (b.pol i).sill ∧ (b.pol i).sill ≤ 20000
  take : ∀ i, i < b.pols.length → 0 ≤ (b.pol i).take ∧ (b.pol i).take ≤ 10000
  room : ∀ i, i < b.pols.length → 0 ≤ (b.pol i).room ∧ (b.pol i).room ≤ 1000000000
  wide : wide b (great b b.pols.length)

theorem rowErr_0 {b : Bas} {i : Nat} (h : rowErr b i = 0) : (-20000 ≤ (b.row i).level ∧ (b.row i).level ≤ 20000) ∧ (0 ≤ (b.row i).vol ∧ (b.row i).vol ≤ 1000000000) ∧
    (0 < i → (b.row (i - 1)).level < (b.row i).level ∧ (b.row (i - 1)).vol < (b.row i).vol) := by
  unfold rowErr at h
  split at h
  · cases h
  · rename_i h1
    simp only [Bool.or_eq_true, not_or, Bool.not_eq_true] at h1
    split at h
    · cases h
    · rename_i h2
      refine ⟨outB_f.1 h1.1, outB_f.1 h1.2, fun hi => ?_⟩
      have : ¬ ((b.row i).level ≤ (b.row (i - 1)).level ∨ (b.row i).vol ≤ (b.row (i - 1)).vol) := fun h3 => h2 ⟨hi, h3⟩
      omega
theorem polErr_0 {b : Bas} {i : Nat} (h : polErr b i = 0) : nameB (b.pol i).name = true ∧ (∀ k, k < i → (b.pol k).name ≠ (b.pol i).name) ∧ ((b.row 0).level ≤ (b.pol i).sill ∧ (b.pol i).sill ≤ 20000) ∧
    (0 ≤ (b.pol i).take ∧ (b.pol i).take ≤ 10000) ∧ (0 ≤ (b.pol i).room ∧ (b.pol i).room ≤ 1000000000) := by
  unfold polErr at h
  split at h
  · cases h
  · rename_i h1
    split at h
    · cases h
    · rename_i h2
      split at h
      · cases h
      · rename_i h3
        simp only [Bool.or_eq_true, not_or, Bool.not_eq_true] at h3
        exact ⟨by simpa using h1, fun k hk e => h2 ⟨k, hk, e⟩, outB_f.1 h3.1, outB_f.1 h3.2.1, outB_f.1 h3.2.2⟩

/-- an error of 0: the basin is valid. -/
theorem ok_of {b : Bas} (h : chkE b = 0) : Ok b := by
  unfold chkE chk at h
  split at h
  · cases h
  · rename_i h1
    have h1 := outB_f.1 (by simpa using h1)
    split at h
    · rename_i i hi
      exfalso
      simp only at h
      have : ∀ n, firstN (rowErr b) n = some i → rowErr b i ≠ 0 := by
        intro n
        induction n with
        | zero => intro e; cases e
        | succ n ih =>
          intro e
          simp only [firstN] at e
          split at e
          · rename_i j hj; cases e; exact ih hj
          · split at e
            · cases e
            · rename_i hf; cases e; exact hf
      exact this _ hi h
    · rename_i hr
      have hr := firstN_none_iff hr
      split at h
      · cases h
      · rename_i h2
        simp only [Bool.or_eq_true, not_or, Bool.not_eq_true] at h2
        split at h
        · cases h
        · rename_i h3
          split at h
          · rename_i i hi
            exfalso
            simp only at h
            have : ∀ n, firstN (polErr b) n = some i → polErr b i ≠ 0 := by
              intro n
              induction n with
              | zero => intro e; cases e
              | succ n ih =>
                intro e
                simp only [firstN] at e
                split at e
                · rename_i j hj; cases e; exact ih hj
                · split at e
                  · cases e
                  · rename_i hf; cases e; exact hf
            exact this _ hi h
          · rename_i hp
            have hp := firstN_none_iff hp
            split at h
            · rename_i hw
              refine ⟨by omega, by omega, fun i hi => (rowErr_0 (hr i hi)).1, fun i hi => (rowErr_0 (hr i hi)).2.1, fun i hi => ((rowErr_0 (hr (i + 1) hi)).2.2 (by omega)).1, fun i hi => ((rowErr_0 (hr (i + 1) hi)).2.2 (by omega)).2,
                outB_f.1 h2.1, outB_f.1 h2.2.1, outB_f.1 h2.2.2, by omega, fun i hi => (polErr_0 (hp i hi)).1, fun i k hk hi => (polErr_0 (hp i hi)).2.1 k hk, fun i hi => (polErr_0 (hp i hi)).2.2.1,
                fun i hi => (polErr_0 (hp i hi)).2.2.2.1, fun i hi => (polErr_0 (hp i hi)).2.2.2.2, hw⟩
            · cases h
end Go.Proofs.YtoiepgcjinccpaaDoor.Bs
namespace Go.Proofs.YtoiepgcjinccpaaDoor.Bs
section
variable {b : Bas}
theorem chk_len (h : outB b.rows.length 2 12 = true) : chk b = (1, 0, 3) := by unfold chk; rw [if_pos h]
theorem chk_row {i : Nat} (h : outB b.rows.length 2 12 = false) (hi : i < b.rows.length) (h0 : ∀ j, j < i → rowErr b j = 0) {e : Int} (he : rowErr b i = e) (hne : e ≠ 0) : chk b = (1, (i : Int), e) := by
  unfold chk; rw [if_neg (by simp [h]), firstN_some hi h0 (by rw [he]; exact hne)]; simp only [he]
theorem chk_2 (h : outB b.rows.length 2 12 = false) (h0 : ∀ j, j < b.rows.length → rowErr b j = 0) (h1 : (outB b.leak 0 10000 || (outB b.over 0 10000 || highB b.crest)) = true) : chk b = (2, 0, 7) := by
  unfold chk; rw [if_neg (by simp [h]), firstN_none h0]; simp only; rw [if_pos h1]
theorem chk_3 (h : outB b.rows.length 2 12 = false) (h0 : ∀ j, j < b.rows.length → rowErr b j = 0) (h1 : (outB b.leak 0 10000 || (outB b.over 0 10000 || highB b.crest)) = false) (h2 : 6 < b.pols.length) : chk b = (3, 0, 3) := by
  unfold chk; rw [if_neg (by simp [h]), firstN_none h0]; simp only; rw [if_neg (by simp [h1]), if_pos h2]
theorem chk_pol {i : Nat} (h : outB b.rows.length 2 12 = false) (h0 : ∀ j, j < b.rows.length → rowErr b j = 0) (h1 : (outB b.leak 0 10000 || (outB b.over 0 10000 || highB b.crest)) = false) (h2 : ¬ 6 < b.pols.length)
    (hi : i < b.pols.length) (h3 : ∀ j, j < i → polErr b j = 0) {e : Int} (he : polErr b i = e) (hne : e ≠ 0) : chk b = (3, (i : Int), e) := by
  unfold chk; rw [if_neg (by simp [h]), firstN_none h0]; simp only; rw [if_neg (by simp [h1]), if_neg h2, firstN_some hi h3 (by rw [he]; exact hne)]; simp only [he]
theorem chk_4 (h : outB b.rows.length 2 12 = false) (h0 : ∀ j, j < b.rows.length → rowErr b j = 0) (h1 : (outB b.leak 0 10000 || (outB b.over 0 10000 || highB b.crest)) = false) (h2 : ¬ 6 < b.pols.length)
    (h3 : ∀ j, j < b.pols.length → polErr b j = 0) (hw : ¬ wide b (great b b.pols.length)) : chk b = (4, 0, 2) := by
  unfold chk; rw [if_neg (by simp [h]), firstN_none h0]; simp only; rw [if_neg (by simp [h1]), if_neg h2, firstN_none h3]; simp only; rw [if_neg hw]
theorem chk_0 (h : outB b.rows.length 2 12 = false) (h0 : ∀ j, j < b.rows.length → rowErr b j = 0) (h1 : (outB b.leak 0 10000 || (outB b.over 0 10000 || highB b.crest)) = false) (h2 : ¬ 6 < b.pols.length)
    (h3 : ∀ j, j < b.pols.length → polErr b j = 0) (hw : wide b (great b b.pols.length)) : chk b = (0, 0, 0) := by
  unfold chk; rw [if_neg (by simp [h]), firstN_none h0]; simp only; rw [if_neg (by simp [h1]), if_neg h2, firstN_none h3]; simp only; rw [if_pos hw]
theorem rowErr_7 {i : Nat} (h : highB (b.row i).level = true ∨ outB (b.row i).vol 0 1000000000 = true) : rowErr b i = 7 := by
  unfold rowErr; rw [if_pos (by simpa using h)]
theorem rowErr_2 {i : Nat} (h1 : highB (b.row i).level = false) (h2 : outB (b.row i).vol 0 1000000000 = false) (h : 0 < i ∧ ((b.row i).level ≤ (b.row (i - 1)).level ∨ (b.row i).vol ≤ (b.row (i - 1)).vol)) : rowErr b i = 2 := by
  unfold rowErr; rw [if_neg (by simp [h1, h2]), if_pos h]
theorem rowErr_n {i : Nat} (h1 : highB (b.row i).level = false) (h2 : outB (b.row i).vol 0 1000000000 = false) (h : ¬ (0 < i ∧ ((b.row i).level ≤ (b.row (i - 1)).level ∨ (b.row i).vol ≤ (b.row (i - 1)).vol))) : rowErr b i = 0 := by
  unfold rowErr; rw [if_neg (by simp [h1, h2]), if_neg h]
theorem polErr_6 {i : Nat} (h : nameB (b.pol i).name = false) : polErr b i = 6 := by unfold polErr; rw [if_pos h]
theorem polErr_5 {i : Nat} (h : nameB (b.pol i).name = true) (k : Nat) (hk : k < i) (h2 : (b.pol k).name = (b.pol i).name) : polErr b i = 5 := by
  unfold polErr; rw [if_neg (by simp [h]), if_pos ⟨k, hk, h2⟩]
theorem polErr_7 {i : Nat} (h : nameB (b.pol i).name = true) (h2 : ∀ k, k < i → (b.pol k).name ≠ (b.pol i).name)
    (h3 : (outB (b.pol i).sill (b.row 0).level 20000 || (outB (b.pol i).take 0 10000 || outB (b.pol i).room 0 1000000000)) = true) : polErr b i = 7 := by
  unfold polErr; rw [if_neg (by simp [h]), if_neg (fun ⟨k, hk, e⟩ => h2 k hk e), if_pos h3]
theorem polErr_n {i : Nat} (h : nameB (b.pol i).name = true) (h2 : ∀ k, k < i → (b.pol k).name ≠ (b.pol i).name)
    (h3 : (outB (b.pol i).sill (b.row 0).level 20000 || (outB (b.pol i).take 0 10000 || outB (b.pol i).room 0 1000000000)) = false) : polErr b i = 0 := by
  unfold polErr; rw [if_neg (by simp [h]), if_neg (fun ⟨k, hk, e⟩ => h2 k hk e), if_neg (by simp [h3])]
end
end Go.Proofs.YtoiepgcjinccpaaDoor.Bs
