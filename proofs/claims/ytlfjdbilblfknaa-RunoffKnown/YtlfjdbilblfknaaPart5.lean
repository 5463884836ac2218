/-
  From the reading of the arguments to how they lie in memory: tasks, choices, plans; what the bound of a second form gives (runoff).
-/
import Derived.Test.YtlfjdbilblfknaaPart2
import Derived.Test.YtlfjdbilblfknaaPart3
import Derived.Test.YtlfjdbilblfknaaRows
import Derived.Deep.Slices
import Derived.Deep.DeepHandedRow
import Derived.JoinedCond
import Derived.Test.YtlfjdbilblfknaaPart4
set_option linter.unusedVariables false
set_option linter.unusedSimpArgs false
namespace Go.Proofs.Ytlfjdbilblfknaa.X
open Go Go.RowKit Go.ChangeShapes Go.WideShapes Go.Proofs.Ytlfjdbilblfknaa.Bs
set_option linter.unusedVariables false
section
variable {H : Type} {enc : TypeId × Value → H} {P : Program} {w : World} {base : Nat} {spare : Nat → Bool} {held : Bool} {fuel : Nat} {cs : List Value} {x : DataW H × List MemPlace}
end
section
variable {H : Type} {enc : TypeId × Value → H} {w : World} {base : Nat} {spare : Nat → Bool} {held : Bool} {fuel : Nat} {cs : List Value} {x : DataW H × List MemPlace}
end
theorem own : ownKnob Try.prog.godebug = none := by kernel_rfl
end Go.Proofs.Ytlfjdbilblfknaa.X
/-
  RunoffKnown: the values of the example.
-/
namespace Go.Proofs.Ytlfjdbilblfknaa.Bs
open Go.Proofs.Ytlfjdbilblfknaa.X
theorem kn_ask {i : Int} (h : i = 0 ∨ i = 1) : askE7 rxT rxS i 2 = 0 := by
  unfold askE7
  rw [if_neg (by rw [rx_e]; decide), if_neg (by rw [show staErr rxT.b rxS = 0 from rx_sta]; decide)]
  rcases h with rfl | rfl <;> rfl
theorem kn_use0 : useE rxT rxS 0 [false, false] [true, false] = 0 ∧ useN rxT rxS 0 [false, false] [true, false] = (50000, 10) := useE_of (kn_ask (.inl rfl)) rfl (by kernel_rfl)
theorem kn_use1 : useE rxT rxS 0 [false, false] [true, true] = 0 ∧ useN rxT rxS 0 [false, false] [true, true] = (90000, 22) := useE_of (kn_ask (.inl rfl)) rfl (by kernel_rfl)
theorem kn_use2 : useE rxT rxS 1 [false, false] [false, true] = 0 ∧ useN rxT rxS 1 [false, false] [false, true] = (40000, 512) := useE_of (kn_ask (.inr rfl)) rfl (by kernel_rfl)
theorem kn_use3 : useE rxT rxS 1 [false, false] [true, false] = 170 := by
  unfold useE
  rw [if_neg (by rw [show ([false, false] : List Bool).length = 2 from rfl, kn_ask (.inr rfl)]; decide), if_neg (by decide), show rxT.use rxS.vol (1 : Int).toNat [false, false] [true, false] = none by kernel_rfl]
theorem kn_che0 : cheE rxT rxS 0 [false, false] 40000 = 0 ∧ cheR rxT rxS 0 [false, false] 40000 = some (10, [true, false]) := cheE_of (kn_ask (.inl rfl)) (by decide) (by kernel_rfl)
theorem kn_che1 : cheE rxT rxS 0 [false, false] 50001 = 0 ∧ cheR rxT rxS 0 [false, false] 50001 = some (22, [true, true]) := cheE_of (kn_ask (.inl rfl)) (by decide) (by kernel_rfl)
theorem kn_che2 : cheE rxT rxS 0 [false, false] 0 = 0 ∧ cheR rxT rxS 0 [false, false] 0 = some (0, [false, false]) := cheE_of (kn_ask (.inl rfl)) (by decide) (by kernel_rfl)
theorem kn_che3 : cheE rxT rxS 0 [false, false] 100000 = 9 := by
  unfold cheE
  rw [if_neg (by rw [show ([false, false] : List Bool).length = 2 from rfl, kn_ask (.inl rfl)]; decide), if_neg (by decide), show cheB rxT rxS (0 : Int).toNat [false, false] 100000 (2 ^ rxT.m) = none by kernel_rfl]
  rfl
theorem kn_folE {p : Plan} (h : rxT.shaped p = true) : folE rxT p = 0 := by
  unfold folE
  rw [if_neg (by rw [rx_e]; decide), if_neg (by rw [h]; decide)]
theorem kn_fl0 : rxT.flw 0 rxS [false, false] [[false, false], [false, false]] = ([⟨⟨1007000, []⟩, 0, 0, 0⟩], 172) := by kernel_rfl
theorem kn_fl1 : rxT.flw 0 rxS [false, false] [[true, false], [true, false]] = ([⟨⟨957000, []⟩, 50000, 10, 10⟩], 170) := by kernel_rfl
theorem kn_do0 : folE rxT [[false, false], [false, false]] = 0 ∧ folL rxT [[false, false], [false, false]] = [⟨⟨1007000, []⟩, 0, 0, 0⟩] ∧ folF rxT [[false, false], [false, false]] = 172 := by
  have h : folE rxT [[false, false], [false, false]] = 0 := kn_folE rfl
  unfold folL folF
  rw [if_pos h, if_pos h]
  exact ⟨h, congrArg Prod.fst kn_fl0, congrArg Prod.snd kn_fl0⟩
theorem kn_do1 : folE rxT [[true, false], [true, false]] = 0 ∧ folL rxT [[true, false], [true, false]] = [⟨⟨957000, []⟩, 50000, 10, 10⟩] ∧ folF rxT [[true, false], [true, false]] = 170 := by
  have h : folE rxT [[true, false], [true, false]] = 0 := kn_folE rfl
  unfold folL folF
  rw [if_pos h, if_pos h]
  exact ⟨h, congrArg Prod.fst kn_fl1, congrArg Prod.snd kn_fl1⟩
theorem kn_cost {p : Plan} {c : Int} (h : rxT.shaped p = true) (h1 : (rxT.flw 0 rxS [false, false] p).2 = 0) (h2 : costs (rxT.flw 0 rxS [false, false] p).1 = c) : costE rxT p = 0 ∧ costN rxT p = c := by
  have h0 : costE rxT p = 0 := by
    unfold costE
    rw [if_neg (by rw [rx_e]; decide), if_neg (by rw [h]; decide)]
    exact h1
  exact ⟨h0, by unfold costN; rw [if_pos h0]; exact h2⟩
theorem kn_co0 : costE rxT [[false, false], [false, true]] = 0 ∧ costN rxT [[false, false], [false, true]] = 1018 := kn_cost rfl (by kernel_rfl) (by kernel_rfl)
theorem kn_co1 : costE rxT [[true, false], [false, false]] = 0 ∧ costN rxT [[true, false], [false, false]] = 30 := kn_cost rfl (by kernel_rfl) (by kernel_rfl)
theorem kn_co2 : costE rxT [[false, true], [false, false]] = 0 ∧ costN rxT [[false, true], [false, false]] = 12 := kn_cost rfl (by kernel_rfl) (by kernel_rfl)
theorem kn_lst : lstL rxT [[true, false], [false, false]] = [12, 20, 0] := by
  unfold lstL
  rw [if_pos kn_co1.1]
  kernel_rfl
end Go.Proofs.Ytlfjdbilblfknaa.Bs
/-
  RunoffKnown: the walk.
-/
namespace Go.Proofs.Ytlfjdbilblfknaa.X
open Go Go.RowKit Go.Proofs.Ytlfjdbilblfknaa.Bs
set_option linter.unusedVariables false
def knSp : List Spn := [⟨-600, -400⟩, ⟨400, 600⟩, ⟨-100, 100⟩]
theorem kn_one {α β : Type} {l : List (α × β)} {b : β} (h : l.map (·.2) = [b]) : ∃ a, l = [(a, b)] := by
  rcases l with _ | ⟨⟨a, b'⟩, _ | ⟨y, r⟩⟩
  · cases h
  · simp only [List.map_cons, List.map_nil, List.cons.injEq, and_true] at h
    exact ⟨a, by rw [h]⟩
  · simp at h
theorem kn_win : winE 0 knSp = 0 ∧ winS 0 knSp knSp.length = [0] ∧ winP 0 knSp knSp.length = [0, 2] := by decide
theorem own_list {α : Type} {K : Kind α} {B g c : Nat} {w0 w : World} {L : Lo} {e : TypeId} {l : List α} {cs : List Value} (S : Sys B w0 L w) (h : (g, cel e cs) ∈ L) (hcs : l.flatMap K.c = cs) (n : Nat) (hn : n = l.length) (hl : l.length ≤ 1000000) (hi : ∀ a, a ∈ l → ∀ x, x ∈ K.sl a → x.p w (Lt w.heap.size)) : ListAt K w (Lt w.heap.size) ⟨some ⟨g, 0, none⟩, n, c⟩ l := by
  subst hn
  exact ⟨⟨flat_len K.c K.m K.len l, fun _ => ⟨⟨g, 0, none⟩, rfl, S.keyLt g (List.mem_map.2 ⟨_, h, rfl⟩), fun j v hj => by rw [add_off, Nat.zero_add, S.cell h j, ← hcs]; exact hj⟩⟩, (by show l.length ≤ 9223372036854775807; omega), hi⟩
theorem own_ints {B g n c : Nat} {w0 w : World} {L : Lo} {e : TypeId} {l : List Int} {cs : List Value} (S : Sys B w0 L w) (h : (g, cel e cs) ∈ L) (hcs : ints l = cs) (hn : n = l.length) (hl : l.length ≤ 1000000) : IntsAt w (Lt w.heap.size) ⟨some ⟨g, 0, none⟩, n, c⟩ l := by
  subst hn
  exact ⟨⟨by simp [ints], fun _ => ⟨⟨g, 0, none⟩, rfl, S.keyLt g (List.mem_map.2 ⟨_, h, rfl⟩), fun j v hj => by rw [add_off, Nat.zero_add, S.cell h j, ← hcs]; exact hj⟩⟩, (by show l.length ≤ 9223372036854775807; omega)⟩
theorem kn_spc : knSp.flatMap spnK.c = [.int .i64 (-600), .int .i64 (-400), .int .i64 400, .int .i64 600, .int .i64 (-100), .int .i64 100] := rfl
set_option maxHeartbeats 16000000 in
theorem RunoffKnown_any {w : World} : Calls Try.prog 4 #[] w fun e w' => e = .returned (.bool true) ∧ Below w.heap.size w w' := by
  have haw := fun {L : Lo} {W : World} (w5 : World) (S5 : Sys w.heap.size W L w5) => Awake7_any (w := w5)
  refine enter Try.func4 rfl Try.ntmps4 rfl ?_; simp only [frame, Nat.zero_add, Nat.reduceAdd]
  repeat (first | (refine M0 ?_; first | refine SL ?_ | refine SB fun _ _ => ?_) | (refine M1 ?_; refine SC ?_) | (refine M2 ?_; refine SE ?_))
  refine XL.callF (ks := []) (rs := []) (hs := []) (b0 := w.heap.size) (wE := w) TaskV (ck rfl) rfl rfl (Fam.start (Nat.le_refl _)) (fun k hk => by cases hk) (Below.refl _ _) (fun w1 S1 _ hB1 => Task_made) (fun w2 x new hR hF2 hB2 hk2 => ?_) (fun e he => by cases he)
  obtain ⟨gr, go, gi, gp, gs, gu, gn, rfl, rfl⟩ := hR
  simp only [tskV, tskC, tskRV]
  repeat (first | (refine M0 ?_; first | refine SL ?_ | refine SB fun _ _ => ?_ | refine XL.buildSlice tok rfl rfl rfl rfl rfl rfl rfl rfl rfl (fun _ _ => ?_)) | (refine M1 ?_; refine SC ?_) | (refine M2 ?_; refine SE ?_))
  rename_i g1 hg1 g34 hg34
  refine XL.rebase (List.Sublist.refl _) (fun W0 S0 => ?_)
  have hF3 := (hF2.add (ks' := [g34, g1]) (fun k hk => .inr (by simp only [List.mem_cons, List.not_mem_nil, or_false] at hk; rcases hk with rfl | rfl <;> assumption))).sys S0 ZZHL
  have hwn := fun (w1 : World) {L : Lo} {e : TypeId} (S1 : Sys w.heap.size W0 ((g34, cel e [.int .i64 (-600), .int .i64 (-400), .int .i64 400, .int .i64 600, .int .i64 (-100), .int .i64 100]) :: L) w1) => own_list (l := knSp) (K := spnK) (c := 3) S1 List.mem_cons_self kn_spc 3 rfl (by decide) (fun a _ x hx => by cases hx)
  refine XL.callF (wE := w) (WinV 0 knSp) (ck rfl) rfl rfl hF3 (fun k hk => S0.keyLt k hk) (hB2.trans S0.toBelow) (fun w1 S1 hF1 hB1 => Windows_made (r := ⟨some ⟨g34, 0, none⟩, 3, 3⟩) (l := knSp) (lv := 0) (hwn w1 S1)) (fun w3 x new hR hF3 hB3 hk3 => ?_) ZZHL
  obtain ⟨q1, q2, rfl, rfl⟩ := hR
  rw [kn_win.1]
  rw [kn_win.2.1, kn_win.2.2, if_pos kn_win.1, if_pos kn_win.1] at hF3
  simp only [svV]
  have hQ := fun {L : Lo} (w5 : World) (S5 : Sys w.heap.size w3 L w5) (hL5 : ∀ e, e ∈ L → e.1 ∈ [g34, g1] ∨ w3.heap.size ≤ e.1) {q : SV} {l : List Int} (hm : hInts q l ∈ [hInts q1 [0], hInts q2 [0, 2]]) => ((hF3.sys S5 (fun e he => (hL5 e he).imp (fun h => List.mem_append_right _ h) id)).get (x := hInts q l) (by simp only [List.mem_cons, List.not_mem_nil, or_false] at hm; rcases hm with h | h <;> rw [h] <;> simp) : IntsAt w5 _ q l).mono fun k hk => hk.2
  repeat (first | (refine M0 ?_; first | refine SL ?_ | refine SB fun _ _ => ?_ | refine XL.buildSlice tok rfl rfl rfl rfl rfl rfl rfl rfl rfl (fun _ _ => ?_)) | (refine M1 ?_; refine SC ?_) | (refine M2 ?_; refine SE ?_))
  rename_i g43 hg43
  have h1 := fun (w5 : World) {L : Lo} {e : TypeId} (S5 : Sys w.heap.size w3 ((g43, cel e [.int .i64 0]) :: L) w5) hL5 => intsEq_any (q := q1) (r := ⟨some ⟨g43, 0, none⟩, 1, 1⟩) (l := [0]) (m := [0]) (w := w5) (hQ w5 S5 hL5 (.head _)) (own_ints S5 List.mem_cons_self rfl rfl (by decide))
  simp only [svV, decide_true] at h1
  rw [show decide ((0 : Int) ≠ 0) = false from rfl]
  refine XL.step _ (Ev.call (f := 11) (ck rfl) rfl (fun w5 S5 => h1 w5 S5 ZZHL)) rfl ?_
  repeat (first | (refine M0 ?_; first | refine SL ?_ | refine SB fun _ _ => ?_ | refine XL.buildSlice tok rfl rfl rfl rfl rfl rfl rfl rfl rfl (fun _ _ => ?_)) | (refine M1 ?_; refine SC ?_) | (refine M2 ?_; refine SE ?_))
  rename_i g49 hg49
  have h2 := fun (w5 : World) {L : Lo} {e : TypeId} (S5 : Sys w.heap.size w3 ((g49, cel e [.int .i64 0, .int .i64 2]) :: L) w5) hL5 => intsEq_any (q := q2) (r := ⟨some ⟨g49, 0, none⟩, 2, 2⟩) (l := [0, 2]) (m := [0, 2]) (w := w5) (hQ w5 S5 hL5 (.tail _ (.head _))) (own_ints S5 List.mem_cons_self rfl rfl (by decide))
  simp only [svV, decide_true] at h2
  refine XL.step _ (Ev.call (f := 11) (ck rfl) rfl (fun w5 S5 => h2 w5 S5 ZZHL)) rfl ?_
  repeat (first | (refine M0 ?_; first | refine SL ?_ | refine SB fun _ _ => ?_ | refine XL.buildSlice tok rfl rfl rfl rfl rfl rfl rfl rfl rfl (fun _ _ => ?_)) | (refine M1 ?_; refine SC ?_) | (refine M2 ?_; refine SE ?_))
  rename_i g53 hg53 g54 hg54 g55 hg55 g56 hg56 g57 hg57 g58 hg58 g59 hg59 g60 hg60
  have htk := fun {L : Lo} (w5 : World) (S5 : Sys w.heap.size w3 L w5) (hL5 : ∀ e, e ∈ L → e.1 ∈ [g34, g1] ∨ w3.heap.size ≤ e.1) => tsk_of (Held.lt (x := hBlk (tskBlk gr go gi gp gs gu gn)) ((hF3.sys S5 (fun e he => (hL5 e he).imp (fun h => List.mem_append_right _ h) id)).get (.tail _ (.tail _ (.head _)))))
  have hbl := fun {L : Lo} {B : Nat} {W : World} {a b : Bool} {g : Nat} (w5 : World) (S5 : Sys B W L w5) (hm : (g, cel 4 [.bool a, .bool b]) ∈ L) => own_list (l := [a, b]) (K := boolK) (c := 2) S5 hm rfl 2 rfl (by show 2 ≤ 1000000; decide) (fun a _ x hx => by cases hx)
  have hus := fun {L : Lo} (i : Int) (a b : Bool) (g : Nat) (w5 : World) (S5 : Sys w.heap.size w3 L w5) (hL5 : ∀ e, e ∈ L → e.1 ∈ [g34, g1] ∨ w3.heap.size ≤ e.1) (m1 : (g53, cel 4 [.bool false, .bool false]) ∈ L) (m2 : (g, cel 4 [.bool a, .bool b]) ∈ L) => Use_any (i := i) (s := rxS) (sq := ⟨none, 0, 0⟩) (htk w5 S5 hL5) (by decide) IntsAt.nil (hbl w5 S5 m1) (hbl w5 S5 m2)
  have hu0 := fun {L : Lo} (w5 : World) (S5 : Sys w.heap.size w3 L w5) hL5 m1 m2 => hus 0 true false g54 w5 S5 hL5 m1 m2
  have hu1 := fun {L : Lo} (w5 : World) (S5 : Sys w.heap.size w3 L w5) hL5 m1 m2 => hus 0 true true g55 w5 S5 hL5 m1 m2
  have hu2 := fun {L : Lo} (w5 : World) (S5 : Sys w.heap.size w3 L w5) hL5 m1 m2 => hus 1 false true g56 w5 S5 hL5 m1 m2
  have hu3 := fun {L : Lo} (w5 : World) (S5 : Sys w.heap.size w3 L w5) hL5 m1 m2 => hus 1 true false g54 w5 S5 hL5 m1 m2
  rw [kn_use0.1, kn_use0.2] at hu0
  rw [kn_use1.1, kn_use1.2] at hu1
  rw [kn_use2.1, kn_use2.2] at hu2
  rw [kn_use3] at hu3
  obtain ⟨N3, hN3⟩ : ∃ a, a = useN rxT rxS 1 [false, false] [true, false] := ⟨_, rfl⟩
  rw [← hN3] at hu3
  simp only [tskV, tskC, tskRV, staV, staC, svV] at hu0 hu1 hu2 hu3
  refine XC.loopk [1, 5, 6, 7, 8, 9] rfl (fun k : Nat => [(10, .int .i64 (k : Nat))]) (fun _ => _) (fun _ => w3) (fun k => k ≤ 3) (fun k => 3 - k) 0 (Nat.zero_le _) ZZSUB (fun _ h => h) ?_
  intro k hk
  try simp only at hk
  dsimp only [List.cons_append, List.nil_append]
  repeat (first | (refine M0 ?_; first | refine SL ?_ | refine SB fun _ _ => ?_) | (refine M1 ?_; refine SC ?_) | (refine M2 ?_; refine SE ?_))
  refine XC.cond _ rfl (fun h2 => ?_) (fun h2 => ?_)
  · have hkn : k = 0 ∨ k = 1 ∨ k = 2 := by have := of_decide_eq_true h2; omega
    clear h2
    rcases hkn with rfl | rfl | rfl
    · rw [show ((0 : Nat) : Int) = 0 from rfl]
      repeat (first | (refine M0 ?_; first | refine SL ?_ | refine SB fun _ _ => ?_) | (refine M1 ?_; refine SC ?_) | (refine M2 ?_; refine SE ?_))
      refine XC.drawR _ [0, 1, 2, 3, 4, 5, 6, 7, 8, 9, 10, 11] [12, 13, 14, 15, 16, 17, 18, 19] mixed (fun _ h => h) rfl (by kernel_rfl) ?_
      repeat (first | (refine M0 ?_; first | refine SL ?_ | refine SB fun _ _ => ?_ | refine Y4 (Ev.load_at tok 2 (g := g58) rfl rfl rfl rfl) ?_ | refine Y4 (Ev.load_at tok 3 (g := g57) rfl rfl rfl rfl) ?_) | (refine M2 ?_; refine SE ?_) | (refine M3 ?_; first | refine SG ?_ | refine SF ?_ | refine YF (Ev.load_at tok 2 (g := g58) rfl rfl rfl rfl) ?_ | refine YF (Ev.load_at tok 3 (g := g57) rfl rfl rfl rfl) ?_) | (refine M4 ?_; refine SR ?_) | (refine M5 ?_; first | exact M7 | refine YM ?_ | refine YN ?_ ?_))
      repeat (any_goals (first | (refine M0 ?_; first | refine SL ?_ | refine SB fun _ _ => ?_ | refine Y4 (Ev.load_at tok 1 (g := g59) rfl rfl rfl rfl) ?_ | refine Y4 (Ev.load_at tok 0 (g := g60) rfl rfl rfl rfl) ?_ | (refine XL.at_call 12 ?_; refine Y4 (Ev.call (f := 12) (ck rfl) rfl (fun w5 S5 => hu0 w5 S5 ZZHL (by repeat (first | exact List.mem_cons_self | apply List.mem_cons_of_mem)) (by repeat (first | exact List.mem_cons_self | apply List.mem_cons_of_mem)))) ?_)) | (refine M1 ?_; refine SC ?_) | (refine M2 ?_; refine SE ?_) | (refine M3 ?_; first | refine SG ?_ | refine SF ?_ | refine YF (Ev.load_at tok 1 (g := g59) rfl rfl rfl rfl) ?_ | refine YF (Ev.load_at tok 0 (g := g60) rfl rfl rfl rfl) ?_) | (refine M4 ?_; refine SR ?_) | (refine M5 ?_; first | exact M7 | refine YM ?_ | refine YN ?_ ?_)))
      any_goals (repeat (first | exact AnyR.nil | refine AnyR.skip rfl ?_))
      exact XE.round (s := 0) (0 + 1) (by omega) (by omega) ZZSUB (fun _ h => h)
    · rw [show ((1 : Nat) : Int) = 1 from rfl]
      repeat (first | (refine M0 ?_; first | refine SL ?_ | refine SB fun _ _ => ?_) | (refine M1 ?_; refine SC ?_) | (refine M2 ?_; refine SE ?_))
      refine XC.drawR _ [0, 1, 2, 3, 4, 5, 6, 7, 8, 9, 10, 11] [12, 13, 14, 15, 16, 17, 18, 19] mixed (fun _ h => h) rfl (by kernel_rfl) ?_
      repeat (first | (refine M0 ?_; first | refine SL ?_ | refine SB fun _ _ => ?_ | refine Y4 (Ev.load_at tok 2 (g := g58) rfl rfl rfl rfl) ?_ | refine Y4 (Ev.load_at tok 3 (g := g57) rfl rfl rfl rfl) ?_) | (refine M2 ?_; refine SE ?_) | (refine M3 ?_; first | refine SG ?_ | refine SF ?_ | refine YF (Ev.load_at tok 2 (g := g58) rfl rfl rfl rfl) ?_ | refine YF (Ev.load_at tok 3 (g := g57) rfl rfl rfl rfl) ?_) | (refine M4 ?_; refine SR ?_) | (refine M5 ?_; first | exact M7 | refine YM ?_ | refine YN ?_ ?_))
      repeat (any_goals (first | (refine M0 ?_; first | refine SL ?_ | refine SB fun _ _ => ?_ | refine Y4 (Ev.load_at tok 1 (g := g59) rfl rfl rfl rfl) ?_ | refine Y4 (Ev.load_at tok 0 (g := g60) rfl rfl rfl rfl) ?_ | (refine XL.at_call 12 ?_; refine Y4 (Ev.call (f := 12) (ck rfl) rfl (fun w5 S5 => hu1 w5 S5 ZZHL (by repeat (first | exact List.mem_cons_self | apply List.mem_cons_of_mem)) (by repeat (first | exact List.mem_cons_self | apply List.mem_cons_of_mem)))) ?_)) | (refine M1 ?_; refine SC ?_) | (refine M2 ?_; refine SE ?_) | (refine M3 ?_; first | refine SG ?_ | refine SF ?_ | refine YF (Ev.load_at tok 1 (g := g59) rfl rfl rfl rfl) ?_ | refine YF (Ev.load_at tok 0 (g := g60) rfl rfl rfl rfl) ?_) | (refine M4 ?_; refine SR ?_) | (refine M5 ?_; first | exact M7 | refine YM ?_ | refine YN ?_ ?_)))
      any_goals (repeat (first | exact AnyR.nil | refine AnyR.skip rfl ?_))
      exact XE.round (s := 1) (1 + 1) (by omega) (by omega) ZZSUB (fun _ h => h)
    · rw [show ((2 : Nat) : Int) = 2 from rfl]
      repeat (first | (refine M0 ?_; first | refine SL ?_ | refine SB fun _ _ => ?_) | (refine M1 ?_; refine SC ?_) | (refine M2 ?_; refine SE ?_))
      refine XC.drawR _ [0, 1, 2, 3, 4, 5, 6, 7, 8, 9, 10, 11] [12, 13, 14, 15, 16, 17, 18, 19] mixed (fun _ h => h) rfl (by kernel_rfl) ?_
      repeat (first | (refine M0 ?_; first | refine SL ?_ | refine SB fun _ _ => ?_ | refine Y4 (Ev.load_at tok 2 (g := g58) rfl rfl rfl rfl) ?_ | refine Y4 (Ev.load_at tok 3 (g := g57) rfl rfl rfl rfl) ?_) | (refine M2 ?_; refine SE ?_) | (refine M3 ?_; first | refine SG ?_ | refine SF ?_ | refine YF (Ev.load_at tok 2 (g := g58) rfl rfl rfl rfl) ?_ | refine YF (Ev.load_at tok 3 (g := g57) rfl rfl rfl rfl) ?_) | (refine M4 ?_; refine SR ?_) | (refine M5 ?_; first | exact M7 | refine YM ?_ | refine YN ?_ ?_))
      repeat (any_goals (first | (refine M0 ?_; first | refine SL ?_ | refine SB fun _ _ => ?_ | refine Y4 (Ev.load_at tok 1 (g := g59) rfl rfl rfl rfl) ?_ | refine Y4 (Ev.load_at tok 0 (g := g60) rfl rfl rfl rfl) ?_ | (refine XL.at_call 12 ?_; refine Y4 (Ev.call (f := 12) (ck rfl) rfl (fun w5 S5 => hu2 w5 S5 ZZHL (by repeat (first | exact List.mem_cons_self | apply List.mem_cons_of_mem)) (by repeat (first | exact List.mem_cons_self | apply List.mem_cons_of_mem)))) ?_)) | (refine M1 ?_; refine SC ?_) | (refine M2 ?_; refine SE ?_) | (refine M3 ?_; first | refine SG ?_ | refine SF ?_ | refine YF (Ev.load_at tok 1 (g := g59) rfl rfl rfl rfl) ?_ | refine YF (Ev.load_at tok 0 (g := g60) rfl rfl rfl rfl) ?_) | (refine M4 ?_; refine SR ?_) | (refine M5 ?_; first | exact M7 | refine YM ?_ | refine YN ?_ ?_)))
      any_goals (repeat (first | exact AnyR.nil | refine AnyR.skip rfl ?_))
      exact XE.round (s := 2) (2 + 1) (by omega) (by omega) ZZSUB (fun _ h => h)
  obtain rfl : k = 3 := by have := of_decide_eq_false h2; omega
  clear h2 hk
  repeat (first | (refine M0 ?_; first | refine SL ?_ | refine SB fun _ _ => ?_) | (refine M1 ?_; refine SC ?_) | (refine M2 ?_; refine SE ?_))
  refine XC.drawR _ [0, 1, 2, 3, 4, 5, 6] [7, 8, 9, 10, 11, 12] mixed (fun _ h => h) rfl (by kernel_rfl) ?_
  repeat (first | (refine M0 ?_; first | refine SL ?_ | refine SB fun _ _ => ?_ | refine Y4 (Ev.load_at tok 3 (g := g57) rfl rfl rfl rfl) ?_) | (refine M2 ?_; refine SE ?_) | (refine M3 ?_; first | refine SG ?_ | refine SF ?_ | refine YF (Ev.load_at tok 3 (g := g57) rfl rfl rfl rfl) ?_) | (refine M4 ?_; refine SR ?_) | (refine M5 ?_; first | exact M7 | refine YM ?_ | refine YN ?_ ?_))
  repeat (any_goals (first | (refine M0 ?_; first | refine SL ?_ | refine SB fun _ _ => ?_ | (refine XL.at_call 12 ?_; refine Y4 (Ev.call (f := 12) (ck rfl) rfl (fun w5 S5 => hu3 w5 S5 ZZHL (by repeat (first | exact List.mem_cons_self | apply List.mem_cons_of_mem)) (by repeat (first | exact List.mem_cons_self | apply List.mem_cons_of_mem)))) ?_)) | (refine M1 ?_; refine SC ?_) | (refine M2 ?_; refine SE ?_) | (refine M3 ?_; first | refine SG ?_ | refine SF ?_) | (refine M4 ?_; refine SR ?_) | (refine M5 ?_; first | exact M7 | refine YM ?_ | refine YN ?_ ?_)))
  any_goals (repeat (first | exact AnyR.nil | refine AnyR.skip rfl ?_))
  repeat (first | (refine M0 ?_; first | refine SL ?_ | refine SB fun _ _ => ?_ | refine XL.buildSlice tok rfl rfl rfl rfl rfl rfl rfl rfl rfl (fun _ _ => ?_)) | (refine M1 ?_; refine SC ?_) | (refine M2 ?_; refine SE ?_))
  rename_i g114 hg114 g115 hg115 g116 hg116 g118 hg118 g119 hg119
  refine XC.rebase (.cons_cons _ (.cons_cons _ (.cons_cons _ (.cons_cons _ (.cons_cons _ (.cons _ (.cons _ (.cons _ (.cons _ (.cons _ (.cons _ (.cons _ (.cons_cons _ (.cons _ (.cons _ (.cons _ (.cons_cons _ .slnil))))))))))))))))) (fun W1 S1 => ?_)
  have hF4 : Fam W1 w.heap.size [g119, g118, g116, g115, g114, g53, g1] [] [hBlk (tskBlk gr go gi gp gs gu gn)] := Fam.add (((hF3.forget (hs' := [hBlk (tskBlk gr go gi gp gs gu gn)]) (fun x hx => by rw [List.mem_singleton.1 hx]; exact .tail _ (.tail _ (.head _)))).add (ks' := g34 :: [g119, g118, g116, g115, g114, g53, g1]) (fun k hk => by simp only [List.map_cons, List.map_nil, List.cons_append, List.nil_append, List.mem_append, List.mem_cons, List.not_mem_nil, or_false] at hk ⊢; omega)).sys S1 ZZHL) (fun k hk => .inl (.tail _ hk))
  have hB4 := hB3.trans S1.toBelow
  have hk4 : ∀ k, k ∈ [g119, g118, g116, g115, g114, g53, g1] → k < W1.heap.size := fun k hk => S1.keyLt k ((List.Sublist.map _ (.cons_cons _ (.cons_cons _ (.cons_cons _ (.cons_cons _ (.cons_cons _ (.cons _ (.cons _ (.cons _ (.cons _ (.cons _ (.cons _ (.cons _ (.cons_cons _ (.cons _ (.cons _ (.cons _ (.cons_cons _ .slnil)))))))))))))))))).subset hk)
  have hch := fun (ls : Int) (w5 : World) {L : Lo} {W : World} {ks : List Nat} (S5 : Sys w.heap.size W L w5) (F5 : Fam w5 w.heap.size ks [] [hBlk (tskBlk gr go gi gp gs gu gn)]) (m1 : (g53, cel 4 [.bool false, .bool false]) ∈ L) => Cheapest_made (i := 0) (ls := ls) (s := rxS) (sq := ⟨none, 0, 0⟩) (tsk_of (Held.lt (x := hBlk (tskBlk gr go gi gp gs gu gn)) (F5.get (.head _)))) (by decide) IntsAt.nil (hbl w5 S5 m1)
  have hbo := fun (a b : Bool) (g : Nat) {q : SV} (w5 : World) {L : Lo} {W : World} {ks : List Nat} {hs : List Held} (S5 : Sys w.heap.size W L w5) (F5 : Fam w5 w.heap.size ks [] (hList boolK q [a, b] :: hs)) (m1 : (g, cel 4 [.bool a, .bool b]) ∈ L) => Bools_any (Held.lt (x := hList boolK q [a, b]) (F5.get (.head _))) (hbl w5 S5 m1)
  simp only [tskV, tskC, tskRV, staV, staC, svV, decide_true] at hch hbo
  clear S1
  refine XC.loopk [1, 5, 9, 14, 15] rfl (fun z : Nat × World => [(16, .int .i64 (z.1 : Nat))]) (fun _ => _) (fun z => z.2) (fun z => z.1 ≤ 3 ∧ Fam z.2 w.heap.size [g119, g118, g116, g115, g114, g53, g1] [] [hBlk (tskBlk gr go gi gp gs gu gn)] ∧ Below w.heap.size w z.2 ∧ ∀ k, k ∈ [g119, g118, g116, g115, g114, g53, g1] → k < z.2.heap.size) (fun z => 3 - z.1) (0, W1) ⟨Nat.zero_le _, hF4, hB4, hk4⟩ ZZSUB (fun _ h => h) ?_
  clear hF4 hB4 hk4
  rintro ⟨k, W⟩ ⟨hk, hF, hB, hkW⟩
  simp only at hk hF hB hkW
  dsimp only [List.cons_append, List.nil_append]
  repeat (first | (refine M0 ?_; first | refine SL ?_ | refine SB fun _ _ => ?_) | (refine M1 ?_; refine SC ?_) | (refine M2 ?_; refine SE ?_))
  refine XC.cond _ rfl (fun h2 => ?_) (fun h2 => ?_)
  · have hkn : k = 0 ∨ k = 1 ∨ k = 2 := by have := of_decide_eq_true h2; omega
    clear h2
    rcases hkn with rfl | rfl | rfl
    · rw [show ((0 : Nat) : Int) = 0 from rfl]
      repeat (first | (refine M0 ?_; first | refine SL ?_ | refine SB fun _ _ => ?_) | (refine M1 ?_; refine SC ?_) | (refine M2 ?_; refine SE ?_))
      refine XC.drawR _ [0, 1, 2, 3, 4, 5, 6, 7] [8, 9, 10, 11, 12, 13, 14, 15] mixed (fun _ h => h) rfl (by kernel_rfl) ?_
      repeat (first | (refine M0 ?_; first | refine SL ?_ | refine SB fun _ _ => ?_ | refine Y4 (Ev.load_at tok 4 (g := g114) rfl rfl rfl rfl) ?_) | (refine M2 ?_; refine SE ?_) | (refine M3 ?_; first | refine SG ?_ | refine SF ?_ | refine YF (Ev.load_at tok 4 (g := g114) rfl rfl rfl rfl) ?_) | (refine M4 ?_; refine SR ?_) | (refine M5 ?_; first | exact M7 | refine YM ?_ | refine YN ?_ ?_))
      repeat (any_goals (first | (refine M0 ?_; first | refine SL ?_ | refine SB fun _ _ => ?_ | (refine XL.at_call 13 ?_; refine XL.callFW (wE := w) (CheV rxT rxS 0 [false, false] 40000) (ck rfl) rfl rfl hF hkW hB (fun w5 S5 hF5 hB5 => hch 40000 w5 S5 hF5 (by repeat (first | exact List.mem_cons_self | apply List.mem_cons_of_mem))) (fun w2 x new hR hF2 hB2 hk2 S2 => ?_); obtain ⟨q, rfl, rfl⟩ := hR; rw [kn_che0.2] at hF2 ⊢; rw [kn_che0.1]; simp only [chE, chL, Option.map_some, Option.getD_some, svV] at hF2 ⊢; have hz2 := S2.size)) | (refine M1 ?_; refine SC ?_) | (refine M2 ?_; first | refine SE ?_ | refine z5 ?_ | refine z6 ?_) | (refine M3 ?_; first | refine SG ?_ | refine SF ?_) | (refine M4 ?_; refine SR ?_) | (refine M5 ?_; first | exact M7 | refine YM ?_ | refine YN ?_ ?_)))
      any_goals (repeat (first | exact AnyR.nil | refine AnyR.skip rfl ?_))
      repeat (first | (refine M0 ?_; first | refine SL ?_ | refine SB fun _ _ => ?_ | refine Y4 (Ev.load_at tok 1 (g := g118) rfl rfl rfl rfl) ?_ | refine Y4 (Ev.load_at tok 0 (g := g119) rfl rfl rfl rfl) ?_ | (refine XL.at_call 14 ?_; refine Y4 (Ev.call (f := 14) (ck rfl) rfl (fun w5 S5 => hbo true false g115 w5 S5 (hF2.sys S5 ZZHL) (by repeat (first | exact List.mem_cons_self | apply List.mem_cons_of_mem)))) ?_)) | (refine M1 ?_; refine SC ?_) | (refine M2 ?_; refine SE ?_))
      exact XE.round (s := (0, W)) (0 + 1, w2) ⟨by simp only; omega, Fam.add (hF2.forget (fun x hx => by rw [List.mem_singleton.1 hx]; exact .tail _ (.head _))) (fun x hx => .inl (List.mem_append_right _ hx)), hB2, fun x hx => hk2 x (List.mem_append_right _ hx)⟩ (by simp only; omega) ZZSUB (fun _ h => h)
    · rw [show ((1 : Nat) : Int) = 1 from rfl]
      repeat (first | (refine M0 ?_; first | refine SL ?_ | refine SB fun _ _ => ?_) | (refine M1 ?_; refine SC ?_) | (refine M2 ?_; refine SE ?_))
      refine XC.drawR _ [0, 1, 2, 3, 4, 5, 6, 7] [8, 9, 10, 11, 12, 13, 14, 15] mixed (fun _ h => h) rfl (by kernel_rfl) ?_
      repeat (first | (refine M0 ?_; first | refine SL ?_ | refine SB fun _ _ => ?_ | refine Y4 (Ev.load_at tok 4 (g := g114) rfl rfl rfl rfl) ?_) | (refine M2 ?_; refine SE ?_) | (refine M3 ?_; first | refine SG ?_ | refine SF ?_ | refine YF (Ev.load_at tok 4 (g := g114) rfl rfl rfl rfl) ?_) | (refine M4 ?_; refine SR ?_) | (refine M5 ?_; first | exact M7 | refine YM ?_ | refine YN ?_ ?_))
      repeat (any_goals (first | (refine M0 ?_; first | refine SL ?_ | refine SB fun _ _ => ?_ | (refine XL.at_call 13 ?_; refine XL.callFW (wE := w) (CheV rxT rxS 0 [false, false] 50001) (ck rfl) rfl rfl hF hkW hB (fun w5 S5 hF5 hB5 => hch 50001 w5 S5 hF5 (by repeat (first | exact List.mem_cons_self | apply List.mem_cons_of_mem))) (fun w2 x new hR hF2 hB2 hk2 S2 => ?_); obtain ⟨q, rfl, rfl⟩ := hR; rw [kn_che1.2] at hF2 ⊢; rw [kn_che1.1]; simp only [chE, chL, Option.map_some, Option.getD_some, svV] at hF2 ⊢; have hz2 := S2.size)) | (refine M1 ?_; refine SC ?_) | (refine M2 ?_; first | refine SE ?_ | refine z5 ?_ | refine z6 ?_) | (refine M3 ?_; first | refine SG ?_ | refine SF ?_) | (refine M4 ?_; refine SR ?_) | (refine M5 ?_; first | exact M7 | refine YM ?_ | refine YN ?_ ?_)))
      any_goals (repeat (first | exact AnyR.nil | refine AnyR.skip rfl ?_))
      repeat (first | (refine M0 ?_; first | refine SL ?_ | refine SB fun _ _ => ?_ | refine Y4 (Ev.load_at tok 1 (g := g118) rfl rfl rfl rfl) ?_ | refine Y4 (Ev.load_at tok 0 (g := g119) rfl rfl rfl rfl) ?_ | (refine XL.at_call 14 ?_; refine Y4 (Ev.call (f := 14) (ck rfl) rfl (fun w5 S5 => hbo true true g116 w5 S5 (hF2.sys S5 ZZHL) (by repeat (first | exact List.mem_cons_self | apply List.mem_cons_of_mem)))) ?_)) | (refine M1 ?_; refine SC ?_) | (refine M2 ?_; refine SE ?_))
      exact XE.round (s := (1, W)) (1 + 1, w2) ⟨by simp only; omega, Fam.add (hF2.forget (fun x hx => by rw [List.mem_singleton.1 hx]; exact .tail _ (.head _))) (fun x hx => .inl (List.mem_append_right _ hx)), hB2, fun x hx => hk2 x (List.mem_append_right _ hx)⟩ (by simp only; omega) ZZSUB (fun _ h => h)
    · rw [show ((2 : Nat) : Int) = 2 from rfl]
      repeat (first | (refine M0 ?_; first | refine SL ?_ | refine SB fun _ _ => ?_) | (refine M1 ?_; refine SC ?_) | (refine M2 ?_; refine SE ?_))
      refine XC.drawR _ [0, 1, 2, 3, 4, 5, 6, 7] [8, 9, 10, 11, 12, 13, 14, 15] mixed (fun _ h => h) rfl (by kernel_rfl) ?_
      repeat (first | (refine M0 ?_; first | refine SL ?_ | refine SB fun _ _ => ?_ | refine Y4 (Ev.load_at tok 4 (g := g114) rfl rfl rfl rfl) ?_) | (refine M2 ?_; refine SE ?_) | (refine M3 ?_; first | refine SG ?_ | refine SF ?_ | refine YF (Ev.load_at tok 4 (g := g114) rfl rfl rfl rfl) ?_) | (refine M4 ?_; refine SR ?_) | (refine M5 ?_; first | exact M7 | refine YM ?_ | refine YN ?_ ?_))
      repeat (any_goals (first | (refine M0 ?_; first | refine SL ?_ | refine SB fun _ _ => ?_ | (refine XL.at_call 13 ?_; refine XL.callFW (wE := w) (CheV rxT rxS 0 [false, false] 0) (ck rfl) rfl rfl hF hkW hB (fun w5 S5 hF5 hB5 => hch 0 w5 S5 hF5 (by repeat (first | exact List.mem_cons_self | apply List.mem_cons_of_mem))) (fun w2 x new hR hF2 hB2 hk2 S2 => ?_); obtain ⟨q, rfl, rfl⟩ := hR; rw [kn_che2.2] at hF2 ⊢; rw [kn_che2.1]; simp only [chE, chL, Option.map_some, Option.getD_some, svV] at hF2 ⊢; have hz2 := S2.size)) | (refine M1 ?_; refine SC ?_) | (refine M2 ?_; first | refine SE ?_ | refine z5 ?_ | refine z6 ?_) | (refine M3 ?_; first | refine SG ?_ | refine SF ?_) | (refine M4 ?_; refine SR ?_) | (refine M5 ?_; first | exact M7 | refine YM ?_ | refine YN ?_ ?_)))
      any_goals (repeat (first | exact AnyR.nil | refine AnyR.skip rfl ?_))
      repeat (first | (refine M0 ?_; first | refine SL ?_ | refine SB fun _ _ => ?_ | refine Y4 (Ev.load_at tok 1 (g := g118) rfl rfl rfl rfl) ?_ | refine Y4 (Ev.load_at tok 0 (g := g119) rfl rfl rfl rfl) ?_ | (refine XL.at_call 14 ?_; refine Y4 (Ev.call (f := 14) (ck rfl) rfl (fun w5 S5 => hbo false false g53 w5 S5 (hF2.sys S5 ZZHL) (by repeat (first | exact List.mem_cons_self | apply List.mem_cons_of_mem)))) ?_)) | (refine M1 ?_; refine SC ?_) | (refine M2 ?_; refine SE ?_))
      exact XE.round (s := (2, W)) (2 + 1, w2) ⟨by simp only; omega, Fam.add (hF2.forget (fun x hx => by rw [List.mem_singleton.1 hx]; exact .tail _ (.head _))) (fun x hx => .inl (List.mem_append_right _ hx)), hB2, fun x hx => hk2 x (List.mem_append_right _ hx)⟩ (by simp only; omega) ZZSUB (fun _ h => h)
  obtain rfl : k = 3 := by have := of_decide_eq_false h2; omega
  clear h2 hk
  repeat (first | (refine M0 ?_; first | refine SL ?_ | refine SB fun _ _ => ?_) | (refine M1 ?_; refine SC ?_) | (refine M2 ?_; refine SE ?_))
  refine XL.callF (wE := w) (CheV rxT rxS 0 [false, false] 100000) (ck rfl) rfl rfl hF hkW hB (fun w5 S5 hF5 hB5 => hch 100000 w5 S5 hF5 (by repeat (first | exact List.mem_cons_self | apply List.mem_cons_of_mem))) (fun w2 x new hR hF2 hB2 hk2 => ?_) ZZHL
  obtain ⟨q5, rfl, rfl⟩ := hR
  rw [kn_che3]
  obtain ⟨C9, hC9⟩ : ∃ a, a = chE (cheR rxT rxS 0 [false, false] 100000) := ⟨_, rfl⟩
  rw [← hC9]
  simp only [svV]
  repeat (first | (refine M0 ?_; first | refine SL ?_ | refine SB fun _ _ => ?_) | (refine M1 ?_; refine SC ?_) | (refine M2 ?_; refine SE ?_))
  refine XC.rebase (.cons _ (.cons _ (.cons _ (.cons _ (.cons _ (.cons _ (.cons_cons _ .slnil))))))) (fun W2 S2 => ?_)
  have hF6 : Fam W2 w.heap.size [g1] [] [hBlk (tskBlk gr go gi gp gs gu gn)] := Fam.add ((Fam.forget (hs' := [hBlk (tskBlk gr go gi gp gs gu gn)]) hF2 (fun x hx => by rw [List.mem_singleton.1 hx]; exact .tail _ (.head _))).sys S2 ZZHL) (fun x hx => .inl (by rw [List.mem_singleton.1 hx]; simp))
  have hB6 := hB2.trans S2.toBelow
  have hk6 : ∀ k, k ∈ [g1] → k < W2.heap.size := fun x hx => S2.keyLt x (by rw [List.mem_singleton.1 hx]; simp)
  clear hF hB hkW hF2 hB2 hk2 S2
  have hdo := fun (a b c d : Bool) {q : SV} (w5 : World) {ks : List Nat} {hs : List Held} (F5 : Fam w5 w.heap.size ks [] (hPlan q [[a, b], [c, d]] :: hs)) (hm : hBlk (tskBlk gr go gi gp gs gu gn) ∈ hs) => (Exists.elim (Held.lt (x := hPlan q [[a, b], [c, d]]) (F5.get (.head _))) (fun es h => Do_made (p := [[a, b], [c, d]]) (tsk_of (Held.lt (x := hBlk (tskBlk gr go gi gp gs gu gn)) (F5.get (.tail _ hm)))) (by decide) h.1 h.2) : Calls Try.prog 15 _ w5 (Made w5 (DoV2 rxT [[a, b], [c, d]])))
  have hco := fun (a b c d : Bool) {q : SV} (w5 : World) {ks : List Nat} {hs : List Held} (F5 : Fam w5 w.heap.size ks [] (hPlan q [[a, b], [c, d]] :: hs)) (hm : hBlk (tskBlk gr go gi gp gs gu gn) ∈ hs) => (Exists.elim (Held.lt (x := hPlan q [[a, b], [c, d]]) (F5.get (.head _))) (fun es h => Cost_any (p := [[a, b], [c, d]]) (tsk_of (Held.lt (x := hBlk (tskBlk gr go gi gp gs gu gn)) (F5.get (.tail _ hm)))) (by decide) h.1 h.2) : Calls Try.prog 17 _ w5 _)
  have hls := fun (a b c d : Bool) {q : SV} (w5 : World) {ks : List Nat} {hs : List Held} (F5 : Fam w5 w.heap.size ks [] (hPlan q [[a, b], [c, d]] :: hs)) (hm : hBlk (tskBlk gr go gi gp gs gu gn) ∈ hs) => (Exists.elim (Held.lt (x := hPlan q [[a, b], [c, d]]) (F5.get (.head _))) (fun es h => Least_made (p := [[a, b], [c, d]]) (tsk_of (Held.lt (x := hBlk (tskBlk gr go gi gp gs gu gn)) (F5.get (.tail _ hm)))) (by decide) h.1 h.2) : Calls Try.prog 18 _ w5 (Made w5 (LstV rxT [[a, b], [c, d]])))
  simp only [tskV, tskC, tskRV, svV] at hdo hco hls
  refine XC.drawR _ [0] [1, 2, 3, 4, 5, 6, 7, 8, 9] mixed (fun _ h => h) rfl (by kernel_rfl) ?_
  repeat (first | (refine M0 ?_; first | refine SL ?_ | refine SB fun _ _ => ?_) | (refine M2 ?_; refine SE ?_) | (refine M3 ?_; first | refine SG ?_ | refine SF ?_) | (refine M4 ?_; refine SR ?_) | (refine M5 ?_; first | exact M7 | refine YM ?_ | refine YN ?_ ?_))
  repeat (any_goals (first | (refine M0 ?_; first | refine SL ?_ | refine SB fun _ _ => ?_ | (refine XL.at_call 16 ?_; refine XL.callFW (wE := w) (PlanV [[false, false], [false, false]]) (ck rfl) rfl rfl hF6 hk6 hB6 (fun w5 S5 hF5 hB5 => Plan_made) (fun w3 x new hR hP1 hPB1 hPk1 SP1 => ?_); obtain ⟨qp1, rfl, rfl⟩ := hR; simp only [svV]; have hz2 := SP1.size) | (refine XL.at_call 15 ?_; refine XL.callFW (wE := w) (DoV2 rxT [[false, false], [false, false]]) (ck rfl) rfl rfl hP1 hPk1 hPB1 (fun w5 S5 hF5 hB5 => hdo false false false false w5 hF5 (.head _)) (fun w4 x new hR hD1 hDB1 hDk1 SD1 => ?_); obtain ⟨qd1, ds1, rfl, hds1, rfl⟩ := hR; simp only [svV]; have hz3 := SD1.size; have hz4 := SP1.trans SD1 (fun _ h => h))) | (refine M1 ?_; refine SC ?_) | (refine M2 ?_; first | refine SE ?_ | refine z5 ?_ | refine z6 ?_) | (refine M3 ?_; first | refine SG ?_ | refine SF ?_) | (refine M4 ?_; refine SR ?_) | (refine M5 ?_; first | exact M7 | refine YM ?_ | refine YN ?_ ?_)))
  any_goals (repeat (first | exact AnyR.nil | refine AnyR.skip rfl ?_))
  rw [kn_do0.1, kn_do0.2.2]
  rw [kn_do0.2.1] at hds1
  obtain ⟨s1, rfl⟩ := kn_one hds1
  have hF7 := Fam.forget (hs' := [hList donK qd1 [(s1, ⟨⟨1007000, []⟩, 0, 0, 0⟩)], hBlk (tskBlk gr go gi gp gs gu gn)]) hD1 (fun x hx => by rcases List.mem_cons.1 hx with rfl | hx <;> first | exact .head _ | exact .tail _ (.tail _ hx))
  refine XC.drawR _ [0] [1, 2, 3, 4, 5, 6, 7, 8, 9] mixed (fun _ h => h) rfl (by kernel_rfl) ?_
  repeat (first | (refine M0 ?_; first | refine SL ?_ | refine SB fun _ _ => ?_) | (refine M2 ?_; refine SE ?_) | (refine M3 ?_; first | refine SG ?_ | refine SF ?_) | (refine M4 ?_; refine SR ?_) | (refine M5 ?_; first | exact M7 | refine YM ?_ | refine YN ?_ ?_))
  repeat (any_goals (first | (refine M0 ?_; first | refine SL ?_ | refine SB fun _ _ => ?_ | (refine XL.at_call 16 ?_; refine XL.callFW (wE := w) (PlanV [[true, false], [true, false]]) (ck rfl) rfl rfl hF7 hDk1 hDB1 (fun w5 S5 hF5 hB5 => Plan_made) (fun w3 x new hR hP2 hPB2 hPk2 SP2 => ?_); obtain ⟨qp2, rfl, rfl⟩ := hR; simp only [svV]; have hz2 := SP2.size) | (refine XL.at_call 15 ?_; refine XL.callFW (wE := w) (DoV2 rxT [[true, false], [true, false]]) (ck rfl) rfl rfl hP2 hPk2 hPB2 (fun w5 S5 hF5 hB5 => hdo true false true false w5 hF5 (.tail _ (.head _))) (fun w4 x new hR hD2 hDB2 hDk2 SD2 => ?_); obtain ⟨qd2, ds2, rfl, hds2, rfl⟩ := hR; simp only [svV]; have hz3 := SD2.size; have hz4 := SP2.trans SD2 (fun _ h => h))) | (refine M1 ?_; refine SC ?_) | (refine M2 ?_; first | refine SE ?_ | refine z5 ?_ | refine z6 ?_) | (refine M3 ?_; first | refine SG ?_ | refine SF ?_) | (refine M4 ?_; refine SR ?_) | (refine M5 ?_; first | exact M7 | refine YM ?_ | refine YN ?_ ?_)))
  any_goals (repeat (first | exact AnyR.nil | refine AnyR.skip rfl ?_))
  rw [kn_do1.1, kn_do1.2.2]
  rw [kn_do1.2.1] at hds2
  obtain ⟨s2, rfl⟩ := kn_one hds2
  have hl1 := hD2.held (hList donK qd1 [(s1, ⟨⟨1007000, []⟩, 0, 0, 0⟩)]) (.tail _ (.tail _ (.head _)))
  have hl2 := hD2.held (hList donK qd2 [(s2, ⟨⟨957000, []⟩, 50000, 10, 10⟩)]) (.head _)
  have hF8 := Fam.forget (hs' := [hBlk (tskBlk gr go gi gp gs gu gn)]) hD2 (fun x hx => by rw [List.mem_singleton.1 hx]; exact .tail _ (.tail _ (.tail _ (.head _))))
  obtain ⟨A1, n1, c1⟩ := qd1
  obtain ⟨A2, n2, c2⟩ := qd2
  have ln1 : n1 = 1 := hl1.len (by decide)
  have ln2 : n2 = 1 := hl2.len (by decide)
  subst ln1 ln2
  obtain ⟨a1, rfl, hf1⟩ := hl1.addr (by decide) (by show 0 < 1; decide)
  obtain ⟨a2, rfl, hf2⟩ := hl2.addr (by decide) (by show 0 < 1; decide)
  have d10 := hl1.elem (k := 0) rfl 0 _ rfl
  have d14 := hl1.elem (k := 0) rfl 4 _ rfl
  have d20 := hl2.elem (k := 0) rfl 0 _ rfl
  have d22 := hl2.elem (k := 0) rfl 2 _ rfl
  have d24 := hl2.elem (k := 0) rfl 4 _ rfl
  clear hl1 hl2 hD1 hD2 hF7
  have hm1 : g1 ≠ a1.block := fun e => hf1.2.2.1 (by rw [← e]; simp)
  have hm2 : g1 ≠ a2.block := fun e => hf2.2.2.1 (by rw [← e]; simp)
  have e10 : w4.cell? (((a1.add (Int.toNat 0 * 5)).add 0).add 0) = some (.int .i64 1007000) := by rw [add_add, add_add]; rw [add_add] at d10; exact d10
  have e20 : w4.cell? (((a2.add (Int.toNat 0 * 5)).add 0).add 0) = some (.int .i64 957000) := by rw [add_add, add_add]; rw [add_add] at d20; exact d20
  repeat (first | (refine M0 ?_; first | refine SL ?_ | refine SB fun _ _ => ?_ | refine Y4 (Ev.load_far tok rfl rfl (by simp only [add_block]; exact hf1.2.1) (fun e he => by rw [List.mem_singleton.1 he]; simp only [add_block]; exact hm1) e10) ?_ | refine Y4 (Ev.load_far tok rfl rfl (by simp only [add_block]; exact hf1.2.1) (fun e he => by rw [List.mem_singleton.1 he]; simp only [add_block]; exact hm1) d14) ?_ | refine Y4 (Ev.load_far tok rfl rfl (by simp only [add_block]; exact hf2.2.1) (fun e he => by rw [List.mem_singleton.1 he]; simp only [add_block]; exact hm2) e20) ?_ | refine Y4 (Ev.load_far tok rfl rfl (by simp only [add_block]; exact hf2.2.1) (fun e he => by rw [List.mem_singleton.1 he]; simp only [add_block]; exact hm2) d22) ?_ | refine Y4 (Ev.load_far tok rfl rfl (by simp only [add_block]; exact hf2.2.1) (fun e he => by rw [List.mem_singleton.1 he]; simp only [add_block]; exact hm2) d24) ?_) | (refine M1 ?_; refine SC ?_) | (refine M2 ?_; refine SE ?_))
  refine XC.drawR _ [0] [1, 2, 3, 4, 5, 6, 7] mixed (fun _ h => h) rfl (by kernel_rfl) ?_
  repeat (first | (refine M0 ?_; first | refine SL ?_ | refine SB fun _ _ => ?_) | (refine M2 ?_; refine SE ?_) | (refine M3 ?_; first | refine SG ?_ | refine SF ?_) | (refine M4 ?_; refine SR ?_) | (refine M5 ?_; first | exact M7 | refine YM ?_ | refine YN ?_ ?_))
  repeat (any_goals (first | (refine M0 ?_; first | refine SL ?_ | refine SB fun _ _ => ?_ | (refine XL.at_call 16 ?_; refine XL.callFW (wE := w) (PlanV [[false, false], [false, true]]) (ck rfl) rfl rfl hF8 hDk2 hDB2 (fun w5 S5 hF5 hB5 => Plan_made) (fun w3 x new hR hP3 hPB3 hPk3 SP3 => ?_); obtain ⟨qp3, rfl, rfl⟩ := hR; simp only [svV]; have hz2 := SP3.size) | (refine XL.at_call 17 ?_; refine Y4 (Ev.call (f := 17) (ck rfl) rfl (fun w5 S5 => hco false false false true w5 (hP3.sys S5 ZZHL) (.head _))) ?_)) | (refine M1 ?_; refine SC ?_) | (refine M2 ?_; first | refine SE ?_ | refine z5 ?_ | refine z6 ?_) | (refine M3 ?_; first | refine SG ?_ | refine SF ?_) | (refine M4 ?_; refine SR ?_) | (refine M5 ?_; first | exact M7 | refine YM ?_ | refine YN ?_ ?_)))
  any_goals (repeat (first | exact AnyR.nil | refine AnyR.skip rfl ?_))
  rw [kn_co0.1, kn_co0.2]
  have hF9 := Fam.forget (hs' := [hBlk (tskBlk gr go gi gp gs gu gn)]) hP3 (fun x hx => .tail _ hx)
  refine XC.drawR _ [0] [1, 2, 3, 4, 5, 6, 7] mixed (fun _ h => h) rfl (by kernel_rfl) ?_
  repeat (first | (refine M0 ?_; first | refine SL ?_ | refine SB fun _ _ => ?_) | (refine M2 ?_; refine SE ?_) | (refine M3 ?_; first | refine SG ?_ | refine SF ?_) | (refine M4 ?_; refine SR ?_) | (refine M5 ?_; first | exact M7 | refine YM ?_ | refine YN ?_ ?_))
  repeat (any_goals (first | (refine M0 ?_; first | refine SL ?_ | refine SB fun _ _ => ?_ | (refine XL.at_call 16 ?_; refine XL.callFW (wE := w) (PlanV [[true, false], [false, false]]) (ck rfl) rfl rfl hF9 hPk3 hPB3 (fun w5 S5 hF5 hB5 => Plan_made) (fun w3 x new hR hP4 hPB4 hPk4 SP4 => ?_); obtain ⟨qp4, rfl, rfl⟩ := hR; simp only [svV]; have hz2 := SP4.size) | (refine XL.at_call 17 ?_; refine Y4 (Ev.call (f := 17) (ck rfl) rfl (fun w5 S5 => hco true false false false w5 (hP4.sys S5 ZZHL) (.head _))) ?_)) | (refine M1 ?_; refine SC ?_) | (refine M2 ?_; first | refine SE ?_ | refine z5 ?_ | refine z6 ?_) | (refine M3 ?_; first | refine SG ?_ | refine SF ?_) | (refine M4 ?_; refine SR ?_) | (refine M5 ?_; first | exact M7 | refine YM ?_ | refine YN ?_ ?_)))
  any_goals (repeat (first | exact AnyR.nil | refine AnyR.skip rfl ?_))
  rw [kn_co1.1, kn_co1.2]
  have hF10 := Fam.forget (hs' := [hBlk (tskBlk gr go gi gp gs gu gn)]) hP4 (fun x hx => .tail _ hx)
  refine XC.drawR _ [0] [1, 2, 3, 4, 5, 6, 7] mixed (fun _ h => h) rfl (by kernel_rfl) ?_
  repeat (first | (refine M0 ?_; first | refine SL ?_ | refine SB fun _ _ => ?_) | (refine M2 ?_; refine SE ?_) | (refine M3 ?_; first | refine SG ?_ | refine SF ?_) | (refine M4 ?_; refine SR ?_) | (refine M5 ?_; first | exact M7 | refine YM ?_ | refine YN ?_ ?_))
  repeat (any_goals (first | (refine M0 ?_; first | refine SL ?_ | refine SB fun _ _ => ?_ | (refine XL.at_call 16 ?_; refine XL.callFW (wE := w) (PlanV [[false, true], [false, false]]) (ck rfl) rfl rfl hF10 hPk4 hPB4 (fun w5 S5 hF5 hB5 => Plan_made) (fun w3 x new hR hP5 hPB5 hPk5 SP5 => ?_); obtain ⟨qp5, rfl, rfl⟩ := hR; simp only [svV]; have hz2 := SP5.size) | (refine XL.at_call 17 ?_; refine Y4 (Ev.call (f := 17) (ck rfl) rfl (fun w5 S5 => hco false true false false w5 (hP5.sys S5 ZZHL) (.head _))) ?_)) | (refine M1 ?_; refine SC ?_) | (refine M2 ?_; first | refine SE ?_ | refine z5 ?_ | refine z6 ?_) | (refine M3 ?_; first | refine SG ?_ | refine SF ?_) | (refine M4 ?_; refine SR ?_) | (refine M5 ?_; first | exact M7 | refine YM ?_ | refine YN ?_ ?_)))
  any_goals (repeat (first | exact AnyR.nil | refine AnyR.skip rfl ?_))
  rw [kn_co2.1, kn_co2.2]
  have hF11 := Fam.forget (hs' := [hBlk (tskBlk gr go gi gp gs gu gn)]) hP5 (fun x hx => .tail _ hx)
  refine XC.drawR _ [0] [1, 2, 3, 4, 5, 6, 7] mixed (fun _ h => h) rfl (by kernel_rfl) ?_
  repeat (first | (refine M0 ?_; first | refine SL ?_ | refine SB fun _ _ => ?_) | (refine M2 ?_; refine SE ?_) | (refine M3 ?_; first | refine SG ?_ | refine SF ?_) | (refine M4 ?_; refine SR ?_) | (refine M5 ?_; first | exact M7 | refine YM ?_ | refine YN ?_ ?_))
  repeat (any_goals (first | (refine M0 ?_; first | refine SL ?_ | refine SB fun _ _ => ?_ | (refine XL.at_call 16 ?_; refine XL.callFW (wE := w) (PlanV [[true, false], [false, false]]) (ck rfl) rfl rfl hF11 hPk5 hPB5 (fun w5 S5 hF5 hB5 => Plan_made) (fun w3 x new hR hP6 hPB6 hPk6 SP6 => ?_); obtain ⟨qp6, rfl, rfl⟩ := hR; simp only [svV]; have hz2 := SP6.size) | (refine XL.at_call 18 ?_; refine XL.callFW (wE := w) (LstV rxT [[true, false], [false, false]]) (ck rfl) rfl rfl hP6 hPk6 hPB6 (fun w5 S5 hF5 hB5 => hls true false false false w5 hF5 (.head _)) (fun w4 x new hR hE hEB hEk SQ6 => ?_); obtain ⟨ql, rfl, rfl⟩ := hR; simp only [svV]; have hz3 := SQ6.size; have hz4 := SP6.trans SQ6 (fun _ h => h))) | (refine M1 ?_; refine SC ?_) | (refine M2 ?_; first | refine SE ?_ | refine z5 ?_ | refine z6 ?_) | (refine M3 ?_; first | refine SG ?_ | refine SF ?_) | (refine M4 ?_; refine SR ?_) | (refine M5 ?_; first | exact M7 | refine YM ?_ | refine YN ?_ ?_)))
  any_goals (repeat (first | exact AnyR.nil | refine AnyR.skip rfl ?_))
  rw [kn_co1.1]
  rw [kn_lst] at hE
  repeat (first | (refine M0 ?_; first | refine SL ?_ | refine SB fun _ _ => ?_ | refine XL.buildSlice tok rfl rfl rfl rfl rfl rfl rfl rfl rfl (fun _ _ => ?_)) | (refine M1 ?_; refine SC ?_) | (refine M2 ?_; refine SE ?_))
  rename_i ge hge
  have hie := fun {L : Lo} (w5 : World) (S5 : Sys w.heap.size w4 L w5) (hL5 : ∀ e, e ∈ L → e.1 ∈ _ ∨ w4.heap.size ≤ e.1) (hm : (ge, cel 3 [.int .i64 12, .int .i64 20, .int .i64 0]) ∈ L) => intsEq_any (q := ql) (r := ⟨some ⟨ge, 0, none⟩, 3, 3⟩) (l := [12, 20, 0]) (m := [12, 20, 0]) (Held.lt (x := hInts ql [12, 20, 0]) ((hE.sys S5 hL5).get (.head _))) (own_ints S5 hm rfl rfl (by decide))
  simp only [svV, decide_true] at hie
  refine Y4 (Ev.call (f := 11) (ck rfl) rfl (fun w5 S5 => hie w5 S5 ZZHL (.head _))) ?_
  repeat (first | (refine M0 ?_; first | refine SL ?_ | refine SB fun _ _ => ?_ | refine Y4 (Ev.call (f := 7) (ck rfl) rfl (fun w5 S5 => haw w5 S5)) ?_) | (refine M1 ?_; refine SC ?_) | (refine M2 ?_; refine SE ?_))
  refine XE.retg tok Try.results4 rfl (by simp only [and_self, and_true]) (fun w' S => ?_)
  exact ⟨rfl, hEB.trans S.toBelow⟩
end Go.Proofs.Ytlfjdbilblfknaa.X
