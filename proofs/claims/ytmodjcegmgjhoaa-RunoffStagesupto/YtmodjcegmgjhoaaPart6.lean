/-
  The walks of Do and Least (runoff).
-/
import Derived.Test.YtmodjcegmgjhoaaPart5
set_option linter.unusedVariables false
set_option linter.unusedSimpArgs false
namespace Go.Proofs.Ytmodjcegmgjhoaa.Bs
open Go.Proofs.Ytmodjcegmgjhoaa.X
/-- the least costs along a plan. -/
noncomputable def RTk.lst (t : RTk) : Nat → Sta → List Bool → Plan → List Int
  | _, _, _, [] => [0]
  | i, s, b, on :: r => fdC (t.rest (t.n - i) s b) :: RTk.lst t (i + 1) (t.doD s i b on).s on r
noncomputable def lstL (t : RTk) (p : Plan) : List Int := if costE t p = 0 then t.lst 0 t.s t.on p else []
noncomputable def folL (t : RTk) (p : Plan) : List Done := if folE t p = 0 then (t.flw 0 t.s t.on p).1 else []
noncomputable def folF (t : RTk) (p : Plan) : Int := if folE t p = 0 then (t.flw 0 t.s t.on p).2 else 0
theorem flw_len {t : RTk} : ∀ {p : Plan} {i : Nat} {s : Sta} {b : List Bool}, (t.flw i s b p).2 = 0 → (t.flw i s b p).1.length = p.length := by
  intro p
  induction p with
  | nil => intro i s b _; rfl
  | cons on r ih =>
    intro i s b h
    obtain ⟨_, h2, h3⟩ := flw_cons h
    rw [h3, List.length_cons, List.length_cons, ih h2]
theorem lst_len {t : RTk} : ∀ {p : Plan} {i : Nat} {s : Sta} {b : List Bool}, (t.lst i s b p).length = p.length + 1 := by
  intro p
  induction p with
  | nil => intro i s b; rfl
  | cons on r ih => intro i s b; simp only [RTk.lst, List.length_cons, ih]
end Go.Proofs.Ytmodjcegmgjhoaa.Bs
namespace Go.Proofs.Ytmodjcegmgjhoaa.X
open Go Go.RowKit Go.Proofs.Ytmodjcegmgjhoaa.Bs
set_option linter.unusedVariables false
def DoV2 (t : RTk) (p : Plan) (x : Value) (new : List Held) : Prop := ∃ (q : SV) (ds : List (SV × Done)), x = .tuple ⟨[svV q, .int .i64 (folF t p), .int .i64 (folE t p)]⟩ ∧ ds.map (·.2) = folL t p ∧ new = [hList donK q ds]
set_option maxHeartbeats 8000000 in
theorem Do_made {v : RTV} {t : RTk} {pq : SV} {p : Plan} {es : List (SV × List Bool)} {w : World} (ht : TskAt w w.heap.size v t) (hn : t.slu.length + t.pmp.length ≤ 5000000) (hp : ListAt plnK w (Lt w.heap.size) pq es) (hes : es.map (·.2) = p) :
    Calls Try.prog 25 #[tskV v t, svV pq] w (Made w (DoV2 t p)) := by
  have hfol := fun (w5 : World) (hB : Below w.heap.size w w5) => follow_made (v := v) (t := t) (w := w5) (pq := pq) (ht.sys (Sys.ofBelow hB)) hn ((hp.keep fun k hk => hB.block k hk).mono fun k hk => Nat.lt_of_lt_of_le hk hB.size) hes
  simp only [tskV, tskC, svV] at hfol ⊢
  refine enter Try.func25 rfl Try.ntmps25 rfl ?_; simp only [frame, Nat.zero_add, Nat.reduceAdd]
  repeat (first | (refine M0 ?_; first | refine O0 ?_ | refine z1 tok rfl ?_ | refine O1 rfl ?_ rfl | refine O2 rfl ?_ | refine O3 rfl ?_ rfl | refine O4 rfl rfl rfl (fun _ _ => ?_) | refine O5 tok rfl rfl rfl (fun _ _ => ?_) | refine U0 _ (U2 rfl) rfl ?_ | refine U0 _ (U3 tok rfl rfl rfl rfl rfl) rfl ?_ | refine z3 tok rfl ?_ | refine U0 _ (U4 rfl rfl) rfl ?_ | refine U0 _ (U5 rfl rfl) rfl ?_) | (refine M1 ?_; first | refine J0 ?_ | refine J1 ?_ | refine J4 ?_ | refine J5 ?_ | refine J6 ?_ | refine J7 ?_ | refine J8 rfl ?_ | refine J9 rfl ?_) | (refine M2 ?_; first | refine I0 ?_ | refine I1 ?_ | refine I2 ?_ | refine I3 ?_ | refine I4 ?_ | refine I5 ?_ | refine I6 rfl ?_ | refine I7 ?_ | refine I8 ?_ | refine z4 ?_) | (refine M3 ?_; first | refine O6 ?_ | refine z2 tok rfl ?_ | refine O8 rfl ?_ | refine O7 rfl ?_ rfl | refine O9 rfl ?_ rfl | refine U1 _ (U4 rfl rfl) rfl ?_ | refine U1 _ (U5 rfl rfl) rfl ?_ | refine U1 _ (U2 rfl) rfl ?_ | refine U1 _ (U3 tok rfl rfl rfl rfl rfl) rfl ?_) | (refine M4 ?_; first | refine M6 ?_ | refine U6 rfl (by kernel_rfl) ?_ | refine U7 (by kernel_rfl) ?_) | (refine M5 ?_; first | exact M7 | refine U8 rfl ?_ | refine U9 rfl rfl ?_ ?_))
  rename_i g2 hg2
  refine XL.rebase (List.Sublist.refl _) (fun W0 S0 => ?_)
  refine XL.callF (ks := [g2]) (rs := []) (hs := []) (b0 := w.heap.size) (wE := w) (FolV v t p) (ck rfl) rfl rfl (Fam.start S0.size) (fun k hk => S0.keyLt k hk) S0.toBelow (fun w1 S1 _ hB1 => hfol w1 hB1) (fun w2 x new hR hF2 hB2 hk2 => ?_) (by intro e he; repeat (first | (cases he; done) | (rcases List.mem_cons.1 he with rfl | he; · first | (right; assumption) | (left; simp <;> fail))))
  have hE : folE t p = if rtE t ≠ 0 then rtE t else if t.shaped p = false then 2 else 0 := rfl
  have hL : folL t p = if folE t p = 0 then (t.flw 0 t.s t.on p).1 else [] := rfl
  have hF : folF t p = if folE t p = 0 then (t.flw 0 t.s t.on p).2 else 0 := rfl
  have hno : ∀ (e : Int) (w' : World), folE t p = e → e ≠ 0 → Below w.heap.size w w' → Made w (DoV2 t p) (.returned (.tuple ⟨[.slice none 0 0, .int .i64 0, .int .i64 e]⟩)) w' := fun e w' h h0 hB => by
    rw [h, if_neg h0] at hL hF
    refine ⟨_, _, rfl, ⟨⟨none, 0, 0⟩, [], by rw [h, hF]; rfl, by rw [hL]; rfl, rfl⟩, fun x hx => ?_, hB⟩
    rw [List.mem_singleton.1 hx]; exact ListAt.nil
  rcases hR with ⟨h0, rfl, rfl⟩ | ⟨h0, h1, rfl, rfl⟩ | ⟨h0, h1, g, gt, gm, r, q, ds, rfl, hds, rfl⟩
  · rw [if_pos h0] at hE
    repeat (first | (refine M0 ?_; first | refine O0 ?_ | refine z1 tok rfl ?_ | refine O1 rfl ?_ rfl | refine O2 rfl ?_ | refine O3 rfl ?_ rfl | refine O4 rfl rfl rfl (fun _ _ => ?_) | refine O5 tok rfl rfl rfl (fun _ _ => ?_) | refine U0 _ (U2 rfl) rfl ?_ | refine U0 _ (U3 tok rfl rfl rfl rfl rfl) rfl ?_ | refine z3 tok rfl ?_ | refine U0 _ (U4 rfl rfl) rfl ?_ | refine U0 _ (U5 rfl rfl) rfl ?_) | (refine M1 ?_; first | refine J0 ?_ | refine J1 ?_ | refine J4 ?_ | refine J5 ?_ | refine J6 ?_ | refine J7 ?_ | refine J8 rfl ?_ | refine J9 rfl ?_) | (refine M2 ?_; first | refine I0 ?_ | refine I1 ?_ | refine I2 ?_ | refine I3 ?_ | refine I4 ?_ | refine I5 ?_ | refine I6 rfl ?_ | refine I7 ?_ | refine I8 ?_ | refine z4 ?_) | (refine M3 ?_; first | refine O6 ?_ | refine z2 tok rfl ?_ | refine O8 rfl ?_ | refine O7 rfl ?_ rfl | refine O9 rfl ?_ rfl | refine U1 _ (U4 rfl rfl) rfl ?_ | refine U1 _ (U5 rfl rfl) rfl ?_ | refine U1 _ (U2 rfl) rfl ?_ | refine U1 _ (U3 tok rfl rfl rfl rfl rfl) rfl ?_) | (refine M4 ?_; first | refine M6 ?_ | refine U6 rfl (by kernel_rfl) ?_ | refine U7 (by kernel_rfl) ?_) | (refine M5 ?_; first | exact M7 | refine U8 rfl ?_ | refine U9 rfl rfl ?_ ?_))
    refine XE.retg tok Try.results25 rfl (by simp only [and_self, and_true]) (fun w' S => ?_)
    exact hno _ _ hE h0 (hB2.trans S.toBelow)
  · rw [if_neg (by simp [h0]), if_pos h1] at hE
    repeat (first | (refine M0 ?_; first | refine O0 ?_ | refine z1 tok rfl ?_ | refine O1 rfl ?_ rfl | refine O2 rfl ?_ | refine O3 rfl ?_ rfl | refine O4 rfl rfl rfl (fun _ _ => ?_) | refine O5 tok rfl rfl rfl (fun _ _ => ?_) | refine U0 _ (U2 rfl) rfl ?_ | refine U0 _ (U3 tok rfl rfl rfl rfl rfl) rfl ?_ | refine z3 tok rfl ?_ | refine U0 _ (U4 rfl rfl) rfl ?_ | refine U0 _ (U5 rfl rfl) rfl ?_) | (refine M1 ?_; first | refine J0 ?_ | refine J1 ?_ | refine J4 ?_ | refine J5 ?_ | refine J6 ?_ | refine J7 ?_ | refine J8 rfl ?_ | refine J9 rfl ?_) | (refine M2 ?_; first | refine I0 ?_ | refine I1 ?_ | refine I2 ?_ | refine I3 ?_ | refine I4 ?_ | refine I5 ?_ | refine I6 rfl ?_ | refine I7 ?_ | refine I8 ?_ | refine z4 ?_) | (refine M3 ?_; first | refine O6 ?_ | refine z2 tok rfl ?_ | refine O8 rfl ?_ | refine O7 rfl ?_ rfl | refine O9 rfl ?_ rfl | refine U1 _ (U4 rfl rfl) rfl ?_ | refine U1 _ (U5 rfl rfl) rfl ?_ | refine U1 _ (U2 rfl) rfl ?_ | refine U1 _ (U3 tok rfl rfl rfl rfl rfl) rfl ?_) | (refine M4 ?_; first | refine M6 ?_ | refine U6 rfl (by kernel_rfl) ?_ | refine U7 (by kernel_rfl) ?_) | (refine M5 ?_; first | exact M7 | refine U8 rfl ?_ | refine U9 rfl rfl ?_ ?_))
    refine XE.retg tok Try.results25 rfl (by simp only [and_self, and_true]) (fun w' S => ?_)
    exact hno _ _ hE (by decide) (hB2.trans S.toBelow)
  · rw [if_neg (by simp [h0]), if_neg (by simp [h1])] at hE
    rw [if_pos hE] at hL hF
    repeat (first | (refine M0 ?_; first | refine O0 ?_ | refine z1 tok rfl ?_ | refine O1 rfl ?_ rfl | refine O2 rfl ?_ | refine O3 rfl ?_ rfl | refine O4 rfl rfl rfl (fun _ _ => ?_) | refine O5 tok rfl rfl rfl (fun _ _ => ?_) | refine U0 _ (U2 rfl) rfl ?_ | refine U0 _ (U3 tok rfl rfl rfl rfl rfl) rfl ?_ | refine z3 tok rfl ?_ | refine U0 _ (U4 rfl rfl) rfl ?_ | refine U0 _ (U5 rfl rfl) rfl ?_) | (refine M1 ?_; first | refine J0 ?_ | refine J1 ?_ | refine J4 ?_ | refine J5 ?_ | refine J6 ?_ | refine J7 ?_ | refine J8 rfl ?_ | refine J9 rfl ?_) | (refine M2 ?_; first | refine I0 ?_ | refine I1 ?_ | refine I2 ?_ | refine I3 ?_ | refine I4 ?_ | refine I5 ?_ | refine I6 rfl ?_ | refine I7 ?_ | refine I8 ?_ | refine z4 ?_) | (refine M3 ?_; first | refine O6 ?_ | refine z2 tok rfl ?_ | refine O8 rfl ?_ | refine O7 rfl ?_ rfl | refine O9 rfl ?_ rfl | refine U1 _ (U4 rfl rfl) rfl ?_ | refine U1 _ (U5 rfl rfl) rfl ?_ | refine U1 _ (U2 rfl) rfl ?_ | refine U1 _ (U3 tok rfl rfl rfl rfl rfl) rfl ?_) | (refine M4 ?_; first | refine M6 ?_ | refine U6 rfl (by kernel_rfl) ?_ | refine U7 (by kernel_rfl) ?_) | (refine M5 ?_; first | exact M7 | refine U8 rfl ?_ | refine U9 rfl rfl ?_ ?_))
    refine XE.retg tok Try.results25 rfl (by simp only [and_self, and_true]) (fun w' S => ?_)
    refine ⟨_, _, rfl, ⟨q, ds, by rw [hE, hF]; rfl, by rw [hL]; exact hds, rfl⟩, fun x hx => ?_, hB2.trans S.toBelow⟩
    rw [List.mem_singleton.1 hx]
    exact (hF2.sys S (by intro e he; repeat (first | (cases he; done) | (rcases List.mem_cons.1 he with rfl | he; · first | (right; assumption) | (left; simp <;> fail))))).get (x := hList donK q ds) (.head _)
section
variable {w : World} {ok : Nat → Prop} {gm : Nat} {kvs : List (Value × Value)}
theorem ReadsP.ne {m n : Nat} {A : Option Addr} {xs : List Value} (h : ReadsP w ok m A n xs) (hm : w.heap[gm]? = some (mapO kvs)) (h0 : 0 < m) : ReadsP w (fun j => ok j ∧ j ≠ gm) m A n xs :=
  ⟨h.len, fun hn => by
    obtain ⟨ad, e, h1, h2⟩ := h.at_ hn
    refine ⟨ad, e, ⟨h1, fun e1 => ?_⟩, h2⟩
    have hx : 0 < xs.length := by rw [h.len]; exact Nat.mul_pos hn h0
    have h3 := h2 0 _ (List.getElem?_eq_getElem hx)
    unfold World.cell? at h3
    rw [add_block, e1, hm] at h3
    cases h3⟩
theorem IntsAt.ne {q : SV} {l : List Int} (h : IntsAt w ok q l) (hm : w.heap[gm]? = some (mapO kvs)) : IntsAt w (fun j => ok j ∧ j ≠ gm) q l := ⟨h.rd.ne hm (by decide), h.max⟩
theorem dons_ne {q : SV} {ds : List (SV × Done)} (h : ListAt donK w ok q ds) (hm : w.heap[gm]? = some (mapO kvs)) : ListAt donK w (fun j => ok j ∧ j ≠ gm) q ds :=
  ⟨h.rd.ne hm (by decide), h.max, fun a ha x hx => by
    have h1 := h.ins a ha x hx
    rw [List.mem_singleton.1 hx] at h1 ⊢
    exact IntsAt.ne h1 hm⟩
end
/-- the planner, behind calls that changed what is known. -/
def hPA (g gt gm : Nat) (v : RTV) (r : SV) (t : RTk) : Held := ⟨fun w ok => PlnAt w ok g gt gm v r t, fun h hk => h.keep hk, fun h hk => h.mono hk⟩
/-- what is known, behind gm. -/
def hMemG (gm : Nat) (t : RTk) (kvs : List (Value × Value)) : Held := ⟨fun w ok => (hMem t kvs).p w (fun j => gm ≤ j ∧ ok j), fun h hk => (hMem t kvs).keep h fun k hj => hk k hj.2, fun h hk => (hMem t kvs).mono h fun k hj => ⟨hj.1, hk k hj.2⟩⟩
structure LsSt where
  k : Nat
  W : World
  rl : SV
  sq : SV
  bq : SV
  s : Sta
  b : List Bool
  l : List Int
  kvs : List (Value × Value)
structure LsInv (w : World) (v : RTV) (t : RTk) (p : Plan) (ks : List Nat) (g gt gm : Nat) (r q : SV) (ds : List (SV × Done)) (z : LsSt) : Prop where
  le : z.k ≤ p.length
  bel : Below w.heap.size w z.W
  fam : Fam z.W w.heap.size ks [⟨Int, winK, svV z.rl, z.l⟩] [hMix w z.sq z.s.fil, hPA g gt gm v r t, hList donK q ds, hMemG gm t z.kvs]
  lt : ∀ x, x ∈ ks → x < z.W.heap.size
  keys : KeysOk Try.prog 161 z.kvs
  bef : ListAt boolK w (Lt w.heap.size) z.bq z.b
  bl : z.b.length = t.m
  sta : StaOk t.b z.s
  one : t.flw z.k z.s z.b (p.drop z.k) = ((ds.map (·.2)).drop z.k, 0)
  lst : z.l ++ t.lst z.k z.s z.b (p.drop z.k) = t.lst 0 t.s t.on p
  len : z.l.length = z.k
def LstV (t : RTk) (p : Plan) (x : Value) (new : List Held) : Prop := ∃ q : SV, x = .tuple ⟨[svV q, .int .i64 (costE t p)]⟩ ∧ new = [hInts q (lstL t p)]
theorem lst_no {t : RTk} {p : Plan} {e : Int} (h : costE t p = e) (h0 : e ≠ 0) {w w' : World} (hB : Below w.heap.size w w') : Made w (LstV t p) (.returned (.tuple ⟨[.slice none 0 0, .int .i64 e]⟩)) w' :=
  ⟨_, _, rfl, ⟨⟨none, 0, 0⟩, by rw [h]; rfl, rfl⟩, fun x hx => by
    rw [List.mem_singleton.1 hx]; unfold lstL; rw [h, if_neg h0]; exact IntsAt.nil, hB⟩
set_option maxHeartbeats 16000000 in
theorem Least_made {v : RTV} {t : RTk} {pq : SV} {p : Plan} {es : List (SV × List Bool)} {w : World} (ht : TskAt w w.heap.size v t) (hn : t.slu.length + t.pmp.length ≤ 5000000) (hp : ListAt plnK w (Lt w.heap.size) pq es) (hes : es.map (·.2) = p) :
    Calls Try.prog 29 #[tskV v t, svV pq] w (Made w (LstV t p)) := by
  have hfol := fun (w5 : World) (hB : Below w.heap.size w w5) => follow_made (v := v) (t := t) (w := w5) (pq := pq) (ht.sys (Sys.ofBelow hB)) hn ((hp.keep fun k hk => hB.block k hk).mono fun k hk => Nat.lt_of_lt_of_le hk hB.size) hes
  obtain ⟨Ap, np, cp⟩ := pq
  have lp := hp.len (by decide)
  simp only at lp
  subst lp
  have hpl : es.length = p.length := by have := congrArg List.length hes; simpa using this
  have hC : costE t p = if rtE t ≠ 0 then rtE t else if t.shaped p = false then 2 else (t.flw 0 t.s t.on p).2 := rfl
  simp only [tskV, tskC, svV] at hfol ⊢
  refine enter Try.func29 rfl Try.ntmps29 rfl ?_; simp only [frame, Nat.zero_add, Nat.reduceAdd]
  repeat (first | (refine M0 ?_; first | refine O0 ?_ | refine z1 tok rfl ?_ | refine O1 rfl ?_ rfl | refine O2 rfl ?_ | refine O3 rfl ?_ rfl | refine O4 rfl rfl rfl (fun _ _ => ?_) | refine O5 tok rfl rfl rfl (fun _ _ => ?_) | refine U0 _ (U2 rfl) rfl ?_ | refine U0 _ (U3 tok rfl rfl rfl rfl rfl) rfl ?_ | refine z3 tok rfl ?_ | refine U0 _ (U4 rfl rfl) rfl ?_ | refine U0 _ (U5 rfl rfl) rfl ?_) | (refine M1 ?_; first | refine J0 ?_ | refine J1 ?_ | refine J4 ?_ | refine J5 ?_ | refine J6 ?_ | refine J7 ?_ | refine J8 rfl ?_ | refine J9 rfl ?_) | (refine M2 ?_; first | refine I0 ?_ | refine I1 ?_ | refine I2 ?_ | refine I3 ?_ | refine I4 ?_ | refine I5 ?_ | refine I6 rfl ?_ | refine I7 ?_ | refine I8 ?_ | refine z4 ?_) | (refine M3 ?_; first | refine O6 ?_ | refine z2 tok rfl ?_ | refine O8 rfl ?_ | refine O7 rfl ?_ rfl | refine O9 rfl ?_ rfl | refine U1 _ (U4 rfl rfl) rfl ?_ | refine U1 _ (U5 rfl rfl) rfl ?_ | refine U1 _ (U2 rfl) rfl ?_ | refine U1 _ (U3 tok rfl rfl rfl rfl rfl) rfl ?_) | (refine M4 ?_; first | refine M6 ?_ | refine U6 rfl (by kernel_rfl) ?_ | refine U7 (by kernel_rfl) ?_) | (refine M5 ?_; first | exact M7 | refine U8 rfl ?_ | refine U9 rfl rfl ?_ ?_))
  rename_i g2 hg2
  refine XL.rebase (List.Sublist.refl _) (fun W0 S0 => ?_)
  refine XL.callF (ks := [g2]) (rs := []) (hs := []) (b0 := w.heap.size) (wE := w) (FolV v t p) (ck rfl) rfl rfl (Fam.start S0.size) (fun k hk => S0.keyLt k hk) S0.toBelow (fun w1 S1 _ hB1 => hfol w1 hB1) (fun w2 x new hR hF2 hB2 hk2 => ?_) (by intro e he; repeat (first | (cases he; done) | (rcases List.mem_cons.1 he with rfl | he; · first | (right; assumption) | (left; simp <;> fail))))
  rcases hR with ⟨h0, rfl, rfl⟩ | ⟨h0, h1, rfl, rfl⟩ | ⟨h0, h1, g, gt, gm, r, q, ds, rfl, hds, rfl⟩
  · rw [if_pos h0] at hC
    repeat (first | (refine M0 ?_; first | refine O0 ?_ | refine z1 tok rfl ?_ | refine O1 rfl ?_ rfl | refine O2 rfl ?_ | refine O3 rfl ?_ rfl | refine O4 rfl rfl rfl (fun _ _ => ?_) | refine O5 tok rfl rfl rfl (fun _ _ => ?_) | refine U0 _ (U2 rfl) rfl ?_ | refine U0 _ (U3 tok rfl rfl rfl rfl rfl) rfl ?_ | refine z3 tok rfl ?_ | refine U0 _ (U4 rfl rfl) rfl ?_ | refine U0 _ (U5 rfl rfl) rfl ?_) | (refine M1 ?_; first | refine J0 ?_ | refine J1 ?_ | refine J4 ?_ | refine J5 ?_ | refine J6 ?_ | refine J7 ?_ | refine J8 rfl ?_ | refine J9 rfl ?_) | (refine M2 ?_; first | refine I0 ?_ | refine I1 ?_ | refine I2 ?_ | refine I3 ?_ | refine I4 ?_ | refine I5 ?_ | refine I6 rfl ?_ | refine I7 ?_ | refine I8 ?_ | refine z4 ?_) | (refine M3 ?_; first | refine O6 ?_ | refine z2 tok rfl ?_ | refine O8 rfl ?_ | refine O7 rfl ?_ rfl | refine O9 rfl ?_ rfl | refine U1 _ (U4 rfl rfl) rfl ?_ | refine U1 _ (U5 rfl rfl) rfl ?_ | refine U1 _ (U2 rfl) rfl ?_ | refine U1 _ (U3 tok rfl rfl rfl rfl rfl) rfl ?_) | (refine M4 ?_; first | refine M6 ?_ | refine U6 rfl (by kernel_rfl) ?_ | refine U7 (by kernel_rfl) ?_) | (refine M5 ?_; first | exact M7 | refine U8 rfl ?_ | refine U9 rfl rfl ?_ ?_))
    rw [show decide (rtE t = 0) = false from decide_eq_false h0]
    repeat (first | (refine M0 ?_; first | refine O0 ?_ | refine z1 tok rfl ?_ | refine O1 rfl ?_ rfl | refine O2 rfl ?_ | refine O3 rfl ?_ rfl | refine O4 rfl rfl rfl (fun _ _ => ?_) | refine O5 tok rfl rfl rfl (fun _ _ => ?_) | refine U0 _ (U2 rfl) rfl ?_ | refine U0 _ (U3 tok rfl rfl rfl rfl rfl) rfl ?_ | refine z3 tok rfl ?_ | refine U0 _ (U4 rfl rfl) rfl ?_ | refine U0 _ (U5 rfl rfl) rfl ?_) | (refine M1 ?_; first | refine J0 ?_ | refine J1 ?_ | refine J4 ?_ | refine J5 ?_ | refine J6 ?_ | refine J7 ?_ | refine J8 rfl ?_ | refine J9 rfl ?_) | (refine M2 ?_; first | refine I0 ?_ | refine I1 ?_ | refine I2 ?_ | refine I3 ?_ | refine I4 ?_ | refine I5 ?_ | refine I6 rfl ?_ | refine I7 ?_ | refine I8 ?_ | refine z4 ?_) | (refine M3 ?_; first | refine O6 ?_ | refine z2 tok rfl ?_ | refine O8 rfl ?_ | refine O7 rfl ?_ rfl | refine O9 rfl ?_ rfl | refine U1 _ (U4 rfl rfl) rfl ?_ | refine U1 _ (U5 rfl rfl) rfl ?_ | refine U1 _ (U2 rfl) rfl ?_ | refine U1 _ (U3 tok rfl rfl rfl rfl rfl) rfl ?_) | (refine M4 ?_; first | refine M6 ?_ | refine U6 rfl (by kernel_rfl) ?_ | refine U7 (by kernel_rfl) ?_) | (refine M5 ?_; first | exact M7 | refine U8 rfl ?_ | refine U9 rfl rfl ?_ ?_))
    rw [show decide (rtE t ≠ 0) = true from decide_eq_true h0]
    repeat (first | (refine M0 ?_; first | refine O0 ?_ | refine z1 tok rfl ?_ | refine O1 rfl ?_ rfl | refine O2 rfl ?_ | refine O3 rfl ?_ rfl | refine O4 rfl rfl rfl (fun _ _ => ?_) | refine O5 tok rfl rfl rfl (fun _ _ => ?_) | refine U0 _ (U2 rfl) rfl ?_ | refine U0 _ (U3 tok rfl rfl rfl rfl rfl) rfl ?_ | refine z3 tok rfl ?_ | refine U0 _ (U4 rfl rfl) rfl ?_ | refine U0 _ (U5 rfl rfl) rfl ?_) | (refine M1 ?_; first | refine J0 ?_ | refine J1 ?_ | refine J4 ?_ | refine J5 ?_ | refine J6 ?_ | refine J7 ?_ | refine J8 rfl ?_ | refine J9 rfl ?_) | (refine M2 ?_; first | refine I0 ?_ | refine I1 ?_ | refine I2 ?_ | refine I3 ?_ | refine I4 ?_ | refine I5 ?_ | refine I6 rfl ?_ | refine I7 ?_ | refine I8 ?_ | refine z4 ?_) | (refine M3 ?_; first | refine O6 ?_ | refine z2 tok rfl ?_ | refine O8 rfl ?_ | refine O7 rfl ?_ rfl | refine O9 rfl ?_ rfl | refine U1 _ (U4 rfl rfl) rfl ?_ | refine U1 _ (U5 rfl rfl) rfl ?_ | refine U1 _ (U2 rfl) rfl ?_ | refine U1 _ (U3 tok rfl rfl rfl rfl rfl) rfl ?_) | (refine M4 ?_; first | refine M6 ?_ | refine U6 rfl (by kernel_rfl) ?_ | refine U7 (by kernel_rfl) ?_) | (refine M5 ?_; first | exact M7 | refine U8 rfl ?_ | refine U9 rfl rfl ?_ ?_))
    refine XE.retg tok Try.results29 rfl (by simp only [and_self, and_true]) (fun w' S => ?_)
    exact lst_no hC h0 (hB2.trans S.toBelow)
  · rw [if_neg (by simp [h0]), if_pos h1] at hC
    repeat (first | (refine M0 ?_; first | refine O0 ?_ | refine z1 tok rfl ?_ | refine O1 rfl ?_ rfl | refine O2 rfl ?_ | refine O3 rfl ?_ rfl | refine O4 rfl rfl rfl (fun _ _ => ?_) | refine O5 tok rfl rfl rfl (fun _ _ => ?_) | refine U0 _ (U2 rfl) rfl ?_ | refine U0 _ (U3 tok rfl rfl rfl rfl rfl) rfl ?_ | refine z3 tok rfl ?_ | refine U0 _ (U4 rfl rfl) rfl ?_ | refine U0 _ (U5 rfl rfl) rfl ?_) | (refine M1 ?_; first | refine J0 ?_ | refine J1 ?_ | refine J4 ?_ | refine J5 ?_ | refine J6 ?_ | refine J7 ?_ | refine J8 rfl ?_ | refine J9 rfl ?_) | (refine M2 ?_; first | refine I0 ?_ | refine I1 ?_ | refine I2 ?_ | refine I3 ?_ | refine I4 ?_ | refine I5 ?_ | refine I6 rfl ?_ | refine I7 ?_ | refine I8 ?_ | refine z4 ?_) | (refine M3 ?_; first | refine O6 ?_ | refine z2 tok rfl ?_ | refine O8 rfl ?_ | refine O7 rfl ?_ rfl | refine O9 rfl ?_ rfl | refine U1 _ (U4 rfl rfl) rfl ?_ | refine U1 _ (U5 rfl rfl) rfl ?_ | refine U1 _ (U2 rfl) rfl ?_ | refine U1 _ (U3 tok rfl rfl rfl rfl rfl) rfl ?_) | (refine M4 ?_; first | refine M6 ?_ | refine U6 rfl (by kernel_rfl) ?_ | refine U7 (by kernel_rfl) ?_) | (refine M5 ?_; first | exact M7 | refine U8 rfl ?_ | refine U9 rfl rfl ?_ ?_))
    refine XE.retg tok Try.results29 rfl (by simp only [and_self, and_true]) (fun w' S => ?_)
    exact lst_no hC (by decide) (hB2.trans S.toBelow)
  rw [if_neg (by simp [h0]), if_neg (by simp [h1])] at hC
  have ho := rtOk_of h0
  obtain ⟨hsl, hrow⟩ := shaped_len h1
  have hn6 : t.n ≤ 6 := ho.n6
  have hm4 : t.m ≤ 4 := by have := t.devs_len; unfold RTk.many at this; have := ho.s2; have := ho.p2; unfold RTk.m; omega
  obtain ⟨E, hE⟩ : ∃ E, E = (t.flw 0 t.s t.on p).2 := ⟨_, rfl⟩
  rw [← hE] at hC ⊢
  repeat (first | (refine M0 ?_; first | refine O0 ?_ | refine z1 tok rfl ?_ | refine O1 rfl ?_ rfl | refine O2 rfl ?_ | refine O3 rfl ?_ rfl | refine O4 rfl rfl rfl (fun _ _ => ?_) | refine O5 tok rfl rfl rfl (fun _ _ => ?_) | refine U0 _ (U2 rfl) rfl ?_ | refine U0 _ (U3 tok rfl rfl rfl rfl rfl) rfl ?_ | refine z3 tok rfl ?_ | refine U0 _ (U4 rfl rfl) rfl ?_ | refine U0 _ (U5 rfl rfl) rfl ?_) | (refine M1 ?_; first | refine J0 ?_ | refine J1 ?_ | refine J4 ?_ | refine J5 ?_ | refine J6 ?_ | refine J7 ?_ | refine J8 rfl ?_ | refine J9 rfl ?_) | (refine M2 ?_; first | refine I0 ?_ | refine I1 ?_ | refine I2 ?_ | refine I3 ?_ | refine I4 ?_ | refine I5 ?_ | refine I6 rfl ?_ | refine I7 ?_ | refine I8 ?_ | refine z4 ?_) | (refine M3 ?_; first | refine O6 ?_ | refine z2 tok rfl ?_ | refine O8 rfl ?_ | refine O7 rfl ?_ rfl | refine O9 rfl ?_ rfl | refine U1 _ (U4 rfl rfl) rfl ?_ | refine U1 _ (U5 rfl rfl) rfl ?_ | refine U1 _ (U2 rfl) rfl ?_ | refine U1 _ (U3 tok rfl rfl rfl rfl rfl) rfl ?_) | (refine M4 ?_; first | refine M6 ?_ | refine U6 rfl (by kernel_rfl) ?_ | refine U7 (by kernel_rfl) ?_) | (refine M5 ?_; first | exact M7 | refine U8 rfl ?_ | refine U9 rfl rfl ?_ ?_))
  refine XC.cond _ rfl (fun h2 => ?_) (fun h2 => ?_)
  · repeat (first | (refine M0 ?_; first | refine O0 ?_ | refine z1 tok rfl ?_ | refine O1 rfl ?_ rfl | refine O2 rfl ?_ | refine O3 rfl ?_ rfl | refine O4 rfl rfl rfl (fun _ _ => ?_) | refine O5 tok rfl rfl rfl (fun _ _ => ?_) | refine U0 _ (U2 rfl) rfl ?_ | refine U0 _ (U3 tok rfl rfl rfl rfl rfl) rfl ?_ | refine z3 tok rfl ?_ | refine U0 _ (U4 rfl rfl) rfl ?_ | refine U0 _ (U5 rfl rfl) rfl ?_) | (refine M1 ?_; first | refine J0 ?_ | refine J1 ?_ | refine J4 ?_ | refine J5 ?_ | refine J6 ?_ | refine J7 ?_ | refine J8 rfl ?_ | refine J9 rfl ?_) | (refine M2 ?_; first | refine I0 ?_ | refine I1 ?_ | refine I2 ?_ | refine I3 ?_ | refine I4 ?_ | refine I5 ?_ | refine I6 rfl ?_ | refine I7 ?_ | refine I8 ?_ | refine z4 ?_) | (refine M3 ?_; first | refine O6 ?_ | refine z2 tok rfl ?_ | refine O8 rfl ?_ | refine O7 rfl ?_ rfl | refine O9 rfl ?_ rfl | refine U1 _ (U4 rfl rfl) rfl ?_ | refine U1 _ (U5 rfl rfl) rfl ?_ | refine U1 _ (U2 rfl) rfl ?_ | refine U1 _ (U3 tok rfl rfl rfl rfl rfl) rfl ?_) | (refine M4 ?_; first | refine M6 ?_ | refine U6 rfl (by kernel_rfl) ?_ | refine U7 (by kernel_rfl) ?_) | (refine M5 ?_; first | exact M7 | refine U8 rfl ?_ | refine U9 rfl rfl ?_ ?_))
    refine XE.retg tok Try.results29 rfl (by simp only [and_self, and_true]) (fun w' S => ?_)
    exact lst_no hC (by simpa using h2) (hB2.trans S.toBelow)
  have hE0 : E = 0 := by simpa using h2
  subst hE0
  have hP0 : Pln0 w2 _ g gt gm v r t := hF2.held (hPln g gt gm v r t) (.tail _ (.head _))
  have hkm := hP0.km
  have hgm : w.heap.size ≤ gm ∧ gm < w2.heap.size := ⟨hkm.1, hkm.2.1⟩
  have hg2m : g2 ≠ gm := fun e => hkm.2.2.1 (by rw [e]; simp)
  repeat (first | (refine M0 ?_; first | refine O0 ?_ | refine z1 tok rfl ?_ | refine O1 rfl ?_ rfl | refine O2 rfl ?_ | refine O3 rfl ?_ rfl | refine O4 rfl rfl rfl (fun _ _ => ?_) | refine O5 tok rfl rfl rfl (fun _ _ => ?_) | refine U0 _ (U2 rfl) rfl ?_ | refine U0 _ (U3 tok rfl rfl rfl rfl rfl) rfl ?_ | refine z3 tok rfl ?_ | refine U0 _ (U4 rfl rfl) rfl ?_ | refine U0 _ (U5 rfl rfl) rfl ?_) | (refine M1 ?_; first | refine J0 ?_ | refine J1 ?_ | refine J4 ?_ | refine J5 ?_ | refine J6 ?_ | refine J7 ?_ | refine J8 rfl ?_ | refine J9 rfl ?_) | (refine M2 ?_; first | refine I0 ?_ | refine I1 ?_ | refine I2 ?_ | refine I3 ?_ | refine I4 ?_ | refine I5 ?_ | refine I6 rfl ?_ | refine I7 ?_ | refine I8 ?_ | refine z4 ?_) | (refine M3 ?_; first | refine O6 ?_ | refine z2 tok rfl ?_ | refine O8 rfl ?_ | refine O7 rfl ?_ rfl | refine O9 rfl ?_ rfl | refine U1 _ (U4 rfl rfl) rfl ?_ | refine U1 _ (U5 rfl rfl) rfl ?_ | refine U1 _ (U2 rfl) rfl ?_ | refine U1 _ (U3 tok rfl rfl rfl rfl rfl) rfl ?_) | (refine M4 ?_; first | refine M6 ?_ | refine U6 rfl (by kernel_rfl) ?_ | refine U7 (by kernel_rfl) ?_) | (refine M5 ?_; first | exact M7 | refine U8 rfl ?_ | refine U9 rfl rfl ?_ ?_))
  refine XC.grab hP0.hm hgm.1 (fun e he => by rw [List.mem_singleton.1 he]; exact hg2m) (fun W3 S3 => ?_)
  have hfr : ∀ j, Free w2 w.heap.size ([g2] ++ [g2]) [] j → j ≠ gm → Free w2 w.heap.size [gm, g2] [] j := fun j hj hne => ⟨hj.1, hj.2.1, fun h => by
    rcases List.mem_cons.1 h with h | h
    · exact hne h
    · exact hj.2.2.1 (List.mem_append_right _ h), fun x hx => by cases hx⟩
  have F2 : Fam w2 w.heap.size [gm, g2] [] [hPA g gt gm v r t, hList donK q ds, hMemG gm t []] := (((Fam.start hB2.size).hold (x := hMemG gm t []) (ok := fun _ => False) hMem_nil (fun j hj => hj.elim)).hold (x := hList donK q ds) (ok := fun j => Free w2 w.heap.size ([g2] ++ [g2]) [] j ∧ j ≠ gm) (dons_ne (hF2.held (hList donK q ds) (.head _)) hP0.hm) (fun j hj => hfr j hj.1 hj.2)).hold (x := hPA g gt gm v r t) (ok := Ng gm (Free w2 w.heap.size ([g2] ++ [g2]) [])) hP0.p (fun j hj => hfr j hj.1 hj.2)
  have F3 := F2.sys S3 (fun e he => .inl (.tail _ (by rw [List.mem_singleton.1 he]; exact .head _)))
  have hk3 : ∀ k, k ∈ [gm, g2] → k < W3.heap.size := fun k hk => by
    rcases List.mem_cons.1 hk with rfl | hk
    · exact Nat.lt_of_lt_of_le hgm.2 S3.size
    · rw [List.mem_singleton.1 hk]; exact S3.lt (e := (g2, _)) (.head _)
  have hB3 := hB2.trans S3.toBelow
  have hgm3 : w.heap.size ≤ gm ∧ gm < W3.heap.size := ⟨hgm.1, hk3 gm (.head _)⟩
  clear F2 hF2 hk2 hB2 S3 S0 hfr
  refine XC.cutn [1, 2, 4, 6, 7] rfl (fun g9 : Nat => [(9, .pointer (some ⟨g9, 0, none⟩)), (10, .slice v.on.A v.on.n v.on.c)]) (fun g9 => [(g9, cel 28 [.int .i64 t.s.vol, .slice v.q.A v.q.n v.q.c]), (gm, mapO []), (g2, cel 33 (tskC v t))]) (fun _ => W3) (fun g9 => W3.heap.size ≤ g9) ?_ (fun g9 hg9 => ?_)
  · refine XC.drawR _ [0, 1, 2, 3] [4, 5, 6] mixed (fun _ h => h) rfl (by kernel_rfl) ?_
    repeat (any_goals (first | (refine M0 ?_; first | refine O0 ?_ | refine z1 tok rfl ?_ | refine O1 rfl ?_ rfl | refine O2 rfl ?_ | refine O3 rfl ?_ rfl | refine O4 rfl rfl rfl (fun _ _ => ?_) | refine O5 tok rfl rfl rfl (fun _ _ => ?_) | refine U0 _ (U2 rfl) rfl ?_ | refine U0 _ (U3 tok rfl rfl rfl rfl rfl) rfl ?_ | refine z3 tok rfl ?_ | refine U0 _ (U4 rfl rfl) rfl ?_ | refine U0 _ (U5 rfl rfl) rfl ?_) | (refine M1 ?_; first | refine J0 ?_ | refine J1 ?_ | refine J4 ?_ | refine J5 ?_ | refine J6 ?_ | refine J7 ?_ | refine J8 rfl ?_ | refine J9 rfl ?_) | (refine M2 ?_; first | refine I0 ?_ | refine I1 ?_ | refine I2 ?_ | refine I3 ?_ | refine I4 ?_ | refine I5 ?_ | refine I6 rfl ?_ | refine I7 ?_ | refine I8 ?_ | refine z4 ?_) | (refine M3 ?_; first | refine O6 ?_ | refine z2 tok rfl ?_ | refine O8 rfl ?_ | refine O7 rfl ?_ rfl | refine O9 rfl ?_ rfl | refine U1 _ (U4 rfl rfl) rfl ?_ | refine U1 _ (U5 rfl rfl) rfl ?_ | refine U1 _ (U2 rfl) rfl ?_ | refine U1 _ (U3 tok rfl rfl rfl rfl rfl) rfl ?_) | (refine M4 ?_; first | refine M6 ?_ | refine U6 rfl (by kernel_rfl) ?_ | refine U7 (by kernel_rfl) ?_) | (refine M5 ?_; first | exact M7 | refine U8 rfl ?_ | refine U9 rfl rfl ?_ ?_)))
    any_goals (repeat (first | exact AnyR.nil | refine AnyR.skip rfl ?_))
    all_goals exact XE.leaf _ (by repeat (first | exact Sub.nil | refine Sub.cons rfl ?_)) (fun _ S' => by first | exact S' | exact S'.perm (by repeat (first | exact List.Perm.refl _ | refine perm1 ?_ | refine List.Perm.cons _ ?_ | refine perm2 ?_)) | exact (S'.pop (by assumption)) | exact (S'.pop2 (by assumption))) (by assumption)
  refine XC.rebase (List.Sublist.refl _) (fun W1 S1 => ?_)
  have F1 : Fam W1 w.heap.size [g9, gm, g2] [] [hPA g gt gm v r t, hList donK q ds, hMemG gm t []] := (Fam.atEnd F3 S1 (by intro e he; repeat (first | (cases he; done) | (rcases List.mem_cons.1 he with rfl | he; · first | (right; assumption) | (left; simp <;> fail))))).add (fun k hk => by left; simp only [List.mem_cons, List.not_mem_nil, or_false] at hk; simp only [List.map_cons, List.map_nil, List.mem_append, List.mem_cons, List.not_mem_nil, or_false]; omega)
  have hk1 : ∀ k, k ∈ [g9, gm, g2] → k < W1.heap.size := fun k hk => S1.keyLt k hk
  have hB1 := hB3.trans S1.toBelow
  have hgm1 : w.heap.size ≤ gm := hgm.1
  have F1' := (F1.hold (x := hMix w v.q t.s.fil) (ok := fun _ => False) (.inl ht.fil) (fun _ h => h.elim)).nil winK
  clear F1 S1 F3 hB3 hk3 hgm3
  have hfl : (t.flw 0 t.s t.on p).1.length = p.length := flw_len hE.symm
  have hdl : ds.length = p.length := by rw [← hfl, ← hds]; simp
  have hone0 : t.flw 0 t.s t.on (p.drop 0) = ((ds.map (·.2)).drop 0, 0) := by
    rw [List.drop_zero, List.drop_zero, hds]
    exact Prod.ext rfl hE.symm
  obtain ⟨Aq, nq, cq⟩ := q
  have hlq : ListAt donK W1 _ ⟨Aq, nq, cq⟩ ds := F1'.held (hList donK ⟨Aq, nq, cq⟩ ds) (by simp)
  have hlnq := hlq.len (by decide)
  simp only at hlnq
  subst hlnq
  clear hlq
  simp only [svV]
  refine XC.hint 9 2 ?_
  repeat (first | (refine M0 ?_; first | refine O0 ?_ | refine z1 tok rfl ?_ | refine O1 rfl ?_ rfl | refine O2 rfl ?_ | refine O3 rfl ?_ rfl | refine O4 rfl rfl rfl (fun _ _ => ?_) | refine O5 tok rfl rfl rfl (fun _ _ => ?_) | refine U0 _ (U2 rfl) rfl ?_ | refine U0 _ (U3 tok rfl rfl rfl rfl rfl) rfl ?_ | refine z3 tok rfl ?_ | refine U0 _ (U4 rfl rfl) rfl ?_ | refine U0 _ (U5 rfl rfl) rfl ?_) | (refine M1 ?_; first | refine J0 ?_ | refine J1 ?_ | refine J4 ?_ | refine J5 ?_ | refine J6 ?_ | refine J7 ?_ | refine J8 rfl ?_ | refine J9 rfl ?_) | (refine M2 ?_; first | refine I0 ?_ | refine I1 ?_ | refine I2 ?_ | refine I3 ?_ | refine I4 ?_ | refine I5 ?_ | refine I6 rfl ?_ | refine I7 ?_ | refine I8 ?_ | refine z4 ?_) | (refine M3 ?_; first | refine O6 ?_ | refine z2 tok rfl ?_ | refine O8 rfl ?_ | refine O7 rfl ?_ rfl | refine O9 rfl ?_ rfl | refine U1 _ (U4 rfl rfl) rfl ?_ | refine U1 _ (U5 rfl rfl) rfl ?_ | refine U1 _ (U2 rfl) rfl ?_ | refine U1 _ (U3 tok rfl rfl rfl rfl rfl) rfl ?_) | (refine M4 ?_; first | refine M6 ?_ | refine U6 rfl (by kernel_rfl) ?_ | refine U7 (by kernel_rfl) ?_) | (refine M5 ?_; first | exact M7 | refine U8 rfl ?_ | refine U9 rfl rfl ?_ ?_))
  refine XC.loopk [1, 6, 9, 31, 32] rfl (fun z : LsSt => [(33, .int .i64 (z.k : Nat)), (4, svV z.rl), (10, svV z.bq)]) (fun z => [(g9, cel 28 (staC z.sq z.s)), (gm, mapO z.kvs), (g2, cel 33 (tskC v t))]) (fun z => z.W) (LsInv w v t p [g9, gm, g2] g gt gm r ⟨Aq, ds.length, cq⟩ ds) (fun z => p.length - z.k) ⟨0, W1, ⟨none, 0, 0⟩, v.q, v.on, t.s, t.on, [], []⟩ ⟨Nat.zero_le _, hB1, F1', hk1, KeysOk.nil, ht.on, ho.on, ho.sta, hone0, by rw [List.drop_zero]; rfl, rfl⟩ (by repeat (first | exact Sub.nil | refine Sub.cons rfl ?_)) (fun _ h => h) ?_
  rintro ⟨k, W, rl, sq, bq, s, b, l, kvs⟩ ⟨hk, hBW, hFW, hkW, hkeys, hbef, hbl, hsta, hone, hlst, hlen⟩
  simp only at hk hBW hFW hkW hkeys hbef hbl hsta hone hlst hlen
  simp only [staC, svV]
  dsimp only [List.cons_append, List.nil_append]
  repeat (first | (refine M0 ?_; first | refine O0 ?_ | refine z1 tok rfl ?_ | refine O1 rfl ?_ rfl | refine O2 rfl ?_ | refine O3 rfl ?_ rfl | refine O4 rfl rfl rfl (fun _ _ => ?_) | refine O5 tok rfl rfl rfl (fun _ _ => ?_) | refine U0 _ (U2 rfl) rfl ?_ | refine U0 _ (U3 tok rfl rfl rfl rfl rfl) rfl ?_ | refine z3 tok rfl ?_ | refine U0 _ (U4 rfl rfl) rfl ?_ | refine U0 _ (U5 rfl rfl) rfl ?_) | (refine M1 ?_; first | refine J0 ?_ | refine J1 ?_ | refine J4 ?_ | refine J5 ?_ | refine J6 ?_ | refine J7 ?_ | refine J8 rfl ?_ | refine J9 rfl ?_) | (refine M2 ?_; first | refine I0 ?_ | refine I1 ?_ | refine I2 ?_ | refine I3 ?_ | refine I4 ?_ | refine I5 ?_ | refine I6 rfl ?_ | refine I7 ?_ | refine I8 ?_ | refine z4 ?_) | (refine M3 ?_; first | refine O6 ?_ | refine z2 tok rfl ?_ | refine O8 rfl ?_ | refine O7 rfl ?_ rfl | refine O9 rfl ?_ rfl | refine U1 _ (U4 rfl rfl) rfl ?_ | refine U1 _ (U5 rfl rfl) rfl ?_ | refine U1 _ (U2 rfl) rfl ?_ | refine U1 _ (U3 tok rfl rfl rfl rfl rfl) rfl ?_) | (refine M4 ?_; first | refine M6 ?_ | refine U6 rfl (by kernel_rfl) ?_ | refine U7 (by kernel_rfl) ?_) | (refine M5 ?_; first | exact M7 | refine U8 rfl ?_ | refine U9 rfl rfl ?_ ?_))
  refine XC.cond _ rfl (fun h3 => ?_) (fun h3 => ?_)
  rotate_left
  · have hkn : k = p.length := by have := of_decide_eq_false h3; omega
    subst hkn
    rw [List.drop_length] at hlst
    have hl6 : l.length ≤ 6 := by omega
    repeat (first | (refine M0 ?_; first | refine O0 ?_ | refine z1 tok rfl ?_ | refine O1 rfl ?_ rfl | refine O2 rfl ?_ | refine O3 rfl ?_ rfl | refine O4 rfl rfl rfl (fun _ _ => ?_) | refine O5 tok rfl rfl rfl (fun _ _ => ?_) | refine U0 _ (U2 rfl) rfl ?_ | refine U0 _ (U3 tok rfl rfl rfl rfl rfl) rfl ?_ | refine z3 tok rfl ?_ | refine U0 _ (U4 rfl rfl) rfl ?_ | refine U0 _ (U5 rfl rfl) rfl ?_ | refine XL.buildSlice tok rfl rfl rfl rfl rfl rfl rfl rfl rfl (fun _ _ => ?_)) | (refine M1 ?_; first | refine J0 ?_ | refine J1 ?_ | refine J4 ?_ | refine J5 ?_ | refine J6 ?_ | refine J7 ?_ | refine J8 rfl ?_ | refine J9 rfl ?_) | (refine M2 ?_; first | refine I0 ?_ | refine I1 ?_ | refine I2 ?_ | refine I3 ?_ | refine I4 ?_ | refine I5 ?_ | refine I6 rfl ?_ | refine I7 ?_ | refine I8 ?_ | refine z4 ?_) | (refine M3 ?_; first | refine O6 ?_ | refine z2 tok rfl ?_ | refine O8 rfl ?_ | refine O7 rfl ?_ rfl | refine O9 rfl ?_ rfl | refine U1 _ (U4 rfl rfl) rfl ?_ | refine U1 _ (U5 rfl rfl) rfl ?_ | refine U1 _ (U2 rfl) rfl ?_ | refine U1 _ (U3 tok rfl rfl rfl rfl rfl) rfl ?_) | (refine M4 ?_; first | refine M6 ?_ | refine U6 rfl (by kernel_rfl) ?_ | refine U7 (by kernel_rfl) ?_) | (refine M5 ?_; first | exact M7 | refine U8 rfl ?_ | refine U9 rfl rfl ?_ ?_))
    refine XL.push (K := winK) (a := 0) (wE := w) 0 ints_el6 (by decide) rfl rfl rfl hFW rfl hkW hBW (Nat.le_refl _) rfl (by omega) (by decide) (fun x hx => by cases hx) (fun w7 v7 hF7 hB7 hk7 => ?_)
    obtain ⟨r7, rfl, hn7⟩ := hF7.sv (K := winK) (l := l ++ [0]) (.head _)
    simp only [svV]
    repeat (first | (refine M0 ?_; first | refine O0 ?_ | refine z1 tok rfl ?_ | refine O1 rfl ?_ rfl | refine O2 rfl ?_ | refine O3 rfl ?_ rfl | refine O4 rfl rfl rfl (fun _ _ => ?_) | refine O5 tok rfl rfl rfl (fun _ _ => ?_) | refine U0 _ (U2 rfl) rfl ?_ | refine U0 _ (U3 tok rfl rfl rfl rfl rfl) rfl ?_ | refine z3 tok rfl ?_ | refine U0 _ (U4 rfl rfl) rfl ?_ | refine U0 _ (U5 rfl rfl) rfl ?_) | (refine M1 ?_; first | refine J0 ?_ | refine J1 ?_ | refine J4 ?_ | refine J5 ?_ | refine J6 ?_ | refine J7 ?_ | refine J8 rfl ?_ | refine J9 rfl ?_) | (refine M2 ?_; first | refine I0 ?_ | refine I1 ?_ | refine I2 ?_ | refine I3 ?_ | refine I4 ?_ | refine I5 ?_ | refine I6 rfl ?_ | refine I7 ?_ | refine I8 ?_ | refine z4 ?_) | (refine M3 ?_; first | refine O6 ?_ | refine z2 tok rfl ?_ | refine O8 rfl ?_ | refine O7 rfl ?_ rfl | refine O9 rfl ?_ rfl | refine U1 _ (U4 rfl rfl) rfl ?_ | refine U1 _ (U5 rfl rfl) rfl ?_ | refine U1 _ (U2 rfl) rfl ?_ | refine U1 _ (U3 tok rfl rfl rfl rfl rfl) rfl ?_) | (refine M4 ?_; first | refine M6 ?_ | refine U6 rfl (by kernel_rfl) ?_ | refine U7 (by kernel_rfl) ?_) | (refine M5 ?_; first | exact M7 | refine U8 rfl ?_ | refine U9 rfl rfl ?_ ?_))
    refine XE.retg tok Try.results29 rfl (by simp only [and_self, and_true]) (fun w' S => ?_)
    have F9 := Fam.freeze (hF7.sys S (by intro e he; repeat (first | (cases he; done) | (rcases List.mem_cons.1 he with rfl | he; · first | (right; assumption) | (left; simp <;> fail)))))
    refine ⟨_, _, rfl, ⟨r7, by rw [hC]; rfl, rfl⟩, fun x hx => ?_, hB7.trans S.toBelow⟩
    rw [List.mem_singleton.1 hx]
    unfold lstL
    rw [if_pos hC, ← hlst]
    exact winInts (F9.get (x := hList winK r7 (l ++ [0])) (.head _))
  have hkn : k < p.length := by have := of_decide_eq_true h3; omega
  have hke : k < es.length := by omega
  have hkd : k < ds.length := by omega
  have hpk : p[k] = es[k].2 := by simp [← hes]
  have hdrop : p.drop k = es[k].2 :: p.drop (k + 1) := by rw [List.drop_eq_getElem_cons hkn, hpk]
  rw [hdrop] at hone hlst
  obtain ⟨ap, rfl, hlp⟩ := hp.addr (by decide) (by omega)
  have hcell := hp.elem (List.getElem?_eq_getElem hke) 0 (svV es[k].1) rfl
  rw [add_add, Nat.add_zero] at hcell
  have hon : ListAt boolK w (Lt w.heap.size) es[k].1 es[k].2 := hp.ins es[k] (List.getElem_mem hke) (hList boolK es[k].1 es[k].2) (.head _)
  have honl : es[k].2.length = t.m := hrow _ (by rw [← hpk]; exact List.getElem_mem hkn)
  obtain ⟨oq, hoq⟩ : ∃ oq, oq = es[k].1 := ⟨_, rfl⟩
  obtain ⟨on, hon'⟩ : ∃ on, on = es[k].2 := ⟨_, rfl⟩
  rw [← hoq] at hcell hon
  rw [← hon'] at hone hlst hon honl
  have hnn : t.n = t.outer.length := rfl
  have hi : k < t.outer.length := by omega
  obtain ⟨hd0, hd1, hd2⟩ := flw_cons (t := t) (by rw [hone])
  have hdd : (ds.map (·.2)).drop k = ds[k].2 :: (ds.map (·.2)).drop (k + 1) := by
    rw [List.drop_eq_getElem_cons (by simpa using hkd)]; simp
  rw [hone, hdd] at hd2
  obtain ⟨⟨q1, d1⟩, hqd⟩ : ∃ z, z = ds[k] := ⟨_, rfl⟩
  rw [← hqd] at hd2
  simp only [List.cons.injEq] at hd2
  obtain ⟨hd3, hd4⟩ := hd2
  rw [← hd3] at hd1 hd4
  obtain ⟨hsta', _, _, _⟩ := do_sta ho hsta hi hd0
  rw [← hd3] at hsta'
  have hlq : ListAt donK W _ ⟨Aq, ds.length, cq⟩ ds := hFW.held (hList donK ⟨Aq, ds.length, cq⟩ ds) (by simp)
  obtain ⟨aq, haq, hfl⟩ := hlq.addr (by decide) (by omega)
  subst haq
  have hel := hlq.elem (List.getElem?_eq_getElem hkd)
  rw [← hqd] at hel
  have hel' : ∀ j u, ([.int .i64 d1.s.vol, .slice q1.A q1.n q1.c, .int .i64 d1.out, .int .i64 d1.energy, .int .i64 d1.cost] : List Value)[j]? = some u → W.cell? ((aq.add (k * 5)).add j) = some u := hel
  repeat (first | (refine M0 ?_; first | refine O0 ?_ | refine z1 tok rfl ?_ | refine O1 rfl ?_ rfl | refine O2 rfl ?_ | refine O3 rfl ?_ rfl | refine U0 _ (Ev.load_far_agg tok [.int .i64 d1.s.vol, .slice q1.A q1.n q1.c, .int .i64 d1.out, .int .i64 d1.energy, .int .i64 d1.cost] rfl rfl rfl (by rw [add_block]; exact hfl.2.1) (Free.far hfl (by intro e he; left; exact (show e.1 ∈ [g9, gm, g2] from List.mem_map.2 ⟨e, he, rfl⟩))) hel') rfl ?_ | refine O4 rfl rfl rfl (fun _ _ => ?_) | refine O5 tok rfl rfl rfl (fun _ _ => ?_) | refine U0 _ (U2 rfl) rfl ?_ | refine U0 _ (U3 tok rfl rfl rfl rfl rfl) rfl ?_ | refine z3 tok rfl ?_ | refine U0 _ (U4 rfl rfl) rfl ?_ | refine U0 _ (U5 rfl rfl) rfl ?_) | (refine M1 ?_; first | refine J0 ?_ | refine J1 ?_ | refine J4 ?_ | refine J5 ?_ | refine J6 ?_ | refine J7 ?_ | refine J8 rfl ?_ | refine J9 rfl ?_) | (refine M2 ?_; first | refine I0 ?_ | refine I1 ?_ | refine I2 ?_ | refine I3 ?_ | refine I4 ?_ | refine I5 ?_ | refine I6 rfl ?_ | refine I7 ?_ | refine I8 ?_ | refine z4 ?_) | (refine M3 ?_; first | refine O6 ?_ | refine z2 tok rfl ?_ | refine O8 rfl ?_ | refine O7 rfl ?_ rfl | refine O9 rfl ?_ rfl | refine U1 _ (Ev.load_far_agg tok [.int .i64 d1.s.vol, .slice q1.A q1.n q1.c, .int .i64 d1.out, .int .i64 d1.energy, .int .i64 d1.cost] rfl rfl rfl (by rw [add_block]; exact hfl.2.1) (Free.far hfl (by intro e he; left; exact (show e.1 ∈ [g9, gm, g2] from List.mem_map.2 ⟨e, he, rfl⟩))) hel') rfl ?_ | refine U1 _ (U4 rfl rfl) rfl ?_ | refine U1 _ (U5 rfl rfl) rfl ?_ | refine U1 _ (U2 rfl) rfl ?_ | refine U1 _ (U3 tok rfl rfl rfl rfl rfl) rfl ?_) | (refine M4 ?_; first | refine M6 ?_ | refine U6 rfl (by kernel_rfl) ?_ | refine U7 (by kernel_rfl) ?_) | (refine M5 ?_; first | exact M7 | refine U8 rfl ?_ | refine U9 rfl rfl ?_ ?_))
  rename_i g12 hg12
  have hgW : gm < W.heap.size := hkW gm (by simp)
  have hk' : t.n - (t.n - k) = k := by omega
  obtain ⟨ks2, hks2⟩ : ∃ ks2, ks2 = [g12, g9, gm, g2] ++ (svV rl).ownBlock.toList := ⟨_, rfl⟩
  have hFA := hFW.add (ks' := [g12, g9, gm, g2]) (fun x hx => by
    rcases List.mem_cons.1 hx with rfl | hx
    · exact .inr hg12
    · exact .inl hx)
  have hin2 : ∀ j, j ∉ ks2 → j ∉ [g12, g9, gm, g2] ∧ (svV rl).ownBlock ≠ some j := fun j hj => ⟨fun h => hj (by rw [hks2]; exact List.mem_append_left _ h), fun h => hj (by rw [hks2, h]; simp)⟩
  refine XL.callr (fst := []) (cap := []) (fun w4 x w5 => RestR t gm (t.n - k) ks2 kvs s b w4 x w5) (ck rfl) rfl rfl rfl (fun w4 S4 => ?_) (fun w4 x w5 S4 hR => ?_)
  · have F4 := hFA.sys S4 (fun e he => .inl (show e.1 ∈ [g12, g9, gm, g2] from List.mem_map.2 ⟨e, he, rfl⟩))
    have B4 := hBW.trans S4.toBelow
    have hgm4 : gm < w4.heap.size := Nat.lt_of_lt_of_le hgW S4.size
    have hre := rest_any (v := v) (r := r) (g := g) (gt := gt) (gm := gm) ho (chk_rt h0) (t.n - k) (Nat.sub_le _ _) (w := w4) (ks := ks2) (kvs := kvs) (sq := sq) (p := bq) (s := s) (b := b)
      ((F4.held (hPA g gt gm v r t) (by simp)).mono fun j hj => ⟨hj.2.1, fun e => hj.2.2.1 (by rw [e]; simp)⟩) ((ht.below B4).more hgm1) (S4.own (gm, mapO kvs) (by simp)).2
      ((Fam.start (Nat.le_of_lt hgm4)).hold (x := hMem t kvs) (ok := fun j => gm ≤ j ∧ Free w4 w.heap.size [g12, g9, gm, g2] _ j) (F4.held (hMemG gm t kvs) (by simp)) (fun j hj => ⟨hj.1, hj.2.2.1, fun h => by
        rw [hks2] at h
        rcases List.mem_append.1 h with h | h
        · exact hj.2.2.2.1 h
        · exact hj.2.2.2.2 _ (.head _) (by simpa using h), fun x hx => by cases hx⟩)) (by rw [hks2]; simp) (fun x hx => by
        rw [hks2] at hx
        rcases List.mem_append.1 hx with h | h
        · exact S4.keyLt x h
        · exact (F4.lt (.head _) (by simpa using h)).2) hkeys hsta hbl
      (by
        rcases F4.held (hMix w sq s.fil) (.head _) with h | h
        · exact (h.keep fun j hj => B4.block j hj).mono fun j hj => ⟨Nat.lt_of_lt_of_le hj B4.size, fun e => by have hj' : j < w.heap.size := hj; omega⟩
        · exact h.mono fun j hj => ⟨hj.2.1, fun e => hj.2.2.1 (by rw [e]; simp)⟩)
      ((hbef.keep fun j hj => B4.block j hj).mono fun j hj => ⟨Nat.lt_of_lt_of_le hj B4.size, fun e => by have hj' : j < w.heap.size := hj; omega⟩)
    rw [hk'] at hre
    exact hre
  obtain ⟨q5, new, rfl, S5, F5, hkeys5, _⟩ := hR
  have F4 := hFA.sys S4 (fun e he => .inl (show e.1 ∈ [g12, g9, gm, g2] from List.mem_map.2 ⟨e, he, rfl⟩))
  have S5' := S4.turned 2 rfl rfl S5
  refine ⟨_, w5, S5'.rebase (List.Sublist.refl _), ?_⟩
  have B5 := hBW.trans S5'.toBelow
  have F6 := (F4.sys S5 (fun e he => .inl (by rw [List.mem_singleton.1 he]; simp))).hold (x := hMemG gm t (kvs ++ new)) (ok := Free w5 gm ks2 []) ((hMem t (kvs ++ new)).mono (F5.held (hMem t (kvs ++ new)) (.head _)) fun j hj => ⟨hj.1, hj⟩) (fun j hj => ⟨Nat.le_trans hgm1 hj.1, hj.2.1, (hin2 j hj.2.2.1).1, fun x hx => by rw [List.mem_singleton.1 hx]; exact (hin2 j hj.2.2.1).2⟩)
  have hk5 : ∀ x, x ∈ [g12, g9, gm, g2] → x < w5.heap.size := fun x hx => S5'.keyLt x hx
  clear F4 S5' F5 S5 S4 hFA hkW
  obtain ⟨co, hco⟩ : ∃ co, co = fdC (t.rest (t.n - k) s b) := ⟨_, rfl⟩
  simp only [tailV, tailC]
  rw [← hco]
  have hl6 : l.length ≤ 6 := by omega
  repeat (first | (refine M0 ?_; first | refine O0 ?_ | refine z1 tok rfl ?_ | refine O1 rfl ?_ rfl | refine O2 rfl ?_ | refine O3 rfl ?_ rfl | refine O4 rfl rfl rfl (fun _ _ => ?_) | refine O5 tok rfl rfl rfl (fun _ _ => ?_) | refine U0 _ (U2 rfl) rfl ?_ | refine U0 _ (U3 tok rfl rfl rfl rfl rfl) rfl ?_ | refine z3 tok rfl ?_ | refine U0 _ (U4 rfl rfl) rfl ?_ | refine U0 _ (U5 rfl rfl) rfl ?_ | refine XL.buildSlice tok rfl rfl rfl rfl rfl rfl rfl rfl rfl (fun _ _ => ?_)) | (refine M1 ?_; first | refine J0 ?_ | refine J1 ?_ | refine J4 ?_ | refine J5 ?_ | refine J6 ?_ | refine J7 ?_ | refine J8 rfl ?_ | refine J9 rfl ?_) | (refine M2 ?_; first | refine I0 ?_ | refine I1 ?_ | refine I2 ?_ | refine I3 ?_ | refine I4 ?_ | refine I5 ?_ | refine I6 rfl ?_ | refine I7 ?_ | refine I8 ?_ | refine z4 ?_) | (refine M3 ?_; first | refine O6 ?_ | refine z2 tok rfl ?_ | refine O8 rfl ?_ | refine O7 rfl ?_ rfl | refine O9 rfl ?_ rfl | refine U1 _ (U4 rfl rfl) rfl ?_ | refine U1 _ (U5 rfl rfl) rfl ?_ | refine U1 _ (U2 rfl) rfl ?_ | refine U1 _ (U3 tok rfl rfl rfl rfl rfl) rfl ?_) | (refine M4 ?_; first | refine M6 ?_ | refine U6 rfl (by kernel_rfl) ?_ | refine U7 (by kernel_rfl) ?_) | (refine M5 ?_; first | exact M7 | refine U8 rfl ?_ | refine U9 rfl rfl ?_ ?_))
  refine XL.push (K := winK) (a := co) (wE := w) 0 ints_el6 (by decide) rfl rfl rfl F6 rfl hk5 B5 (Nat.le_refl _) rfl (by omega) (by decide) (fun x hx => by cases hx) (fun w7 v7 hF7 hB7 hk7 => ?_)
  obtain ⟨r7, rfl, hn7⟩ := hF7.sv (K := winK) (l := l ++ [co]) (.head _)
  simp only [svV]
  repeat (first | (refine M0 ?_; first | refine O0 ?_ | refine z1 tok rfl ?_ | refine O1 rfl ?_ rfl | refine O2 rfl ?_ | refine O3 rfl ?_ rfl | refine O4 rfl rfl rfl (fun _ _ => ?_) | refine O5 tok rfl rfl rfl (fun _ _ => ?_) | refine U0 _ (U2 rfl) rfl ?_ | refine U0 _ (U3 tok rfl rfl rfl rfl rfl) rfl ?_ | refine z3 tok rfl ?_ | refine U0 _ (U4 rfl rfl) rfl ?_ | refine U0 _ (U5 rfl rfl) rfl ?_) | (refine M1 ?_; first | refine J0 ?_ | refine J1 ?_ | refine J4 ?_ | refine J5 ?_ | refine J6 ?_ | refine J7 ?_ | refine J8 rfl ?_ | refine J9 rfl ?_) | (refine M2 ?_; first | refine I0 ?_ | refine I1 ?_ | refine I2 ?_ | refine I3 ?_ | refine I4 ?_ | refine I5 ?_ | refine I6 rfl ?_ | refine I7 ?_ | refine I8 ?_ | refine z4 ?_) | (refine M3 ?_; first | refine O6 ?_ | refine z2 tok rfl ?_ | refine O8 rfl ?_ | refine O7 rfl ?_ rfl | refine O9 rfl ?_ rfl | refine U1 _ (U4 rfl rfl) rfl ?_ | refine U1 _ (U5 rfl rfl) rfl ?_ | refine U1 _ (U2 rfl) rfl ?_ | refine U1 _ (U3 tok rfl rfl rfl rfl rfl) rfl ?_) | (refine M4 ?_; first | refine M6 ?_ | refine U6 rfl (by kernel_rfl) ?_ | refine U7 (by kernel_rfl) ?_) | (refine M5 ?_; first | exact M7 | refine U8 rfl ?_ | refine U9 rfl rfl ?_ ?_))
  refine XC.drawRS _ [(g12, cel 66 [.int .i64 d1.s.vol, .slice q1.A q1.n q1.c, .int .i64 d1.out, .int .i64 d1.energy, .int .i64 d1.cost])] [0, 1, 2, 3, 4, 5] [6, 7] mixed (fun _ h => Sys.anchor2 (by assumption) h (by repeat (first | exact List.Sublist.refl _ | exact List.nil_sublist _ | refine List.Sublist.cons_cons _ ?_ | refine List.Sublist.cons _ ?_))) rfl (by kernel_rfl) ?_
  repeat (any_goals (first | (refine M0 ?_; first | refine O0 ?_ | refine z1 tok rfl ?_ | refine O1 rfl ?_ rfl | refine O2 rfl ?_ | refine O3 rfl ?_ rfl | refine U0 _ (Ev.load_old tok rfl rfl (add_lt hlp) hcell) rfl ?_ | refine O4 rfl rfl rfl (fun _ _ => ?_) | refine O5 tok rfl rfl rfl (fun _ _ => ?_) | refine U0 _ (U2 rfl) rfl ?_ | refine U0 _ (U3 tok rfl rfl rfl rfl rfl) rfl ?_ | refine z3 tok rfl ?_ | refine U0 _ (U4 rfl rfl) rfl ?_ | refine U0 _ (U5 rfl rfl) rfl ?_) | (refine M1 ?_; first | refine J0 ?_ | refine J1 ?_ | refine J4 ?_ | refine J5 ?_ | refine J6 ?_ | refine J7 ?_ | refine J8 rfl ?_ | refine J9 rfl ?_) | (refine M2 ?_; first | refine I0 ?_ | refine I1 ?_ | refine I2 ?_ | refine I3 ?_ | refine I4 ?_ | refine I5 ?_ | refine I6 rfl ?_ | refine I7 ?_ | refine I8 ?_ | refine z4 ?_) | (refine M3 ?_; first | refine O6 ?_ | refine z2 tok rfl ?_ | refine O8 rfl ?_ | refine O7 rfl ?_ rfl | refine O9 rfl ?_ rfl | refine U1 _ (Ev.load_old tok rfl rfl (add_lt hlp) hcell) rfl ?_ | refine U1 _ (U4 rfl rfl) rfl ?_ | refine U1 _ (U5 rfl rfl) rfl ?_ | refine U1 _ (U2 rfl) rfl ?_ | refine U1 _ (U3 tok rfl rfl rfl rfl rfl) rfl ?_) | (refine M4 ?_; first | refine M6 ?_ | refine U6 rfl (by kernel_rfl) ?_ | refine U7 (by kernel_rfl) ?_) | (refine M5 ?_; first | exact M7 | refine U8 rfl ?_ | refine U9 rfl rfl ?_ ?_)))
  any_goals (repeat (first | exact AnyR.nil | refine AnyR.skip rfl ?_))
  all_goals
    refine XE.roundW (s := LsSt.mk k W rl sq bq s b l kvs) (fun w8 S8 => ⟨LsSt.mk (k + 1) w8 r7 q1 oq d1.s on (l ++ [co]) (kvs ++ new), ⟨hkn, hB7.trans S8.toBelow, ?_, fun x hx => S8.keyLt x (by simp only [List.map_cons, List.map_nil, List.mem_cons, List.not_mem_nil, or_false] at hx ⊢; omega), hkeys5, hon, honl, hsta', ?_, ?_, by simp [hlen]⟩, by simp only; omega, (by repeat (first | exact Sub.nil | refine Sub.cons rfl ?_)), S8.rebase (by repeat (first | exact List.Sublist.refl _ | exact List.nil_sublist _ | refine List.Sublist.cons _ ?_))⟩)
    · have F8 := (hF7.sys S8 (by intro e he; repeat (first | (cases he; done) | (rcases List.mem_cons.1 he with rfl | he; · first | (right; assumption) | (left; simp <;> fail))))).add (ks' := [g9, gm, g2]) (fun x hx => .inl (List.mem_append_right _ (.tail _ hx)))
      have h9 := F8.held (hList donK ⟨some aq, ds.length, cq⟩ ds) (by simp)
      have h8 : IntsAt w8 _ q1 d1.s.fil := h9.ins (q1, d1) (by rw [hqd]; exact List.getElem_mem hkd) (hInts q1 d1.s.fil) (.head _)
      refine Fam.forget (F8.hold (x := hMix w q1 d1.s.fil) (ok := Free w8 w.heap.size [g9, gm, g2] _) (.inr h8) (fun j hj => hj)) (fun x hx => ?_)
      simp only [List.mem_cons, List.not_mem_nil, or_false] at hx ⊢
      rcases hx with rfl | rfl | rfl | rfl <;> simp
    · exact Prod.ext hd4.symm hd1
    · rw [← hlst]
      simp only [RTk.lst, List.append_assoc, List.cons_append, List.nil_append]
      rw [← hco, ← hd3]
end Go.Proofs.Ytmodjcegmgjhoaa.X
/-
  The law RunoffStages.
-/
namespace Go.Proofs.Ytmodjcegmgjhoaa.Bs
open Go.Proofs.Ytmodjcegmgjhoaa.X
section
variable {t : RTk}
theorem at0_z (a : Int) (l : List Int) : at0 (a :: l) 0 = a := rfl
theorem at0_s (a : Int) (l : List Int) (m : Nat) : at0 (a :: l) (m + 1) = at0 l m := rfl
/-- along what Best finds. -/
theorem lst_best : ∀ {k : Nat} {s : Sta} {b : List Bool} {c : Int} {p : Plan}, k ≤ t.n → t.rest k s b = some (c, p) → ∀ m, m ≤ k → at0 (t.lst (t.n - k) s b p) m = c - costs ((t.flw (t.n - k) s b p).1.take m) := by
  intro k
  induction k with
  | zero =>
    intro s b c p _ h m hm
    cases h
    have : m = 0 := by omega
    subst this
    rfl
  | succ k ih =>
    intro s b c p hk h m hm
    obtain ⟨on, p', rfl, h0, h1⟩ := rest_next h
    have e1 : t.n - (t.n - (k + 1)) = k + 1 := by omega
    have e2 : t.n - (k + 1) + 1 = t.n - k := by omega
    unfold RTk.lst
    rw [e1, h, flw_cons_of h0, e2]
    cases m with
    | zero => rw [at0_z, List.take_zero, costs_nil]; simp [fdC]
    | succ m =>
      rw [at0_s, ih (by omega) h1 m (by omega), List.take_succ_cons, costs_cons]
      omega
theorem good_tail {k : Nat} {s : Sta} {b on : List Bool} {r : Plan} (hk : k + 1 ≤ t.n) (g : GoodP t (k + 1) s b (on :: r)) : t.doE s (t.n - (k + 1)) b on = 0 ∧ GoodP t k (t.doD s (t.n - (k + 1)) b on).s on r := by
  obtain ⟨h1, h2, _⟩ := flw_cons g.ok
  have e2 : t.n - (k + 1) + 1 = t.n - k := by omega
  rw [e2] at h2
  exact ⟨h1, by have := g.len; simp at this; exact this, fun x hx => g.row x (.tail _ hx), h2⟩
/-- along a good plan. -/
theorem lst_good (ho : RtOk t) : ∀ {k : Nat} {s : Sta} {b : List Bool} {q : Plan}, k ≤ t.n → StaOk t.b s → GoodP t k s b q →
    at0 (t.lst (t.n - k) s b q) 0 = fdC (t.rest k s b) ∧ (∀ m, m < k → at0 (t.lst (t.n - k) s b q) m ≤ at0 ((t.flw (t.n - k) s b q).1.map (·.cost)) m + at0 (t.lst (t.n - k) s b q) (m + 1) ∧ 0 ≤ at0 (t.lst (t.n - k) s b q) (m + 1) ∧ at0 (t.lst (t.n - k) s b q) (m + 1) ≤ 2000000000000000) ∧ at0 (t.lst (t.n - k) s b q) k = 0 := by
  intro k
  induction k with
  | zero =>
    intro s b q _ _ g
    have := g.len
    cases q with
    | nil => exact ⟨rfl, fun m hm => by omega, rfl⟩
    | cons x l => cases this
  | succ k ih =>
    intro s b q hk hs g
    cases q with
    | nil => have := g.len; cases this
    | cons on r =>
      obtain ⟨h0, g'⟩ := good_tail hk g
      have hn : t.n = t.outer.length := rfl
      obtain ⟨a1, a2, a3, _⟩ := do_sta ho hs (show t.n - (k + 1) < t.outer.length by omega) h0
      obtain ⟨i1, i2, i3⟩ := ih (by omega) a1 g'
      obtain ⟨c, p, b1, b2, _⟩ := rest_least hk g
      obtain ⟨c', p', b3, b4, _⟩ := rest_least (Nat.le_of_succ_le hk) g'
      obtain ⟨c9, p9, d1, d2, _⟩ := rest_least (t := t) (k := k + 1) (s := s) (before := b) (q := on :: p') hk ⟨by rw [List.length_cons, (rest_good (Nat.le_of_succ_le hk) b3).1.len], fun x hx => by
        rcases List.mem_cons.1 hx with rfl | hx
        · exact g.row _ (.head _)
        · exact (rest_good (Nat.le_of_succ_le hk) b3).1.row x hx, by
        have e2 : t.n - (k + 1) + 1 = t.n - k := by omega
        rw [flw_cons_of h0, e2]
        exact (rest_good (Nat.le_of_succ_le hk) b3).1.ok⟩
      have e1 : t.n - (t.n - (k + 1)) = k + 1 := by omega
      have e2 : t.n - (k + 1) + 1 = t.n - k := by omega
      rw [b1] at d1
      cases d1
      rw [flw_cons_of h0, e2, costs_cons, (rest_good (Nat.le_of_succ_le hk) b3).2] at d2
      have hb := rest_bd ho (Nat.le_of_succ_le hk) a1 b3
      have h6 : (k : Int) ≤ 6 := by have := ho.n6; unfold RTk.n at hk; omega
      unfold RTk.lst
      rw [e1, b1, flw_cons_of h0, e2, List.map_cons]
      rw [b3] at i1
      simp only [fdC, Option.map_some, Option.getD_some] at i1 ⊢
      refine ⟨rfl, fun m hm => ?_, ?_⟩
      · cases m with
        | zero => rw [at0_z, at0_z, at0_s, i1]; omega
        | succ m => rw [at0_s, at0_s, at0_s]; exact i2 m (by omega)
      · rw [at0_s]; exact i3
end
end Go.Proofs.Ytmodjcegmgjhoaa.Bs
namespace Go.Proofs.Ytmodjcegmgjhoaa.X
open Go Go.RowKit Go.Proofs.Ytmodjcegmgjhoaa.Bs
set_option linter.unusedVariables false
def leftN (n : Int) (dl : List Done) : Nat → Int
  | 0 => n
  | k + 1 => n - costs (dl.take (k + 1))
theorem leftN_eq (n : Int) (dl : List Done) (k : Nat) : leftN n dl k = n - costs (dl.take k) := by
  cases k with
  | zero => simp [leftN, costs_nil]
  | succ k => rfl
set_option maxHeartbeats 16000000 in
theorem RunoffStages_any {v : RTV} {t : RTk} {pq : SV} {es : List (SV × List Bool)} {w : World} (ht : TskAt w w.heap.size v t) (hn : t.slu.length + t.pmp.length ≤ 5000000) (hno : t.outer.length ≤ 5000000) (hp : ListAt plnK w (Lt w.heap.size) pq es) :
    Calls Try.prog 11 #[tskV v t, svV pq] w fun e w' => e = .returned (.bool true) ∧ Below w.heap.size w w' := by
  have hat := fun (w5 : World) (hB : Below w.heap.size w w5) => ht.sys (Sys.ofBelow hB)
  have hpt : ∀ (w5 : World), Below w.heap.size w w5 → ListAt plnK w5 (Lt w5.heap.size) pq es := fun w5 hB => (hp.keep fun k hk => hB.block k hk).mono fun k hk => Nat.lt_of_lt_of_le hk hB.size
  have h2 := fun (w5 : World) (hB : Below w.heap.size w w5) => Great_any (hat w5 hB) hn hno
  have h3 := fun (w5 : World) (hB : Below w.heap.size w w5) => Best_made (hat w5 hB) hn
  have h4 := fun (w5 : World) (hB : Below w.heap.size w w5) => Least_made (p := es.map (·.2)) (hat w5 hB) hn (hpt w5 hB) rfl
  have h5 := fun (w5 : World) (hB : Below w.heap.size w w5) => Do_made (p := es.map (·.2)) (hat w5 hB) hn (hpt w5 hB) rfl
  have h6 := fun (w5 : World) (hB : Below w.heap.size w w5) {q : SV} {fs : List (SV × List Bool)} (hq : ListAt plnK w5 (Lt w5.heap.size) q fs) => Least_made (p := fs.map (·.2)) (hat w5 hB) hn hq rfl
  have h7 := fun (w5 : World) (hB : Below w.heap.size w w5) {q : SV} {fs : List (SV × List Bool)} (hq : ListAt plnK w5 (Lt w5.heap.size) q fs) => Do_made (p := fs.map (·.2)) (hat w5 hB) hn hq rfl
  have haw := fun {L : Lo} {W : World} (w5 : World) (S5 : Sys w.heap.size W L w5) => Awake_any (w := w5)
  have lo := ht.outer.len
  have hnn : t.n = t.outer.length := rfl
  simp only [tskV, tskC, svV] at h2 h3 h4 h5 h6 h7 ⊢
  refine enter Try.func11 rfl Try.ntmps11 rfl ?_; simp only [frame, Nat.zero_add, Nat.reduceAdd]
  repeat (first | (refine M0 ?_; first | refine O0 ?_ | refine z1 tok rfl ?_ | refine O1 rfl ?_ rfl | refine O2 rfl ?_ | refine O3 rfl ?_ rfl | refine U0 _ (Ev.call (f := 20) (ck rfl) rfl (fun w5 S5 => h2 w5 S5.toBelow)) rfl ?_ | refine O4 rfl rfl rfl (fun _ _ => ?_) | refine O5 tok rfl rfl rfl (fun _ _ => ?_) | refine U0 _ (U2 rfl) rfl ?_ | refine U0 _ (U3 tok rfl rfl rfl rfl rfl) rfl ?_ | refine z3 tok rfl ?_ | refine U0 _ (U4 rfl rfl) rfl ?_ | refine U0 _ (U5 rfl rfl) rfl ?_) | (refine M1 ?_; first | refine J0 ?_ | refine J1 ?_ | refine J4 ?_ | refine J5 ?_ | refine J6 ?_ | refine J7 ?_ | refine J8 rfl ?_ | refine J9 rfl ?_) | (refine M2 ?_; first | refine I0 ?_ | refine I1 ?_ | refine I2 ?_ | refine I3 ?_ | refine I4 ?_ | refine I5 ?_ | refine I6 rfl ?_ | refine I7 ?_ | refine I8 ?_ | refine z4 ?_) | (refine M3 ?_; first | refine O6 ?_ | refine z2 tok rfl ?_ | refine O8 rfl ?_ | refine O7 rfl ?_ rfl | refine O9 rfl ?_ rfl | refine U1 _ (Ev.call (f := 20) (ck rfl) rfl (fun w5 S5 => h2 w5 S5.toBelow)) rfl ?_ | refine U1 _ (U4 rfl rfl) rfl ?_ | refine U1 _ (U5 rfl rfl) rfl ?_ | refine U1 _ (U2 rfl) rfl ?_ | refine U1 _ (U3 tok rfl rfl rfl rfl rfl) rfl ?_) | (refine M4 ?_; first | refine M6 ?_ | refine U6 rfl (by kernel_rfl) ?_ | refine U7 (by kernel_rfl) ?_) | (refine M5 ?_; first | exact M7 | refine U8 rfl ?_ | refine U9 rfl rfl ?_ ?_))
  rename_i g2 hg2
  cases hG : greatB t with
  | true =>
    repeat (first | (refine M0 ?_; first | refine O0 ?_ | refine z1 tok rfl ?_ | refine O1 rfl ?_ rfl | refine O2 rfl ?_ | refine O3 rfl ?_ rfl | refine U0 _ (Ev.call (f := 19) (ck rfl) rfl (fun w5 S5 => haw w5 S5)) rfl ?_ | refine O4 rfl rfl rfl (fun _ _ => ?_) | refine O5 tok rfl rfl rfl (fun _ _ => ?_) | refine U0 _ (U2 rfl) rfl ?_ | refine U0 _ (U3 tok rfl rfl rfl rfl rfl) rfl ?_ | refine z3 tok rfl ?_ | refine U0 _ (U4 rfl rfl) rfl ?_ | refine U0 _ (U5 rfl rfl) rfl ?_) | (refine M1 ?_; first | refine J0 ?_ | refine J1 ?_ | refine J4 ?_ | refine J5 ?_ | refine J6 ?_ | refine J7 ?_ | refine J8 rfl ?_ | refine J9 rfl ?_) | (refine M2 ?_; first | refine I0 ?_ | refine I1 ?_ | refine I2 ?_ | refine I3 ?_ | refine I4 ?_ | refine I5 ?_ | refine I6 rfl ?_ | refine I7 ?_ | refine I8 ?_ | refine z4 ?_) | (refine M3 ?_; first | refine O6 ?_ | refine z2 tok rfl ?_ | refine O8 rfl ?_ | refine O7 rfl ?_ rfl | refine O9 rfl ?_ rfl | refine U1 _ (Ev.call (f := 19) (ck rfl) rfl (fun w5 S5 => haw w5 S5)) rfl ?_ | refine U1 _ (U4 rfl rfl) rfl ?_ | refine U1 _ (U5 rfl rfl) rfl ?_ | refine U1 _ (U2 rfl) rfl ?_ | refine U1 _ (U3 tok rfl rfl rfl rfl rfl) rfl ?_) | (refine M4 ?_; first | refine M6 ?_ | refine U6 rfl (by kernel_rfl) ?_ | refine U7 (by kernel_rfl) ?_) | (refine M5 ?_; first | exact M7 | refine U8 rfl ?_ | refine U9 rfl rfl ?_ ?_))
    refine XE.retg tok Try.results11 rfl (by simp only [and_self, and_true]) (fun w' S => ?_)
    exact ⟨rfl, S.toBelow⟩
  | false =>
  repeat (first | (refine M0 ?_; first | refine O0 ?_ | refine z1 tok rfl ?_ | refine O1 rfl ?_ rfl | refine O2 rfl ?_ | refine O3 rfl ?_ rfl | refine O4 rfl rfl rfl (fun _ _ => ?_) | refine O5 tok rfl rfl rfl (fun _ _ => ?_) | refine U0 _ (U2 rfl) rfl ?_ | refine U0 _ (U3 tok rfl rfl rfl rfl rfl) rfl ?_ | refine z3 tok rfl ?_ | refine U0 _ (U4 rfl rfl) rfl ?_ | refine U0 _ (U5 rfl rfl) rfl ?_) | (refine M1 ?_; first | refine J0 ?_ | refine J1 ?_ | refine J4 ?_ | refine J5 ?_ | refine J6 ?_ | refine J7 ?_ | refine J8 rfl ?_ | refine J9 rfl ?_) | (refine M2 ?_; first | refine I0 ?_ | refine I1 ?_ | refine I2 ?_ | refine I3 ?_ | refine I4 ?_ | refine I5 ?_ | refine I6 rfl ?_ | refine I7 ?_ | refine I8 ?_ | refine z4 ?_) | (refine M3 ?_; first | refine O6 ?_ | refine z2 tok rfl ?_ | refine O8 rfl ?_ | refine O7 rfl ?_ rfl | refine O9 rfl ?_ rfl | refine U1 _ (U4 rfl rfl) rfl ?_ | refine U1 _ (U5 rfl rfl) rfl ?_ | refine U1 _ (U2 rfl) rfl ?_ | refine U1 _ (U3 tok rfl rfl rfl rfl rfl) rfl ?_) | (refine M4 ?_; first | refine M6 ?_ | refine U6 rfl (by kernel_rfl) ?_ | refine U7 (by kernel_rfl) ?_) | (refine M5 ?_; first | exact M7 | refine U8 rfl ?_ | refine U9 rfl rfl ?_ ?_))
  refine XL.rebase (List.Sublist.refl _) (fun W0 S0 => ?_)
  refine XL.callF (ks := [g2]) (rs := []) (hs := []) (b0 := w.heap.size) (wE := w) (BestV t) (ck rfl) rfl rfl (Fam.start S0.size) (fun k hk => S0.keyLt k hk) S0.toBelow (fun w1 S1 _ hB1 => h3 w1 hB1) (fun w2 x new hR hF2 hB2 hk2 => ?_) (by intro e he; repeat (first | (cases he; done) | (rcases List.mem_cons.1 he with rfl | he; · first | (right; assumption) | (left; simp <;> fail))))
  obtain ⟨q, rfl, rfl⟩ := hR
  simp only [svV]
  obtain ⟨pl, hpl⟩ : ∃ pl, pl = es.map (·.2) := ⟨_, rfl⟩
  rw [← hpl] at h4 h5
  by_cases hne : bstE t = 0
  rotate_left
  · have hcp : costE t pl ≠ 0 := fun h => hne (by
      obtain ⟨n, p, k1, _⟩ := best_least h
      exact (bst_some (costE_0 h).1 k1).2)
    repeat (first | (refine M0 ?_; first | refine O0 ?_ | refine z1 tok rfl ?_ | refine O1 rfl ?_ rfl | refine O2 rfl ?_ | refine O3 rfl ?_ rfl | refine O4 rfl rfl rfl (fun _ _ => ?_) | refine O5 tok rfl rfl rfl (fun _ _ => ?_) | refine U0 _ (U2 rfl) rfl ?_ | refine U0 _ (U3 tok rfl rfl rfl rfl rfl) rfl ?_ | refine z3 tok rfl ?_ | refine U0 _ (U4 rfl rfl) rfl ?_ | refine U0 _ (U5 rfl rfl) rfl ?_) | (refine M1 ?_; first | refine J0 ?_ | refine J1 ?_ | refine J4 ?_ | refine J5 ?_ | refine J6 ?_ | refine J7 ?_ | refine J8 rfl ?_ | refine J9 rfl ?_) | (refine M2 ?_; first | refine I0 ?_ | refine I1 ?_ | refine I2 ?_ | refine I3 ?_ | refine I4 ?_ | refine I5 ?_ | refine I6 rfl ?_ | refine I7 ?_ | refine I8 ?_ | refine z4 ?_) | (refine M3 ?_; first | refine O6 ?_ | refine z2 tok rfl ?_ | refine O8 rfl ?_ | refine O7 rfl ?_ rfl | refine O9 rfl ?_ rfl | refine U1 _ (U4 rfl rfl) rfl ?_ | refine U1 _ (U5 rfl rfl) rfl ?_ | refine U1 _ (U2 rfl) rfl ?_ | refine U1 _ (U3 tok rfl rfl rfl rfl rfl) rfl ?_) | (refine M4 ?_; first | refine M6 ?_ | refine U6 rfl (by kernel_rfl) ?_ | refine U7 (by kernel_rfl) ?_) | (refine M5 ?_; first | exact M7 | refine U8 rfl ?_ | refine U9 rfl rfl ?_ ?_))
    refine XC.cond _ rfl (fun h1 => absurd (by simpa using h1) hne) (fun h1 => ?_)
    repeat (first | (refine M0 ?_; first | refine O0 ?_ | refine z1 tok rfl ?_ | refine O1 rfl ?_ rfl | refine O2 rfl ?_ | refine O3 rfl ?_ rfl | refine O4 rfl rfl rfl (fun _ _ => ?_) | refine O5 tok rfl rfl rfl (fun _ _ => ?_) | refine U0 _ (U2 rfl) rfl ?_ | refine U0 _ (U3 tok rfl rfl rfl rfl rfl) rfl ?_ | refine z3 tok rfl ?_ | refine U0 _ (U4 rfl rfl) rfl ?_ | refine U0 _ (U5 rfl rfl) rfl ?_) | (refine M1 ?_; first | refine J0 ?_ | refine J1 ?_ | refine J4 ?_ | refine J5 ?_ | refine J6 ?_ | refine J7 ?_ | refine J8 rfl ?_ | refine J9 rfl ?_) | (refine M2 ?_; first | refine I0 ?_ | refine I1 ?_ | refine I2 ?_ | refine I3 ?_ | refine I4 ?_ | refine I5 ?_ | refine I6 rfl ?_ | refine I7 ?_ | refine I8 ?_ | refine z4 ?_) | (refine M3 ?_; first | refine O6 ?_ | refine z2 tok rfl ?_ | refine O8 rfl ?_ | refine O7 rfl ?_ rfl | refine O9 rfl ?_ rfl | refine U1 _ (U4 rfl rfl) rfl ?_ | refine U1 _ (U5 rfl rfl) rfl ?_ | refine U1 _ (U2 rfl) rfl ?_ | refine U1 _ (U3 tok rfl rfl rfl rfl rfl) rfl ?_) | (refine M4 ?_; first | refine M6 ?_ | refine U6 rfl (by kernel_rfl) ?_ | refine U7 (by kernel_rfl) ?_) | (refine M5 ?_; first | exact M7 | refine U8 rfl ?_ | refine U9 rfl rfl ?_ ?_))
    refine XL.callF (wE := w) (LstV t pl) (ck rfl) rfl rfl hF2 hk2 hB2 (fun w1 S1 _ hB1 => h4 w1 hB1) (fun w3 x new hR hF3 hB3 hk3 => ?_) (by intro e he; repeat (first | (cases he; done) | (rcases List.mem_cons.1 he with rfl | he; · first | (right; assumption) | (left; simp <;> fail))))
    obtain ⟨q3, rfl, rfl⟩ := hR
    simp only [svV]
    repeat (first | (refine M0 ?_; first | refine O0 ?_ | refine z1 tok rfl ?_ | refine O1 rfl ?_ rfl | refine O2 rfl ?_ | refine O3 rfl ?_ rfl | refine O4 rfl rfl rfl (fun _ _ => ?_) | refine O5 tok rfl rfl rfl (fun _ _ => ?_) | refine U0 _ (U2 rfl) rfl ?_ | refine U0 _ (U3 tok rfl rfl rfl rfl rfl) rfl ?_ | refine z3 tok rfl ?_ | refine U0 _ (U4 rfl rfl) rfl ?_ | refine U0 _ (U5 rfl rfl) rfl ?_) | (refine M1 ?_; first | refine J0 ?_ | refine J1 ?_ | refine J4 ?_ | refine J5 ?_ | refine J6 ?_ | refine J7 ?_ | refine J8 rfl ?_ | refine J9 rfl ?_) | (refine M2 ?_; first | refine I0 ?_ | refine I1 ?_ | refine I2 ?_ | refine I3 ?_ | refine I4 ?_ | refine I5 ?_ | refine I6 rfl ?_ | refine I7 ?_ | refine I8 ?_ | refine z4 ?_) | (refine M3 ?_; first | refine O6 ?_ | refine z2 tok rfl ?_ | refine O8 rfl ?_ | refine O7 rfl ?_ rfl | refine O9 rfl ?_ rfl | refine U1 _ (U4 rfl rfl) rfl ?_ | refine U1 _ (U5 rfl rfl) rfl ?_ | refine U1 _ (U2 rfl) rfl ?_ | refine U1 _ (U3 tok rfl rfl rfl rfl rfl) rfl ?_) | (refine M4 ?_; first | refine M6 ?_ | refine U6 rfl (by kernel_rfl) ?_ | refine U7 (by kernel_rfl) ?_) | (refine M5 ?_; first | exact M7 | refine U8 rfl ?_ | refine U9 rfl rfl ?_ ?_))
    refine XL.callF (wE := w) (DoV2 t pl) (ck rfl) rfl rfl hF3 hk3 hB3 (fun w1 S1 _ hB1 => h5 w1 hB1) (fun w4 x new hR hF4 hB4 hk4 => ?_) (by intro e he; repeat (first | (cases he; done) | (rcases List.mem_cons.1 he with rfl | he; · first | (right; assumption) | (left; simp <;> fail))))
    obtain ⟨q4, ds, rfl, _, rfl⟩ := hR
    simp only [svV]
    repeat (first | (refine M0 ?_; first | refine O0 ?_ | refine z1 tok rfl ?_ | refine O1 rfl ?_ rfl | refine O2 rfl ?_ | refine O3 rfl ?_ rfl | refine O4 rfl rfl rfl (fun _ _ => ?_) | refine O5 tok rfl rfl rfl (fun _ _ => ?_) | refine U0 _ (U2 rfl) rfl ?_ | refine U0 _ (U3 tok rfl rfl rfl rfl rfl) rfl ?_ | refine z3 tok rfl ?_ | refine U0 _ (U4 rfl rfl) rfl ?_ | refine U0 _ (U5 rfl rfl) rfl ?_) | (refine M1 ?_; first | refine J0 ?_ | refine J1 ?_ | refine J4 ?_ | refine J5 ?_ | refine J6 ?_ | refine J7 ?_ | refine J8 rfl ?_ | refine J9 rfl ?_) | (refine M2 ?_; first | refine I0 ?_ | refine I1 ?_ | refine I2 ?_ | refine I3 ?_ | refine I4 ?_ | refine I5 ?_ | refine I6 rfl ?_ | refine I7 ?_ | refine I8 ?_ | refine z4 ?_) | (refine M3 ?_; first | refine O6 ?_ | refine z2 tok rfl ?_ | refine O8 rfl ?_ | refine O7 rfl ?_ rfl | refine O9 rfl ?_ rfl | refine U1 _ (U4 rfl rfl) rfl ?_ | refine U1 _ (U5 rfl rfl) rfl ?_ | refine U1 _ (U2 rfl) rfl ?_ | refine U1 _ (U3 tok rfl rfl rfl rfl rfl) rfl ?_) | (refine M4 ?_; first | refine M6 ?_ | refine U6 rfl (by kernel_rfl) ?_ | refine U7 (by kernel_rfl) ?_) | (refine M5 ?_; first | exact M7 | refine U8 rfl ?_ | refine U9 rfl rfl ?_ ?_))
    refine XC.cond _ rfl (fun h8 => ?_) (fun h8 => absurd (by simpa using h8) hcp)
    repeat (first | (refine M0 ?_; first | refine O0 ?_ | refine z1 tok rfl ?_ | refine O1 rfl ?_ rfl | refine O2 rfl ?_ | refine O3 rfl ?_ rfl | refine U0 _ (Ev.call (f := 19) (ck rfl) rfl (fun w5 S5 => haw w5 S5)) rfl ?_ | refine O4 rfl rfl rfl (fun _ _ => ?_) | refine O5 tok rfl rfl rfl (fun _ _ => ?_) | refine U0 _ (U2 rfl) rfl ?_ | refine U0 _ (U3 tok rfl rfl rfl rfl rfl) rfl ?_ | refine z3 tok rfl ?_ | refine U0 _ (U4 rfl rfl) rfl ?_ | refine U0 _ (U5 rfl rfl) rfl ?_) | (refine M1 ?_; first | refine J0 ?_ | refine J1 ?_ | refine J4 ?_ | refine J5 ?_ | refine J6 ?_ | refine J7 ?_ | refine J8 rfl ?_ | refine J9 rfl ?_) | (refine M2 ?_; first | refine I0 ?_ | refine I1 ?_ | refine I2 ?_ | refine I3 ?_ | refine I4 ?_ | refine I5 ?_ | refine I6 rfl ?_ | refine I7 ?_ | refine I8 ?_ | refine z4 ?_) | (refine M3 ?_; first | refine O6 ?_ | refine z2 tok rfl ?_ | refine O8 rfl ?_ | refine O7 rfl ?_ rfl | refine O9 rfl ?_ rfl | refine U1 _ (Ev.call (f := 19) (ck rfl) rfl (fun w5 S5 => haw w5 S5)) rfl ?_ | refine U1 _ (U4 rfl rfl) rfl ?_ | refine U1 _ (U5 rfl rfl) rfl ?_ | refine U1 _ (U2 rfl) rfl ?_ | refine U1 _ (U3 tok rfl rfl rfl rfl rfl) rfl ?_) | (refine M4 ?_; first | refine M6 ?_ | refine U6 rfl (by kernel_rfl) ?_ | refine U7 (by kernel_rfl) ?_) | (refine M5 ?_; first | exact M7 | refine U8 rfl ?_ | refine U9 rfl rfl ?_ ?_))
    refine XE.retg tok Try.results11 rfl (by simp only [and_self, and_true]) (fun w' S => ?_)
    exact ⟨rfl, hB4.trans S.toBelow⟩
  obtain ⟨n, p, hr0, hrest⟩ : ∃ n p, rtE t = 0 ∧ t.rest t.n t.s t.on = some (n, p) := by
    unfold bstE at hne
    split at hne
    · rename_i h1
      split at hne
      · rename_i h8
        obtain ⟨⟨n, p⟩, h9⟩ := Option.isSome_iff_exists.1 h8
        exact ⟨n, p, h1, h9⟩
      · cases hne
    · rename_i h1; exact absurd hne h1
  obtain ⟨e1, e2⟩ := bst_some hr0 hrest
  obtain ⟨c1, c2⟩ := best_cost hr0 hrest
  have ho := rtOk_of hr0
  have hn6 : t.n ≤ 6 := ho.n6
  obtain ⟨g0, gc⟩ := rest_good (Nat.le_refl _) hrest
  rw [Nat.sub_self] at gc
  have hlb := lst_best (Nat.le_refl _) hrest
  rw [Nat.sub_self] at hlb
  obtain ⟨_, d2, d3, _⟩ := costE_0 c1
  have d4 : folE t p = 0 := by unfold folE; rw [if_neg (by simp [hr0]), if_neg (by simp [d2])]
  have d5 : folL t p = (t.flw 0 t.s t.on p).1 := by unfold folL; rw [if_pos d4]
  have d6 : lstL t p = t.lst 0 t.s t.on p := by unfold lstL; rw [if_pos c1]
  have d7 : (t.flw 0 t.s t.on p).1.length = p.length := flw_len d3
  have d8 : (t.lst 0 t.s t.on p).length = p.length + 1 := lst_len
  have d9 : p.length = t.n := g0.len
  have dbd := (flw_bd ho (p := p) (i := 0) (s := t.s) (b := t.on) ho.sta (by rw [Nat.zero_add, d9]; exact Nat.le_refl _)).2
  have hP2 : PlanAt w2 _ q (fdP (bst t)) := hF2.held (hPlan q (fdP (bst t))) (.head _)
  obtain ⟨fs, hfs, hfp⟩ := hP2
  rw [e1, show fdP (some (n, p)) = p from rfl] at hfp
  have hfsw : ∀ {ks : List Nat} {hs : List Held} (w5 : World), Fam w5 w.heap.size ks [] hs → hPlan q (fdP (bst t)) ∈ hs → ∃ fs, ListAt plnK w5 (Lt w5.heap.size) q fs ∧ fs.map (·.2) = p := fun w5 hF hm => by
    obtain ⟨fs, a1, a2⟩ : PlanAt w5 _ q (fdP (bst t)) := hF.held (hPlan q (fdP (bst t))) hm
    rw [e1] at a2
    exact ⟨fs, a1.mono fun j hj => hj.2.1, a2⟩
  clear hfs hfp fs
  rw [e2, e1]
  simp only [fdC, Option.map_some, Option.getD_some]
  obtain ⟨Aq, nq, cq⟩ := q
  repeat (first | (refine M0 ?_; first | refine O0 ?_ | refine z1 tok rfl ?_ | refine O1 rfl ?_ rfl | refine O2 rfl ?_ | refine O3 rfl ?_ rfl | refine O4 rfl rfl rfl (fun _ _ => ?_) | refine O5 tok rfl rfl rfl (fun _ _ => ?_) | refine U0 _ (U2 rfl) rfl ?_ | refine U0 _ (U3 tok rfl rfl rfl rfl rfl) rfl ?_ | refine z3 tok rfl ?_ | refine U0 _ (U4 rfl rfl) rfl ?_ | refine U0 _ (U5 rfl rfl) rfl ?_) | (refine M1 ?_; first | refine J0 ?_ | refine J1 ?_ | refine J4 ?_ | refine J5 ?_ | refine J6 ?_ | refine J7 ?_ | refine J8 rfl ?_ | refine J9 rfl ?_) | (refine M2 ?_; first | refine I0 ?_ | refine I1 ?_ | refine I2 ?_ | refine I3 ?_ | refine I4 ?_ | refine I5 ?_ | refine I6 rfl ?_ | refine I7 ?_ | refine I8 ?_ | refine z4 ?_) | (refine M3 ?_; first | refine O6 ?_ | refine z2 tok rfl ?_ | refine O8 rfl ?_ | refine O7 rfl ?_ rfl | refine O9 rfl ?_ rfl | refine U1 _ (U4 rfl rfl) rfl ?_ | refine U1 _ (U5 rfl rfl) rfl ?_ | refine U1 _ (U2 rfl) rfl ?_ | refine U1 _ (U3 tok rfl rfl rfl rfl rfl) rfl ?_) | (refine M4 ?_; first | refine M6 ?_ | refine U6 rfl (by kernel_rfl) ?_ | refine U7 (by kernel_rfl) ?_) | (refine M5 ?_; first | exact M7 | refine U8 rfl ?_ | refine U9 rfl rfl ?_ ?_))
  refine XL.callF (wE := w) (LstV t p) (ck rfl) rfl rfl hF2 hk2 hB2 (fun w1 S1 hF1 hB1 => ?_) (fun w3 x new hR hF3 hB3 hk3 => ?_) (by intro e he; repeat (first | (cases he; done) | (rcases List.mem_cons.1 he with rfl | he; · first | (right; assumption) | (left; simp <;> fail))))
  · obtain ⟨fs, a1, a2⟩ := hfsw w1 hF1 (.head _)
    have := h6 w1 hB1 a1
    rw [a2] at this
    exact this
  obtain ⟨q3, rfl, rfl⟩ := hR
  rw [c1]
  simp only [svV]
  repeat (first | (refine M0 ?_; first | refine O0 ?_ | refine z1 tok rfl ?_ | refine O1 rfl ?_ rfl | refine O2 rfl ?_ | refine O3 rfl ?_ rfl | refine O4 rfl rfl rfl (fun _ _ => ?_) | refine O5 tok rfl rfl rfl (fun _ _ => ?_) | refine U0 _ (U2 rfl) rfl ?_ | refine U0 _ (U3 tok rfl rfl rfl rfl rfl) rfl ?_ | refine z3 tok rfl ?_ | refine U0 _ (U4 rfl rfl) rfl ?_ | refine U0 _ (U5 rfl rfl) rfl ?_) | (refine M1 ?_; first | refine J0 ?_ | refine J1 ?_ | refine J4 ?_ | refine J5 ?_ | refine J6 ?_ | refine J7 ?_ | refine J8 rfl ?_ | refine J9 rfl ?_) | (refine M2 ?_; first | refine I0 ?_ | refine I1 ?_ | refine I2 ?_ | refine I3 ?_ | refine I4 ?_ | refine I5 ?_ | refine I6 rfl ?_ | refine I7 ?_ | refine I8 ?_ | refine z4 ?_) | (refine M3 ?_; first | refine O6 ?_ | refine z2 tok rfl ?_ | refine O8 rfl ?_ | refine O7 rfl ?_ rfl | refine O9 rfl ?_ rfl | refine U1 _ (U4 rfl rfl) rfl ?_ | refine U1 _ (U5 rfl rfl) rfl ?_ | refine U1 _ (U2 rfl) rfl ?_ | refine U1 _ (U3 tok rfl rfl rfl rfl rfl) rfl ?_) | (refine M4 ?_; first | refine M6 ?_ | refine U6 rfl (by kernel_rfl) ?_ | refine U7 (by kernel_rfl) ?_) | (refine M5 ?_; first | exact M7 | refine U8 rfl ?_ | refine U9 rfl rfl ?_ ?_))
  refine XL.callF (wE := w) (DoV2 t p) (ck rfl) rfl rfl hF3 hk3 hB3 (fun w1 S1 hF1 hB1 => ?_) (fun w4 x new hR hF4 hB4 hk4 => ?_) (by intro e he; repeat (first | (cases he; done) | (rcases List.mem_cons.1 he with rfl | he; · first | (right; assumption) | (left; simp <;> fail))))
  · obtain ⟨fs, a1, a2⟩ := hfsw w1 hF1 (by simp)
    have := h7 w1 hB1 a1
    rw [a2] at this
    exact this
  obtain ⟨q4, ds, rfl, hds, rfl⟩ := hR
  rw [d4]
  rw [d6] at hF4
  rw [d5] at hds
  have hI4 : IntsAt w4 _ q3 (t.lst 0 t.s t.on p) := hF4.held (hInts q3 (t.lst 0 t.s t.on p)) (by simp)
  have hD4 : ListAt donK w4 _ q4 ds := hF4.held (hList donK q4 ds) (.head _)
  obtain ⟨A3, n3, c3⟩ := q3
  obtain ⟨A4, n4, c4⟩ := q4
  have l3 := hI4.len
  have l4 := hD4.len (by decide)
  simp only at l3 l4
  have l5 : ds.length = p.length := by rw [← d7, ← hds]; simp
  have l6 : v.o.n = p.length := by omega
  rw [l5] at l4
  rw [d8] at l3
  subst l3 l4
  simp only [svV]
  repeat (first | (refine M0 ?_; first | refine O0 ?_ | refine z1 tok rfl ?_ | refine O1 rfl ?_ rfl | refine O2 rfl ?_ | refine O3 rfl ?_ rfl | refine O4 rfl rfl rfl (fun _ _ => ?_) | refine O5 tok rfl rfl rfl (fun _ _ => ?_) | refine U0 _ (U2 rfl) rfl ?_ | refine U0 _ (U3 tok rfl rfl rfl rfl rfl) rfl ?_ | refine z3 tok rfl ?_ | refine U0 _ (U4 rfl rfl) rfl ?_ | refine U0 _ (U5 rfl rfl) rfl ?_) | (refine M1 ?_; first | refine J0 ?_ | refine J1 ?_ | refine J4 ?_ | refine J5 ?_ | refine J6 ?_ | refine J7 ?_ | refine J8 rfl ?_ | refine J9 rfl ?_) | (refine M2 ?_; first | refine I0 ?_ | refine I1 ?_ | refine I2 ?_ | refine I3 ?_ | refine I4 ?_ | refine I5 ?_ | refine I6 rfl ?_ | refine I7 ?_ | refine I8 ?_ | refine z4 ?_) | (refine M3 ?_; first | refine O6 ?_ | refine z2 tok rfl ?_ | refine O8 rfl ?_ | refine O7 rfl ?_ rfl | refine O9 rfl ?_ rfl | refine U1 _ (U4 rfl rfl) rfl ?_ | refine U1 _ (U5 rfl rfl) rfl ?_ | refine U1 _ (U2 rfl) rfl ?_ | refine U1 _ (U3 tok rfl rfl rfl rfl rfl) rfl ?_) | (refine M4 ?_; first | refine M6 ?_ | refine U6 rfl (by kernel_rfl) ?_ | refine U7 (by kernel_rfl) ?_) | (refine M5 ?_; first | exact M7 | refine U8 rfl ?_ | refine U9 rfl rfl ?_ ?_))
  rw [show decide (((p.length + 1 : Nat) : Int) ≠ (p.length : Int) + 1) = false from decide_eq_false (by omega)]
  repeat (first | (refine M0 ?_; first | refine O0 ?_ | refine z1 tok rfl ?_ | refine O1 rfl ?_ rfl | refine O2 rfl ?_ | refine O3 rfl ?_ rfl | refine O4 rfl rfl rfl (fun _ _ => ?_) | refine O5 tok rfl rfl rfl (fun _ _ => ?_) | refine U0 _ (U2 rfl) rfl ?_ | refine U0 _ (U3 tok rfl rfl rfl rfl rfl) rfl ?_ | refine z3 tok rfl ?_ | refine U0 _ (U4 rfl rfl) rfl ?_ | refine U0 _ (U5 rfl rfl) rfl ?_) | (refine M1 ?_; first | refine J0 ?_ | refine J1 ?_ | refine J4 ?_ | refine J5 ?_ | refine J6 ?_ | refine J7 ?_ | refine J8 rfl ?_ | refine J9 rfl ?_) | (refine M2 ?_; first | refine I0 ?_ | refine I1 ?_ | refine I2 ?_ | refine I3 ?_ | refine I4 ?_ | refine I5 ?_ | refine I6 rfl ?_ | refine I7 ?_ | refine I8 ?_ | refine z4 ?_) | (refine M3 ?_; first | refine O6 ?_ | refine z2 tok rfl ?_ | refine O8 rfl ?_ | refine O7 rfl ?_ rfl | refine O9 rfl ?_ rfl | refine U1 _ (U4 rfl rfl) rfl ?_ | refine U1 _ (U5 rfl rfl) rfl ?_ | refine U1 _ (U2 rfl) rfl ?_ | refine U1 _ (U3 tok rfl rfl rfl rfl rfl) rfl ?_) | (refine M4 ?_; first | refine M6 ?_ | refine U6 rfl (by kernel_rfl) ?_ | refine U7 (by kernel_rfl) ?_) | (refine M5 ?_; first | exact M7 | refine U8 rfl ?_ | refine U9 rfl rfl ?_ ?_))
  rw [show decide ((p.length : Int) ≠ (v.o.n : Int)) = false from decide_eq_false (by omega)]
  obtain ⟨ll, hll⟩ : ∃ ll, ll = t.lst 0 t.s t.on p := ⟨_, rfl⟩
  obtain ⟨dl, hdl⟩ : ∃ dl, dl = (t.flw 0 t.s t.on p).1 := ⟨_, rfl⟩
  rw [← hll] at hI4 hlb d8
  rw [← hdl] at hds hlb gc d7 dbd
  obtain ⟨a3, rfl, hf3, hc3⟩ := hI4.at_ (by omega)
  repeat (first | (refine M0 ?_; first | refine O0 ?_ | refine z1 tok rfl ?_ | refine O1 rfl ?_ rfl | refine O2 rfl ?_ | refine O3 rfl ?_ rfl | refine O4 rfl rfl rfl (fun _ _ => ?_) | refine O5 tok rfl rfl rfl (fun _ _ => ?_) | refine U0 _ (U2 rfl) rfl ?_ | refine U0 _ (U3 tok rfl rfl rfl rfl rfl) rfl ?_ | refine z3 tok rfl ?_ | refine U0 _ (U4 rfl rfl) rfl ?_ | refine U0 _ (U5 rfl rfl) rfl ?_) | (refine M1 ?_; first | refine J0 ?_ | refine J1 ?_ | refine J4 ?_ | refine J5 ?_ | refine J6 ?_ | refine J7 ?_ | refine J8 rfl ?_ | refine J9 rfl ?_) | (refine M2 ?_; first | refine I0 ?_ | refine I1 ?_ | refine I2 ?_ | refine I3 ?_ | refine I4 ?_ | refine I5 ?_ | refine I6 rfl ?_ | refine I7 ?_ | refine I8 ?_ | refine z4 ?_) | (refine M3 ?_; first | refine O6 ?_ | refine z2 tok rfl ?_ | refine O8 rfl ?_ | refine O7 rfl ?_ rfl | refine O9 rfl ?_ rfl | refine U1 _ (U4 rfl rfl) rfl ?_ | refine U1 _ (U5 rfl rfl) rfl ?_ | refine U1 _ (U2 rfl) rfl ?_ | refine U1 _ (U3 tok rfl rfl rfl rfl rfl) rfl ?_) | (refine M4 ?_; first | refine M6 ?_ | refine U6 rfl (by kernel_rfl) ?_ | refine U7 (by kernel_rfl) ?_) | (refine M5 ?_; first | exact M7 | refine U8 rfl ?_ | refine U9 rfl rfl ?_ ?_))
  refine XC.loopk [1, 2, 6, 7, 8, 10] rfl (fun k : Nat => [(14, .int .i64 (k : Nat)), (13, .int .i64 (leftN n dl k))]) (fun _ => [(g2, cel 33 (tskC v t))]) (fun _ => w4) (fun k => k ≤ p.length) (fun k => p.length - k) 0 (Nat.zero_le _) (by repeat (first | exact Sub.nil | refine Sub.cons rfl ?_)) (fun _ h => h) ?_
  intro k hk
  dsimp only [List.cons_append, List.nil_append]
  repeat (first | (refine M0 ?_; first | refine O0 ?_ | refine z1 tok rfl ?_ | refine O1 rfl ?_ rfl | refine O2 rfl ?_ | refine O3 rfl ?_ rfl | refine O4 rfl rfl rfl (fun _ _ => ?_) | refine O5 tok rfl rfl rfl (fun _ _ => ?_) | refine U0 _ (U2 rfl) rfl ?_ | refine U0 _ (U3 tok rfl rfl rfl rfl rfl) rfl ?_ | refine z3 tok rfl ?_ | refine U0 _ (U4 rfl rfl) rfl ?_ | refine U0 _ (U5 rfl rfl) rfl ?_) | (refine M1 ?_; first | refine J0 ?_ | refine J1 ?_ | refine J4 ?_ | refine J5 ?_ | refine J6 ?_ | refine J7 ?_ | refine J8 rfl ?_ | refine J9 rfl ?_) | (refine M2 ?_; first | refine I0 ?_ | refine I1 ?_ | refine I2 ?_ | refine I3 ?_ | refine I4 ?_ | refine I5 ?_ | refine I6 rfl ?_ | refine I7 ?_ | refine I8 ?_ | refine z4 ?_) | (refine M3 ?_; first | refine O6 ?_ | refine z2 tok rfl ?_ | refine O8 rfl ?_ | refine O7 rfl ?_ rfl | refine O9 rfl ?_ rfl | refine U1 _ (U4 rfl rfl) rfl ?_ | refine U1 _ (U5 rfl rfl) rfl ?_ | refine U1 _ (U2 rfl) rfl ?_ | refine U1 _ (U3 tok rfl rfl rfl rfl rfl) rfl ?_) | (refine M4 ?_; first | refine M6 ?_ | refine U6 rfl (by kernel_rfl) ?_ | refine U7 (by kernel_rfl) ?_) | (refine M5 ?_; first | exact M7 | refine U8 rfl ?_ | refine U9 rfl rfl ?_ ?_))
  rw [leftN_eq]
  refine XC.cond _ rfl (fun h8 => ?_) (fun h8 => ?_)
  · have hkn : k < p.length := by have := of_decide_eq_true h8; omega
    have hkd : k < ds.length := by omega
    obtain ⟨a4, ha4, hf4⟩ := hD4.addr (by decide) (by omega)
    subst ha4
    have hel := hD4.elem (List.getElem?_eq_getElem hkd) 4 (.int .i64 ds[k].2.cost) rfl
    have hdk : dl[k] = ds[k].2 := by simp [← hds]
    have hct := costs_take (l := dl) (k := k) (by omega)
    have hb1 := costs_bd (l := dl.take k) fun x hx => dbd x (List.mem_of_mem_take hx)
    have hb2 := dbd dl[k] (List.getElem_mem _)
    have hb3 : (dl.take k).length ≤ 6 := by rw [List.length_take]; omega
    have hnb := rest_bd ho (Nat.le_refl _) ho.sta hrest
    have hn9 : (t.n : Int) ≤ 6 := by omega
    rw [hdk] at hct hb2
    obtain ⟨cs, hcs⟩ : ∃ cs, cs = ds[k].2.cost := ⟨_, rfl⟩
    rw [← hcs] at hct hb2 hel
    have hck := hc3 k (by omega)
    rw [hlb k (by omega)] at hck
    repeat (first | (refine M0 ?_; first | refine O0 ?_ | refine z1 tok rfl ?_ | refine O1 rfl ?_ rfl | refine O2 rfl ?_ | refine O3 rfl ?_ rfl | refine U0 _ (Ev.load_far tok rfl rfl (by rw [add_block]; exact hf3.2.1) (Free.far hf3 (by intro e he; repeat (first | (cases he; done) | (rcases List.mem_cons.1 he with rfl | he; · first | (right; assumption) | (left; simp <;> fail))))) hck) rfl ?_ | refine O4 rfl rfl rfl (fun _ _ => ?_) | refine O5 tok rfl rfl rfl (fun _ _ => ?_) | refine U0 _ (U2 rfl) rfl ?_ | refine U0 _ (U3 tok rfl rfl rfl rfl rfl) rfl ?_ | refine z3 tok rfl ?_ | refine U0 _ (U4 rfl rfl) rfl ?_ | refine U0 _ (U5 rfl rfl) rfl ?_) | (refine M1 ?_; first | refine J0 ?_ | refine J1 ?_ | refine J4 ?_ | refine J5 ?_ | refine J6 ?_ | refine J7 ?_ | refine J8 rfl ?_ | refine J9 rfl ?_) | (refine M2 ?_; first | refine I0 ?_ | refine I1 ?_ | refine I2 ?_ | refine I3 ?_ | refine I4 ?_ | refine I5 ?_ | refine I6 rfl ?_ | refine I7 ?_ | refine I8 ?_ | refine z4 ?_) | (refine M3 ?_; first | refine O6 ?_ | refine z2 tok rfl ?_ | refine O8 rfl ?_ | refine O7 rfl ?_ rfl | refine O9 rfl ?_ rfl | refine U1 _ (Ev.load_far tok rfl rfl (by rw [add_block]; exact hf3.2.1) (Free.far hf3 (by intro e he; repeat (first | (cases he; done) | (rcases List.mem_cons.1 he with rfl | he; · first | (right; assumption) | (left; simp <;> fail))))) hck) rfl ?_ | refine U1 _ (U4 rfl rfl) rfl ?_ | refine U1 _ (U5 rfl rfl) rfl ?_ | refine U1 _ (U2 rfl) rfl ?_ | refine U1 _ (U3 tok rfl rfl rfl rfl rfl) rfl ?_) | (refine M4 ?_; first | refine M6 ?_ | refine U6 rfl (by kernel_rfl) ?_ | refine U7 (by kernel_rfl) ?_) | (refine M5 ?_; first | exact M7 | refine U8 rfl ?_ | refine U9 rfl rfl ?_ ?_))
    rw [show decide (n - costs (dl.take k) ≠ n - costs (dl.take k)) = false from decide_eq_false (fun h => h rfl)]
    repeat (first | (refine M0 ?_; first | refine O0 ?_ | refine z1 tok rfl ?_ | refine O1 rfl ?_ rfl | refine O2 rfl ?_ | refine O3 rfl ?_ rfl | refine U0 _ (Ev.load_far tok rfl rfl (by rw [add_block, add_block]; exact hf4.2.1) (Free.far2 hf4 (by intro e he; repeat (first | (cases he; done) | (rcases List.mem_cons.1 he with rfl | he; · first | (right; assumption) | (left; simp <;> fail))))) hel) rfl ?_ | refine O4 rfl rfl rfl (fun _ _ => ?_) | refine O5 tok rfl rfl rfl (fun _ _ => ?_) | refine U0 _ (U2 rfl) rfl ?_ | refine U0 _ (U3 tok rfl rfl rfl rfl rfl) rfl ?_ | refine z3 tok rfl ?_ | refine U0 _ (U4 rfl rfl) rfl ?_ | refine U0 _ (U5 rfl rfl) rfl ?_) | (refine M1 ?_; first | refine J0 ?_ | refine J1 ?_ | refine J4 ?_ | refine J5 ?_ | refine J6 ?_ | refine J7 ?_ | refine J8 rfl ?_ | refine J9 rfl ?_) | (refine M2 ?_; first | refine I0 ?_ | refine I1 ?_ | refine I2 ?_ | refine I3 ?_ | refine I4 ?_ | refine I5 ?_ | refine I6 rfl ?_ | refine I7 ?_ | refine I8 ?_ | refine z4 ?_) | (refine M3 ?_; first | refine O6 ?_ | refine z2 tok rfl ?_ | refine O8 rfl ?_ | refine O7 rfl ?_ rfl | refine O9 rfl ?_ rfl | refine U1 _ (Ev.load_far tok rfl rfl (by rw [add_block, add_block]; exact hf4.2.1) (Free.far2 hf4 (by intro e he; repeat (first | (cases he; done) | (rcases List.mem_cons.1 he with rfl | he; · first | (right; assumption) | (left; simp <;> fail))))) hel) rfl ?_ | refine U1 _ (U4 rfl rfl) rfl ?_ | refine U1 _ (U5 rfl rfl) rfl ?_ | refine U1 _ (U2 rfl) rfl ?_ | refine U1 _ (U3 tok rfl rfl rfl rfl rfl) rfl ?_) | (refine M4 ?_; first | refine M6 ?_ | refine U6 rfl (by kernel_rfl) ?_ | refine U7 (by kernel_rfl) ?_) | (refine M5 ?_; first | exact M7 | refine U8 rfl ?_ | refine U9 rfl rfl ?_ ?_))
    rw [show n - costs (dl.take k) - cs = leftN n dl (k + 1) by rw [leftN_eq, hct]; omega]
    exact XE.round (s := k) (k + 1) hkn (by omega) (by repeat (first | exact Sub.nil | refine Sub.cons rfl ?_)) (fun _ h => h)
  have hkn : k = p.length := by have := of_decide_eq_false h8; omega
  rw [hkn, ← d7, List.take_length, gc]
  rw [Int.sub_self]
  repeat (first | (refine M0 ?_; first | refine O0 ?_ | refine z1 tok rfl ?_ | refine O1 rfl ?_ rfl | refine O2 rfl ?_ | refine O3 rfl ?_ rfl | refine O4 rfl rfl rfl (fun _ _ => ?_) | refine O5 tok rfl rfl rfl (fun _ _ => ?_) | refine U0 _ (U2 rfl) rfl ?_ | refine U0 _ (U3 tok rfl rfl rfl rfl rfl) rfl ?_ | refine z3 tok rfl ?_ | refine U0 _ (U4 rfl rfl) rfl ?_ | refine U0 _ (U5 rfl rfl) rfl ?_) | (refine M1 ?_; first | refine J0 ?_ | refine J1 ?_ | refine J4 ?_ | refine J5 ?_ | refine J6 ?_ | refine J7 ?_ | refine J8 rfl ?_ | refine J9 rfl ?_) | (refine M2 ?_; first | refine I0 ?_ | refine I1 ?_ | refine I2 ?_ | refine I3 ?_ | refine I4 ?_ | refine I5 ?_ | refine I6 rfl ?_ | refine I7 ?_ | refine I8 ?_ | refine z4 ?_) | (refine M3 ?_; first | refine O6 ?_ | refine z2 tok rfl ?_ | refine O8 rfl ?_ | refine O7 rfl ?_ rfl | refine O9 rfl ?_ rfl | refine U1 _ (U4 rfl rfl) rfl ?_ | refine U1 _ (U5 rfl rfl) rfl ?_ | refine U1 _ (U2 rfl) rfl ?_ | refine U1 _ (U3 tok rfl rfl rfl rfl rfl) rfl ?_) | (refine M4 ?_; first | refine M6 ?_ | refine U6 rfl (by kernel_rfl) ?_ | refine U7 (by kernel_rfl) ?_) | (refine M5 ?_; first | exact M7 | refine U8 rfl ?_ | refine U9 rfl rfl ?_ ?_))
  clear hkn h8 hk k hc3 hf3 hI4 hD4 hds hlb dbd gc
  refine XL.callF (wE := w) (LstV t pl) (ck rfl) rfl rfl hF4 hk4 hB4 (fun w1 S1 hF1 hB1 => h4 w1 hB1) (fun w5 x new hR hF5 hB5 hk5 => ?_) (by intro e he; repeat (first | (cases he; done) | (rcases List.mem_cons.1 he with rfl | he; · first | (right; assumption) | (left; simp <;> fail))))
  obtain ⟨q5, rfl, rfl⟩ := hR
  simp only [svV]
  repeat (first | (refine M0 ?_; first | refine O0 ?_ | refine z1 tok rfl ?_ | refine O1 rfl ?_ rfl | refine O2 rfl ?_ | refine O3 rfl ?_ rfl | refine O4 rfl rfl rfl (fun _ _ => ?_) | refine O5 tok rfl rfl rfl (fun _ _ => ?_) | refine U0 _ (U2 rfl) rfl ?_ | refine U0 _ (U3 tok rfl rfl rfl rfl rfl) rfl ?_ | refine z3 tok rfl ?_ | refine U0 _ (U4 rfl rfl) rfl ?_ | refine U0 _ (U5 rfl rfl) rfl ?_) | (refine M1 ?_; first | refine J0 ?_ | refine J1 ?_ | refine J4 ?_ | refine J5 ?_ | refine J6 ?_ | refine J7 ?_ | refine J8 rfl ?_ | refine J9 rfl ?_) | (refine M2 ?_; first | refine I0 ?_ | refine I1 ?_ | refine I2 ?_ | refine I3 ?_ | refine I4 ?_ | refine I5 ?_ | refine I6 rfl ?_ | refine I7 ?_ | refine I8 ?_ | refine z4 ?_) | (refine M3 ?_; first | refine O6 ?_ | refine z2 tok rfl ?_ | refine O8 rfl ?_ | refine O7 rfl ?_ rfl | refine O9 rfl ?_ rfl | refine U1 _ (U4 rfl rfl) rfl ?_ | refine U1 _ (U5 rfl rfl) rfl ?_ | refine U1 _ (U2 rfl) rfl ?_ | refine U1 _ (U3 tok rfl rfl rfl rfl rfl) rfl ?_) | (refine M4 ?_; first | refine M6 ?_ | refine U6 rfl (by kernel_rfl) ?_ | refine U7 (by kernel_rfl) ?_) | (refine M5 ?_; first | exact M7 | refine U8 rfl ?_ | refine U9 rfl rfl ?_ ?_))
  refine XL.callF (wE := w) (DoV2 t pl) (ck rfl) rfl rfl hF5 hk5 hB5 (fun w1 S1 hF1 hB1 => h5 w1 hB1) (fun w6 x new hR hF6 hB6 hk6 => ?_) (by intro e he; repeat (first | (cases he; done) | (rcases List.mem_cons.1 he with rfl | he; · first | (right; assumption) | (left; simp <;> fail))))
  obtain ⟨q6, ds6, rfl, hds6, rfl⟩ := hR
  simp only [svV]
  repeat (first | (refine M0 ?_; first | refine O0 ?_ | refine z1 tok rfl ?_ | refine O1 rfl ?_ rfl | refine O2 rfl ?_ | refine O3 rfl ?_ rfl | refine O4 rfl rfl rfl (fun _ _ => ?_) | refine O5 tok rfl rfl rfl (fun _ _ => ?_) | refine U0 _ (U2 rfl) rfl ?_ | refine U0 _ (U3 tok rfl rfl rfl rfl rfl) rfl ?_ | refine z3 tok rfl ?_ | refine U0 _ (U4 rfl rfl) rfl ?_ | refine U0 _ (U5 rfl rfl) rfl ?_) | (refine M1 ?_; first | refine J0 ?_ | refine J1 ?_ | refine J4 ?_ | refine J5 ?_ | refine J6 ?_ | refine J7 ?_ | refine J8 rfl ?_ | refine J9 rfl ?_) | (refine M2 ?_; first | refine I0 ?_ | refine I1 ?_ | refine I2 ?_ | refine I3 ?_ | refine I4 ?_ | refine I5 ?_ | refine I6 rfl ?_ | refine I7 ?_ | refine I8 ?_ | refine z4 ?_) | (refine M3 ?_; first | refine O6 ?_ | refine z2 tok rfl ?_ | refine O8 rfl ?_ | refine O7 rfl ?_ rfl | refine O9 rfl ?_ rfl | refine U1 _ (U4 rfl rfl) rfl ?_ | refine U1 _ (U5 rfl rfl) rfl ?_ | refine U1 _ (U2 rfl) rfl ?_ | refine U1 _ (U3 tok rfl rfl rfl rfl rfl) rfl ?_) | (refine M4 ?_; first | refine M6 ?_ | refine U6 rfl (by kernel_rfl) ?_ | refine U7 (by kernel_rfl) ?_) | (refine M5 ?_; first | exact M7 | refine U8 rfl ?_ | refine U9 rfl rfl ?_ ?_))
  refine XC.cond _ rfl (fun h8 => ?_) (fun h8 => ?_)
  · repeat (first | (refine M0 ?_; first | refine O0 ?_ | refine z1 tok rfl ?_ | refine O1 rfl ?_ rfl | refine O2 rfl ?_ | refine O3 rfl ?_ rfl | refine U0 _ (Ev.call (f := 19) (ck rfl) rfl (fun w5 S5 => haw w5 S5)) rfl ?_ | refine O4 rfl rfl rfl (fun _ _ => ?_) | refine O5 tok rfl rfl rfl (fun _ _ => ?_) | refine U0 _ (U2 rfl) rfl ?_ | refine U0 _ (U3 tok rfl rfl rfl rfl rfl) rfl ?_ | refine z3 tok rfl ?_ | refine U0 _ (U4 rfl rfl) rfl ?_ | refine U0 _ (U5 rfl rfl) rfl ?_) | (refine M1 ?_; first | refine J0 ?_ | refine J1 ?_ | refine J4 ?_ | refine J5 ?_ | refine J6 ?_ | refine J7 ?_ | refine J8 rfl ?_ | refine J9 rfl ?_) | (refine M2 ?_; first | refine I0 ?_ | refine I1 ?_ | refine I2 ?_ | refine I3 ?_ | refine I4 ?_ | refine I5 ?_ | refine I6 rfl ?_ | refine I7 ?_ | refine I8 ?_ | refine z4 ?_) | (refine M3 ?_; first | refine O6 ?_ | refine z2 tok rfl ?_ | refine O8 rfl ?_ | refine O7 rfl ?_ rfl | refine O9 rfl ?_ rfl | refine U1 _ (Ev.call (f := 19) (ck rfl) rfl (fun w5 S5 => haw w5 S5)) rfl ?_ | refine U1 _ (U4 rfl rfl) rfl ?_ | refine U1 _ (U5 rfl rfl) rfl ?_ | refine U1 _ (U2 rfl) rfl ?_ | refine U1 _ (U3 tok rfl rfl rfl rfl rfl) rfl ?_) | (refine M4 ?_; first | refine M6 ?_ | refine U6 rfl (by kernel_rfl) ?_ | refine U7 (by kernel_rfl) ?_) | (refine M5 ?_; first | exact M7 | refine U8 rfl ?_ | refine U9 rfl rfl ?_ ?_))
    refine XE.retg tok Try.results11 rfl (by simp only [and_self, and_true]) (fun w' S => ?_)
    exact ⟨rfl, hB6.trans S.toBelow⟩
  have c5 : costE t pl = 0 := by simpa using h8
  obtain ⟨_, f2, f3, _⟩ := costE_0 c5
  obtain ⟨f8, f9⟩ := shaped_len f2
  have f4 : folE t pl = 0 := by unfold folE; rw [if_neg (by simp [hr0]), if_neg (by simp [f2])]
  have f5 : folL t pl = (t.flw 0 t.s t.on pl).1 := by unfold folL; rw [if_pos f4]
  have f6 : lstL t pl = t.lst 0 t.s t.on pl := by unfold lstL; rw [if_pos c5]
  have f7 : (t.flw 0 t.s t.on pl).1.length = pl.length := flw_len f3
  have f10 : (t.lst 0 t.s t.on pl).length = pl.length + 1 := lst_len
  have gp : GoodP t t.n t.s t.on pl := ⟨f8, f9, by rw [Nat.sub_self]; exact f3⟩
  obtain ⟨i1, i2, i3⟩ := lst_good ho (Nat.le_refl _) ho.sta gp
  rw [Nat.sub_self] at i1 i2 i3
  rw [hrest] at i1
  simp only [fdC, Option.map_some, Option.getD_some] at i1
  have dbd := (flw_bd ho (p := pl) (i := 0) (s := t.s) (b := t.on) ho.sta (by rw [Nat.zero_add, f8]; exact Nat.le_refl _)).2
  rw [f6] at hF6
  rw [f5] at hds6
  rw [f4]
  have hI6 : IntsAt w6 _ q5 (t.lst 0 t.s t.on pl) := hF6.held (hInts q5 (t.lst 0 t.s t.on pl)) (by simp)
  have hD6 : ListAt donK w6 _ q6 ds6 := hF6.held (hList donK q6 ds6) (.head _)
  obtain ⟨A5, n5, c5'⟩ := q5
  obtain ⟨A6, n6, c6⟩ := q6
  have l3 := hI6.len
  have l4 := hD6.len (by decide)
  simp only at l3 l4
  have l5 : ds6.length = pl.length := by rw [← f7, ← hds6]; simp
  rw [l5] at l4
  rw [f10] at l3
  subst l3 l4
  simp only
  repeat (first | (refine M0 ?_; first | refine O0 ?_ | refine z1 tok rfl ?_ | refine O1 rfl ?_ rfl | refine O2 rfl ?_ | refine O3 rfl ?_ rfl | refine O4 rfl rfl rfl (fun _ _ => ?_) | refine O5 tok rfl rfl rfl (fun _ _ => ?_) | refine U0 _ (U2 rfl) rfl ?_ | refine U0 _ (U3 tok rfl rfl rfl rfl rfl) rfl ?_ | refine z3 tok rfl ?_ | refine U0 _ (U4 rfl rfl) rfl ?_ | refine U0 _ (U5 rfl rfl) rfl ?_) | (refine M1 ?_; first | refine J0 ?_ | refine J1 ?_ | refine J4 ?_ | refine J5 ?_ | refine J6 ?_ | refine J7 ?_ | refine J8 rfl ?_ | refine J9 rfl ?_) | (refine M2 ?_; first | refine I0 ?_ | refine I1 ?_ | refine I2 ?_ | refine I3 ?_ | refine I4 ?_ | refine I5 ?_ | refine I6 rfl ?_ | refine I7 ?_ | refine I8 ?_ | refine z4 ?_) | (refine M3 ?_; first | refine O6 ?_ | refine z2 tok rfl ?_ | refine O8 rfl ?_ | refine O7 rfl ?_ rfl | refine O9 rfl ?_ rfl | refine U1 _ (U4 rfl rfl) rfl ?_ | refine U1 _ (U5 rfl rfl) rfl ?_ | refine U1 _ (U2 rfl) rfl ?_ | refine U1 _ (U3 tok rfl rfl rfl rfl rfl) rfl ?_) | (refine M4 ?_; first | refine M6 ?_ | refine U6 rfl (by kernel_rfl) ?_ | refine U7 (by kernel_rfl) ?_) | (refine M5 ?_; first | exact M7 | refine U8 rfl ?_ | refine U9 rfl rfl ?_ ?_))
  rw [show decide (((pl.length + 1 : Nat) : Int) ≠ (pl.length : Int) + 1) = false from decide_eq_false (by omega)]
  obtain ⟨ll6, hll6⟩ : ∃ ll, ll = t.lst 0 t.s t.on pl := ⟨_, rfl⟩
  obtain ⟨dl6, hdl6⟩ : ∃ dl, dl = (t.flw 0 t.s t.on pl).1 := ⟨_, rfl⟩
  rw [← hll6] at hI6 i1 i2 i3 f10
  rw [← hdl6] at hds6 i2 f7 dbd
  obtain ⟨a5, rfl, hf5, hc5⟩ := hI6.at_ (by omega)
  have hc50 := hc5 0 (by omega)
  rw [i1] at hc50
  repeat (first | (refine M0 ?_; first | refine O0 ?_ | refine z1 tok rfl ?_ | refine O1 rfl ?_ rfl | refine O2 rfl ?_ | refine O3 rfl ?_ rfl | refine U0 _ (Ev.load_far tok rfl rfl (by rw [add_block]; exact hf5.2.1) (Free.far hf5 (by intro e he; repeat (first | (cases he; done) | (rcases List.mem_cons.1 he with rfl | he; · first | (right; assumption) | (left; simp <;> fail))))) hc50) rfl ?_ | refine O4 rfl rfl rfl (fun _ _ => ?_) | refine O5 tok rfl rfl rfl (fun _ _ => ?_) | refine U0 _ (U2 rfl) rfl ?_ | refine U0 _ (U3 tok rfl rfl rfl rfl rfl) rfl ?_ | refine z3 tok rfl ?_ | refine U0 _ (U4 rfl rfl) rfl ?_ | refine U0 _ (U5 rfl rfl) rfl ?_) | (refine M1 ?_; first | refine J0 ?_ | refine J1 ?_ | refine J4 ?_ | refine J5 ?_ | refine J6 ?_ | refine J7 ?_ | refine J8 rfl ?_ | refine J9 rfl ?_) | (refine M2 ?_; first | refine I0 ?_ | refine I1 ?_ | refine I2 ?_ | refine I3 ?_ | refine I4 ?_ | refine I5 ?_ | refine I6 rfl ?_ | refine I7 ?_ | refine I8 ?_ | refine z4 ?_) | (refine M3 ?_; first | refine O6 ?_ | refine z2 tok rfl ?_ | refine O8 rfl ?_ | refine O7 rfl ?_ rfl | refine O9 rfl ?_ rfl | refine U1 _ (Ev.load_far tok rfl rfl (by rw [add_block]; exact hf5.2.1) (Free.far hf5 (by intro e he; repeat (first | (cases he; done) | (rcases List.mem_cons.1 he with rfl | he; · first | (right; assumption) | (left; simp <;> fail))))) hc50) rfl ?_ | refine U1 _ (U4 rfl rfl) rfl ?_ | refine U1 _ (U5 rfl rfl) rfl ?_ | refine U1 _ (U2 rfl) rfl ?_ | refine U1 _ (U3 tok rfl rfl rfl rfl rfl) rfl ?_) | (refine M4 ?_; first | refine M6 ?_ | refine U6 rfl (by kernel_rfl) ?_ | refine U7 (by kernel_rfl) ?_) | (refine M5 ?_; first | exact M7 | refine U8 rfl ?_ | refine U9 rfl rfl ?_ ?_))
  rw [show decide (n ≠ n) = false from decide_eq_false (fun h => h rfl)]
  repeat (first | (refine M0 ?_; first | refine O0 ?_ | refine z1 tok rfl ?_ | refine O1 rfl ?_ rfl | refine O2 rfl ?_ | refine O3 rfl ?_ rfl | refine O4 rfl rfl rfl (fun _ _ => ?_) | refine O5 tok rfl rfl rfl (fun _ _ => ?_) | refine U0 _ (U2 rfl) rfl ?_ | refine U0 _ (U3 tok rfl rfl rfl rfl rfl) rfl ?_ | refine z3 tok rfl ?_ | refine U0 _ (U4 rfl rfl) rfl ?_ | refine U0 _ (U5 rfl rfl) rfl ?_) | (refine M1 ?_; first | refine J0 ?_ | refine J1 ?_ | refine J4 ?_ | refine J5 ?_ | refine J6 ?_ | refine J7 ?_ | refine J8 rfl ?_ | refine J9 rfl ?_) | (refine M2 ?_; first | refine I0 ?_ | refine I1 ?_ | refine I2 ?_ | refine I3 ?_ | refine I4 ?_ | refine I5 ?_ | refine I6 rfl ?_ | refine I7 ?_ | refine I8 ?_ | refine z4 ?_) | (refine M3 ?_; first | refine O6 ?_ | refine z2 tok rfl ?_ | refine O8 rfl ?_ | refine O7 rfl ?_ rfl | refine O9 rfl ?_ rfl | refine U1 _ (U4 rfl rfl) rfl ?_ | refine U1 _ (U5 rfl rfl) rfl ?_ | refine U1 _ (U2 rfl) rfl ?_ | refine U1 _ (U3 tok rfl rfl rfl rfl rfl) rfl ?_) | (refine M4 ?_; first | refine M6 ?_ | refine U6 rfl (by kernel_rfl) ?_ | refine U7 (by kernel_rfl) ?_) | (refine M5 ?_; first | exact M7 | refine U8 rfl ?_ | refine U9 rfl rfl ?_ ?_))
  refine XC.loopk [15, 17] rfl (fun k : Nat => [(20, .int .i64 (k : Nat))]) (fun _ => [(g2, cel 33 (tskC v t))]) (fun _ => w6) (fun k => k ≤ pl.length) (fun k => pl.length - k) 0 (Nat.zero_le _) (by repeat (first | exact Sub.nil | refine Sub.cons rfl ?_)) (fun _ h => h) ?_
  intro k hk
  dsimp only [List.cons_append, List.nil_append]
  repeat (first | (refine M0 ?_; first | refine O0 ?_ | refine z1 tok rfl ?_ | refine O1 rfl ?_ rfl | refine O2 rfl ?_ | refine O3 rfl ?_ rfl | refine O4 rfl rfl rfl (fun _ _ => ?_) | refine O5 tok rfl rfl rfl (fun _ _ => ?_) | refine U0 _ (U2 rfl) rfl ?_ | refine U0 _ (U3 tok rfl rfl rfl rfl rfl) rfl ?_ | refine z3 tok rfl ?_ | refine U0 _ (U4 rfl rfl) rfl ?_ | refine U0 _ (U5 rfl rfl) rfl ?_) | (refine M1 ?_; first | refine J0 ?_ | refine J1 ?_ | refine J4 ?_ | refine J5 ?_ | refine J6 ?_ | refine J7 ?_ | refine J8 rfl ?_ | refine J9 rfl ?_) | (refine M2 ?_; first | refine I0 ?_ | refine I1 ?_ | refine I2 ?_ | refine I3 ?_ | refine I4 ?_ | refine I5 ?_ | refine I6 rfl ?_ | refine I7 ?_ | refine I8 ?_ | refine z4 ?_) | (refine M3 ?_; first | refine O6 ?_ | refine z2 tok rfl ?_ | refine O8 rfl ?_ | refine O7 rfl ?_ rfl | refine O9 rfl ?_ rfl | refine U1 _ (U4 rfl rfl) rfl ?_ | refine U1 _ (U5 rfl rfl) rfl ?_ | refine U1 _ (U2 rfl) rfl ?_ | refine U1 _ (U3 tok rfl rfl rfl rfl rfl) rfl ?_) | (refine M4 ?_; first | refine M6 ?_ | refine U6 rfl (by kernel_rfl) ?_ | refine U7 (by kernel_rfl) ?_) | (refine M5 ?_; first | exact M7 | refine U8 rfl ?_ | refine U9 rfl rfl ?_ ?_))
  refine XC.cond _ rfl (fun h8 => ?_) (fun h8 => ?_)
  rotate_left
  · have hkn : k = pl.length := by have := of_decide_eq_false h8; omega
    subst hkn
    have hcz := hc5 pl.length (by omega)
    rw [f8, i3, ← f8] at hcz
    repeat (first | (refine M0 ?_; first | refine O0 ?_ | refine z1 tok rfl ?_ | refine O1 rfl ?_ rfl | refine O2 rfl ?_ | refine O3 rfl ?_ rfl | refine U0 _ (Ev.load_far tok rfl rfl (by rw [add_block]; exact hf5.2.1) (Free.far hf5 (by intro e he; repeat (first | (cases he; done) | (rcases List.mem_cons.1 he with rfl | he; · first | (right; assumption) | (left; simp <;> fail))))) hcz) rfl ?_ | refine U0 _ (Ev.call (f := 19) (ck rfl) rfl (fun w5 S5 => haw w5 S5)) rfl ?_ | refine O4 rfl rfl rfl (fun _ _ => ?_) | refine O5 tok rfl rfl rfl (fun _ _ => ?_) | refine U0 _ (U2 rfl) rfl ?_ | refine U0 _ (U3 tok rfl rfl rfl rfl rfl) rfl ?_ | refine z3 tok rfl ?_ | refine U0 _ (U4 rfl rfl) rfl ?_ | refine U0 _ (U5 rfl rfl) rfl ?_) | (refine M1 ?_; first | refine J0 ?_ | refine J1 ?_ | refine J4 ?_ | refine J5 ?_ | refine J6 ?_ | refine J7 ?_ | refine J8 rfl ?_ | refine J9 rfl ?_) | (refine M2 ?_; first | refine I0 ?_ | refine I1 ?_ | refine I2 ?_ | refine I3 ?_ | refine I4 ?_ | refine I5 ?_ | refine I6 rfl ?_ | refine I7 ?_ | refine I8 ?_ | refine z4 ?_) | (refine M3 ?_; first | refine O6 ?_ | refine z2 tok rfl ?_ | refine O8 rfl ?_ | refine O7 rfl ?_ rfl | refine O9 rfl ?_ rfl | refine U1 _ (Ev.load_far tok rfl rfl (by rw [add_block]; exact hf5.2.1) (Free.far hf5 (by intro e he; repeat (first | (cases he; done) | (rcases List.mem_cons.1 he with rfl | he; · first | (right; assumption) | (left; simp <;> fail))))) hcz) rfl ?_ | refine U1 _ (Ev.call (f := 19) (ck rfl) rfl (fun w5 S5 => haw w5 S5)) rfl ?_ | refine U1 _ (U4 rfl rfl) rfl ?_ | refine U1 _ (U5 rfl rfl) rfl ?_ | refine U1 _ (U2 rfl) rfl ?_ | refine U1 _ (U3 tok rfl rfl rfl rfl rfl) rfl ?_) | (refine M4 ?_; first | refine M6 ?_ | refine U6 rfl (by kernel_rfl) ?_ | refine U7 (by kernel_rfl) ?_) | (refine M5 ?_; first | exact M7 | refine U8 rfl ?_ | refine U9 rfl rfl ?_ ?_))
    refine XE.retg tok Try.results11 rfl (by simp only [and_self, and_true]) (fun w' S => ?_)
    exact ⟨rfl, hB6.trans S.toBelow⟩
  have hkn : k < pl.length := by have := of_decide_eq_true h8; omega
  have hkd : k < ds6.length := by omega
  obtain ⟨a6, ha6, hf6⟩ := hD6.addr (by decide) (by omega)
  subst ha6
  have hel := hD6.elem (List.getElem?_eq_getElem hkd) 4 (.int .i64 ds6[k].2.cost) rfl
  obtain ⟨j1, j2, j3⟩ := i2 k (by omega)
  have hdk : at0 (dl6.map (·.cost)) k = ds6[k].2.cost := by
    unfold at0
    rw [← hds6]
    simp [hkd]
  have hb2 := dbd ds6[k].2 (by rw [← hds6]; exact List.mem_map_of_mem (List.getElem_mem hkd))
  rw [hdk] at j1
  obtain ⟨cs, hcs⟩ : ∃ cs, cs = ds6[k].2.cost := ⟨_, rfl⟩
  rw [← hcs] at j1 hel hb2
  have hk0 := hc5 k (by omega)
  have hk1 := hc5 (k + 1) (by omega)
  obtain ⟨x0, hx0⟩ : ∃ x, x = at0 ll6 k := ⟨_, rfl⟩
  obtain ⟨x1, hx1⟩ : ∃ x, x = at0 ll6 (k + 1) := ⟨_, rfl⟩
  rw [← hx0] at hk0 j1
  rw [← hx1] at hk1 j1 j2 j3
  repeat (first | (refine M0 ?_; first | refine O0 ?_ | refine z1 tok rfl ?_ | refine O1 rfl ?_ rfl | refine O2 rfl ?_ | refine O3 rfl ?_ rfl | refine U0 _ (Ev.load_far tok rfl rfl (by rw [add_block]; exact hf5.2.1) (Free.far hf5 (by intro e he; repeat (first | (cases he; done) | (rcases List.mem_cons.1 he with rfl | he; · first | (right; assumption) | (left; simp <;> fail))))) hk0) rfl ?_ | refine U0 _ (Ev.load_far tok rfl rfl (by rw [add_block, add_block]; exact hf6.2.1) (Free.far2 hf6 (by intro e he; repeat (first | (cases he; done) | (rcases List.mem_cons.1 he with rfl | he; · first | (right; assumption) | (left; simp <;> fail))))) hel) rfl ?_ | refine U0 _ (Ev.load_far tok rfl rfl (by rw [add_block]; exact hf5.2.1) (Free.far hf5 (by intro e he; repeat (first | (cases he; done) | (rcases List.mem_cons.1 he with rfl | he; · first | (right; assumption) | (left; simp <;> fail))))) hk1) rfl ?_ | refine O4 rfl rfl rfl (fun _ _ => ?_) | refine O5 tok rfl rfl rfl (fun _ _ => ?_) | refine U0 _ (U2 rfl) rfl ?_ | refine U0 _ (U3 tok rfl rfl rfl rfl rfl) rfl ?_ | refine z3 tok rfl ?_ | refine U0 _ (U4 rfl rfl) rfl ?_ | refine U0 _ (U5 rfl rfl) rfl ?_) | (refine M1 ?_; first | refine J0 ?_ | refine J1 ?_ | refine J2 mixed rfl (by kernel_rfl) ?_ | refine J3 mixed rfl rfl (by kernel_rfl) ?_ | refine J4 ?_ | refine J5 ?_ | refine J6 ?_ | refine J7 ?_ | refine J8 rfl ?_ | refine J9 rfl ?_) | (refine M2 ?_; first | refine I0 ?_ | refine I1 ?_ | refine I2 ?_ | refine I3 ?_ | refine I4 ?_ | refine I5 ?_ | refine I6 rfl ?_ | refine I7 ?_ | refine I8 ?_ | refine z4 ?_) | (refine M3 ?_; first | refine O6 ?_ | refine z2 tok rfl ?_ | refine O8 rfl ?_ | refine O7 rfl ?_ rfl | refine O9 rfl ?_ rfl | refine U1 _ (Ev.load_far tok rfl rfl (by rw [add_block]; exact hf5.2.1) (Free.far hf5 (by intro e he; repeat (first | (cases he; done) | (rcases List.mem_cons.1 he with rfl | he; · first | (right; assumption) | (left; simp <;> fail))))) hk0) rfl ?_ | refine U1 _ (Ev.load_far tok rfl rfl (by rw [add_block, add_block]; exact hf6.2.1) (Free.far2 hf6 (by intro e he; repeat (first | (cases he; done) | (rcases List.mem_cons.1 he with rfl | he; · first | (right; assumption) | (left; simp <;> fail))))) hel) rfl ?_ | refine U1 _ (Ev.load_far tok rfl rfl (by rw [add_block]; exact hf5.2.1) (Free.far hf5 (by intro e he; repeat (first | (cases he; done) | (rcases List.mem_cons.1 he with rfl | he; · first | (right; assumption) | (left; simp <;> fail))))) hk1) rfl ?_ | refine U1 _ (U4 rfl rfl) rfl ?_ | refine U1 _ (U5 rfl rfl) rfl ?_ | refine U1 _ (U2 rfl) rfl ?_ | refine U1 _ (U3 tok rfl rfl rfl rfl rfl) rfl ?_) | (refine M4 ?_; first | refine M6 ?_ | refine U6 rfl (by kernel_rfl) ?_ | refine U7 (by kernel_rfl) ?_) | (refine M5 ?_; first | exact M7 | refine U8 rfl ?_ | refine U9 rfl rfl ?_ ?_))
  rw [show decide (cs + x1 < x0) = false from decide_eq_false (by omega)]
  repeat (first | (refine M0 ?_; first | refine O0 ?_ | refine z1 tok rfl ?_ | refine O1 rfl ?_ rfl | refine O2 rfl ?_ | refine O3 rfl ?_ rfl | refine U0 _ (Ev.load_far tok rfl rfl (by rw [add_block]; exact hf5.2.1) (Free.far hf5 (by intro e he; repeat (first | (cases he; done) | (rcases List.mem_cons.1 he with rfl | he; · first | (right; assumption) | (left; simp <;> fail))))) hk1) rfl ?_ | refine O4 rfl rfl rfl (fun _ _ => ?_) | refine O5 tok rfl rfl rfl (fun _ _ => ?_) | refine U0 _ (U2 rfl) rfl ?_ | refine U0 _ (U3 tok rfl rfl rfl rfl rfl) rfl ?_ | refine z3 tok rfl ?_ | refine U0 _ (U4 rfl rfl) rfl ?_ | refine U0 _ (U5 rfl rfl) rfl ?_) | (refine M1 ?_; first | refine J0 ?_ | refine J1 ?_ | refine J2 mixed rfl (by kernel_rfl) ?_ | refine J3 mixed rfl rfl (by kernel_rfl) ?_ | refine J4 ?_ | refine J5 ?_ | refine J6 ?_ | refine J7 ?_ | refine J8 rfl ?_ | refine J9 rfl ?_) | (refine M2 ?_; first | refine I0 ?_ | refine I1 ?_ | refine I2 ?_ | refine I3 ?_ | refine I4 ?_ | refine I5 ?_ | refine I6 rfl ?_ | refine I7 ?_ | refine I8 ?_ | refine z4 ?_) | (refine M3 ?_; first | refine O6 ?_ | refine z2 tok rfl ?_ | refine O8 rfl ?_ | refine O7 rfl ?_ rfl | refine O9 rfl ?_ rfl | refine U1 _ (Ev.load_far tok rfl rfl (by rw [add_block]; exact hf5.2.1) (Free.far hf5 (by intro e he; repeat (first | (cases he; done) | (rcases List.mem_cons.1 he with rfl | he; · first | (right; assumption) | (left; simp <;> fail))))) hk1) rfl ?_ | refine U1 _ (U4 rfl rfl) rfl ?_ | refine U1 _ (U5 rfl rfl) rfl ?_ | refine U1 _ (U2 rfl) rfl ?_ | refine U1 _ (U3 tok rfl rfl rfl rfl rfl) rfl ?_) | (refine M4 ?_; first | refine M6 ?_ | refine U6 rfl (by kernel_rfl) ?_ | refine U7 (by kernel_rfl) ?_) | (refine M5 ?_; first | exact M7 | refine U8 rfl ?_ | refine U9 rfl rfl ?_ ?_))
  rw [show decide (x1 < 0) = false from decide_eq_false (by omega)]
  repeat (first | (refine M0 ?_; first | refine O0 ?_ | refine z1 tok rfl ?_ | refine O1 rfl ?_ rfl | refine O2 rfl ?_ | refine O3 rfl ?_ rfl | refine O4 rfl rfl rfl (fun _ _ => ?_) | refine O5 tok rfl rfl rfl (fun _ _ => ?_) | refine U0 _ (U2 rfl) rfl ?_ | refine U0 _ (U3 tok rfl rfl rfl rfl rfl) rfl ?_ | refine z3 tok rfl ?_ | refine U0 _ (U4 rfl rfl) rfl ?_ | refine U0 _ (U5 rfl rfl) rfl ?_) | (refine M1 ?_; first | refine J0 ?_ | refine J1 ?_ | refine J2 mixed rfl (by kernel_rfl) ?_ | refine J3 mixed rfl rfl (by kernel_rfl) ?_ | refine J4 ?_ | refine J5 ?_ | refine J6 ?_ | refine J7 ?_ | refine J8 rfl ?_ | refine J9 rfl ?_) | (refine M2 ?_; first | refine I0 ?_ | refine I1 ?_ | refine I2 ?_ | refine I3 ?_ | refine I4 ?_ | refine I5 ?_ | refine I6 rfl ?_ | refine I7 ?_ | refine I8 ?_ | refine z4 ?_) | (refine M3 ?_; first | refine O6 ?_ | refine z2 tok rfl ?_ | refine O8 rfl ?_ | refine O7 rfl ?_ rfl | refine O9 rfl ?_ rfl | refine U1 _ (U4 rfl rfl) rfl ?_ | refine U1 _ (U5 rfl rfl) rfl ?_ | refine U1 _ (U2 rfl) rfl ?_ | refine U1 _ (U3 tok rfl rfl rfl rfl rfl) rfl ?_) | (refine M4 ?_; first | refine M6 ?_ | refine U6 rfl (by kernel_rfl) ?_ | refine U7 (by kernel_rfl) ?_) | (refine M5 ?_; first | exact M7 | refine U8 rfl ?_ | refine U9 rfl rfl ?_ ?_))
  exact XE.round (s := k) (k + 1) hkn (by omega) (by repeat (first | exact Sub.nil | refine Sub.cons rfl ?_)) (fun _ h => h)
end Go.Proofs.Ytmodjcegmgjhoaa.X
