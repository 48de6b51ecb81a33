/-
  'scantlinglaw14.ForestNil' returns true whatever comes, and leaves what came as it was; its row's listed variable is tied to the program's text. No condition.
-/
import Derived.Test.YtfpjalgfnjjcmaaGreatDoorQf5
import Derived.Test.YtfpjalgfnjjcmaaGreatDoorRows
import Derived.LaidMore
import Derived.OpenShut
import Derived.Stop.Joined
import Derived.Test.YtfpjalgfnjjcmaaGreatDoorCards
import Derived.Test.YtfpjalgfnjjcmaaGreatDoorTie
import Derived.SevenTiedAt
import Derived.ChangeCalls
set_option linter.unusedSimpArgs false
set_option linter.unusedVariables false
set_option linter.unusedSectionVars false
set_option maxRecDepth 8000
set_option maxHeartbeats 4000000
namespace Go.Proofs.YtfpjalgfnjjcmaaGreatDoor
open Go.E Go.Proofs.YtfpjalgfnjjcmaaGreatDoor.Tryz Go.Proofs.Tryz
theorem tP_put : tP.put (.p (.slice none 0 0)) = tP := rfl
theorem ez72 : [oW, oI, oW, AV.p (Value.slice none 0 0), oW, oB, oB, oB, oB, oB, oB, oB, oB, oB, oB, oB, oB, oB, oB, oB, oB, oB, oB, oB, oB, oB, oB, oB, oB, oB, oB, oB, oB, oB, oB, oB, oB, oB, oB, oB, oB, oB, oB, oB, oB, oB, oB, oB, oB, oB, oB, oB, oB, oB, oB, oB, oB, oB, oB, oB, oB, oB, oB, oB, oB, oB, oB, oB, oB, oW, oW, oW] = z72 := rfl
theorem vz72 : z72.length = 72 /\ (∀ p : Par, p.Ok -> wrA z72 0 p.cs = p.cs) := ⟨rfl, fun p ok => wrA_all (by rw [(Par.rules ok).1]; rfl)⟩
def z136 : List AV := z68 ++ z68
theorem ez136 : (List.replicate 2 z68).flatten = z136 := rfl
theorem vz136 {x y : Hdr} (ox : x.Ok) (oy : y.Ok) : wrA (wrA z136 0 x.cs) 68 y.cs = x.cs ++ y.cs := by
 have lx := Hdr.cs_len ox
 have ly := Hdr.cs_len oy
 have e : z136 = [zH, zH].flatMap Hdr.cs := rfl
 have w : ∀ q ∈ [zH, zH], (Hdr.cs q).length = 68 := by intro q hq; simp at hq; subst hq; rfl
 have w' : ∀ q ∈ [x, zH], (Hdr.cs q).length = 68 := by intro q hq; simp at hq; rcases hq with rfl | rfl; exact lx; rfl
 have e1 := wrA_flat (f := Hdr.cs) w (n := 0) (x := zH) (y := x) rfl (k := 0) (c := x.cs) (by omega) (wrA_all (by rw [lx]; rfl))
 have e2 := wrA_flat (f := Hdr.cs) w' (n := 1) (x := zH) (y := y) rfl (k := 0) (c := y.cs) (by omega) (wrA_all (by rw [ly]; rfl))
 rw [e, show (0 : Nat) = 0 * 68 + 0 from rfl, e1]
 show wrA ([x, zH].flatMap Hdr.cs) (1 * 68 + 0) y.cs = _
 rw [e2]
 simp
theorem vs56 : (∀ V s a b c d e f l o, (FT V s ++ a :: b :: c :: d :: e :: f :: l).set (V.length + 5) o = FT V s ++ a :: b :: c :: d :: e :: o :: l) /\ (∀ V s a b c d e f g l o, (FT V s ++ a :: b :: c :: d :: e :: f :: g :: l).set (V.length + 6) o = FT V s ++ a :: b :: c :: d :: e :: f :: o :: l) := by
 have hs : ∀ (V : Tbl) s (l : Tbl) k o, (FT V s ++ l).set (V.length + k) o = FT V s ++ l.set k o := fun V s l k o => by rw [List.set_append_right _ _ (by rw [FT_len]; omega), FT_len, Nat.add_sub_cancel_left]
 exact ⟨fun V s a b c d e f l o => hs V s _ 5 o, fun V s a b c d e f g l o => hs V s _ 6 o⟩
theorem FE_moved (n b i : Nat) : moved (FE n b) i = (i == b) := by
 show ((true && decide (i = b)) || moved (EF n) i) = _
 rw [EF_moved, Bool.or_false, Bool.true_and]
 by_cases h : i = b <;> simp [h]
theorem FE_slots (n b : Nat) : (∀ l, slots (FE n b) l = l.map (AV.wo (· == b))) /\ (∀ l, slotsT (FE n b) l = l.map fun p => (p.1, p.2.wo (· == b))) := by
 have h : moved (FE n b) = (· == b) := funext fun i => FE_moved n b i
 have h2 : still (FE n b) = false := rfl
 exact ⟨fun l => by unfold slots; rw [h2, h], fun l => by unfold slotsT; rw [h2, h]⟩
theorem FW.fr {V : Tbl} {s : Fst} (h : FW V s) {k : Nat} (hk : V.length <= k) : s.Fr k := by
 have h1 := h.i.f
 have h2 := h.i.m
 have h3 := h.i.b
 refine ⟨by omega, by omega, by omega, ?_⟩
 cases hx : s.nd k with
 | none => rfl
 | some x => have := h.i.nn k x hx; omega
structure WS (B : Tbl) (D : Nat -> Prop) (s0 : Fst) (V : Tbl) (s : Fst) : Prop where
 w : FW V s
 g : s.G
 b : s.b = s0.b
 f : s.f = s0.f
 x : ∃ X, V = B ++ X
 fr : ∀ k, D k -> s.Fr k
 d : ∀ k, D k -> k < V.length
section
variable {B : Tbl} {D : Nat -> Prop} {s0 : Fst} {V : Tbl} {s : Fst}
theorem WS.add (h : WS B D s0 V s) {s' : Fst} {hd : Hdr} {ht : Nat} {gs : List (List UInt8)} {e : Int} {l : Tbl} (ha : AddR V.length s hd s' ht gs e) (hg : s'.G) (hw : FW (V ++ l) s') (hb : s'.b = s.b) (hf : s'.f = s.f) : WS B D s0 (V ++ l) s' := by
 obtain ⟨X, hX⟩ := h.x
 exact ⟨hw, hg, hb.trans h.b, hf.trans h.f, ⟨X ++ l, by rw [hX, List.append_assoc]⟩, fun k hk => (h.fr k hk).add (h.d k hk) ha, fun k hk => by have := h.d k hk; rw [List.length_append]; omega⟩
theorem WS.tail (h : WS B D s0 V s) {l : Tbl} (hl : Tl V.length s.b l) : WS B D s0 (V ++ l) s := by
 obtain ⟨X, hX⟩ := h.x
 exact ⟨h.w.app hl, h.g, h.b, h.f, ⟨X ++ l, by rw [hX, List.append_assoc]⟩, h.fr, fun k hk => by have := h.d k hk; rw [List.length_append]; omega⟩
theorem WS.box (h : WS B D s0 V s) {l : Tbl} (hl : Tl V.length s.b l) : WS (V ++ l) (fun k => D k ∨ (V.length <= k /\ k < V.length + l.length)) s0 (V ++ l) s :=
 ⟨h.w.app hl, h.g, h.b, h.f, ⟨[], by simp⟩, fun k hk => hk.elim (h.fr k) fun hk => h.w.fr hk.1, fun k hk => by rw [List.length_append]; rcases hk with hk | hk; have := h.d k hk; omega; omega⟩
theorem WS.at (h : WS B D s0 V s) {k : Nat} {o : AObj} (hk : D k) (hB : B[k]? = some o) : (FT V s)[k]? = some o /\ ∀ l, (FT V s ++ l)[k]? = some o := by
 obtain ⟨X, hX⟩ := h.x
 have hl := (List.getElem?_eq_some_iff.1 hB).1
 have e : V[k]? = some o := by rw [hX, List.getElem?_append_left hl]; exact hB
 exact ⟨by rw [FT_fr (h.fr k hk)]; exact e, fun l => by rw [FT_app (h.d k hk), FT_fr (h.fr k hk)]; exact e⟩
end
theorem qe_rec {n m b : Nat} {E : Eff} (hb : n <= b) (h : ∀ e ∈ E, e ∈ EF n) : ∀ e ∈ recE n (FE m b) E, e ∈ EF n := by
 intro e he
 obtain ⟨i, t⟩ := e
 rcases recE_mem.1 he with ⟨h1, h2⟩ | h1
 . rcases FE_mem.1 h1 with ⟨rfl, _⟩ | ⟨_, h3⟩
   . exact absurd h2 (by show ¬ i < n; omega)
   . exact EF_mem.2 ⟨h2, h3⟩
 . exact h _ h1
theorem qe_rec1 {n i : Nat} {E : Eff} (h : ∀ e ∈ E, e ∈ EF n) : ∀ e ∈ rec1 n i false E, e ∈ EF n := by
 intro e he
 unfold rec1 at he
 split at he
 . rcases List.mem_cons.1 he with rfl | he
   . exact EF_mem.2 ⟨by assumption, rfl⟩
   . exact h e he
 . exact h e he
theorem mem2 {x y z : Hdr} (ox : x.Ok) (oy : y.Ok) (h : z ∈ [x, y]) : z.Ok := by
 simp only [List.mem_cons, List.not_mem_nil, or_false] at h
 rcases h with rfl | rfl
 . exact ox
 . exact oy
theorem works_ok {T : Tbl} : CallA prog G 18 [] T fun v T' es => v = .p (.bool true) /\ T' = T /\ es = EF T.length := by
 refine CallA.wfs fun wf => ?_
 have wt := wf.t
 have hr := Par.rules tP_ok
 refine CallA.eV 29 func18 ntmps18 results18 ?_
 simp -dsimp +decide only [vr, ty, en, ↓reduceIte, Nat.reduceSub, Nat.reduceAdd, Nat.reduceMul, Nat.reduceLT, Int.reduceAdd, Int.reduceSub, Int.reduceToNat, ci]
 refine (easy13_ok (i := 10) (s := 10) (by omega)).det' ?_
 have hpw := vz72.2 _ tP_ok
 have g0 := fun l => gn0 T (.cells 30 tP.cs) l
 simp -dsimp +decide (disch := omega) only [vr, ty, en, ↓reduceIte, Nat.reduceSub, Nat.reduceAdd, Nat.reduceMul, Nat.reduceLT, Int.reduceAdd, Int.reduceSub, Int.reduceToNat, ci, vi, getO_i, vt, hr, ez72, hpw, vz72, g0]
 have hnew := fun U : Tbl => (fnew_ok (T := U) (p := tP) tP_ok (a := .p (.slice none 0 0)) (by rw [tP_put]; exact tP_ok) rfl rfl (fun _ => clone_nil) (room := 1)).mono (K' := fun v T' es => v = .tu [.ptr (U.length + 4) 0, .p (.int .i64 0)] /\ T' = FT (U ++ List.replicate 5 .gone) (Fst.mk0 tP U.length 1) /\ es = []) fun v T' es h => by rw [if_pos ⟨tP_may, by omega, by omega⟩] at h; exact h
 obtain ⟨T1, hT1⟩ : ∃ T1, T1 = T ++ [.cells 30 tP.cs] := ⟨_, rfl⟩
 rw [<- hT1]
 refine (hnew T1).det' ?_
 have hl1 : T1.length = T.length + 1 := by rw [hT1]; simp
 have wf1 : ∀ q : Nat -> Bool, (∀ i, i < T1.length -> q i = false) -> T1.map (AObj.wo q) = T1 := fun q hq => by
  rw [hT1, List.map_append, (wf.wf q fun i hi => hq i (by omega)).1]
  simp only [List.map_cons, List.map_nil, AObj.wo, hr]
 obtain ⟨V0, hV0⟩ : ∃ V0, V0 = T1 ++ List.replicate 5 AObj.gone := ⟨_, rfl⟩
 obtain ⟨s0, hs0⟩ : ∃ s0, s0 = Fst.mk0 tP T1.length 1 := ⟨_, rfl⟩
 have W0 : FW V0 s0 := by rw [hV0, hs0]; exact mk0_W wf1 tP_ok 1
 have G0 : s0.G := by rw [hs0]; exact mk0_G _ _ _
 have F0 : ∀ k, k <= T.length -> s0.Fr k := fun k hk => by rw [hs0]; exact mk0_Fr (.inl (by omega))
 have F0' : ∀ k, V0.length <= k -> s0.Fr k := fun k hk => by rw [hs0]; exact mk0_Fr (.inr (by rw [hV0] at hk; simpa using hk))
 have l0 : T.length < V0.length := by rw [hV0, List.length_append, hl1]; omega
 have P0 : V0[T.length]? = some (.cells 30 tP.cs) := by rw [hV0, hT1, List.append_assoc]; exact gn0 T _ _
 have gP : ∀ l, (FT V0 s0 ++ l)[T.length]? = some (.cells 30 tP.cs) := fun l => by rw [FT_app l0, FT_fr (F0 _ (Nat.le_refl _)), P0]
 have gP' : (FT V0 s0)[T.length]? = some (.cells 30 tP.cs) := by rw [FT_fr (F0 _ (Nat.le_refl _)), P0]
 have hf0 : T1.length + 4 = s0.f := by rw [hs0]; rfl
 rw [<- hV0, <- hs0, hf0]
 have wt0 := W0.r.t' W0.i W0.v
 have oF : tP.first.Ok := tP_ok.f
 have oA : hA.Ok := ⟨rfl, rfl⟩
 have oB : hB.Ok := ⟨rfl, rfl⟩
 have oC : hC.Ok := ⟨rfl, rfl⟩
 have oD : hD.Ok := ⟨rfl, rfl⟩
 have rF := Hdr.rules oF
 have hvF := vz68.2 _ oF
 have hvA := vz68.2 _ oA
 have hvB := vz68.2 _ oB
 have hvC := vz68.2 _ oC
 have hvD := vz68.2 _ oD
 have e1 : z32.set 0 (.p (.int .u8 1)) = (tR 1).map by8 := rfl
 have e2 : z32.set 0 (.p (.int .u8 2)) = (tR 2).map by8 := rfl
 have e3 : z32.set 0 (.p (.int .u8 3)) = (tR 3).map by8 := rfl
 have e4 : z32.set 0 (.p (.int .u8 4)) = (tR 4).map by8 := rfl
 have rA := Hdr.rules oA
 have rB := Hdr.rules oB
 simp -dsimp +decide (disch := omega) only [vr, ty, en, ↓reduceIte, Nat.reduceSub, Nat.reduceAdd, Nat.reduceMul, Nat.reduceLT, Int.reduceAdd, Int.reduceSub, Int.reduceToNat, ci, vi, getO_i, vt, vft, hr, gP, gP', wt0, kallT, rF, ez32, ez68, rep1, hvF, e1]
 have m1 := fun U l (R : List UInt8) (hR : R.length = 32) => mine13_ok (T := FT V0 s0 ++ .buf 28 68 tP.first.cs :: l) tP_ok (a := .sl V0.length 0 1) (hs := [tP.first]) (Es.obj (xs := [tP.first]) (vft.2.1 _ _ _ _) (by simp [AObj.cs]) fun x hx => Hdr.cs_len (by rw [List.mem_singleton.1 hx]; exact oF)) (fun x hx => by rw [List.mem_singleton.1 hx]; exact oF) (by decide) (time := U) (tries := 200) (root := R) hR
 refine (m1 2000 _ (tR 1) rfl).det' ?_
 rw [mine_A]
 simp -dsimp +decide (disch := omega) only [vr, ty, en, ↓reduceIte, Nat.reduceSub, Nat.reduceAdd, Nat.reduceMul, Nat.reduceLT, Int.reduceAdd, Int.reduceSub, Int.reduceToNat, ci, vi, getO_i, vt, vft, hr, gP, gP', wt0, kallT, rF, rA, ez32, ez68, vz68, hvA, e2]
 refine (m1 2000 _ (tR 2) rfl).det' ?_
 rw [mine_B]
 simp -dsimp +decide (disch := omega) only [vr, ty, en, ↓reduceIte, Nat.reduceSub, Nat.reduceAdd, Nat.reduceMul, Nat.reduceLT, Int.reduceAdd, Int.reduceSub, Int.reduceToNat, ci, vi, getO_i, vt, vft, hr, gP, gP', wt0, kallT, rF, rA, rB, ez32, ez68, vz68, hvB, e3, ez136, vz136 oF oB]
 refine (mine13_ok tP_ok (hs := [tP.first, hB]) (Es.obj (i := V0.length + 3) (xs := [tP.first, hB]) (vft.2.2.2.2.1 _ _ _ _ _ _ _) (by simp [AObj.cs]) fun x hx => Hdr.cs_len (mem2 oF oB hx)) (fun x hx => mem2 oF oB hx) (by decide) (time := 2010) (tries := 200) (root := tR 3) rfl).det' ?_
 have rC := Hdr.rules oC
 rw [mine_C]
 simp -dsimp +decide (disch := omega) only [vr, ty, en, ↓reduceIte, Nat.reduceSub, Nat.reduceAdd, Nat.reduceMul, Nat.reduceLT, Int.reduceAdd, Int.reduceSub, Int.reduceToNat, ci, vi, getO_i, vt, vft, vs56, hr, gP, gP', wt0, kallT, rF, rA, rB, rC, ez32, ez68, vz68, hvC, e4, ez136, vz136 oF oA]
 refine (mine13_ok tP_ok (hs := [tP.first, hA]) (Es.obj (i := V0.length + 5) (xs := [tP.first, hA]) (vft.2.2.2.2.2.2.1 _ _ _ _ _ _ _ _ _) (by simp [AObj.cs]) fun x hx => Hdr.cs_len (mem2 oF oA hx)) (fun x hx => mem2 oF oA hx) (by decide) (time := 2010) (tries := 200) (root := tR 4) rfl).det' ?_
 have rD := Hdr.rules oD
 rw [mine_D]
 simp -dsimp +decide (disch := omega) only [vr, ty, en, ↓reduceIte, Nat.reduceSub, Nat.reduceAdd, Nat.reduceMul, Nat.reduceLT, Int.reduceAdd, Int.reduceSub, Int.reduceToNat, ci, vi, getO_i, vt, vft, vs56, hr, gP, gP', wt0, kallT, rF, rA, rB, rC, rD, ez32, ez68, vz68, hvD]
 obtain ⟨L, hL⟩ : ∃ L : Tbl, L = [AObj.buf 28 68 tP.first.cs, AObj.cells 28 hA.cs, AObj.cells 28 hB.cs, AObj.buf 28 68 (tP.first.cs ++ hB.cs), AObj.cells 28 hC.cs, AObj.buf 28 68 (tP.first.cs ++ hA.cs), AObj.cells 28 hD.cs] := ⟨_, rfl⟩
 have tl : Tl V0.length s0.b L := by
  rw [hL]
  refine ⟨fun q _ => ?_, ?_⟩
  . simp only [List.map_cons, List.map_nil, AObj.wo, List.map_append, rF, rA, rB, rC, rD]
  . simp only [List.map_cons, List.map_nil, AObj.wo, List.map_append, rF, rA, rB, rC, rD]
 have Z0 : WS V0 (fun k => k <= T.length) s0 V0 s0 := ⟨W0, G0, rfl, rfl, ⟨[], by simp⟩, F0, fun k hk => by omega⟩
 have Z1 := Z0.box tl
 rw [<- hL, FT_tail W0.i]
 obtain ⟨V1, hV1⟩ : ∃ V1, V1 = V0 ++ L := ⟨_, rfl⟩
 rw [<- hV1] at Z1 ⊢
 have hLl : L.length = 7 := by rw [hL]; rfl
 rw [hLl] at Z1
 have hbx : ∀ j, V1[V0.length + j]? = L[j]? := fun j => by rw [hV1, List.getElem?_append_right (by omega), Nat.add_sub_cancel_left]
 have l1 : V1.length = V0.length + 7 := by rw [hV1, List.length_append, hLl]
 have xB := hbx 2
 have xC := hbx 4
 have xD := hbx 6
 have xA := hbx 1
 rw [hL] at xA xB xC xD
 have r0 : s0.room = 1 := by rw [hs0]; rfl
 have bc0 : s0.bc.length = 1 := by rw [hs0]; rfl
 have b0 : s0.b = T.length + 4 := by rw [hs0]; show T1.length + 3 = _; omega
 have f0 : s0.f = T.length + 5 := by rw [<- hf0]; omega
 have v0 : V0.length = T.length + 6 := by rw [hV0, List.length_append, hl1]; rfl
 have bq : (∀ k, (V0.length + k == s0.b) = false) /\ (V0.length == s0.b) = false /\ (s0.f == s0.b) = false /\ (T.length == s0.b) = false := ⟨fun k => by simp; omega, by simp; omega, by simp; omega, by simp; omega⟩
 refine CallA.mono (K := AddK V1 s0 hA) (fadd_ok Z1.w Z1.g oA (by omega) (by omega)) fun v T' es h => ?_
 obtain ⟨s1, t1, gs1, e1', x1, a1, R1, G1, I1, W1, -, hb1, hf1, rfl, rfl, rfl⟩ := h
 have Z2 := Z1.add R1 G1 W1 hb1 hf1
 have y1 := I1.wo
 obtain ⟨V2, hV2⟩ : ∃ V2, V2 = V1 ++ x1 := ⟨_, rfl⟩
 rw [<- hV2] at Z2 ⊢
 have gB := Z2.at (.inr ⟨by omega, by omega⟩) xB
 have q1 : s1.room = 1 := R1.dom.2.2.2.1.trans r0
 have n1 := R1.len
 simp -dsimp +decide (disch := omega) only [vr, ty, en, ↓reduceIte, Nat.reduceSub, Nat.reduceAdd, Nat.reduceMul, Nat.reduceLT, Int.reduceAdd, Int.reduceSub, Int.reduceToNat, ci, vi, getO_i, vt, vft, hr, FE_slots, bq, AV.wo, y1, gB, kallT, rB, List.map_cons, List.map_nil]
 have ha2 := fadd_ok Z2.w Z2.g oB (by omega) (by omega)
 rw [Z2.f] at ha2
 refine CallA.mono ha2 fun v T' es h => ?_
 obtain ⟨s2, t2, gs2, e2', x2, a2, R2, G2, I2, W2, -, hb2, hf2, rfl, rfl, rfl⟩ := h
 have Z3 := Z2.add R2 G2 W2 hb2 hf2
 have y2 := I2.wo
 have z2b := Z2.b
 obtain ⟨V3, hV3⟩ : ∃ V3, V3 = V2 ++ x2 := ⟨_, rfl⟩
 rw [<- hV3] at Z3 ⊢
 have q2 : s2.room = 1 := R2.dom.2.2.2.1.trans q1
 have n2 := R2.len
 simp -dsimp +decide (disch := omega) only [vr, ty, en, ↓reduceIte, Nat.reduceSub, Nat.reduceAdd, Nat.reduceMul, Nat.reduceLT, Int.reduceAdd, Int.reduceSub, Int.reduceToNat, ci, vi, getO_i, vt, vft, hr, FE_slots, bq, AV.wo, y1, y2, z2b, kallT, List.map_cons, List.map_nil]
 obtain ⟨w2, hw2⟩ := Z3.g.x _ Z3.g.t
 have hbe := best_ok Z3.w hw2
 rw [Z3.f] at hbe
 refine hbe.det' ?_
 have i2 := w2.h.id_len
 have wt3 := Z3.w.r.t' Z3.w.i Z3.w.v
 have gC := Z3.at (.inr ⟨by omega, by omega⟩) xC
 have v3 : V1.length <= V3.length := by rw [hV3, hV2, List.length_append, List.length_append]; omega
 simp -dsimp +decide (disch := omega) only [vr, ty, en, ↓reduceIte, Nat.reduceSub, Nat.reduceAdd, Nat.reduceMul, Nat.reduceLT, Int.reduceAdd, Int.reduceSub, Int.reduceToNat, ci, vi, getO_i, vt, vft, hr, vh, i2, ez32, bq, kallT, wt3, gC, rC]
 have tl2 : Tl V3.length s2.b [.cells 26 (w2.h.id.map by8)] := ⟨fun q _ => by simp only [List.map_cons, List.map_nil, AObj.wo, wb8], by simp only [List.map_cons, List.map_nil, AObj.wo, wb8]⟩
 have Z4 := Z3.tail tl2
 have Y4 := Z3.box tl2
 rw [FT_tail Z3.w.i]
 have xO : (V3 ++ [AObj.cells 26 (w2.h.id.map by8)])[V3.length]? = some (.cells 26 (w2.h.id.map by8)) := gn0 V3 _ _
 obtain ⟨V4, hV4⟩ : ∃ V4, V4 = V3 ++ [AObj.cells 26 (w2.h.id.map by8)] := ⟨_, rfl⟩
 have l4 : V4.length = V3.length + 1 := by rw [hV4]; simp
 rw [<- hV4] at Z4 Y4 xO ⊢
 have ha3 := fadd_ok Z4.w Z4.g oC (by omega) (by omega)
 rw [Z4.f] at ha3
 refine CallA.mono ha3 fun v T' es h => ?_
 obtain ⟨s3, t3, gs3, e3', x3, a3, R3, G3, I3, W3, -, hb3, hf3, rfl, rfl, rfl⟩ := h
 have Z5 := Z4.add R3 G3 W3 hb3 hf3
 have Y5 := Y4.add R3 G3 W3 hb3 hf3
 have y3 := I3.wo
 have z3b := Z3.b
 obtain ⟨V5, hV5⟩ : ∃ V5, V5 = V4 ++ x3 := ⟨_, rfl⟩
 rw [<- hV5] at Z5 Y5 ⊢
 have l5 : V4.length <= V5.length := by rw [hV5, List.length_append]; omega
 have q3 : s3.room = 1 := R3.dom.2.2.2.1.trans q2
 have n3 := R3.len
 have bq3 : (V3.length == s0.b) = false := by simp; omega
 simp -dsimp +decide (disch := omega) only [vr, ty, en, ↓reduceIte, Nat.reduceSub, Nat.reduceAdd, Nat.reduceMul, Nat.reduceLT, Int.reduceAdd, Int.reduceSub, Int.reduceToNat, ci, vi, getO_i, vt, vft, hr, FE_slots, bq, bq3, AV.wo, y1, y2, y3, z2b, z3b, kallT, List.map_cons, List.map_nil]
 obtain ⟨w3, hw3⟩ := Z5.g.x _ Z5.g.t
 have hbe3 := best_ok Z5.w hw3
 rw [Z5.f] at hbe3
 refine hbe3.det' ?_
 have i3 := w3.h.id_len
 have wt5 := Z5.w.r.t' Z5.w.i Z5.w.v
 have gD := Z5.at (.inr ⟨by omega, by omega⟩) xD
 simp -dsimp +decide (disch := omega) only [vr, ty, en, ↓reduceIte, Nat.reduceSub, Nat.reduceAdd, Nat.reduceMul, Nat.reduceLT, Int.reduceAdd, Int.reduceSub, Int.reduceToNat, ci, vi, getO_i, vt, vft, hr, vh, i3, ez32, bq, kallT, wt5, gD, rD]
 have tl3 : Tl V5.length s3.b [.cells 26 (w3.h.id.map by8)] := ⟨fun q _ => by simp only [List.map_cons, List.map_nil, AObj.wo, wb8], by simp only [List.map_cons, List.map_nil, AObj.wo, wb8]⟩
 have Z6 := Z5.tail tl3
 have Y6 := Y5.tail tl3
 have X6 := Z5.box tl3
 rw [FT_tail Z5.w.i]
 have xT : (V5 ++ [AObj.cells 26 (w3.h.id.map by8)])[V5.length]? = some (.cells 26 (w3.h.id.map by8)) := gn0 V5 _ _
 obtain ⟨V6, hV6⟩ : ∃ V6, V6 = V5 ++ [AObj.cells 26 (w3.h.id.map by8)] := ⟨_, rfl⟩
 have l6 : V6.length = V5.length + 1 := by rw [hV6]; simp
 rw [<- hV6] at Z6 Y6 X6 xT ⊢
 have ha4 := fadd_ok Z6.w Z6.g oD (by omega) (by omega)
 rw [Z6.f] at ha4
 refine CallA.mono ha4 fun v T' es h => ?_
 obtain ⟨s4, t4, gs4, e4', x4, a4, R4, G4, I4, W4, -, hb4, hf4, rfl, rfl, rfl⟩ := h
 have Z7 := Z6.add R4 G4 W4 hb4 hf4
 have Y7 := Y6.add R4 G4 W4 hb4 hf4
 have X7 := X6.add R4 G4 W4 hb4 hf4
 have y4 := I4.wo
 have z5b := Z5.b
 obtain ⟨V7, hV7⟩ : ∃ V7, V7 = V6 ++ x4 := ⟨_, rfl⟩
 rw [<- hV7] at Z7 Y7 X7 ⊢
 have bq5 : (V5.length == s0.b) = false := by simp; omega
 rw [hs0] at R1
 obtain ⟨⟨rfl, rfl, rfl, rfl, rfl, rfl⟩, -, ⟨w2', h21, h22, h23⟩, ⟨w3', h31, h32, h33⟩⟩ := tP_run R1 R2 R3 R4
 rw [hw2] at h21; cases h21
 rw [hw3] at h31; cases h31
 have hsg := Sl.rules (I4.es (FT V7 s4)).sl (by decide)
 have hld := (I4.es (FT V7 s4)).ld (P := prog) (t := 26) (by (simp -dsimp +decide only [vr, ty, en, ↓reduceIte, Nat.reduceSub, Nat.reduceAdd, Nat.reduceMul, Nat.reduceLT, Int.reduceAdd, Int.reduceSub, Int.reduceToNat, ci])) (by (simp -dsimp +decide only [vr, ty, en, ↓reduceIte, Nat.reduceSub, Nat.reduceAdd, Nat.reduceMul, Nat.reduceLT, Int.reduceAdd, Int.reduceSub, Int.reduceToNat, ci])) (by decide)
 simp -dsimp +decide (disch := omega) only [vr, ty, en, ↓reduceIte, Nat.reduceSub, Nat.reduceAdd, Nat.reduceMul, Nat.reduceLT, Int.reduceAdd, Int.reduceSub, Int.reduceToNat, ci, vi, getO_i, vt, vft, hr, FE_slots, bq, bq3, bq5, AV.wo, y1, y2, y3, y4, z2b, z3b, z5b, kallT, List.map_cons, List.map_nil]
 refine SemA.draw (fun i => true) [(0, true), (1, true), (2, true), (3, true), (4, true), (5, true), (6, true), (7, true), (8, true), (9, true), (10, true), (11, true), (12, true), (13, true), (14, true), (15, true), (16, true), (17, true), (18, true), (19, true), (20, true), (21, true), (22, true), (23, true), (24, false), (25, true), (26, true)] mixed (by kernel_rfl) ?_
 have gD7 := Z7.at (.inr ⟨by omega, by omega⟩) xD
 have hld0 : ∀ K : AV -> Prop, loadA prog 26 (a4.pl 0) (FT V7 s4) K = K (.ag (hD.id.map by8)) := fun K => (hld.2 0 K (by decide)).trans rfl
 have hl1 : [hD.id].length = 1 := rfl
 simp -dsimp +decide (disch := omega) only [vr, ty, en, ↓reduceIte, Nat.reduceSub, Nat.reduceAdd, Nat.reduceMul, Nat.reduceLT, Int.reduceAdd, Int.reduceSub, Int.reduceToNat, ci, vi, getO_i, vt, vft, hr, kallT, hsg, hld0, gD7, rD, hl1]
 refine (rid_ok oD).det' ?_
 have nD := neh hD.id_len hD.id_len
 have dd : (!decide (hD.id = hD.id)) = false := by simp
 simp -dsimp +decide (disch := omega) only [vr, ty, en, ↓reduceIte, Nat.reduceSub, Nat.reduceAdd, Nat.reduceMul, Nat.reduceLT, Int.reduceAdd, Int.reduceSub, Int.reduceToNat, ci, vi, getO_i, vt, vft, hr, kallT, nD, dd, bb2]
 refine SemA.draw (fun i => true) [(0, true), (1, true), (2, false), (3, true), (4, true), (5, true), (6, true), (7, true), (8, true), (9, true), (10, true), (11, false), (12, true), (13, true), (14, true), (15, true), (16, true), (17, true), (18, true)] mixed (by kernel_rfl) ?_
 have gO := Y7.at (.inr ⟨Nat.le_refl _, by simp⟩) xO
 have gT := X7.at (.inr ⟨Nat.le_refl _, by simp⟩) xT
 have gA7 := Z7.at (.inr ⟨by omega, by omega⟩) xA
 have gC7 := Z7.at (.inr ⟨by omega, by omega⟩) xC
 rw [h22] at gO
 rw [h32] at gT
 simp -dsimp +decide (disch := omega) only [vr, ty, en, ↓reduceIte, Nat.reduceSub, Nat.reduceAdd, Nat.reduceMul, Nat.reduceLT, Int.reduceAdd, Int.reduceSub, Int.reduceToNat, ci, vi, getO_i, vt, vft, hr, kallT, vh, hA.id_len, gO, gA7, rA, bb2]
 refine (rid_ok oA).det' ?_
 have tA : List.take 32 (List.drop 0 hA.id) = hA.id := by rw [List.drop_zero, List.take_of_length_le (by rw [hA.id_len]; omega)]
 have tC : List.take 32 (List.drop 0 hC.id) = hC.id := by rw [List.drop_zero, List.take_of_length_le (by rw [hC.id_len]; omega)]
 have nA := eqh hA.id_len hA.id_len
 have nC := eqh hC.id_len hC.id_len
 have dA : decide (hA.id = hA.id) = true := by simp
 have dC : decide (hC.id = hC.id) = true := by simp
 simp -dsimp +decide (disch := omega) only [vr, ty, en, ↓reduceIte, Nat.reduceSub, Nat.reduceAdd, Nat.reduceMul, Nat.reduceLT, Int.reduceAdd, Int.reduceSub, Int.reduceToNat, ci, vi, getO_i, vt, vft, hr, kallT, vh, hA.id_len, hC.id_len, gO, gT, gC7, rC, tA, nA, dA, bb2]
 refine (rid_ok oC).det' ?_
 have h33' : ((w3.ht : Int)) = 2 := by rw [h33]; rfl
 simp -dsimp +decide (disch := omega) only [vr, ty, en, ↓reduceIte, Nat.reduceSub, Nat.reduceAdd, Nat.reduceMul, Nat.reduceLT, Int.reduceAdd, Int.reduceSub, Int.reduceToNat, ci, vi, getO_i, vt, vft, hr, kallT, vh, tC, nC, dC, h33', bb2]
 obtain ⟨X, hX⟩ := Z7.x
 obtain ⟨Q, hQ⟩ := FT_pre (T := T) (X := [AObj.cells 30 tP.cs] ++ (List.replicate 5 AObj.gone ++ (L ++ X))) (s := s4) fun k hk => Z7.fr k (.inl (by show k <= T.length; omega))
 have hV7e : V7 = T ++ ([AObj.cells 30 tP.cs] ++ (List.replicate 5 AObj.gone ++ (L ++ X))) := by rw [hX, hV1, hV0, hT1]; simp only [List.append_assoc]
 rw [hV7e, hQ]
 have hb4 : T.length <= s0.b := by omega
 exact Vw.eff (E' := EF T.length) (qe_rec hb4 (qe_rec1 (qe_rec hb4 (qe_rec1 (qe_rec hb4 (qe_rec hb4 (qe_rec1 (qe_rec1 (qe_rec1 (qe_rec1 (by simp))))))))))) (Vw.cut ⟨rfl, rfl, rfl⟩)
end Go.Proofs.YtfpjalgfnjjcmaaGreatDoor
namespace Go.Proofs.YtfpjalgfnjjcmaaGreatDoor
open Go.E Go.Proofs.YtfpjalgfnjjcmaaGreatDoor.Tryz Go.Proofs.Tryz
set_option maxRecDepth 8000
theorem size_nil {T : Tbl} : CallA prog G 19 [.p (.pointer none)] T fun v T' es => v = .tu [wint 0, wint 0] /\ T' = T /\ es = [] := by
 refine CallA.eV 4 func19 ntmps19 results19 ?_
 simp -dsimp +decide only [vrm, vy, vz, vze, vr, ty, en, ↓reduceIte, Nat.reduceSub, Nat.reduceAdd, Nat.reduceMul, Nat.reduceLT, Int.reduceAdd, Int.reduceSub, Int.reduceToNat, ci]
 exact Vw.done ⟨rfl, rfl, rfl⟩
theorem chain_nil {T : Tbl} : CallA prog G 15 [.p (.pointer none)] T fun v T' es => v = .p (.slice none 0 0) /\ T' = T /\ es = [] := by
 refine CallA.eV 3 func15 ntmps15 results15 ?_
 simp -dsimp +decide only [vrm, vy, vz, vze, vr, ty, en, ↓reduceIte, Nat.reduceSub, Nat.reduceAdd, Nat.reduceMul, Nat.reduceLT, Int.reduceAdd, Int.reduceSub, Int.reduceToNat, ci]
 exact Vw.done ⟨rfl, rfl, rfl⟩
theorem work_nil {T : Tbl} : CallA prog G 17 [.p (.pointer none)] T fun v T' es => v = .ag (Bg 0) /\ T' = T /\ es = [] := by
 refine CallA.wfs fun wf => ?_
 have wt := wf.t
 have ez : [oQ, oQ, oQ, oQ] = Bg 0 := rfl
 refine CallA.eV 3 func17 ntmps17 results17 ?_
 simp -dsimp +decide only [vrm, vy, vz, vze, vr, ty, en, ↓reduceIte, Nat.reduceSub, Nat.reduceAdd, Nat.reduceMul, Nat.reduceLT, Int.reduceAdd, Int.reduceSub, Int.reduceToNat, ci]
 simp -dsimp +decide (disch := omega) only [vrm, vy, vz, vze, vr, ty, en, ↓reduceIte, Nat.reduceSub, Nat.reduceAdd, Nat.reduceMul, Nat.reduceLT, Int.reduceAdd, Int.reduceSub, Int.reduceToNat, ci, vi, getO_i, vt, bb2, ez, vbg]
 exact Vw.cut ⟨rfl, rfl, rfl⟩
theorem best_nil {T : Tbl} : CallA prog G 16 [.p (.pointer none)] T fun v T' es => v = .tu [.ag z32, wint 0] /\ T' = T /\ es = [] := by
 refine CallA.wfs fun wf => ?_
 have wt := wf.t
 have hz : wrA z32 0 (List.take 32 z32) = z32 /\ List.take 32 z32 = z32 /\ wrA z32 0 z32 = z32 := ⟨rfl, rfl, rfl⟩
 refine CallA.eV 4 func16 ntmps16 results16 ?_
 simp -dsimp +decide only [vrm, vy, vz, vze, vr, ty, en, ↓reduceIte, Nat.reduceSub, Nat.reduceAdd, Nat.reduceMul, Nat.reduceLT, Int.reduceAdd, Int.reduceSub, Int.reduceToNat, ci]
 have g0 := fun a l => gn0 T a l
 simp -dsimp +decide (disch := omega) only [vrm, vy, vz, vze, vr, ty, en, ↓reduceIte, Nat.reduceSub, Nat.reduceAdd, Nat.reduceMul, Nat.reduceLT, Int.reduceAdd, Int.reduceSub, Int.reduceToNat, ci, vi, getO_i, vt, bb2, ez32, vh, hz, g0, vres, vone]
 exact Vw.cut ⟨by simp only [AV.wo, AV.woL, AV.woL_eq, vh, wint]; rfl, rfl, rfl⟩
theorem find_nil {T : Tbl} {id : List UInt8} (hid : id.length = 32) : CallA prog G 20 [.p (.pointer none), .ag (id.map by8)] T fun v T' es => v = .tu [wint 0, .p (.bool false), .p (.bool false)] /\ T' = T /\ es = [] := by
 refine CallA.wfs fun wf => ?_
 have wt := wf.t
 refine CallA.eV 7 func20 ntmps20 results20 ?_
 simp -dsimp +decide only [vrm, vy, vz, vze, vr, ty, en, ↓reduceIte, Nat.reduceSub, Nat.reduceAdd, Nat.reduceMul, Nat.reduceLT, Int.reduceAdd, Int.reduceSub, Int.reduceToNat, ci]
 refine SemA.draw (fun i => true) [(0, true), (1, true), (2, true), (3, true), (4, true), (5, true), (6, true), (7, true), (8, true), (9, true), (10, true)] mixed (by kernel_rfl) ?_
 simp -dsimp +decide (disch := omega) only [vrm, vy, vz, vze, vr, ty, en, ↓reduceIte, Nat.reduceSub, Nat.reduceAdd, Nat.reduceMul, Nat.reduceLT, Int.reduceAdd, Int.reduceSub, Int.reduceToNat, ci, vi, getO_i, vt, bb2, ez32, vh, hid, kallT]
 exact Vw.cut ⟨rfl, rfl, rfl⟩
theorem at_nil {T : Tbl} : CallA prog G 24 [.p (.pointer none), wint 0] T fun v T' es => v = .tu [.ag zH.cs, .p (.bool false)] /\ T' = T /\ es = [] := by
 refine CallA.wfs fun wf => ?_
 have wt := wf.t
 have hvz : wrA zH.cs 0 zH.cs = zH.cs /\ zH.cs.length = 68 /\ List.take 68 zH.cs = zH.cs := ⟨rfl, rfl, rfl⟩
 have hzw := (Hdr.rules zH_ok)
 refine CallA.eV 6 func24 ntmps24 results24 ?_
 simp -dsimp +decide only [vrm, vy, vz, vze, vr, ty, en, ↓reduceIte, Nat.reduceSub, Nat.reduceAdd, Nat.reduceMul, Nat.reduceLT, Int.reduceAdd, Int.reduceSub, Int.reduceToNat, ci]
 have g0 := fun a l => gn0 T a l
 simp -dsimp +decide (disch := omega) only [vrm, vy, vz, vze, vr, ty, en, ↓reduceIte, Nat.reduceSub, Nat.reduceAdd, Nat.reduceMul, Nat.reduceLT, Int.reduceAdd, Int.reduceSub, Int.reduceToNat, ci, vi, getO_i, vt, bb2, ez68, vz68, hvz, <- zH_cs, g0, vres, vone]
 exact Vw.cut ⟨by simp only [AV.wo, AV.woL, AV.woL_eq, hzw], rfl, rfl⟩
theorem add_nil {T : Tbl} {h : Hdr} (ok : h.Ok) : CallA prog G 11 [.p (.pointer none), .ag h.cs] T fun v T' es => v = .tu [wint 0, .p (.slice none 0 0), .p (.int .i64 2)] /\ T' = T /\ es = [] := by
 refine CallA.wfs fun wf => ?_
 have wt := wf.t
 have hr := Hdr.rules ok
 have g2 := fun a b c l => gn2 T a b c l
 refine CallA.enterM 122 func11 ntmps11 (congrArg Array.toList results11) rfl ⟨by simp, by simp⟩ (by kernel_rfl) ?_
 refine SemA.o ?_
 simp -dsimp +decide (disch := omega) only [vrm, vy, vz, vze, vr, ty, en, ↓reduceIte, Nat.reduceSub, Nat.reduceAdd, Nat.reduceMul, Nat.reduceLT, Int.reduceAdd, Int.reduceSub, Int.reduceToNat, ci, vi, getO_i, vt, hr, vrm, bb2, g2, vres, vone]
 exact Vw.cut ⟨rfl, rfl, rfl⟩
structure Par.Wk (p : Par) : Prop where
 f : p.first.Ok
 a : ∀ T, Es T 33 Pt.cs p.pa p.pts
 l : p.pts.length <= 4398046511104
 i : -9223372036854775808 <= p.interval /\ p.interval <= 9223372036854775807
 wo : ∀ q, p.pa.wo q = p.pa
 pub : ∀ i cs, p.pa.pub i cs = p.pa
 one : AV.one p.pa = true
 h : ∀ x ∈ p.pts, -9223372036854775808 <= x.h /\ x.h <= 9223372036854775807
theorem Par.Wk.ok {p : Par} (w : p.Wk) (h : p.pts.length <= 50) : p.Ok := ⟨w.f, w.a, by omega, w.i, w.wo, w.pub, w.one, w.h⟩
theorem Par.rulesW {p : Par} (ok : p.Wk) : p.cs.length = 72 /\ p.cs[0]? = some (w32 p.limit) /\ p.cs[1]? = some (wint p.interval) /\ p.cs[2]? = some (w32 p.spacing) /\ p.cs[3]? = some p.pa /\ List.take 68 (List.drop 4 p.cs) = p.first.cs /\ p.cs[69]? = some (w32 p.first.time) /\ p.cs[70]? = some (w32 p.first.bits) /\
 List.take 72 (List.drop 0 p.cs) = p.cs /\ List.take 72 p.cs = p.cs /\ (∀ q, p.cs.map (AV.wo q) = p.cs) /\ (∀ i cs, p.cs.map (AV.pub i cs) = p.cs) /\ ones p.cs = true := by
 have hr := Hdr.rules ok.f
 have hl : p.cs.length = 72 := by simp [Par.cs, hr.1]
 have hd : List.drop 4 p.cs = p.first.cs := rfl
 have hg : ∀ k, p.cs[4 + k]? = p.first.cs[k]? := fun k => by rw [<- List.getElem?_drop, hd]
 refine ⟨hl, rfl, rfl, rfl, rfl, by rw [hd]; exact hr.2.2.2.2.2.2.2.2.1, by rw [show 69 = 4 + 65 from rfl, hg]; exact hr.2.2.2.2.1, by rw [show 70 = 4 + 66 from rfl, hg]; exact hr.2.2.2.2.2.1, by rw [List.drop_zero, List.take_of_length_le (by omega)], List.take_of_length_le (by omega), fun q => ?_, fun i cs => ?_, ?_⟩
 . simp only [Par.cs, List.map_cons, hr.2.2.2.2.2.2.2.2.2.1, ok.wo]
   simp only [w32, wint, AV.wo]
 . simp only [Par.cs, List.map_cons, hr.2.2.2.2.2.2.2.2.2.2.1, ok.pub]
   simp only [w32, wint, AV.pub]
 . have h1 : AV.one (w32 p.limit) = true := rfl
   have h2 : AV.one (wint p.interval) = true := rfl
   have h3 : AV.one (w32 p.spacing) = true := rfl
   have h4 : List.all p.first.cs AV.one = true := hr.2.2.2.2.2.2.2.2.2.2.2
   rw [ones, Par.cs, List.all_cons, List.all_cons, List.all_cons, List.all_cons, h1, h2, h3, ok.one, h4]; rfl
theorem nz32 (xo yo : Operand) (K : AV -> Prop) : binA prog .neq 26 (.ag z32) (.ag z32) xo yo K = K (.p (.bool false)) := (neh (l := h0b) (m := h0b) rfl rfl xo yo K).trans (by simp)
theorem nzB (xo yo : Operand) (K : AV -> Prop) : binA prog .neq 47 (.ag (Bg 0)) (.ag (Bg 0)) xo yo K = K (.p (.bool false)) := (neB (by decide) (by decide) xo yo K).trans (by simp)
theorem forestNil_ok {T : Tbl} {p : Par} (okw : p.Wk) (hk : p.pa.known = some [p.pa]) {room : Int} {h : Hdr} (ok : h.Ok) (hcl : p.pts.length <= 50 -> ∀ T, CallA prog G 27 [p.pa] T fun v T' es => v = p.pa /\ T' = T /\ es = []) :
 CallA prog G 6 [.ag p.cs, wint room, .ag h.cs] T fun v _ _ => v = .p (.bool true) := by
 refine CallA.wfs fun wf => ?_
 have wt := wf.t
 have hr := Hdr.rules ok
 have hr2 := Par.rulesW okw
 have hpl := okw.l
 have hsp := Sl.rules (okw.a T).sl (by decide)
 have g0 := fun l => gn0 T (.cells 30 p.cs) l
 have g1 := fun a l => gn1 T a (.cells 28 h.cs) l
 refine CallA.eV 22 func6 ntmps6 results6 ?_
 simp -dsimp +decide only [vr, ty, en, ↓reduceIte, Nat.reduceSub, Nat.reduceAdd, Nat.reduceMul, Nat.reduceLT, Int.reduceAdd, Int.reduceSub, Int.reduceToNat, ci]
 by_cases c1 : p.pts.length <= 50
 case neg =>
  have i1 : (50 < (p.pts.length : Int)) = True := eq_true (by omega)
  simp -dsimp +decide (disch := omega) only [vr, ty, en, ↓reduceIte, Nat.reduceSub, Nat.reduceAdd, Nat.reduceMul, Nat.reduceLT, Int.reduceAdd, Int.reduceSub, Int.reduceToNat, ci, vi, getO_i, vt, hr, hr2, hsp, g0, i1, bb2]
  refine works_ok.det' ?_
  simp -dsimp +decide (disch := omega) only [vr, ty, en, ↓reduceIte, Nat.reduceSub, Nat.reduceAdd, Nat.reduceMul, Nat.reduceLT, Int.reduceAdd, Int.reduceSub, Int.reduceToNat, ci, vi, getO_i, vt, EF_slots, bb2]
  exact Vw.done rfl
 have i1 : (50 < (p.pts.length : Int)) = False := eq_false (by omega)
 have okp := okw.ok c1
 simp -dsimp +decide (disch := omega) only [vr, ty, en, ↓reduceIte, Nat.reduceSub, Nat.reduceAdd, Nat.reduceMul, Nat.reduceLT, Int.reduceAdd, Int.reduceSub, Int.reduceToNat, ci, vi, getO_i, vt, hr, hr2, hsp, g0, g1, i1, bb2]
 refine (add_nil ok).det' ?_
 simp -dsimp +decide (disch := omega) only [vr, ty, en, ↓reduceIte, Nat.reduceSub, Nat.reduceAdd, Nat.reduceMul, Nat.reduceLT, Int.reduceAdd, Int.reduceSub, Int.reduceToNat, ci, vi, getO_i, vt, hr, hr2, g0, g1, bb2]
 refine best_nil.det' ?_
 have hz : wrA z32 0 (List.take 32 z32) = z32 /\ List.take 32 z32 = z32 /\ wrA z32 0 z32 = z32 /\ z32.length = 32 := ⟨rfl, rfl, rfl, rfl⟩
 have hz8 : wrA z68 0 zH.cs = zH.cs /\ zH.cs.length = 68 /\ z68.length = 68 := ⟨rfl, rfl, rfl⟩
 have g2 := fun a b l => gn2 T a b (.cells 26 z32) l
 simp -dsimp +decide (disch := omega) only [vr, ty, en, ↓reduceIte, Nat.reduceSub, Nat.reduceAdd, Nat.reduceMul, Nat.reduceLT, Int.reduceAdd, Int.reduceSub, Int.reduceToNat, ci, vi, getO_i, vt, hr, hr2, g0, g1, bb2, ez32, hz]
 refine at_nil.det' ?_
 simp -dsimp +decide (disch := omega) only [vr, ty, en, ↓reduceIte, Nat.reduceSub, Nat.reduceAdd, Nat.reduceMul, Nat.reduceLT, Int.reduceAdd, Int.reduceSub, Int.reduceToNat, ci, vi, getO_i, vt, hr, hr2, g0, g1, bb2, ez68, hz8]
 refine (find_nil ok.p).det' ?_
 simp -dsimp +decide (disch := omega) only [vr, ty, en, ↓reduceIte, Nat.reduceSub, Nat.reduceAdd, Nat.reduceMul, Nat.reduceLT, Int.reduceAdd, Int.reduceSub, Int.reduceToNat, ci, vi, getO_i, vt, hr, hr2, g0, g1, bb2]
 refine size_nil.det' ?_
 have ez : [oQ, oQ, oQ, oQ] = Bg 0 := rfl
 simp -dsimp +decide (disch := omega) only [vr, ty, en, ↓reduceIte, Nat.reduceSub, Nat.reduceAdd, Nat.reduceMul, Nat.reduceLT, Int.reduceAdd, Int.reduceSub, Int.reduceToNat, ci, vi, getO_i, vt, hr, hr2, g0, g1, g2, bb2, hz, ez32, nz32]
 refine chain_nil.det' ?_
 simp -dsimp +decide (disch := omega) only [vr, ty, en, ↓reduceIte, Nat.reduceSub, Nat.reduceAdd, Nat.reduceMul, Nat.reduceLT, Int.reduceAdd, Int.reduceSub, Int.reduceToNat, ci, vi, getO_i, vt, hr, hr2, g0, g1, g2, bb2, hz, ez32, nz32]
 refine work_nil.det' ?_
 simp -dsimp +decide (disch := omega) only [vr, ty, en, ↓reduceIte, Nat.reduceSub, Nat.reduceAdd, Nat.reduceMul, Nat.reduceLT, Int.reduceAdd, Int.reduceSub, Int.reduceToNat, ci, vi, getO_i, vt, hr, hr2, g0, g1, g2, bb2, hz, ez, nzB]
 have hput : p.put p.pa = p := rfl
 refine CallA.mono (fnew_ok (p := p) okp (a := p.pa) (by rw [hput]; exact okp) hk okw.one (hcl c1)) fun v T' es hK => ?_
 rw [hput] at hK
 obtain ⟨U, hU⟩ : ∃ U, U = T ++ [.cells 30 p.cs, .cells 28 h.cs, .cells 26 z32, .cells 28 zH.cs] := ⟨_, rfl⟩
 rw [<- hU] at hK
 by_cases c : mayB p = true /\ 1 <= room /\ room <= 4096
 . rw [if_pos c] at hK
   obtain ⟨rfl, rfl, rfl⟩ := hK
   obtain ⟨h1, h2, h3⟩ := c
   have hul : T.length < U.length := by rw [hU, List.length_append]; simp
   have gU : (FT (U ++ List.replicate 5 .gone) (Fst.mk0 p U.length room.toNat))[T.length]? = some (.cells 30 p.cs) := by
    rw [FT_fr (mk0_Fr (.inl (by omega))), List.getElem?_append_left hul, hU, g0]
   have i2 := eq_true h2
   have i3 := eq_true h3
   simp -dsimp +decide (disch := omega) only [vr, ty, en, ↓reduceIte, Nat.reduceSub, Nat.reduceAdd, Nat.reduceMul, Nat.reduceLT, Int.reduceAdd, Int.reduceSub, Int.reduceToNat, ci, vi, getO_i, vt, hr2, gU, bb2]
   refine (may13_ok okp).det' ?_
   rw [h1]
   simp -dsimp +decide (disch := omega) only [vr, ty, en, ↓reduceIte, Nat.reduceSub, Nat.reduceAdd, Nat.reduceMul, Nat.reduceLT, Int.reduceAdd, Int.reduceSub, Int.reduceToNat, ci, vi, getO_i, vt, hr2, gU, bb2, i2, i3]
   refine works_ok.det' ?_
   simp -dsimp +decide (disch := omega) only [vr, ty, en, ↓reduceIte, Nat.reduceSub, Nat.reduceAdd, Nat.reduceMul, Nat.reduceLT, Int.reduceAdd, Int.reduceSub, Int.reduceToNat, ci, vi, getO_i, vt, EF_slots, bb2]
   exact Vw.done rfl
 . rw [if_neg c] at hK
   obtain ⟨rfl, rfl, rfl⟩ := hK
   have gU : T'[T.length]? = some (.cells 30 p.cs) := by rw [hU, g0]
   simp -dsimp +decide (disch := omega) only [vr, ty, en, ↓reduceIte, Nat.reduceSub, Nat.reduceAdd, Nat.reduceMul, Nat.reduceLT, Int.reduceAdd, Int.reduceSub, Int.reduceToNat, ci, vi, getO_i, vt, hr2, gU, bb2]
   refine (may13_ok okp).det' ?_
   have key : (mayB p && (decide (1 <= room) && decide (room <= 4096))) = false := by
    rw [Bool.eq_false_iff]; intro e; simp only [Bool.and_eq_true, decide_eq_true_eq] at e; exact c e
   cases h1 : mayB p with
   | false =>
     simp -dsimp +decide (disch := omega) only [vr, ty, en, ↓reduceIte, Nat.reduceSub, Nat.reduceAdd, Nat.reduceMul, Nat.reduceLT, Int.reduceAdd, Int.reduceSub, Int.reduceToNat, ci, vi, getO_i, vt, hr2, gU, bb2]
     refine works_ok.det' ?_
     simp -dsimp +decide (disch := omega) only [vr, ty, en, ↓reduceIte, Nat.reduceSub, Nat.reduceAdd, Nat.reduceMul, Nat.reduceLT, Int.reduceAdd, Int.reduceSub, Int.reduceToNat, ci, vi, getO_i, vt, EF_slots, bb2]
     exact Vw.done rfl
   | true =>
     by_cases h2 : 1 <= room
     . have h3 : ¬ room <= 4096 := fun h3 => c ⟨h1, h2, h3⟩
       have i2 := eq_true h2
       have i3 := eq_false h3
       simp -dsimp +decide (disch := omega) only [vr, ty, en, ↓reduceIte, Nat.reduceSub, Nat.reduceAdd, Nat.reduceMul, Nat.reduceLT, Int.reduceAdd, Int.reduceSub, Int.reduceToNat, ci, vi, getO_i, vt, hr2, gU, bb2, i2, i3]
       refine works_ok.det' ?_
       simp -dsimp +decide (disch := omega) only [vr, ty, en, ↓reduceIte, Nat.reduceSub, Nat.reduceAdd, Nat.reduceMul, Nat.reduceLT, Int.reduceAdd, Int.reduceSub, Int.reduceToNat, ci, vi, getO_i, vt, EF_slots, bb2]
       exact Vw.done rfl
     . have i2 := eq_false h2
       simp -dsimp +decide (disch := omega) only [vr, ty, en, ↓reduceIte, Nat.reduceSub, Nat.reduceAdd, Nat.reduceMul, Nat.reduceLT, Int.reduceAdd, Int.reduceSub, Int.reduceToNat, ci, vi, getO_i, vt, hr2, gU, bb2, i2]
       refine works_ok.det' ?_
       simp -dsimp +decide (disch := omega) only [vr, ty, en, ↓reduceIte, Nat.reduceSub, Nat.reduceAdd, Nat.reduceMul, Nat.reduceLT, Int.reduceAdd, Int.reduceSub, Int.reduceToNat, ci, vi, getO_i, vt, EF_slots, bb2]
       exact Vw.done rfl
end Go.Proofs.YtfpjalgfnjjcmaaGreatDoor
namespace Go.E
theorem Vw.weak {G : Nat -> AV} {T0 T : Tbl} {E : Eff} {K : AV -> Tbl -> Eff -> Prop} {v u : AV} (hr : ∀ Z ρ x, Rel Z ρ v x -> Rel Z ρ u x) (h : Vw G T0 K u T E) : Vw G T0 K v T E :=
 fun Z0 ρ0 w0 Z ρ w x hs hf hx => h Z0 ρ0 w0 Z ρ w x hs hf (hr _ _ _ hx)
theorem vnil : (∀ (P : Program) (op : BinOp) (t : TypeId) (cs : List AV) (n : Nat) (xo yo : Operand) (K : AV -> Prop), binA P op t (.vs cs n) (.p (.slice none 0 0)) xo yo K = nilS (tk P t) op cs n K) /\
 (∀ (e : TypeId) (cs : List AV) (n : Nat) (K : AV -> Prop), nilS (.slice e) .eql cs n K = (K (.p (.bool false)) /\ ((cs = [] ∨ n = 0) -> K (.p (.bool true))))) :=
 ⟨fun _ _ _ _ _ _ _ _ => rfl, fun _ _ _ _ => rfl⟩
end Go.E
namespace Go.Proofs.YtfpjalgfnjjcmaaGreatDoor
open Go.E Go.Proofs.YtfpjalgfnjjcmaaGreatDoor.Tryz Go.Proofs.Tryz
theorem pt_clean (l : List Pt) : ∀ a ∈ l.flatMap Pt.cs, a.Clean := by
 intro a ha
 obtain ⟨x, _, hx⟩ := List.mem_flatMap.1 ha
 simp only [Pt.cs, List.mem_cons, List.mem_map] at hx
 rcases hx with rfl | ⟨y, _, rfl⟩ <;> exact .p _
theorem pt_ones : ∀ l : List Pt, ones (l.flatMap Pt.cs) = true
 | [] => rfl
 | x :: r => by
   have h1 : List.all x.cs AV.one = true := List.all_eq_true.2 fun a ha => by
    simp only [Pt.cs, List.mem_cons, List.mem_map] at ha
    rcases ha with rfl | ⟨y, _, rfl⟩ <;> rfl
   have h2 : List.all (r.flatMap Pt.cs) AV.one = true := pt_ones r
   show List.all ((x :: r).flatMap Pt.cs) AV.one = true
   rw [List.flatMap_cons, List.all_append, h1, h2]; rfl
theorem clone_vs {T : Tbl} {l : List Pt} (hw : ∀ x ∈ l, (Pt.cs x).length = 33) (hl : l.length <= 50) :
 CallA prog G 27 [.vs (l.flatMap Pt.cs) l.length] T fun v T' es => v = .vs (l.flatMap Pt.cs) l.length /\ T' = T /\ es = [] := by
 refine CallA.wfs fun wf => ?_
 have wt := wf.t
 have wp := wf.p
 have hones := pt_ones l
 have hfl := flat_len hw
 refine CallA.eV 3 func27 ntmps27 results27 ?_
 simp -dsimp +decide only [vr, ty, en, ↓reduceIte, Nat.reduceSub, Nat.reduceAdd, Nat.reduceMul, Nat.reduceLT, Int.reduceAdd, Int.reduceSub, Int.reduceToNat, ci]
 have hpw : ∀ q, List.map (AV.wo q) (l.flatMap Pt.cs) = l.flatMap Pt.cs := fun q => by
  refine (List.map_congr_left fun a ha => ?_).trans (List.map_id _)
  obtain ⟨x, _, hx⟩ := List.mem_flatMap.1 ha
  simp only [Pt.cs, List.mem_cons, List.mem_map] at hx
  rcases hx with rfl | ⟨y, _, rfl⟩ <;> rfl
 have gs : ∀ o o', (T ++ [o]).set T.length o' = T ++ [o'] := fun o o' => by rw [List.set_append_right _ _ (Nat.le_refl _), Nat.sub_self]; rfl
 simp -dsimp +decide (disch := omega) only [vr, ty, en, ↓reduceIte, Nat.reduceSub, Nat.reduceAdd, Nat.reduceMul, Nat.reduceLT, Int.reduceAdd, Int.reduceSub, Int.reduceToNat, ci, vi, getO_i, vt, wt, vnil, hpw, gs]
 refine ⟨⟨hfl, hones, ⟨by omega, by omega⟩, ?_⟩, fun h0 => ?_⟩
 . refine Vw.pub T.length (o := .buf 71 33 (l.flatMap Pt.cs)) (gn0 T _ []) rfl (pt_clean l) ?_
   simp -dsimp +decide only [vr, ty, en, ↓reduceIte, Nat.reduceSub, Nat.reduceAdd, Nat.reduceMul, Nat.reduceLT, Int.reduceAdd, Int.reduceSub, Int.reduceToNat, ci, vt, wp, gs]
   exact Vw.cut ⟨by first | rfl | simp, rfl, rfl⟩
 . have h00 : l.length = 0 := h0.elim (fun e => by rw [e, List.length_nil] at hfl; omega) id
   obtain rfl : l = [] := List.length_eq_zero_iff.1 h00
   refine Vw.weak (u := .vs [] 0) (fun Z ρ x hx => ?_) (Vw.done ⟨rfl, rfl, rfl⟩)
   rw [hx.p_inv]
   exact .vs0 (.inl rfl) (Nat.le_refl 0)
theorem forestNil_data {T : Tbl} {p : Par} (okw : p.Wk) (hpa : p.pa = .vs (p.pts.flatMap Pt.cs) p.pts.length) {room : Int} {h : Hdr} (ok : h.Ok) :
 CallA prog G 6 [.ag p.cs, wint room, .ag h.cs] T fun v _ _ => v = .p (.bool true) :=
 forestNil_ok okw (by rw [hpa]; rfl) ok fun hl T => by rw [hpa]; exact clone_vs (okw.a T).wd hl
end Go.Proofs.YtfpjalgfnjjcmaaGreatDoor
namespace Go.E
theorem Dat.avs_sl (l : List Dat) : (Dat.sl l).avs = [.vs (l.flatMap Dat.avs) l.length] := by rw [Dat.avs, Dat.avsL_eq]
theorem Dat.avs_ag (l : List Dat) : (Dat.ag l).avs = l.flatMap Dat.avs := by rw [Dat.avs, Dat.avsL_eq]
theorem open_all {α : Type} {f : α -> List AV} {Ok : α -> Prop} : ∀ {l : List Dat}, (∀ d ∈ l, ∃ x : α, d.avs = f x /\ Ok x) -> ∃ xs : List α, l.flatMap Dat.avs = xs.flatMap f /\ xs.length = l.length /\ ∀ x ∈ xs, Ok x
 | [], _ => ⟨[], rfl, rfl, fun _ h => nomatch h⟩
 | d :: r, h => by
   obtain ⟨x, h1, h2⟩ := h d (by simp)
   obtain ⟨xs, h3, h4, h5⟩ := open_all (l := r) fun y hy => h y (by simp [hy])
   refine ⟨x :: xs, by rw [List.flatMap_cons, List.flatMap_cons, h1, h3], by simp [h4], fun y hy => ?_⟩
   rcases List.mem_cons.1 hy with rfl | hy
   . exact h2
   . exact h5 y hy
theorem open_ar {α : Type} {P : Program} {t e : TypeId} {n : Nat} {f : α -> List AV} {Ok : α -> Prop} {d : Dat} (hd : HasT P t d) (hu : P.underlying t = some (.array n e))
 (h1 : ∀ d, HasT P e d -> ∃ x : α, d.avs = f x /\ Ok x) : ∃ xs : List α, d.avs = xs.flatMap f /\ xs.length = n /\ ∀ x ∈ xs, Ok x := by
 obtain ⟨l, rfl, hn, hl⟩ := hd.array hu
 obtain ⟨xs, h2, h3, h4⟩ := open_all (f := f) (Ok := Ok) (l := l) fun y hy => h1 y (hl y hy)
 exact ⟨xs, by rw [Dat.avs_ag, h2], by rw [h3, hn], h4⟩
theorem flat_single {α : Type} (h : α -> AV) (l : List α) : (l.flatMap fun a => [h a]) = l.map h := by
 induction l with
 | nil => rfl
 | cons a r ih => rw [List.flatMap_cons, ih]; rfl
end Go.E
namespace Go.Proofs.YtfpjalgfnjjcmaaGreatDoor
open Go.E Go.Proofs.YtfpjalgfnjjcmaaGreatDoor.Tryz Go.Proofs.Tryz
theorem open_slr {α : Type} {P : Program} {t e : TypeId} {f : α -> List AV} {Ok : α -> Prop} {d : Dat} (hd : HasT P t d) (hu : P.underlying t = some (.slice e))
 (h1 : ∀ d, HasT P e d -> ∃ x : α, d.avs = f x /\ Ok x) : ∃ xs : List α, d.avs = [.vs (xs.flatMap f) xs.length] /\ d.arg = .vs (xs.flatMap f) xs.length /\ xs.length * P.bytesOf e <= reachBytes /\ ∀ x ∈ xs, Ok x := by
 obtain ⟨l, rfl, hl, hm⟩ := hd.slice hu
 obtain ⟨xs, h2, h3, h4⟩ := open_all (f := f) (Ok := Ok) (l := l) fun y hy => h1 y (hm y hy)
 have e : (Dat.sl l).avs = [.vs (xs.flatMap f) xs.length] := by rw [Dat.avs_sl, h2, h3]
 refine ⟨xs, e, ?_, by rw [h3]; exact hl, h4⟩
 rw [Dat.arg, e]
 . rfl
 . intro l h; cases h
theorem open_h {d : Dat} (h : HasT prog 26 d) : ∃ l : List UInt8, d.avs = l.map by8 /\ l.length = 32 := by
 obtain ⟨xs, h1, h2, -⟩ := open_ar (f := fun a : UInt8 => [by8 a]) (Ok := fun _ => True) h Tryz.underlying26 fun d hd => by
  obtain ⟨a, rfl⟩ := open_u8 Tryz.underlying5 d hd
  exact ⟨a, by rw [Dat.avs]; rfl, trivial⟩
 rw [flat_single] at h1
 exact ⟨xs, h1, h2⟩
theorem open_w32 {d : Dat} (h : HasT prog 23 d) : ∃ a : UInt32, d.avs = [w32 a] := by
 obtain ⟨a, rfl⟩ := open_u32 Tryz.underlying23 d h
 exact ⟨a, by rw [Dat.avs]; rfl⟩
theorem open_in64 {d : Dat} (h : HasT prog 3 d) : ∃ z : Int, d.avs = [wint z] /\ -9223372036854775808 <= z /\ z <= 9223372036854775807 := by
 obtain ⟨z, rfl, hw⟩ := h.int Tryz.underlying3
 have hz2 : -9223372036854775808 <= z /\ z <= 9223372036854775807 := by simpa [Lit.wf, IntKind.min, IntKind.max, IntKind.signed, IntKind.bits] using hw
 exact ⟨z, by rw [Dat.avs]; rfl, hz2⟩
theorem open_hdr {d : Dat} (h : HasT prog 28 d) : ∃ x : Hdr, d.avs = x.cs /\ x.Ok := by
 obtain ⟨l, rfl, hl, hf⟩ := h.struct Tryz.underlying28
 match l, hl with
 | [d0, d1, d2, d3, d4, d5], _ =>
   obtain ⟨v, e0⟩ := open_w32 (hf 0 _ d0 rfl rfl)
   obtain ⟨p, e1, h1⟩ := open_h (hf 1 _ d1 rfl rfl)
   obtain ⟨r, e2, h2⟩ := open_h (hf 2 _ d2 rfl rfl)
   obtain ⟨t, e3⟩ := open_w32 (hf 3 _ d3 rfl rfl)
   obtain ⟨b, e4⟩ := open_w32 (hf 4 _ d4 rfl rfl)
   obtain ⟨n, e5⟩ := open_w32 (hf 5 _ d5 rfl rfl)
   exact ⟨⟨v, p, r, t, b, n⟩, by simp only [Dat.avs_ag, List.flatMap_cons, List.flatMap_nil, e0, e1, e2, e3, e4, e5]; rfl, h1, h2⟩
theorem st_arg {P : Program} {t : TypeId} {fs : Array Field} {d : Dat} (h : HasT P t d) (hu : P.underlying t = some (.struct fs)) : d.arg = .ag d.avs := by
 obtain ⟨l, rfl, -⟩ := h.struct hu
 rw [Dat.arg, Dat.avs_ag]
theorem open_hdrA {d : Dat} (h : HasT prog 28 d) : ∃ x : Hdr, d.arg = .ag x.cs /\ x.Ok := by
 obtain ⟨x, e, ok⟩ := open_hdr h
 exact ⟨x, by rw [st_arg h Tryz.underlying28, e], ok⟩
def PtOk (x : Pt) : Prop := x.id.length = 32 /\ -9223372036854775808 <= x.h /\ x.h <= 9223372036854775807
theorem open_pt {d : Dat} (h : HasT prog 71 d) : ∃ x : Pt, d.avs = x.cs /\ PtOk x := by
 obtain ⟨l, rfl, hl, hf⟩ := h.struct Tryz.underlying71
 match l, hl with
 | [d0, d1], _ =>
   obtain ⟨z, e0, h0⟩ := open_in64 (hf 0 _ d0 rfl rfl)
   obtain ⟨i, e1, h1⟩ := open_h (hf 1 _ d1 rfl rfl)
   exact ⟨⟨z, i⟩, by simp only [Dat.avs_ag, List.flatMap_cons, List.flatMap_nil, e0, e1, List.append_nil]; rfl, h1, h0⟩
theorem open_par {d : Dat} (h : HasT prog 30 d) : ∃ p : Par, d.arg = .ag p.cs /\ p.Wk /\ p.pa = .vs (p.pts.flatMap Pt.cs) p.pts.length := by
 have ha := st_arg h Tryz.underlying30
 rw [ha]
 obtain ⟨l, rfl, hl, hf⟩ := h.struct Tryz.underlying30
 match l, hl with
 | [d0, d1, d2, d3, d4], _ =>
   obtain ⟨a, e0⟩ := open_w32 (hf 0 _ d0 rfl rfl)
   obtain ⟨z, e1, hz⟩ := open_in64 (hf 1 _ d1 rfl rfl)
   obtain ⟨s, e2⟩ := open_w32 (hf 2 _ d2 rfl rfl)
   obtain ⟨ps, e3, -, hp, hpo⟩ := open_slr (f := Pt.cs) (Ok := PtOk) (hf 3 _ d3 rfl rfl) Tryz.underlying24 fun d hd => open_pt hd
   obtain ⟨x, e4, hx⟩ := open_hdr (hf 4 _ d4 rfl rfl)
   have hb : prog.bytesOf 71 = 40 := by kernel_rfl
   rw [hb, show reachBytes = 140737488351232 from rfl] at hp
   refine ⟨⟨a, z, s, .vs (ps.flatMap Pt.cs) ps.length, ps, x⟩, by simp only [Dat.avs_ag, List.flatMap_cons, List.flatMap_nil, e0, e1, e2, e3, e4, List.append_nil]; rfl, ?_⟩
   exact ⟨⟨hx, fun T => Es.vs fun y hy => by simp [Pt.cs, (hpo y hy).1], by dsimp only; omega, hz, fun q => by rw [AV.wo], fun i cs => by rw [AV.pub], rfl, fun y hy => (hpo y hy).2⟩, rfl⟩
end Go.Proofs.YtfpjalgfnjjcmaaGreatDoor
namespace Go.Proofs.YtfpjalgfnjjcmaaGreatDoor
open Go.ChangeShapes Go.WideShapes Go.ChangeAt Go.RowKit Go.E Go.Proofs.YtfpjalgfnjjcmaaGreatDoor.Tryz Go.Proofs.Tryz
theorem own : ownKnob prog.godebug = none := by kernel_rfl
theorem laidOut : laidOutB prog = true := by kernel_rfl
theorem gTable : prog.globalNamed "scantling/sha.table" = some 2 := by kernel_rfl
def tblT : TypeId := 178
theorem tTable : (prog.globals[2]?).map (·.type) = some tblT := by kernel_rfl
def tblZ : List Int := tbl.map fun x => (x.toNat : Int)
theorem tblD : (Rows.laid_scantling_sha_table : DataW Unit) = .agg (tblZ.map fun z => .lit (.int .u32 z)) := rfl
theorem gok {W : World} (h : laidMetH prog [("scantling/sha.table", Rows.laid_scantling_sha_table)] W) : GOK G (wholeH W) := by
 rw [MakeChecks.laidMetH_plain _ _ _ (by kernel_rfl)] at h
 obtain ⟨ps, ⟨g0, t0, cs0, f0, p0, q0, hg0, ht0, hv0, hd0, _, _⟩, _, _⟩ := h
 obtain rfl := Option.some.inj (gTable.symm.trans hg0)
 obtain rfl := Option.some.inj (tTable.symm.trans ht0)
 rw [tblD] at hd0
 have hcs := trod_lits (n := 64) Tryz.underlying178 Tryz.underlying23 (by kernel_rfl) (by kernel_rfl) hd0
 have hrd : Rd W (some ⟨2, 0, none⟩) (tblZ.map (Value.int .u32)) := by
  refine .inr ⟨_, rfl, rfl, fun k v hk => ?_⟩
  have := World.var?_cell hg0 hv0 k
  rw [<- hcs] at hk
  rw [add_plain rfl]
  simp only [Nat.zero_add]
  rw [this]
  simpa using hk
 intro g
 unfold G
 split
 . rename_i h0
   subst h0
   refine rel_vp0 (vs := tblZ.map (Value.int .u32)) ?_ (by decide) (arr_holds (wholeH_whole W) hrd)
   have := RelL.ps (Z := wholeH W) (ρ := []) (tblZ.map (Value.int .u32))
   rw [List.map_map] at this
   rw [show tbl.map w32 = tblZ.map (AV.p ∘ Value.int .u32) by rw [tblZ, List.map_map]; rfl]
   exact this
 . exact .p _
theorem door_met (os : Os) (args : Array Value) : laidMetH prog [("scantling/sha.table", Rows.laid_scantling_sha_table)] ((World.doorLaid prog 14 os).forCall (fun _ _ => 0) ⟨#[], args, []⟩).memory :=
 laidMetH_of_parts3 (fuel := 8) (laidMet_of_run' 8 (by kernel_rfl) (by kernel_rfl)) (by kernel_rfl) (by kernel_rfl)
end Go.Proofs.YtfpjalgfnjjcmaaGreatDoor
namespace Go.Proofs.YtfpjalgfnjjcmaaGreatDoor.forestNilL
open Go.ChangeShapes Go.WideShapes Go.ChangeAt Go.RowKit Go.E Go.Proofs.YtfpjalgfnjjcmaaGreatDoor.Tryz Go.Proofs.Tryz
set_option maxRecDepth 100000 in
theorem contract (H : Type) (enc : TypeId × Value -> H) (W : World) (base : Nat) (args : Array Value) (ds gs : List (DataW H)) (before : List MemPlace)
 (hval : ∀ (j : Nat) t v, Tryz.f6.params[j]? = some t -> args[j]? = some v -> Value.okWide prog W .any base t v)
 (hW : DataW.Whole enc prog Tryz.f6.params.toList Rows.forestNilSpec.vars false W args.toList ds gs before)
 (hz : (DataW.weightsEach prog (Tryz.f6.params.toList ++ Rows.forestNilSpec.plain.varTypes prog) (ds ++ gs)).all (· <= reachBytes) = true)
 (hL : laidMetH prog [("scantling/sha.table", Rows.laid_scantling_sha_table)] W) :
 Calls prog 6 args W fun e W' => ∃ v, e = .returned v /\ Rows.forestNilSpec.post enc prog Tryz.f6 false true false false W args v W' := by
 have hn : ds.length = 3 := by
  obtain ⟨p, q, hA, _⟩ := hW
  rw [Tryz.params6] at hA
  exact (trodAll_length hA).2
 have hg : gs = [] := by
  obtain ⟨p, q, hA, hV, _⟩ := hW
  exact (trodVars_none hV).1
 subst hg
 refine law_callsA (tys := [30, 3, 24, 71, 28, 23, 26, 5]) 4 laidOut (by kernel_rfl) (by kernel_rfl) Tryz.underlying4 rfl ?_ hW (by kernel_rfl) (by kernel_rfl) hval hz (gok hL) ?_
 . match ds, hn with
   | [_, _, _], _ => rfl
 intro xs hx
 rw [Tryz.params6] at hx
 cases hx with | cons h0 hx =>
 cases hx with | cons h1 hx =>
 cases hx with | cons h2 hx =>
 cases hx
 obtain ⟨a0, e0, h0l⟩ := open_par h0
 obtain ⟨a1, rfl, h1l⟩ := h1.int Tryz.underlying3
 obtain ⟨a2, e2, h2l⟩ := open_hdrA h2
 simp only [List.map_cons, List.map_nil, e0, e2]
 exact forestNil_data h0l.1 h0l.2 h2l
set_option maxRecDepth 100000 in
theorem lifted (os : Os) (started : os.Started) (H : Type) (enc : TypeId × Value -> H) :
 ReturnsInHanded {} Tryz.checked os 6 .any (fun w args => (Rows.forestNilSpec.pre enc prog Tryz.f6 [] false w args /\ laidMetH prog [("scantling/sha.table", Rows.laid_scantling_sha_table)] w) /\ sizedMet enc prog Tryz.f6 (OpenSpec.ofChange Rows.forestNilSpec) false w args)
  (Rows.forestNilSpec.post enc prog Tryz.f6 false true false false) := by
 refine returnsInHanded_of_change_and (C := Tryz.checked) (X := fun w _ => laidMetH prog [("scantling/sha.table", Rows.laid_scantling_sha_table)] w) (fun _ _ _ hh h => h.of_heap hh) own started (by kernel_rfl) func6
  (ChangeSpec.witness_shaped (enc := enc) (C := Tryz.checked) (os := os) (X := fun w _ => laidMetH prog [("scantling/sha.table", Rows.laid_scantling_sha_table)] w) false (World.doorLaid prog 14 os) #[.agg ([Value.int .u32 0, Value.int .i64 0, Value.int .u32 0, Value.slice none 0 0] ++ [Value.int .u32 0] ++ List.replicate 64 (Value.int .u8 0) ++ [Value.int .u32 0, Value.int .u32 0, Value.int .u32 0]).toArray, .int .i64 0, .agg ([Value.int .u32 0] ++ List.replicate 64 (Value.int .u8 0) ++ [Value.int .u32 0, Value.int .u32 0, Value.int .u32 0]).toArray] 8 rfl (World.shaped_of_RefB (by kernel_rfl) (by kernel_rfl)) (by kernel_rfl) (by kernel_rfl) (by kernel_rfl) (door_met os _)) ?_
 intro W base args ds gs before hval hW _ hz hL _
 exact contract H enc W base args ds gs before hval hW hz hL
theorem said : Rows.ForestNilSaid :=
 OpenClaim.holds_of_wide 6 Tryz.f6 rfl rfl rfl rfl rfl rfl rfl ⟨rfl, rfl, rfl, rfl, rfl⟩ rfl rfl rfl rfl rfl (by kernel_rfl) func6 (by kernel_rfl)
  (of_decide_eq_true (by kernel_rfl)) (by unfold Func.isWrapper; first | (rw [if_pos (by decide +kernel)]; kernel_rfl) | (rw [if_neg (by decide +kernel)]; exact ⟨rfl, rfl⟩))
  (fun os started H enc _ => lifted os started H enc)
theorem proved : Rows.ForestNilCardSaid :=
 Claim7.holds_tied_plain_at .later [] [.data] true Rows.forestNilCard.stood.harness false
  said (fun _ h => by cases h) (by kernel_rfl) (fun _ h => by cases h) forestNil_row_tie rfl ⟨rfl, rfl⟩ (by kernel_rfl) rfl
  (fun f fn hf hfn => by
   obtain rfl : f = 6 := Option.some.inj ((show prog.funcNamed "scantling/scantlinglaw14.ForestNil" = some 6 by kernel_rfl).symm.trans hf) |>.symm
   obtain rfl : fn = Tryz.f6 := (Option.some.inj (func6.symm.trans hfn)).symm
   exact ⟨by kernel_rfl, fun j t ht => by
    have hm : t ∈ Tryz.f6.params.toList := by simpa using Array.mem_of_getElem? ht
    have hall : (Tryz.f6.params.toList.all fun u => !prog.wantsStandIn u) = true := by kernel_rfl
    exact (show prog.wantsStandIn t = false by simpa using List.all_eq_true.1 hall t hm)⟩)
  (by kernel_rfl)
end Go.Proofs.YtfpjalgfnjjcmaaGreatDoor.forestNilL
