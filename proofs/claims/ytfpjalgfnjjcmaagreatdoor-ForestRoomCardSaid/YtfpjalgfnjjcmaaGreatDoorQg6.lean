/-
  'scantlinglaw14.ForestRoom' returns true whatever comes, and leaves what came as it was; its row's listed variable is tied to the program's text. No condition.
-/
import Derived.Test.YtfpjalgfnjjcmaaGreatDoorQg5
import Derived.Test.YtfpjalgfnjjcmaaGreatDoorRows
import Derived.LaidMore
import Derived.OpenShut
import Derived.Stop.Joined
import Derived.Test.YtfpjalgfnjjcmaaGreatDoorCards
import Derived.Test.YtfpjalgfnjjcmaaGreatDoorTie
import Derived.SevenTiedAt
import Derived.ChangeCalls
set_option linter.unusedSimpArgs false
set_option linter.unusedVariables false
set_option linter.unusedSectionVars false
set_option maxRecDepth 8000
set_option maxHeartbeats 4000000
namespace Go.Proofs.YtfpjalgfnjjcmaaGreatDoor
open Go.E Go.Proofs.YtfpjalgfnjjcmaaGreatDoor.Tryz Go.Proofs.Tryz
theorem tP_put : tP.put (.p (.slice none 0 0)) = tP := rfl
theorem ez72 : [oW, oI, oW, AV.p (Value.slice none 0 0), oW, oB, oB, oB, oB, oB, oB, oB, oB, oB, oB, oB, oB, oB, oB, oB, oB, oB, oB, oB, oB, oB, oB, oB, oB, oB, oB, oB, oB, oB, oB, oB, oB, oB, oB, oB, oB, oB, oB, oB, oB, oB, oB, oB, oB, oB, oB, oB, oB, oB, oB, oB, oB, oB, oB, oB, oB, oB, oB, oB, oB, oB, oB, oB, oB, oW, oW, oW] = z72 := rfl
theorem vz72 : z72.length = 72 /\ (∀ p : Par, p.Ok -> wrA z72 0 p.cs = p.cs) := ⟨rfl, fun p ok => wrA_all (by rw [(Par.rules ok).1]; rfl)⟩
def z136 : List AV := z68 ++ z68
theorem ez136 : (List.replicate 2 z68).flatten = z136 := rfl
theorem vz136 {x y : Hdr} (ox : x.Ok) (oy : y.Ok) : wrA (wrA z136 0 x.cs) 68 y.cs = x.cs ++ y.cs := by
 have lx := Hdr.cs_len ox
 have ly := Hdr.cs_len oy
 have e : z136 = [zH, zH].flatMap Hdr.cs := rfl
 have w : ∀ q ∈ [zH, zH], (Hdr.cs q).length = 68 := by intro q hq; simp at hq; subst hq; rfl
 have w' : ∀ q ∈ [x, zH], (Hdr.cs q).length = 68 := by intro q hq; simp at hq; rcases hq with rfl | rfl; exact lx; rfl
 have e1 := wrA_flat (f := Hdr.cs) w (n := 0) (x := zH) (y := x) rfl (k := 0) (c := x.cs) (by omega) (wrA_all (by rw [lx]; rfl))
 have e2 := wrA_flat (f := Hdr.cs) w' (n := 1) (x := zH) (y := y) rfl (k := 0) (c := y.cs) (by omega) (wrA_all (by rw [ly]; rfl))
 rw [e, show (0 : Nat) = 0 * 68 + 0 from rfl, e1]
 show wrA ([x, zH].flatMap Hdr.cs) (1 * 68 + 0) y.cs = _
 rw [e2]
 simp
theorem vs56 : (∀ V s a b c d e f l o, (FT V s ++ a :: b :: c :: d :: e :: f :: l).set (V.length + 5) o = FT V s ++ a :: b :: c :: d :: e :: o :: l) /\ (∀ V s a b c d e f g l o, (FT V s ++ a :: b :: c :: d :: e :: f :: g :: l).set (V.length + 6) o = FT V s ++ a :: b :: c :: d :: e :: f :: o :: l) := by
 have hs : ∀ (V : Tbl) s (l : Tbl) k o, (FT V s ++ l).set (V.length + k) o = FT V s ++ l.set k o := fun V s l k o => by rw [List.set_append_right _ _ (by rw [FT_len]; omega), FT_len, Nat.add_sub_cancel_left]
 exact ⟨fun V s a b c d e f l o => hs V s _ 5 o, fun V s a b c d e f g l o => hs V s _ 6 o⟩
theorem FE_moved (n b i : Nat) : moved (FE n b) i = (i == b) := by
 show ((true && decide (i = b)) || moved (EF n) i) = _
 rw [EF_moved, Bool.or_false, Bool.true_and]
 by_cases h : i = b <;> simp [h]
theorem FE_slots (n b : Nat) : (∀ l, slots (FE n b) l = l.map (AV.wo (· == b))) /\ (∀ l, slotsT (FE n b) l = l.map fun p => (p.1, p.2.wo (· == b))) := by
 have h : moved (FE n b) = (· == b) := funext fun i => FE_moved n b i
 have h2 : still (FE n b) = false := rfl
 exact ⟨fun l => by unfold slots; rw [h2, h], fun l => by unfold slotsT; rw [h2, h]⟩
theorem FW.fr {V : Tbl} {s : Fst} (h : FW V s) {k : Nat} (hk : V.length <= k) : s.Fr k := by
 have h1 := h.i.f
 have h2 := h.i.m
 have h3 := h.i.b
 refine ⟨by omega, by omega, by omega, ?_⟩
 cases hx : s.nd k with
 | none => rfl
 | some x => have := h.i.nn k x hx; omega
structure WS (B : Tbl) (D : Nat -> Prop) (s0 : Fst) (V : Tbl) (s : Fst) : Prop where
 w : FW V s
 g : s.G
 b : s.b = s0.b
 f : s.f = s0.f
 x : ∃ X, V = B ++ X
 fr : ∀ k, D k -> s.Fr k
 d : ∀ k, D k -> k < V.length
section
variable {B : Tbl} {D : Nat -> Prop} {s0 : Fst} {V : Tbl} {s : Fst}
theorem WS.add (h : WS B D s0 V s) {s' : Fst} {hd : Hdr} {ht : Nat} {gs : List (List UInt8)} {e : Int} {l : Tbl} (ha : AddR V.length s hd s' ht gs e) (hg : s'.G) (hw : FW (V ++ l) s') (hb : s'.b = s.b) (hf : s'.f = s.f) : WS B D s0 (V ++ l) s' := by
 obtain ⟨X, hX⟩ := h.x
 exact ⟨hw, hg, hb.trans h.b, hf.trans h.f, ⟨X ++ l, by rw [hX, List.append_assoc]⟩, fun k hk => (h.fr k hk).add (h.d k hk) ha, fun k hk => by have := h.d k hk; rw [List.length_append]; omega⟩
theorem WS.tail (h : WS B D s0 V s) {l : Tbl} (hl : Tl V.length s.b l) : WS B D s0 (V ++ l) s := by
 obtain ⟨X, hX⟩ := h.x
 exact ⟨h.w.app hl, h.g, h.b, h.f, ⟨X ++ l, by rw [hX, List.append_assoc]⟩, h.fr, fun k hk => by have := h.d k hk; rw [List.length_append]; omega⟩
theorem WS.box (h : WS B D s0 V s) {l : Tbl} (hl : Tl V.length s.b l) : WS (V ++ l) (fun k => D k ∨ (V.length <= k /\ k < V.length + l.length)) s0 (V ++ l) s :=
 ⟨h.w.app hl, h.g, h.b, h.f, ⟨[], by simp⟩, fun k hk => hk.elim (h.fr k) fun hk => h.w.fr hk.1, fun k hk => by rw [List.length_append]; rcases hk with hk | hk; have := h.d k hk; omega; omega⟩
theorem WS.at (h : WS B D s0 V s) {k : Nat} {o : AObj} (hk : D k) (hB : B[k]? = some o) : (FT V s)[k]? = some o /\ ∀ l, (FT V s ++ l)[k]? = some o := by
 obtain ⟨X, hX⟩ := h.x
 have hl := (List.getElem?_eq_some_iff.1 hB).1
 have e : V[k]? = some o := by rw [hX, List.getElem?_append_left hl]; exact hB
 exact ⟨by rw [FT_fr (h.fr k hk)]; exact e, fun l => by rw [FT_app (h.d k hk), FT_fr (h.fr k hk)]; exact e⟩
end
theorem qe_rec {n m b : Nat} {E : Eff} (hb : n <= b) (h : ∀ e ∈ E, e ∈ EF n) : ∀ e ∈ recE n (FE m b) E, e ∈ EF n := by
 intro e he
 obtain ⟨i, t⟩ := e
 rcases recE_mem.1 he with ⟨h1, h2⟩ | h1
 . rcases FE_mem.1 h1 with ⟨rfl, _⟩ | ⟨_, h3⟩
   . exact absurd h2 (by show ¬ i < n; omega)
   . exact EF_mem.2 ⟨h2, h3⟩
 . exact h _ h1
theorem qe_rec1 {n i : Nat} {E : Eff} (h : ∀ e ∈ E, e ∈ EF n) : ∀ e ∈ rec1 n i false E, e ∈ EF n := by
 intro e he
 unfold rec1 at he
 split at he
 . rcases List.mem_cons.1 he with rfl | he
   . exact EF_mem.2 ⟨by assumption, rfl⟩
   . exact h e he
 . exact h e he
theorem mem2 {x y z : Hdr} (ox : x.Ok) (oy : y.Ok) (h : z ∈ [x, y]) : z.Ok := by
 simp only [List.mem_cons, List.not_mem_nil, or_false] at h
 rcases h with rfl | rfl
 . exact ox
 . exact oy
theorem works_ok {T : Tbl} : CallA prog G 18 [] T fun v T' es => v = .p (.bool true) /\ T' = T /\ es = EF T.length := by
 refine CallA.wfs fun wf => ?_
 have wt := wf.t
 have hr := Par.rules tP_ok
 refine CallA.eV 29 func18 ntmps18 results18 ?_
 simp -dsimp +decide only [v5q, ↓reduceIte, Nat.reduceSub, Nat.reduceAdd, Nat.reduceMul, Nat.reduceLT, Int.reduceAdd, Int.reduceSub, Int.reduceToNat, ci]
 refine (easy13_ok (i := 10) (s := 10) (by omega)).det' ?_
 have hpw := vz72.2 _ tP_ok
 have g0 := fun l => gn0 T (.cells 30 tP.cs) l
 simp -dsimp +decide (disch := omega) only [v5q, ↓reduceIte, Nat.reduceSub, Nat.reduceAdd, Nat.reduceMul, Nat.reduceLT, Int.reduceAdd, Int.reduceSub, Int.reduceToNat, v2q, hr, ez72, hpw, vz72, g0]
 have hnew := fun U : Tbl => (fnew_ok (T := U) (p := tP) tP_ok (a := .p (.slice none 0 0)) (by rw [tP_put]; exact tP_ok) rfl rfl (fun _ => clone_nil) (room := 1)).mono (K' := fun v T' es => v = .tu [.ptr (U.length + 4) 0, .p (.int .i64 0)] /\ T' = FT (U ++ List.replicate 5 .gone) (Fst.mk0 tP U.length 1) /\ es = []) fun v T' es h => by rw [if_pos ⟨tP_may, by omega, by omega⟩] at h; exact h
 obtain ⟨T1, hT1⟩ : ∃ T1, T1 = T ++ [.cells 30 tP.cs] := ⟨_, rfl⟩
 rw [<- hT1]
 refine (hnew T1).det' ?_
 have hl1 : T1.length = T.length + 1 := by rw [hT1]; simp
 have wf1 : ∀ q : Nat -> Bool, (∀ i, i < T1.length -> q i = false) -> T1.map (AObj.wo q) = T1 := fun q hq => by
  rw [hT1, List.map_append, (wf.wf q fun i hi => hq i (by omega)).1]
  simp only [List.map_cons, List.map_nil, AObj.wo, hr]
 obtain ⟨V0, hV0⟩ : ∃ V0, V0 = T1 ++ List.replicate 5 AObj.gone := ⟨_, rfl⟩
 obtain ⟨s0, hs0⟩ : ∃ s0, s0 = Fst.mk0 tP T1.length 1 := ⟨_, rfl⟩
 have W0 : FW V0 s0 := by rw [hV0, hs0]; exact mk0_W wf1 tP_ok 1
 have G0 : s0.G := by rw [hs0]; exact mk0_G _ _ _
 have F0 : ∀ k, k <= T.length -> s0.Fr k := fun k hk => by rw [hs0]; exact mk0_Fr (.inl (by omega))
 have F0' : ∀ k, V0.length <= k -> s0.Fr k := fun k hk => by rw [hs0]; exact mk0_Fr (.inr (by rw [hV0] at hk; simpa using hk))
 have l0 : T.length < V0.length := by rw [hV0, List.length_append, hl1]; omega
 have P0 : V0[T.length]? = some (.cells 30 tP.cs) := by rw [hV0, hT1, List.append_assoc]; exact gn0 T _ _
 have gP : ∀ l, (FT V0 s0 ++ l)[T.length]? = some (.cells 30 tP.cs) := fun l => by rw [FT_app l0, FT_fr (F0 _ (Nat.le_refl _)), P0]
 have gP' : (FT V0 s0)[T.length]? = some (.cells 30 tP.cs) := by rw [FT_fr (F0 _ (Nat.le_refl _)), P0]
 have hf0 : T1.length + 4 = s0.f := by rw [hs0]; rfl
 rw [<- hV0, <- hs0, hf0]
 have wt0 := W0.r.t' W0.i W0.v
 have oF : tP.first.Ok := tP_ok.f
 have oA : hA.Ok := ⟨rfl, rfl⟩
 have oB : hB.Ok := ⟨rfl, rfl⟩
 have oC : hC.Ok := ⟨rfl, rfl⟩
 have oD : hD.Ok := ⟨rfl, rfl⟩
 have rF := Hdr.rules oF
 have hvF := vz68.2 _ oF
 have hvA := vz68.2 _ oA
 have hvB := vz68.2 _ oB
 have hvC := vz68.2 _ oC
 have hvD := vz68.2 _ oD
 have e1 : z32.set 0 (.p (.int .u8 1)) = (tR 1).map by8 := rfl
 have e2 : z32.set 0 (.p (.int .u8 2)) = (tR 2).map by8 := rfl
 have e3 : z32.set 0 (.p (.int .u8 3)) = (tR 3).map by8 := rfl
 have e4 : z32.set 0 (.p (.int .u8 4)) = (tR 4).map by8 := rfl
 have rA := Hdr.rules oA
 have rB := Hdr.rules oB
 simp -dsimp +decide (disch := omega) only [v5q, ↓reduceIte, Nat.reduceSub, Nat.reduceAdd, Nat.reduceMul, Nat.reduceLT, Int.reduceAdd, Int.reduceSub, Int.reduceToNat, v2q, vft, hr, gP, gP', wt0, kallT, rF, ez32, ez68, rep1, hvF, e1]
 have m1 := fun U l (R : List UInt8) (hR : R.length = 32) => mine13_ok (T := FT V0 s0 ++ .buf 28 68 tP.first.cs :: l) tP_ok (a := .sl V0.length 0 1) (hs := [tP.first]) (Es.obj (xs := [tP.first]) (vft.2.1 _ _ _ _) (by simp [AObj.cs]) fun x hx => Hdr.cs_len (by rw [List.mem_singleton.1 hx]; exact oF)) (fun x hx => by rw [List.mem_singleton.1 hx]; exact oF) (by decide) (time := U) (tries := 200) (root := R) hR
 refine (m1 2000 _ (tR 1) rfl).det' ?_
 rw [mine_A]
 simp -dsimp +decide (disch := omega) only [v5q, ↓reduceIte, Nat.reduceSub, Nat.reduceAdd, Nat.reduceMul, Nat.reduceLT, Int.reduceAdd, Int.reduceSub, Int.reduceToNat, v2q, vft, hr, gP, gP', wt0, kallT, rF, rA, ez32, ez68, vz68, hvA, e2]
 refine (m1 2000 _ (tR 2) rfl).det' ?_
 rw [mine_B]
 simp -dsimp +decide (disch := omega) only [v5q, ↓reduceIte, Nat.reduceSub, Nat.reduceAdd, Nat.reduceMul, Nat.reduceLT, Int.reduceAdd, Int.reduceSub, Int.reduceToNat, v2q, vft, hr, gP, gP', wt0, kallT, rF, rA, rB, ez32, ez68, vz68, hvB, e3, ez136, vz136 oF oB]
 refine (mine13_ok tP_ok (hs := [tP.first, hB]) (Es.obj (i := V0.length + 3) (xs := [tP.first, hB]) (vft.2.2.2.2.1 _ _ _ _ _ _ _) (by simp [AObj.cs]) fun x hx => Hdr.cs_len (mem2 oF oB hx)) (fun x hx => mem2 oF oB hx) (by decide) (time := 2010) (tries := 200) (root := tR 3) rfl).det' ?_
 have rC := Hdr.rules oC
 rw [mine_C]
 simp -dsimp +decide (disch := omega) only [v5q, ↓reduceIte, Nat.reduceSub, Nat.reduceAdd, Nat.reduceMul, Nat.reduceLT, Int.reduceAdd, Int.reduceSub, Int.reduceToNat, v2q, vft, vs56, hr, gP, gP', wt0, kallT, rF, rA, rB, rC, ez32, ez68, vz68, hvC, e4, ez136, vz136 oF oA]
 refine (mine13_ok tP_ok (hs := [tP.first, hA]) (Es.obj (i := V0.length + 5) (xs := [tP.first, hA]) (vft.2.2.2.2.2.2.1 _ _ _ _ _ _ _ _ _) (by simp [AObj.cs]) fun x hx => Hdr.cs_len (mem2 oF oA hx)) (fun x hx => mem2 oF oA hx) (by decide) (time := 2010) (tries := 200) (root := tR 4) rfl).det' ?_
 have rD := Hdr.rules oD
 rw [mine_D]
 simp -dsimp +decide (disch := omega) only [v5q, ↓reduceIte, Nat.reduceSub, Nat.reduceAdd, Nat.reduceMul, Nat.reduceLT, Int.reduceAdd, Int.reduceSub, Int.reduceToNat, v2q, vft, vs56, hr, gP, gP', wt0, kallT, rF, rA, rB, rC, rD, ez32, ez68, vz68, hvD]
 obtain ⟨L, hL⟩ : ∃ L : Tbl, L = [AObj.buf 28 68 tP.first.cs, AObj.cells 28 hA.cs, AObj.cells 28 hB.cs, AObj.buf 28 68 (tP.first.cs ++ hB.cs), AObj.cells 28 hC.cs, AObj.buf 28 68 (tP.first.cs ++ hA.cs), AObj.cells 28 hD.cs] := ⟨_, rfl⟩
 have tl : Tl V0.length s0.b L := by
  rw [hL]
  refine ⟨fun q _ => ?_, ?_⟩
  . simp only [List.map_cons, List.map_nil, AObj.wo, List.map_append, rF, rA, rB, rC, rD]
  . simp only [List.map_cons, List.map_nil, AObj.wo, List.map_append, rF, rA, rB, rC, rD]
 have Z0 : WS V0 (fun k => k <= T.length) s0 V0 s0 := ⟨W0, G0, rfl, rfl, ⟨[], by simp⟩, F0, fun k hk => by omega⟩
 have Z1 := Z0.box tl
 rw [<- hL, FT_tail W0.i]
 obtain ⟨V1, hV1⟩ : ∃ V1, V1 = V0 ++ L := ⟨_, rfl⟩
 rw [<- hV1] at Z1 ⊢
 have hLl : L.length = 7 := by rw [hL]; rfl
 rw [hLl] at Z1
 have hbx : ∀ j, V1[V0.length + j]? = L[j]? := fun j => by rw [hV1, List.getElem?_append_right (by omega), Nat.add_sub_cancel_left]
 have l1 : V1.length = V0.length + 7 := by rw [hV1, List.length_append, hLl]
 have xB := hbx 2
 have xC := hbx 4
 have xD := hbx 6
 have xA := hbx 1
 rw [hL] at xA xB xC xD
 have r0 : s0.room = 1 := by rw [hs0]; rfl
 have bc0 : s0.bc.length = 1 := by rw [hs0]; rfl
 have b0 : s0.b = T.length + 4 := by rw [hs0]; show T1.length + 3 = _; omega
 have f0 : s0.f = T.length + 5 := by rw [<- hf0]; omega
 have v0 : V0.length = T.length + 6 := by rw [hV0, List.length_append, hl1]; rfl
 have bq : (∀ k, (V0.length + k == s0.b) = false) /\ (V0.length == s0.b) = false /\ (s0.f == s0.b) = false /\ (T.length == s0.b) = false := ⟨fun k => by simp; omega, by simp; omega, by simp; omega, by simp; omega⟩
 refine CallA.mono (K := AddK V1 s0 hA) (fadd_ok Z1.w Z1.g oA (by omega) (by omega)) fun v T' es h => ?_
 obtain ⟨s1, t1, gs1, e1', x1, a1, R1, G1, I1, W1, -, hb1, hf1, rfl, rfl, rfl⟩ := h
 have Z2 := Z1.add R1 G1 W1 hb1 hf1
 have y1 := I1.wo
 obtain ⟨V2, hV2⟩ : ∃ V2, V2 = V1 ++ x1 := ⟨_, rfl⟩
 rw [<- hV2] at Z2 ⊢
 have gB := Z2.at (.inr ⟨by omega, by omega⟩) xB
 have q1 : s1.room = 1 := R1.dom.2.2.2.1.trans r0
 have n1 := R1.len
 simp -dsimp +decide (disch := omega) only [v5q, ↓reduceIte, Nat.reduceSub, Nat.reduceAdd, Nat.reduceMul, Nat.reduceLT, Int.reduceAdd, Int.reduceSub, Int.reduceToNat, v2q, vft, hr, FE_slots, bq, AV.wo, y1, gB, kallT, rB, List.map_cons, List.map_nil]
 have ha2 := fadd_ok Z2.w Z2.g oB (by omega) (by omega)
 rw [Z2.f] at ha2
 refine CallA.mono ha2 fun v T' es h => ?_
 obtain ⟨s2, t2, gs2, e2', x2, a2, R2, G2, I2, W2, -, hb2, hf2, rfl, rfl, rfl⟩ := h
 have Z3 := Z2.add R2 G2 W2 hb2 hf2
 have y2 := I2.wo
 have z2b := Z2.b
 obtain ⟨V3, hV3⟩ : ∃ V3, V3 = V2 ++ x2 := ⟨_, rfl⟩
 rw [<- hV3] at Z3 ⊢
 have q2 : s2.room = 1 := R2.dom.2.2.2.1.trans q1
 have n2 := R2.len
 simp -dsimp +decide (disch := omega) only [v5q, ↓reduceIte, Nat.reduceSub, Nat.reduceAdd, Nat.reduceMul, Nat.reduceLT, Int.reduceAdd, Int.reduceSub, Int.reduceToNat, v2q, vft, hr, FE_slots, bq, AV.wo, y1, y2, z2b, kallT, List.map_cons, List.map_nil]
 obtain ⟨w2, hw2⟩ := Z3.g.x _ Z3.g.t
 have hbe := best_ok Z3.w hw2
 rw [Z3.f] at hbe
 refine hbe.det' ?_
 have i2 := w2.h.id_len
 have wt3 := Z3.w.r.t' Z3.w.i Z3.w.v
 have gC := Z3.at (.inr ⟨by omega, by omega⟩) xC
 have v3 : V1.length <= V3.length := by rw [hV3, hV2, List.length_append, List.length_append]; omega
 simp -dsimp +decide (disch := omega) only [v5q, ↓reduceIte, Nat.reduceSub, Nat.reduceAdd, Nat.reduceMul, Nat.reduceLT, Int.reduceAdd, Int.reduceSub, Int.reduceToNat, v2q, vft, hr, vh, i2, ez32, bq, kallT, wt3, gC, rC]
 have tl2 : Tl V3.length s2.b [.cells 26 (w2.h.id.map by8)] := ⟨fun q _ => by simp only [List.map_cons, List.map_nil, AObj.wo, wb8], by simp only [List.map_cons, List.map_nil, AObj.wo, wb8]⟩
 have Z4 := Z3.tail tl2
 have Y4 := Z3.box tl2
 rw [FT_tail Z3.w.i]
 have xO : (V3 ++ [AObj.cells 26 (w2.h.id.map by8)])[V3.length]? = some (.cells 26 (w2.h.id.map by8)) := gn0 V3 _ _
 obtain ⟨V4, hV4⟩ : ∃ V4, V4 = V3 ++ [AObj.cells 26 (w2.h.id.map by8)] := ⟨_, rfl⟩
 have l4 : V4.length = V3.length + 1 := by rw [hV4]; simp
 rw [<- hV4] at Z4 Y4 xO ⊢
 have ha3 := fadd_ok Z4.w Z4.g oC (by omega) (by omega)
 rw [Z4.f] at ha3
 refine CallA.mono ha3 fun v T' es h => ?_
 obtain ⟨s3, t3, gs3, e3', x3, a3, R3, G3, I3, W3, -, hb3, hf3, rfl, rfl, rfl⟩ := h
 have Z5 := Z4.add R3 G3 W3 hb3 hf3
 have Y5 := Y4.add R3 G3 W3 hb3 hf3
 have y3 := I3.wo
 have z3b := Z3.b
 obtain ⟨V5, hV5⟩ : ∃ V5, V5 = V4 ++ x3 := ⟨_, rfl⟩
 rw [<- hV5] at Z5 Y5 ⊢
 have l5 : V4.length <= V5.length := by rw [hV5, List.length_append]; omega
 have q3 : s3.room = 1 := R3.dom.2.2.2.1.trans q2
 have n3 := R3.len
 have bq3 : (V3.length == s0.b) = false := by simp; omega
 simp -dsimp +decide (disch := omega) only [v5q, ↓reduceIte, Nat.reduceSub, Nat.reduceAdd, Nat.reduceMul, Nat.reduceLT, Int.reduceAdd, Int.reduceSub, Int.reduceToNat, v2q, vft, hr, FE_slots, bq, bq3, AV.wo, y1, y2, y3, z2b, z3b, kallT, List.map_cons, List.map_nil]
 obtain ⟨w3, hw3⟩ := Z5.g.x _ Z5.g.t
 have hbe3 := best_ok Z5.w hw3
 rw [Z5.f] at hbe3
 refine hbe3.det' ?_
 have i3 := w3.h.id_len
 have wt5 := Z5.w.r.t' Z5.w.i Z5.w.v
 have gD := Z5.at (.inr ⟨by omega, by omega⟩) xD
 simp -dsimp +decide (disch := omega) only [v5q, ↓reduceIte, Nat.reduceSub, Nat.reduceAdd, Nat.reduceMul, Nat.reduceLT, Int.reduceAdd, Int.reduceSub, Int.reduceToNat, v2q, vft, hr, vh, i3, ez32, bq, kallT, wt5, gD, rD]
 have tl3 : Tl V5.length s3.b [.cells 26 (w3.h.id.map by8)] := ⟨fun q _ => by simp only [List.map_cons, List.map_nil, AObj.wo, wb8], by simp only [List.map_cons, List.map_nil, AObj.wo, wb8]⟩
 have Z6 := Z5.tail tl3
 have Y6 := Y5.tail tl3
 have X6 := Z5.box tl3
 rw [FT_tail Z5.w.i]
 have xT : (V5 ++ [AObj.cells 26 (w3.h.id.map by8)])[V5.length]? = some (.cells 26 (w3.h.id.map by8)) := gn0 V5 _ _
 obtain ⟨V6, hV6⟩ : ∃ V6, V6 = V5 ++ [AObj.cells 26 (w3.h.id.map by8)] := ⟨_, rfl⟩
 have l6 : V6.length = V5.length + 1 := by rw [hV6]; simp
 rw [<- hV6] at Z6 Y6 X6 xT ⊢
 have ha4 := fadd_ok Z6.w Z6.g oD (by omega) (by omega)
 rw [Z6.f] at ha4
 refine CallA.mono ha4 fun v T' es h => ?_
 obtain ⟨s4, t4, gs4, e4', x4, a4, R4, G4, I4, W4, -, hb4, hf4, rfl, rfl, rfl⟩ := h
 have Z7 := Z6.add R4 G4 W4 hb4 hf4
 have Y7 := Y6.add R4 G4 W4 hb4 hf4
 have X7 := X6.add R4 G4 W4 hb4 hf4
 have y4 := I4.wo
 have z5b := Z5.b
 obtain ⟨V7, hV7⟩ : ∃ V7, V7 = V6 ++ x4 := ⟨_, rfl⟩
 rw [<- hV7] at Z7 Y7 X7 ⊢
 have bq5 : (V5.length == s0.b) = false := by simp; omega
 rw [hs0] at R1
 obtain ⟨⟨rfl, rfl, rfl, rfl, rfl, rfl⟩, -, ⟨w2', h21, h22, h23⟩, ⟨w3', h31, h32, h33⟩⟩ := tP_run R1 R2 R3 R4
 rw [hw2] at h21; cases h21
 rw [hw3] at h31; cases h31
 have hsg := Sl.rules (I4.es (FT V7 s4)).sl (by decide)
 have hld := (I4.es (FT V7 s4)).ld (P := prog) (t := 26) (by (simp -dsimp +decide only [v5q, ↓reduceIte, Nat.reduceSub, Nat.reduceAdd, Nat.reduceMul, Nat.reduceLT, Int.reduceAdd, Int.reduceSub, Int.reduceToNat, ci])) (by (simp -dsimp +decide only [v5q, ↓reduceIte, Nat.reduceSub, Nat.reduceAdd, Nat.reduceMul, Nat.reduceLT, Int.reduceAdd, Int.reduceSub, Int.reduceToNat, ci])) (by decide)
 simp -dsimp +decide (disch := omega) only [v5q, ↓reduceIte, Nat.reduceSub, Nat.reduceAdd, Nat.reduceMul, Nat.reduceLT, Int.reduceAdd, Int.reduceSub, Int.reduceToNat, v2q, vft, hr, FE_slots, bq, bq3, bq5, AV.wo, y1, y2, y3, y4, z2b, z3b, z5b, kallT, List.map_cons, List.map_nil]
 refine SemA.draw (fun i => true) [(0, true), (1, true), (2, true), (3, true), (4, true), (5, true), (6, true), (7, true), (8, true), (9, true), (10, true), (11, true), (12, true), (13, true), (14, true), (15, true), (16, true), (17, true), (18, true), (19, true), (20, true), (21, true), (22, true), (23, true), (24, false), (25, true), (26, true)] mixed (by kernel_rfl) ?_
 have gD7 := Z7.at (.inr ⟨by omega, by omega⟩) xD
 have hld0 : ∀ K : AV -> Prop, loadA prog 26 (a4.pl 0) (FT V7 s4) K = K (.ag (hD.id.map by8)) := fun K => (hld.2 0 K (by decide)).trans rfl
 have hl1 : [hD.id].length = 1 := rfl
 simp -dsimp +decide (disch := omega) only [v5q, ↓reduceIte, Nat.reduceSub, Nat.reduceAdd, Nat.reduceMul, Nat.reduceLT, Int.reduceAdd, Int.reduceSub, Int.reduceToNat, v2q, vft, hr, kallT, hsg, hld0, gD7, rD, hl1]
 refine (rid_ok oD).det' ?_
 have nD := neh hD.id_len hD.id_len
 have dd : (!decide (hD.id = hD.id)) = false := by simp
 simp -dsimp +decide (disch := omega) only [v5q, ↓reduceIte, Nat.reduceSub, Nat.reduceAdd, Nat.reduceMul, Nat.reduceLT, Int.reduceAdd, Int.reduceSub, Int.reduceToNat, v2q, vft, hr, kallT, nD, dd, bb2]
 refine SemA.draw (fun i => true) [(0, true), (1, true), (2, false), (3, true), (4, true), (5, true), (6, true), (7, true), (8, true), (9, true), (10, true), (11, false), (12, true), (13, true), (14, true), (15, true), (16, true), (17, true), (18, true)] mixed (by kernel_rfl) ?_
 have gO := Y7.at (.inr ⟨Nat.le_refl _, by simp⟩) xO
 have gT := X7.at (.inr ⟨Nat.le_refl _, by simp⟩) xT
 have gA7 := Z7.at (.inr ⟨by omega, by omega⟩) xA
 have gC7 := Z7.at (.inr ⟨by omega, by omega⟩) xC
 rw [h22] at gO
 rw [h32] at gT
 simp -dsimp +decide (disch := omega) only [v5q, ↓reduceIte, Nat.reduceSub, Nat.reduceAdd, Nat.reduceMul, Nat.reduceLT, Int.reduceAdd, Int.reduceSub, Int.reduceToNat, v2q, vft, hr, kallT, vh, hA.id_len, gO, gA7, rA, bb2]
 refine (rid_ok oA).det' ?_
 have tA : List.take 32 (List.drop 0 hA.id) = hA.id := by rw [List.drop_zero, List.take_of_length_le (by rw [hA.id_len]; omega)]
 have tC : List.take 32 (List.drop 0 hC.id) = hC.id := by rw [List.drop_zero, List.take_of_length_le (by rw [hC.id_len]; omega)]
 have nA := eqh hA.id_len hA.id_len
 have nC := eqh hC.id_len hC.id_len
 have dA : decide (hA.id = hA.id) = true := by simp
 have dC : decide (hC.id = hC.id) = true := by simp
 simp -dsimp +decide (disch := omega) only [v5q, ↓reduceIte, Nat.reduceSub, Nat.reduceAdd, Nat.reduceMul, Nat.reduceLT, Int.reduceAdd, Int.reduceSub, Int.reduceToNat, v2q, vft, hr, kallT, vh, hA.id_len, hC.id_len, gO, gT, gC7, rC, tA, nA, dA, bb2]
 refine (rid_ok oC).det' ?_
 have h33' : ((w3.ht : Int)) = 2 := by rw [h33]; rfl
 simp -dsimp +decide (disch := omega) only [v5q, ↓reduceIte, Nat.reduceSub, Nat.reduceAdd, Nat.reduceMul, Nat.reduceLT, Int.reduceAdd, Int.reduceSub, Int.reduceToNat, v2q, vft, hr, kallT, vh, tC, nC, dC, h33', bb2]
 obtain ⟨X, hX⟩ := Z7.x
 obtain ⟨Q, hQ⟩ := FT_pre (T := T) (X := [AObj.cells 30 tP.cs] ++ (List.replicate 5 AObj.gone ++ (L ++ X))) (s := s4) fun k hk => Z7.fr k (.inl (by show k <= T.length; omega))
 have hV7e : V7 = T ++ ([AObj.cells 30 tP.cs] ++ (List.replicate 5 AObj.gone ++ (L ++ X))) := by rw [hX, hV1, hV0, hT1]; simp only [List.append_assoc]
 rw [hV7e, hQ]
 have hb4 : T.length <= s0.b := by omega
 exact Vw.eff (E' := EF T.length) (qe_rec hb4 (qe_rec1 (qe_rec hb4 (qe_rec1 (qe_rec hb4 (qe_rec hb4 (qe_rec1 (qe_rec1 (qe_rec1 (qe_rec1 (by simp))))))))))) (Vw.cut ⟨rfl, rfl, rfl⟩)
end Go.Proofs.YtfpjalgfnjjcmaaGreatDoor
namespace Go.Proofs.YtfpjalgfnjjcmaaGreatDoor
open Go.E Go.Proofs.YtfpjalgfnjjcmaaGreatDoor.Tryz Go.Proofs.Tryz
set_option maxRecDepth 8000
theorem rputh_own {T : Tbl} {h : Hdr} (ok : h.Ok) : CallA prog G 32 [.ag h.cs] T fun v T' es => v = .sl (T.length + 1) 0 80 /\ T' = T ++ [.cells 28 h.cs, .buf 5 1 (h.bytes.map by8)] /\ es = [] := by
 refine CallA.wfs fun wf => ?_
 have wt := wf.t
 have wp := wf.p
 have hr := Hdr.rules ok
 have hp := ok.p
 have hrt := ok.r
 refine CallA.eV 4 func32 ntmps32 results32 ?_
 simp -dsimp +decide only [vt2, v1q, ↓reduceIte, Nat.reduceSub, Nat.reduceAdd, Nat.reduceMul, Nat.reduceLT, Int.reduceAdd, Int.reduceSub, Int.reduceToNat, ci]
 simp -dsimp +decide (disch := omega) only [vt2, v1q, ↓reduceIte, Nat.reduceSub, Nat.reduceAdd, Nat.reduceMul, Nat.reduceLT, Int.reduceAdd, Int.reduceSub, Int.reduceToNat, v2q, hr]
 refine low_ok.det' ?_
 have l4 : ∀ n, (lw4 n).length = 4 := fun _ => rfl
 have la : ∀ a b : List UInt8, (a ++ b).length = a.length + b.length := fun a b => List.length_append
 have t4 : ∀ n, List.take 4 (List.map by8 (lw4 n)) = List.map by8 (lw4 n) := fun _ => rfl
 have t4' : ∀ n, List.take 4 (lw4 n) = lw4 n := fun _ => rfl
 simp -dsimp +decide (disch := omega) only [vt2, v1q, ↓reduceIte, Nat.reduceSub, Nat.reduceAdd, Nat.reduceMul, Nat.reduceLT, Int.reduceAdd, Int.reduceSub, Int.reduceToNat, v2q, wt, hr, vh, hp, hrt, l4, la, t4, t4', List.drop_zero]
 refine low_ok.det' ?_
 simp -dsimp +decide (disch := omega) only [vt2, v1q, ↓reduceIte, Nat.reduceSub, Nat.reduceAdd, Nat.reduceMul, Nat.reduceLT, Int.reduceAdd, Int.reduceSub, Int.reduceToNat, v2q, wt, hr, vh, hp, hrt, l4, la, t4, t4', List.drop_zero]
 refine low_ok.det' ?_
 simp -dsimp +decide (disch := omega) only [vt2, v1q, ↓reduceIte, Nat.reduceSub, Nat.reduceAdd, Nat.reduceMul, Nat.reduceLT, Int.reduceAdd, Int.reduceSub, Int.reduceToNat, v2q, wt, hr, vh, hp, hrt, l4, la, t4, t4', List.drop_zero]
 refine low_ok.det' ?_
 simp -dsimp +decide (disch := omega) only [vt2, v1q, ↓reduceIte, Nat.reduceSub, Nat.reduceAdd, Nat.reduceMul, Nat.reduceLT, Int.reduceAdd, Int.reduceSub, Int.reduceToNat, v2q, wt, hr, vh, hp, hrt, l4, la, t4, t4', List.drop_zero]
 rw [show lw4 h.v ++ h.prev ++ h.root ++ lw4 h.time ++ lw4 h.bits ++ lw4 h.nonce = h.bytes from rfl]
 refine Vw.cutN (T.length + 2) (by omega) ?_
 simp -dsimp +decide (disch := omega) only [vt2, v1q, ↓reduceIte, Nat.reduceSub, Nat.reduceAdd, Nat.reduceMul, Nat.reduceLT, Int.reduceAdd, Int.reduceSub, Int.reduceToNat, v2q, wt, hr, wb8]
 exact Vw.done ⟨rfl, rfl, rfl⟩
def numF (bs : List UInt8) (at' : Nat) : UInt32 := ((bs.getD at' 0).toUInt32 ||| u32_shl (bs.getD (at' + 1) 0).toUInt32 8 ||| u32_shl (bs.getD (at' + 2) 0).toUInt32 16) ||| u32_shl (bs.getD (at' + 3) 0).toUInt32 24
theorem number08_ok {T : Tbl} {a : AV} {bs : List UInt8} {k : Nat} (hb : Bs T a bs) (hl : bs.length = 80) (hk : k <= 76) : CallA prog G 66 [a, wint (k : Int)] T fun v T' es => v = w32 (numF bs k) /\ T' = T /\ es = [] := by
 have hsr := Sl.rules hb (by decide)
 have hl1 := Sl.loads hb (P := prog) (t := 5) (by (simp -dsimp +decide only [vt2, v1q, ↓reduceIte, Nat.reduceSub, Nat.reduceAdd, Nat.reduceMul, Nat.reduceLT, Int.reduceAdd, Int.reduceSub, Int.reduceToNat, ci]))
 have hx : ∀ j, j < 80 -> bs[j]? = some (bs.getD j 0) := fun j hj => by rw [List.getD_eq_getElem?_getD]; simp [List.getElem?_eq_getElem (show j < bs.length by omega)]
 have h0 := hx k (by omega)
 have h1 := hx (k + 1) (by omega)
 have h2 := hx (k + 2) (by omega)
 have h3 := hx (k + 3) (by omega)
 have c1 : (k : Int) + 1 = ((k + 1 : Nat) : Int) := by omega
 have c2 : (k : Int) + 2 = ((k + 2 : Nat) : Int) := by omega
 have c3 : (k : Int) + 3 = ((k + 3 : Nat) : Int) := by omega
 refine CallA.eV 5 func66 ntmps66 results66 ?_
 simp -dsimp +decide only [vt2, v1q, ↓reduceIte, Nat.reduceSub, Nat.reduceAdd, Nat.reduceMul, Nat.reduceLT, Int.reduceAdd, Int.reduceSub, Int.reduceToNat, ci]
 refine SemA.draw (fun i => true) [(0, true), (1, true), (2, true), (3, true), (4, true), (5, true), (6, true), (7, true), (8, true), (9, true), (10, true), (11, true), (12, true), (13, true), (14, true), (15, true), (16, true), (17, true), (18, true), (19, true), (20, true), (21, true), (22, true), (23, true), (24, true), (25, true), (26, true), (27, true), (28, true), (29, true)] mixed (by kernel_rfl) ?_
 simp -dsimp +decide (disch := omega) only [vt2, v1q, ↓reduceIte, Nat.reduceSub, Nat.reduceAdd, Nat.reduceMul, Nat.reduceLT, Int.reduceAdd, Int.reduceSub, Int.reduceToNat, v2q, hsr, hl1, hl, c1, c2, c3, h0, h1, h2, h3, kallT]
 exact ⟨⟨by omega, by omega⟩, ⟨by omega, by omega⟩, ⟨by omega, by omega⟩, ⟨by omega, by omega⟩, Vw.done ⟨rfl, rfl, rfl⟩⟩
def hF (bs : List UInt8) (k i : Nat) : List UInt8 := (bs.drop k).take i ++ List.replicate (32 - i) 0
theorem hF_len {bs : List UInt8} {k i : Nat} (hl : bs.length = 80) (hk : k <= 48) (hi : i <= 32) : (hF bs k i).length = 32 := by
 rw [hF, List.length_append, List.length_take, List.length_drop, List.length_replicate]; omega
theorem hF_next {bs : List UInt8} {k i : Nat} {x : UInt8} (hx : bs[k + i]? = some x) (hi : i < 32) (hl : bs.length = 80) (hk : k <= 48) : (hF bs k i).set i x = hF bs k (i + 1) := by
 have hlen : ((bs.drop k).take i).length = i := by rw [List.length_take, List.length_drop]; omega
 have h1 : List.replicate (32 - i) (0 : UInt8) = 0 :: List.replicate (32 - (i + 1)) 0 := by rw [show 32 - i = (32 - (i + 1)) + 1 by omega, List.replicate_succ]
 rw [hF, hF, List.set_append_right _ _ (by omega), hlen, Nat.sub_self, h1, List.set_cons_zero, List.take_add_one, List.getElem?_drop, hx]
 simp
theorem hash08_ok {T : Tbl} {a : AV} {bs : List UInt8} {k : Nat} (hb : Bs T a bs) (hl : bs.length = 80) (hk : k <= 48) : CallA prog G 67 [a, wint (k : Int)] T fun v T' es => v = .ag ((hF bs k 32).map by8) /\ T' = T /\ es = [] := by
 refine CallA.wfs fun wf => ?_
 have wt := wf.t
 have wa := wf.arg a (by simp)
 have wz : ∀ q : Nat -> Bool, z32.map (AV.wo q) = z32 := fun q => wb8 q _
 have hsr := Sl.rules hb (by decide)
 have hl1 := Sl.loads hb (P := prog) (t := 5) (by (simp -dsimp +decide only [vt2, v1q, ↓reduceIte, Nat.reduceSub, Nat.reduceAdd, Nat.reduceMul, Nat.reduceLT, Int.reduceAdd, Int.reduceSub, Int.reduceToNat, ci]))
 refine CallA.eV 7 func67 ntmps67 results67 ?_
 simp -dsimp +decide only [vt2, v1q, ↓reduceIte, Nat.reduceSub, Nat.reduceAdd, Nat.reduceMul, Nat.reduceLT, Int.reduceAdd, Int.reduceSub, Int.reduceToNat, ci]
 simp -dsimp +decide (disch := omega) only [vt2, v1q, ↓reduceIte, Nat.reduceSub, Nat.reduceAdd, Nat.reduceMul, Nat.reduceLT, Int.reduceAdd, Int.reduceSub, Int.reduceToNat, v2q, ez32]
 refine SemA.loopK (T.length + 2) (fun i : Nat => [(0, a), (1, wint (k : Int)), (4, .ptr T.length 0), (5, .ptr (T.length + 1) 0), (6, wint (i : Int))]) (fun i => T ++ [.cells 26 z32, .cells 26 ((hF bs k i).map by8)]) (fun i => i <= 32) (fun i => 32 - i) 0 [] 0 (fun _ : Unit => [(4, .ptr T.length 0), (5, .ptr (T.length + 1) 0)]) (fun _ => T ++ [.cells 26 z32, .cells 26 ((hF bs k 32).map by8)]) (fun _ => True) (by omega) (by omega) (by (simp -dsimp +decide (disch := omega) only [vt2, v1q, ↓reduceIte, Nat.reduceSub, Nat.reduceAdd, Nat.reduceMul, Nat.reduceLT, Int.reduceAdd, Int.reduceSub, Int.reduceToNat, v4q]); first | rfl | exact ⟨rfl, rfl⟩ | done) rfl (by simp) ?_ ?_
 . rintro i g hi
   refine SemA.o ?_
   simp -dsimp +decide (disch := omega) only [vt2, v1q, ↓reduceIte, Nat.reduceSub, Nat.reduceAdd, Nat.reduceMul, Nat.reduceLT, Int.reduceAdd, Int.reduceSub, Int.reduceToNat, v2q]
   refine CondP.dec (fun hc => ?_) (fun hc => ?_)
   . obtain ⟨x, hx⟩ : ∃ x, bs[k + i]? = some x := ⟨bs[k + i]'(by omega), by simp⟩
     have c1 : (k : Int) + (i : Int) = ((k + i : Nat) : Int) := by omega
     have hn := hF_next hx (by omega) hl hk
     have hfl := hF_len hl hk (i := i) (by omega)
     simp -dsimp +decide (disch := omega) only [vt2, v1q, ↓reduceIte, Nat.reduceSub, Nat.reduceAdd, Nat.reduceMul, Nat.reduceLT, Int.reduceAdd, Int.reduceSub, Int.reduceToNat, v2q, wt, wa, hsr, hl1, hl, c1, hx, hn, hfl, vh, wz]
     exact ⟨⟨by omega, by omega⟩, ⟨by omega, by omega⟩, by omega, i + 1, ⟨by omega, by omega⟩, rfl, rfl⟩
   . have e : i = 32 := by omega
     subst e
     simp -dsimp +decide (disch := omega) only [vt2, v1q, ↓reduceIte, Nat.reduceSub, Nat.reduceAdd, Nat.reduceMul, Nat.reduceLT, Int.reduceAdd, Int.reduceSub, Int.reduceToNat, v2q, wt, wa, vh, wz]
     exact ⟨(), trivial⟩
 . rintro _ g tmp -
   have hfl := hF_len hl hk (i := 32) (by omega)
   simp -dsimp +decide (disch := omega) only [vt2, v1q, ↓reduceIte, Nat.reduceSub, Nat.reduceAdd, Nat.reduceMul, Nat.reduceLT, Int.reduceAdd, Int.reduceSub, Int.reduceToNat, v2q, vh, hfl, List.drop_zero]
   exact Vw.cut ⟨by rw [AV.wo, AV.woL_eq, wb8], rfl, rfl⟩
def getH (bs : List UInt8) : Hdr := ⟨numF bs 0, hF bs 4 32, hF bs 36 32, numF bs 68, numF bs 72, numF bs 76⟩
theorem getH_ok {bs : List UInt8} (hl : bs.length = 80) : (getH bs).Ok := ⟨hF_len hl (by omega) (by omega), hF_len hl (by omega) (by omega)⟩
theorem get08_ok {T : Tbl} {a : AV} {bs : List UInt8} (hb : Bs T a bs) (hl : bs.length = 80) : CallA prog G 33 [a] T fun v T' es => v = .tu [.ag (getH bs).cs, .p (.int .i64 0)] /\ T' = T /\ es = [] := by
 refine CallA.wfs fun wf => ?_
 have wt := wf.t
 have wa := wf.arg a (by simp)
 have hsr := Sl.rules hb (by decide)
 have hr := Hdr.rules (getH_ok hl)
 have hv := vz68.2 _ (getH_ok hl)
 refine CallA.eV 4 func33 ntmps33 results33 ?_
 simp -dsimp +decide only [vt2, v1q, ↓reduceIte, Nat.reduceSub, Nat.reduceAdd, Nat.reduceMul, Nat.reduceLT, Int.reduceAdd, Int.reduceSub, Int.reduceToNat, ci]
 simp -dsimp +decide (disch := omega) only [vt2, v1q, ↓reduceIte, Nat.reduceSub, Nat.reduceAdd, Nat.reduceMul, Nat.reduceLT, Int.reduceAdd, Int.reduceSub, Int.reduceToNat, v2q, hsr, hl, ez68, bb2]
 refine (number08_ok (k := 0) (hb.app _) hl (by omega)).det' ?_
 simp -dsimp +decide (disch := omega) only [vt2, v1q, ↓reduceIte, Nat.reduceSub, Nat.reduceAdd, Nat.reduceMul, Nat.reduceLT, Int.reduceAdd, Int.reduceSub, Int.reduceToNat, v2q, hsr, hl]
 refine (hash08_ok (k := 4) (hb.app _) hl (by omega)).det' ?_
 simp -dsimp +decide (disch := omega) only [vt2, v1q, ↓reduceIte, Nat.reduceSub, Nat.reduceAdd, Nat.reduceMul, Nat.reduceLT, Int.reduceAdd, Int.reduceSub, Int.reduceToNat, v2q, hsr, hl]
 refine (hash08_ok (k := 36) (hb.app _) hl (by omega)).det' ?_
 simp -dsimp +decide (disch := omega) only [vt2, v1q, ↓reduceIte, Nat.reduceSub, Nat.reduceAdd, Nat.reduceMul, Nat.reduceLT, Int.reduceAdd, Int.reduceSub, Int.reduceToNat, v2q, hsr, hl]
 refine (number08_ok (k := 68) (hb.app _) hl (by omega)).det' ?_
 simp -dsimp +decide (disch := omega) only [vt2, v1q, ↓reduceIte, Nat.reduceSub, Nat.reduceAdd, Nat.reduceMul, Nat.reduceLT, Int.reduceAdd, Int.reduceSub, Int.reduceToNat, v2q, hsr, hl]
 refine (number08_ok (k := 72) (hb.app _) hl (by omega)).det' ?_
 simp -dsimp +decide (disch := omega) only [vt2, v1q, ↓reduceIte, Nat.reduceSub, Nat.reduceAdd, Nat.reduceMul, Nat.reduceLT, Int.reduceAdd, Int.reduceSub, Int.reduceToNat, v2q, hsr, hl]
 refine (number08_ok (k := 76) (hb.app _) hl (by omega)).det' ?_
 have l1 := hF_len (k := 4) (i := 32) hl (by omega) (by omega)
 have l2 := hF_len (k := 36) (i := 32) hl (by omega) (by omega)
 have e0 : z68.set 0 (AV.p (Value.int IntKind.u32 (numF bs 0).toNat)) = Hdr.cs ⟨numF bs 0, h0b, h0b, 0, 0, 0⟩ := rfl
 have k0 : Hdr.Ok ⟨numF bs 0, h0b, h0b, 0, 0, 0⟩ := ⟨rfl, rfl⟩
 have k1 : Hdr.Ok ⟨numF bs 0, hF bs 4 32, h0b, 0, 0, 0⟩ := ⟨l1, rfl⟩
 have k2 : Hdr.Ok ⟨numF bs 0, hF bs 4 32, hF bs 36 32, 0, 0, 0⟩ := ⟨l1, l2⟩
 have k3 : Hdr.Ok ⟨numF bs 0, hF bs 4 32, hF bs 36 32, numF bs 68, 0, 0⟩ := ⟨l1, l2⟩
 have k4 : Hdr.Ok ⟨numF bs 0, hF bs 4 32, hF bs 36 32, numF bs 68, numF bs 72, 0⟩ := ⟨l1, l2⟩
 have w1 := (Hdr.wr k0).1 _ l1
 have w2 := (Hdr.wr k1).2.1 _ l2
 have w3 := (Hdr.wr k2).2.2.1
 have w4 := (Hdr.wr k3).2.2.2.1
 have w5 := (Hdr.wr k4).2.2.2.2
 have hg : Hdr.cs ⟨numF bs 0, hF bs 4 32, hF bs 36 32, numF bs 68, numF bs 72, numF bs 76⟩ = (getH bs).cs := rfl
 simp -dsimp +decide (disch := omega) only [vt2, v1q, ↓reduceIte, Nat.reduceSub, Nat.reduceAdd, Nat.reduceMul, Nat.reduceLT, Int.reduceAdd, Int.reduceSub, Int.reduceToNat, v2q, hsr, hl, vz68, ez68, e0, l1, l2, w1, w2, w3, w4, w5, Hdr.cs_len k0, Hdr.cs_len k1, Hdr.cs_len k2, Hdr.cs_len k3, Hdr.cs_len k4, hg, hr, hv]
 simp -dsimp +decide (disch := omega) only [vt2, v1q, ↓reduceIte, Nat.reduceSub, Nat.reduceAdd, Nat.reduceMul, Nat.reduceLT, Int.reduceAdd, Int.reduceSub, Int.reduceToNat, v4q, vres, vone, vt, hr]
 exact Vw.cut ⟨by simp only [AV.wo, AV.woL_eq, List.map_cons, List.map_nil, hr], rfl, rfl⟩
end Go.Proofs.YtfpjalgfnjjcmaaGreatDoor
namespace Go.E
section
variable {P : Program} {G : Nat -> AV} {Z Z' Z0 : Heap} {ρ ρ' ρ0 : List BI} {T T' T0 : Tbl} {w w' w0 : World} {a b : AV} {u v : Value} {K : AV -> Tbl -> Eff -> Prop} {cs : List AV} {es E : Eff}
variable {N n m : Nat} {ro : Option Nat} {ds loc : List AV} {tmp : List (Nat × AV)} {Nk R : AKont} {X : Nat -> AKont}
def SK {σ : Type} (G : Nat -> AV) (N n : Nat) (ds : List AV) (L : σ -> List (Nat × AV)) (Tb : σ -> Tbl) (Q : σ -> Prop) (Ei : Eff) : AKont := fun ds' loc' _ T' E' => ∃ s, Q s /\ SeeL G N n ds' loc' T' E' ds (L s) (Tb s) Ei
section
variable {σ τ : Type} {L : σ -> List (Nat × AV)} {Tb : σ -> Tbl} {Q : σ -> Prop} {Ei : Eff} {k : Nat}
theorem SK.elim {dv : List Nat} {lv : List Value} {tv : List (Nat × Value)} (hN : ρ0.length = N) (h : LK G Z0 ρ0 T0 w0 (SK G N n ds L Tb Q Ei) dv lv tv w) :
 ∃ s loc Z ρ, Q s /\ Lc n (L s) loc /\ Frm G Z0 ρ0 T0 w0 Z ρ (Tb s) w Ei /\ At Z ρ ds loc (tv.map fun p => (p.1, AV.p p.2)) dv lv tv := by
 obtain ⟨Z, ρ, T, E, ds1, loc, tmp, hf, h1, h2, h3, s, hs, hv⟩ := h
 obtain ⟨Z', ρ', loc', k1, k2, k3⟩ := hv Z0 ρ0 T0 w0 Z ρ w dv lv hN hf ⟨h1, h2, .nil⟩
 have key : ∀ (tv : List (Nat × Value)), RelT Z' ρ' (tv.map fun p => (p.1, AV.p p.2)) tv := fun tv => by
  induction tv with
  | nil => exact .nil
  | cons p r ih => exact .cons (.p _) ih
 exact ⟨s, loc', Z', ρ', hs, k3, k1, ⟨k2.ds, k2.loc, key tv⟩⟩
theorem SK.to {dv : List Nat} {lv : List Value} {tv : List (Nat × Value)} {K : AKont} (hN : ρ0.length = N) (h : LK G Z0 ρ0 T0 w0 (SK G N n ds L Tb Q Ei) dv lv tv w)
 (hK : ∀ s g tmp, Q s -> K ds (mkA g (L s) 0 n) tmp (Tb s) Ei) : LK G Z0 ρ0 T0 w0 K dv lv tv w := by
 obtain ⟨s, loc, Z, ρ, hs, hl, hf, ha⟩ := SK.elim hN h
 obtain ⟨g, rfl⟩ := hl.elim
 exact ⟨Z, ρ, _, _, _, _, _, hf, ha.ds, ha.loc, ha.tmp, hK s g _ hs⟩
theorem SemA.loopS {c : Code} (L : σ -> List (Nat × AV)) (Tb : σ -> Tbl) (Q : σ -> Prop) (μ : σ -> Nat) (s0 : σ) (Ei : Eff) (xi : Nat) (Le : τ -> List (Nat × AV)) (Te : τ -> Tbl) (Qe : τ -> Prop) (hQ : Q s0) (hL : Lc n (L s0) loc) (hT : T = Tb s0) (hE : ∀ x ∈ E, x ∈ Ei)
 (round : ∀ s g, Q s -> SemA P G N ro n m c ds (mkA g (L s) 0 n) [] (Tb s) Ei (SK G N n ds L Tb (fun s' => Q s' /\ μ s' < μ s) Ei) (fun j => if j = xi then SK G N n ds Le Te Qe Ei else X j) R)
 (exit : ∀ s g tmp, Qe s -> X xi ds (mkA g (Le s) 0 n) tmp (Te s) Ei) : SemA P G N ro n m (.loop c) ds loc [] T E Nk X R := by
 intro Z0 ρ0 T0 w0 Z ρ w dv lv tv hN hf ha a haa Qs hQs
 refine wpIn_loop_ghost (fun k a w => ∃ (Z : Heap) (ρ : List BI) (s : σ) (loc : List AV) (dv : List Nat) (lv : List Value) (tv : List (Nat × Value)), Fits' n m dv lv tv a /\ Frm G Z0 ρ0 T0 w0 Z ρ (Tb s) w Ei /\ At Z ρ ds loc [] dv lv [] /\ (Q s /\ Lc n (L s) loc) /\ μ s = k)
  (μ s0) ⟨Z, ρ, s0, loc, dv, lv, tv, haa, hT ▸ hf.more hE, ha.clear, ⟨hQ, hL⟩, rfl⟩ ?_
 rintro k' a w ⟨Z, ρ, s, loc, dv, lv, tv, haa, hf, hat, ⟨hI, hL⟩, rfl⟩
 obtain ⟨g, rfl⟩ := hL.elim
 have hr := round s g hI Z0 ρ0 T0 w0 Z ρ w dv lv [] hN hf hat
 refine hr a haa.cleared _ fun e dv' lv' tv' w' a' haa' hq => ?_
 cases e with
 | normal =>
   obtain ⟨s', loc', Z', ρ', ⟨h1, h2⟩, hl', h3, h4⟩ := SK.elim hN hq
   exact ⟨_, h2, Z', ρ', s', _, dv', lv', tv', haa', h3, ⟨h4.ds, h4.loc, .nil⟩, ⟨h1, hl'⟩, rfl⟩
 | exit i =>
   simp only [mkQ] at hq
   split at hq
   . rename_i hi; subst hi; exact hQs (.exit _) _ _ _ _ _ haa' (SK.to hN hq exit)
   . exact hQs (.exit i) _ _ _ _ _ haa' hq
 | ret => exact hQs .ret _ _ _ _ _ haa' hq
 | _ => exact hq.elim
end
end
theorem vsk {σ : Type} : ∀ (G : Nat -> AV) (N n : Nat) (ds : List AV) (L : σ -> List (Nat × AV)) (Tb : σ -> Tbl) (Q : σ -> Prop) (Ei : Eff) (ds' loc' : List AV) (tmp' : List (Nat × AV)) (T' : Tbl) (E' : Eff), SK G N n ds L Tb Q Ei ds' loc' tmp' T' E' = ∃ s, Q s /\ SeeL G N n ds' loc' T' E' ds (L s) (Tb s) Ei :=
 fun _ _ _ _ _ _ _ _ _ _ _ _ _ => rfl
end Go.E
namespace Go.Proofs.YtfpjalgfnjjcmaaGreatDoor
open Go.E Go.Proofs.YtfpjalgfnjjcmaaGreatDoor.Tryz Go.Proofs.Tryz
structure Gr where
 behind : UInt8
 step : UInt8
 mark : UInt8
 turn : UInt16
def Gr.cs (g : Gr) : List AV := [by8 g.behind, by8 g.step, by8 g.mark, w16 g.turn]
def chA (c : List Hdr) : AV := .vs (c.flatMap Hdr.cs) c.length
def chB (C : List (List Hdr)) : AObj := .buf 36 1 (C.map chA)
def hdB (l : List Hdr) : AObj := .buf 28 68 (l.flatMap Hdr.cs)
theorem ezt (k : UInt8) : [AV.p (Value.int IntKind.u8 (k.toNat : Int)), oB, oB, oB, oB, oB, oB, oB, oB, oB, oB, oB, oB, oB, oB, oB, oB, oB, oB, oB, oB, oB, oB, oB, oB, oB, oB, oB, oB, oB, oB, oB] = (tR k).map by8 := rfl
theorem chA_wo : (∀ (q : Nat -> Bool) c, (chA c).wo q = chA c) /\ (∀ i cs c, (chA c).pub i cs = chA c) /\ (∀ (q : Nat -> Bool) C, (chB C).wo q = chB C) /\ (∀ i cs C, (chB C).pub i cs = chB C) /\ (∀ (q : Nat -> Bool) (C : List (List Hdr)), List.map (AV.wo q) (C.map chA) = C.map chA) /\ (∀ i cs (C : List (List Hdr)), List.map (AV.pub i cs) (C.map chA) = C.map chA) := by
 have h1 : ∀ (q : Nat -> Bool) c, (chA c).wo q = chA c := fun q c => by rw [chA, AV.wo]
 have h2 : ∀ i cs c, (chA c).pub i cs = chA c := fun i cs c => by rw [chA, AV.pub]
 refine ⟨h1, h2, fun q C => ?_, fun i cs C => ?_, fun q C => ?_, fun i cs C => ?_⟩
 . rw [chB, AObj.wo, List.map_map]; congr 1
 . rw [chB, AObj.pub, List.map_map]; congr 1
 . rw [List.map_map]; exact List.map_congr_left fun c _ => h1 q c
 . rw [List.map_map]; exact List.map_congr_left fun c _ => h2 i cs c
theorem gr_at {gs : List Gr} {i : Nat} {x : Gr} (hx : gs[i]? = some x) {j : Nat} (hj : j < 4) : (gs.flatMap Gr.cs)[i * 4 + j]? = x.cs[j]? := by
 have h := flat_at (f := Gr.cs) (sz := 4) (fun y _ => rfl) hx
 rw [<- h, List.getElem?_take_of_lt hj, List.getElem?_drop]
theorem hdrs_pub (i : Nat) (cs : List AV) (l : List Hdr) : List.map (AV.pub i cs) (l.flatMap Hdr.cs) = l.flatMap Hdr.cs := by
 refine (List.map_congr_left fun a ha => ?_).trans (List.map_id _)
 obtain ⟨x, _, hx⟩ := List.mem_flatMap.1 ha
 simp only [Hdr.cs, List.mem_cons, List.mem_append, List.mem_map, List.not_mem_nil, or_false] at hx
 rcases hx with rfl | ⟨x, _, rfl⟩ | ⟨x, _, rfl⟩ | rfl | rfl | rfl <;> rfl
structure MadeI (p : Par) (i : Nat) (C : List (List Hdr)) (out : List Hdr) : Prop where
 n : 1 <= C.length /\ C.length <= i + 1
 o : out.length <= i
 ok : ∀ x ∈ out, x.Ok
 c : ∀ l ∈ C, (∀ x ∈ l, x.Ok) /\ l.length <= i + 1
theorem made_ok {T : Tbl} {p : Par} (ok : p.Ok) {a : AV} {gs : List Gr} (hb : Es T 4 Gr.cs a gs) (hl : gs.length <= 140737488355328) : CallA prog G 9 [.ag p.cs, a] T fun v T' es => ∃ hs : List Hdr, v = chA hs /\ T' = T /\ es = [] /\ (∀ x ∈ hs, x.Ok) /\ hs.length <= 40 := by
 refine CallA.wfs fun wf => ?_
 have wt := wf.t
 have wp := wf.p
 have wa := wf.arg a (by simp)
 have hr := Par.rules ok
 have hsr := Sl.rules hb.sl (by decide)
 have g0 := fun l => gn0 T (.cells 30 p.cs) l
 have hfr := Hdr.rules ok.f
 have hv := vz68.2 _ ok.f
 refine CallA.eV 13 func9 ntmps9 results9 ?_
 simp -dsimp +decide only [vsk, v5q, ↓reduceIte, Nat.reduceSub, Nat.reduceAdd, Nat.reduceMul, Nat.reduceLT, Int.reduceAdd, Int.reduceSub, Int.reduceToNat, ci]
 simp -dsimp +decide (disch := omega) only [vsk, v5q, ↓reduceIte, Nat.reduceSub, Nat.reduceAdd, Nat.reduceMul, Nat.reduceLT, Int.reduceAdd, Int.reduceSub, Int.reduceToNat, v2q, hr, g0, hfr, rep1, ez68, hv, vz68]
 refine SemA.pub (T.length + 1) (gn1 T _ _ _) rfl hdr_clean ?_
 have gs1 : ∀ x y z o, (T ++ [x, y, z]).set (T.length + 1) o = T ++ [x, o, z] := fun x y z o => by rw [List.set_append_right _ _ (by omega), Nat.add_sub_cancel_left]; rfl
 have hv1 : AV.vs (List.take (1 * 68) (List.drop 0 p.first.cs)) 1 = chA [p.first] := by
  rw [chA, List.drop_zero, List.take_of_length_le (by rw [hfr.1]; decide)]; simp
 have wap := wf.argp a (by simp)
 simp -dsimp +decide only [vsk, v5q, ↓reduceIte, Nat.reduceSub, Nat.reduceAdd, Nat.reduceMul, Nat.reduceLT, Int.reduceAdd, Int.reduceSub, Int.reduceToNat, ci, vt, wp, wa, wap, hr, gs1, AV.pub]
 refine SemA.adopt 6 28 68 (by decide) rfl ?_
 simp -dsimp +decide only [vsk, v5q, ↓reduceIte, Nat.reduceSub, Nat.reduceAdd, Nat.reduceMul, Nat.reduceLT, Int.reduceAdd, Int.reduceSub, Int.reduceToNat, ci, vt]
 have hfi : AV.vs p.first.cs 1 = chA [p.first] := by simp [chA]
 refine SemA.loopS (fun s : Nat × List (List Hdr) × List Hdr => [(1, a), (2, .ptr T.length 0), (5, .sl (T.length + 2) 0 s.2.1.length), (6, .sl (T.length + 3) 0 s.2.2.length), (7, wint (s.1 : Int))]) (fun s => T ++ [.cells 30 p.cs, .gone, chB s.2.1, hdB s.2.2]) (fun s => (s.1 <= gs.length /\ s.1 <= 40) /\ MadeI p s.1 s.2.1 s.2.2) (fun s => 40 - s.1) (0, [[p.first]], []) [] 0
  (fun t : List (List Hdr) × List Hdr => [(6, .sl (T.length + 3) 0 t.2.length)]) (fun t => T ++ [.cells 30 p.cs, .gone, chB t.1, hdB t.2]) (fun t => (∀ x ∈ t.2, x.Ok) /\ t.2.length <= 40) ⟨by simp, ⟨by simp, by simp, by simp, fun l hl => ?_⟩⟩ ⟨rfl, rfl, rfl, rfl, rfl, rfl⟩ ?_ (by simp) ?_ ?_
 . rw [List.mem_singleton.1 hl]
   exact ⟨fun x hx => by rw [List.mem_singleton.1 hx]; exact ok.f, by simp⟩
 . rw [hfi]; simp [chB, hdB]
 . rintro ⟨i, C, out⟩ g ⟨⟨hi1, hi2⟩, hI⟩
   dsimp only at hi1 hi2 hI
   refine SemA.o ?_
   simp -dsimp +decide (disch := omega) only [vsk, v5q, ↓reduceIte, Nat.reduceSub, Nat.reduceAdd, Nat.reduceMul, Nat.reduceLT, Int.reduceAdd, Int.reduceSub, Int.reduceToNat, v2q, hsr]
   by_cases c1 : i < gs.length
   rotate_left
   . have i1 : ((i : Int) < (gs.length : Int)) = False := eq_false (by omega)
     simp -dsimp +decide (disch := omega) only [vsk, v5q, ↓reduceIte, Nat.reduceSub, Nat.reduceAdd, Nat.reduceMul, Nat.reduceLT, Int.reduceAdd, Int.reduceSub, Int.reduceToNat, v2q, hsr, i1, bb2]
     exact ⟨(C, out), ⟨hI.ok, by have := hI.o; show out.length <= 40; omega⟩, SeeL.done ⟨rfl, ⟨rfl, rfl⟩, rfl, by simp⟩⟩
   have i1 : ((i : Int) < (gs.length : Int)) = True := eq_true (by omega)
   by_cases c2 : i < 40
   rotate_left
   . have i2 : ((i : Int) < 40) = False := eq_false (by omega)
     simp -dsimp +decide (disch := omega) only [vsk, v5q, ↓reduceIte, Nat.reduceSub, Nat.reduceAdd, Nat.reduceMul, Nat.reduceLT, Int.reduceAdd, Int.reduceSub, Int.reduceToNat, v2q, hsr, i1, i2, bb2]
     exact ⟨(C, out), ⟨hI.ok, by have := hI.o; show out.length <= 40; omega⟩, SeeL.done ⟨rfl, ⟨rfl, rfl⟩, rfl, by simp⟩⟩
   have i2 : ((i : Int) < 40) = True := eq_true (by omega)
   obtain ⟨x, hx⟩ : ∃ x, gs[i]? = some x := ⟨gs[i]'(by omega), by simp⟩
   have hfld := fun (K : AV -> Prop) => Sl.fld (K := K) hb.sl (by omega)
   have hq8 := Sl.loads hb.sl (P := prog) (t := 5) (by (simp -dsimp +decide only [vsk, v5q, ↓reduceIte, Nat.reduceSub, Nat.reduceAdd, Nat.reduceMul, Nat.reduceLT, Int.reduceAdd, Int.reduceSub, Int.reduceToNat, ci]))
   have ld0 : ∀ (l : Tbl) (K : AV -> Prop), loadA prog 5 (a.pl (i * 4)) (T ++ l) K = K (by8 x.behind) := fun l K => by rw [hq8.1 l _ K (by omega), show i * 4 = i * 4 + 0 from rfl, gr_at hx (by omega)]; rfl
   have ld1 : ∀ (l : Tbl) (K : AV -> Prop), loadA prog 5 (a.pl (i * 4 + 1)) (T ++ l) K = K (by8 x.step) := fun l K => by rw [hq8.1 l _ K (by omega), gr_at hx (by omega)]; rfl
   have ld2 : ∀ (l : Tbl) (K : AV -> Prop), loadA prog 5 (a.pl (i * 4 + 2)) (T ++ l) K = K (by8 x.mark) := fun l K => by rw [hq8.1 l _ K (by omega), gr_at hx (by omega)]; rfl
   have hw8 : ∀ x : UInt8, IntKind.i64.wrap (x.toNat : Int) = (x.toNat : Int) := fun x => IntWalk.i64_in _ (by have := x.toNat_lt; omega)
   obtain ⟨hI1, hI2⟩ := hI.n
   obtain ⟨k, hk⟩ : ∃ k, k = x.behind.toNat % C.length := ⟨_, rfl⟩
   have hkC : k < C.length := by rw [hk]; exact Nat.mod_lt _ hI1
   obtain ⟨c, hc⟩ : ∃ c, C[k]? = some c := ⟨C[k]'hkC, by simp⟩
   have hmod : (x.behind.toNat : Int).tmod (C.length : Int) = (k : Int) := by rw [hk]; rfl
   have hg2 := fun l => gn2 T (.cells 30 p.cs) .gone (chB C) l
   have hi0 : (0 <= (i : Int)) = True := eq_true (by omega)
   have csC : ∀ K : List AV -> Prop, csA (some (chB C)) K = K (C.map chA) := fun _ => rfl
   have hC0 : ((C.length : Int) ≠ 0) = True := eq_true (by omega)
   have hk0 : (0 <= (k : Int)) = True := eq_true (by omega)
   have hk1 : ((k : Int) < (C.length : Int)) = True := eq_true (by omega)
   have hCm : (C.map chA ≠ []) = True := eq_true (by intro e; rw [List.map_eq_nil_iff] at e; rw [e] at hI1; simp at hI1)
   have hCk : (C.map chA)[k]? = some (chA c) := by rw [List.getElem?_map, hc]; rfl
   have hkz : 0 + k * 1 = k := by omega
   simp -dsimp +decide (disch := omega) only [vsk, v5q, ↓reduceIte, Nat.reduceSub, Nat.reduceAdd, Nat.reduceMul, Nat.reduceLT, Int.reduceAdd, Int.reduceSub, Int.reduceToNat, v2q, hsr, i1, i2, bb2, hfld, ld0, hw8, hmod, hg2, hi0, true_and, csC, hC0, hk0, hk1, hCm, hCk, hkz, Int.toNat_natCast, and_true]
   obtain ⟨hco, hcl⟩ := hI.c c (List.mem_of_getElem? hc)
   have hcE : ∀ U, Es U 68 Hdr.cs (chA c) c := fun U => Es.vs fun x hx => Hdr.cs_len (hco x hx)
   obtain ⟨R, hR⟩ : ∃ R, R = mineB p c (medB c + UInt32.ofInt 1 + x.step.toUInt32) (tR x.mark) 100 := ⟨_, rfl⟩
   have hRo : R.1.Ok := by rw [hR]; exact mineB_ok rfl
   have hRl := Hdr.cs_len hRo
   have hRr := Hdr.rules hRo
   have hvR := vz68.2 _ hRo
   have kk : (∀ k j : Nat, decide (T.length + k < T.length + j) = decide (k < j)) /\ (∀ j : Nat, decide (T.length < T.length + j) = decide (0 < j)) := ⟨fun k j => by simp, fun j => by simp⟩
   have hmed := fun (U : Tbl) => median13_ok (T := U) (hcE U) hco (by omega)
   have hmine := fun (U : Tbl) => mine13_ok (T := U) ok (hcE U) hco (by omega) (time := medB c + UInt32.ofInt 1 + x.step.toUInt32) (tries := 100) (root := tR x.mark) rfl
   rw [<- hR] at hmine
   have kf : ∀ l2, ∃ l', keepT (fun i => decide (i < T.length + 4)) (T ++ l2) = T ++ l' := fun l2 => keep_frontN T l2 4
   have kix := fun (l2 : Tbl) (ik : IntKind) (z : Int) (K : AV -> Prop) => (show ixA 4 a (.p (.int ik z)) (keepT (fun i => decide (i < T.length + 4)) (T ++ l2)) K = ((0 <= z /\ z < gs.length) /\ K (a.pl (z.toNat * 4))) by
    obtain ⟨l', e⟩ := kf l2
    rw [e]; exact (hb.sl.app l').ix (by decide) ik z)
   have kld := fun (l2 : Tbl) (K : AV -> Prop) => (show loadA prog 5 (a.pl (i * 4 + 1)) (keepT (fun i => decide (i < T.length + 4)) (T ++ l2)) K = K (by8 x.step) /\ loadA prog 5 (a.pl (i * 4 + 2)) (keepT (fun i => decide (i < T.length + 4)) (T ++ l2)) K = K (by8 x.mark) by
    obtain ⟨l', e⟩ := kf l2
    rw [e]; exact ⟨ld1 l' K, ld2 l' K⟩)
   have kl1 := fun l2 K => (kld l2 K).1
   have kl2 := fun l2 K => (kld l2 K).2
   have i1' : ((i : Int) < (gs.length : Int)) = True := i1
   refine SemA.drawU [(1, a), (2, .ptr T.length 0), (5, .sl (T.length + 2) 0 C.length), (6, .sl (T.length + 3) 0 out.length), (7, wint (i : Int)), (8, chA c), (9, .ptr (T.length + 4) 0), (10, .p (.bool R.2))] (T ++ [.cells 30 p.cs, .gone, chB C, hdB out, .cells 28 R.1.cs]) [] 23 (fun i => decide (i < T.length + 4)) (.st 0 true (.st 1 true (.st 2 true (.st 5 true (.st 6 true (.st 7 true (.st 8 true (.st 9 true (.st 10 true (.st 12 true (.st 13 true (.st 14 true (.st 15 true (.st 16 true (.st 17 true (.alt 3 (.st 4 true (.st 11 true (.alt 18 (.st 19 true (.st 20 true (.st 21 true (.st 22 false (.st 23 false (.st 24 true .nil)))))) 22 (.st 18 false (.st 19 true (.st 20 true (.st 21 true (.st 23 false (.st 24 true .nil))))))))) 22 (.st 3 false (.st 4 true (.st 11 true (.st 18 false (.st 19 true (.st 20 true (.st 21 true (.st 23 false (.st 24 true .nil))))))))))))))))))))))))) mixed (by kernel_rfl) ?_ ?_
   . simp -dsimp +decide (disch := omega) only [vsk, v5q, ↓reduceIte, Nat.reduceSub, Nat.reduceAdd, Nat.reduceMul, Nat.reduceLT, Int.reduceAdd, Int.reduceSub, Int.reduceToNat, v4q, vpu, vt, hr, hsr, kix, kl1, kl2, hfld, kk, keepT_get, keepO, ezt, hi0, i1', g0]
     refine ⟨?_, ?_⟩
     . refine (hmed _).det' ?_
       simp -dsimp +decide (disch := omega) only [vsk, v5q, ↓reduceIte, Nat.reduceSub, Nat.reduceAdd, Nat.reduceMul, Nat.reduceLT, Int.reduceAdd, Int.reduceSub, Int.reduceToNat, v4q, vpu, vt, wt, hr, kk, keepT_get, keepO, ez68, chA_wo]
       refine ⟨(hmine _).det' ?_, (hmine _).det' ?_⟩
       . simp -dsimp +decide (disch := omega) only [vsk, v5q, ↓reduceIte, Nat.reduceSub, Nat.reduceAdd, Nat.reduceMul, Nat.reduceLT, Int.reduceAdd, Int.reduceSub, Int.reduceToNat, v4q, vpu, vt, wt, wa, hr, kk, keepT_get, keepO, ez68, vz68, hRl, hRr, hvR, chA_wo]
         exact SeeL.done ⟨rfl, ⟨rfl, rfl, rfl, rfl, rfl, rfl, rfl, rfl, rfl⟩, rfl, by simp⟩
       . simp -dsimp +decide (disch := omega) only [vsk, v5q, ↓reduceIte, Nat.reduceSub, Nat.reduceAdd, Nat.reduceMul, Nat.reduceLT, Int.reduceAdd, Int.reduceSub, Int.reduceToNat, v4q, vpu, vt, wt, wa, hr, kk, keepT_get, keepO, ez68, vz68, hRl, hRr, hvR, chA_wo]
         exact SeeL.done ⟨rfl, ⟨rfl, rfl, rfl, rfl, rfl, rfl, rfl, rfl, rfl⟩, rfl, by simp⟩
     . refine (hmed _).det' ?_
       simp -dsimp +decide (disch := omega) only [vsk, v5q, ↓reduceIte, Nat.reduceSub, Nat.reduceAdd, Nat.reduceMul, Nat.reduceLT, Int.reduceAdd, Int.reduceSub, Int.reduceToNat, v4q, vpu, vt, wt, hr, kk, keepT_get, keepO, ez68, chA_wo]
       refine (hmine _).det' ?_
       simp -dsimp +decide (disch := omega) only [vsk, v5q, ↓reduceIte, Nat.reduceSub, Nat.reduceAdd, Nat.reduceMul, Nat.reduceLT, Int.reduceAdd, Int.reduceSub, Int.reduceToNat, v4q, vpu, vt, wt, wa, hr, kk, keepT_get, keepO, ez68, vz68, hRl, hRr, hvR, chA_wo]
       exact SeeL.done ⟨rfl, ⟨rfl, rfl, rfl, rfl, rfl, rfl, rfl, rfl, rfl⟩, rfl, by simp⟩
   . intro g tmp
     have g4 := fun l => gn4 T (.cells 30 p.cs) .gone (chB C) (hdB out) (.cells 28 R.1.cs) l
     have hoe : ∀ (q : Nat -> Bool) (l : List Hdr), (∀ x ∈ l, x.Ok) -> (hdB l).wo q = hdB l := fun q l hl => by rw [hdB, AObj.wo, hdrs_wo q hl]
     have hoo := fun q => hoe q out hI.ok
     have hnext : MadeI p (i + 1) C out := ⟨⟨hI1, by omega⟩, by have := hI.o; omega, hI.ok, fun l hl => ⟨(hI.c l hl).1, by have := (hI.c l hl).2; omega⟩⟩
     cases hR2 : R.2 with
     | false =>
       simp -dsimp +decide (disch := omega) only [vsk, v5q, ↓reduceIte, Nat.reduceSub, Nat.reduceAdd, Nat.reduceMul, Nat.reduceLT, Int.reduceAdd, Int.reduceSub, Int.reduceToNat, v2q, bb2]
       refine ⟨(i + 1, C, out), ⟨⟨⟨by dsimp only; omega, by dsimp only; omega⟩, hnext⟩, by dsimp only; omega⟩, SeeL.cut (T.length + 4) (by omega) ?_⟩
       simp -dsimp +decide only [vsk, v5q, ↓reduceIte, Nat.reduceSub, Nat.reduceAdd, Nat.reduceMul, Nat.reduceLT, Int.reduceAdd, Int.reduceSub, Int.reduceToNat, ci, vt, wt, wa, hr, chA_wo, hoo]
       exact SeeL.done ⟨rfl, ⟨rfl, rfl, rfl, rfl, rfl, rfl⟩, rfl, by simp⟩
     | true =>
       have hq16 := Sl.loads hb.sl (P := prog) (t := 80) (by (simp -dsimp +decide only [vsk, v5q, ↓reduceIte, Nat.reduceSub, Nat.reduceAdd, Nat.reduceMul, Nat.reduceLT, Int.reduceAdd, Int.reduceSub, Int.reduceToNat, ci]))
       have ld3 : ∀ (l : Tbl) (K : AV -> Prop), loadA prog 80 (a.pl (i * 4 + 3)) (T ++ l) K = K (w16 x.turn) := fun l K => by rw [hq16.1 l _ K (by omega), gr_at hx (by omega)]; rfl
       by_cases ht : x.turn.toNat = 0
       . have it : ((x.turn.toNat : Int) = 0) = True := eq_true (by omega)
         have hwo := fun q => hdrs_wo q hI.ok
         have hfl : (out.flatMap Hdr.cs).length = out.length * 68 := flat_len fun y hy => Hdr.cs_len (hI.ok y hy)
         have hfc : (c.flatMap Hdr.cs).length = c.length * 68 := flat_len fun y hy => Hdr.cs_len (hco y hy)
         have hoc : ones (c.flatMap Hdr.cs) = true := hdrs_ones hco
         have hsc : ∀ (U : Tbl) (K : List AV -> Nat -> Prop), srcA 68 (chA c) U K = (K (c.flatMap Hdr.cs) c.length) := fun U K => by
          show (_ /\ _) = _; rw [hfc]; simp
         have hnx : out.flatMap Hdr.cs ++ R.1.cs = (out ++ [R.1]).flatMap Hdr.cs := by simp
         have hnc : c.flatMap Hdr.cs ++ R.1.cs = (c ++ [R.1]).flatMap Hdr.cs := by simp
         have hoR : ∀ x ∈ out ++ [R.1], x.Ok := fun x hx => by
          rcases List.mem_append.1 hx with hx | hx
          . exact hI.ok x hx
          . rw [List.mem_singleton.1 hx]; exact hRo
         have hcR : ∀ x ∈ c ++ [R.1], x.Ok := fun x hx => by
          rcases List.mem_append.1 hx with hx | hx
          . exact hco x hx
          . rw [List.mem_singleton.1 hx]; exact hRo
         have hwc := fun q => hdrs_wo q hco
         have hwn := fun q => hdrs_wo q hoR
         have hwR := fun q => hdrs_wo q hcR
         have hCl : (C.map chA).length = C.length * 1 := by rw [List.length_map, Nat.mul_one]
         have b4 : ((C.length + 1) * 24 <= 140737488355328 /\ C.length + 1 <= 140737488355328) = True := eq_true ⟨by omega, by omega⟩
         have hI0 := hI.o
         have b1 : ((out.length + 1) * 80 <= 140737488355328 /\ out.length + 1 <= 140737488355328) = True := eq_true ⟨by omega, by omega⟩
         have b2 : (c.length * 80 <= 140737488355328 /\ c.length <= 140737488355328) = True := eq_true ⟨by omega, by omega⟩
         have b3 : ((c.length + 1) * 80 <= 140737488355328 /\ c.length + 1 <= 140737488355328) = True := eq_true ⟨by omega, by omega⟩
         have s3 : ∀ x y z w u v o, (T ++ [x, y, z, w, u, v]).set (T.length + 3) o = T ++ [x, y, z, o, u, v] := fun x y z w u v o => by rw [List.set_append_right _ _ (by omega), Nat.add_sub_cancel_left]; rfl
         simp -dsimp +decide (disch := omega) only [vsk, v5q, ↓reduceIte, Nat.reduceSub, Nat.reduceAdd, Nat.reduceMul, Nat.reduceLT, Int.reduceAdd, Int.reduceSub, Int.reduceToNat, v2q, wt, wa, bb2, hsr, hfld, hi0, i1', ld3, it, hr, hRr, rep1, ez68, vz68, hvR, g4, hdB, hwo, hwc, hwn, hfl, hfc, chA_wo, hsc, hoc, hnx, hnc, b1, b2, b3, b4, s3, true_and, chB, hCl, hwR]
         have hnext3 : MadeI p (i + 1) (C ++ [c ++ [R.1]]) (out ++ [R.1]) := by
          refine ⟨⟨by rw [List.length_append, List.length_singleton]; omega, by rw [List.length_append, List.length_singleton]; omega⟩, by rw [List.length_append, List.length_singleton]; omega, hoR, fun l hl => ?_⟩
          rcases List.mem_append.1 hl with hl | hl
          . exact hnext.c l hl
          . rw [List.mem_singleton.1 hl]
            exact ⟨hcR, by rw [List.length_append, List.length_singleton]; omega⟩
         refine ⟨(i + 1, C ++ [c ++ [R.1]], out ++ [R.1]), ⟨⟨⟨by dsimp only; omega, by dsimp only; omega⟩, hnext3⟩, by dsimp only; omega⟩, ?_⟩
         refine SeeL.pub (T.length + 6) (gn6 T _ _ _ _ _ _ _ _) rfl (hdrs_clean _) ?_
         have hp1 : AV.pub (T.length + 6) (List.flatMap Hdr.cs (c ++ [R.1])) (.sl (T.length + 6) 0 (c.length + 1)) = chA (c ++ [R.1]) := by
          have e : AV.pub (T.length + 6) (List.flatMap Hdr.cs (c ++ [R.1])) (.sl (T.length + 6) 0 (c.length + 1)) = .vs (List.flatMap Hdr.cs (c ++ [R.1])) (c.length + 1) := by (simp -dsimp +decide only [vsk, v5q, ↓reduceIte, Nat.reduceSub, Nat.reduceAdd, Nat.reduceMul, Nat.reduceLT, Int.reduceAdd, Int.reduceSub, Int.reduceToNat, ci])
          rw [e, chA, List.length_append, List.length_singleton]
         have hCN : List.map (AV.pub (T.length + 6) (List.flatMap Hdr.cs (c ++ [R.1]))) (List.map chA C ++ [AV.sl (T.length + 6) 0 (c.length + 1)]) = (C ++ [c ++ [R.1]]).map chA := by
          rw [List.map_append, chA_wo.2.2.2.2.2, List.map_append, List.map_cons, List.map_nil, hp1]; rfl
         have hpn : ∀ i cs, List.map (AV.pub i cs) (List.flatMap Hdr.cs (out ++ [R.1])) = List.flatMap Hdr.cs (out ++ [R.1]) := fun i cs => hdrs_pub i cs _
         simp -dsimp +decide only [vsk, v5q, ↓reduceIte, Nat.reduceSub, Nat.reduceAdd, Nat.reduceMul, Nat.reduceLT, Int.reduceAdd, Int.reduceSub, Int.reduceToNat, ci, vt, wt, wa, wp, wap, hr, chA_wo, hwn, hwR, hCN, hpn]
         refine SeeL.cut (T.length + 4) (by omega) ?_
         simp -dsimp +decide only [vsk, v5q, ↓reduceIte, Nat.reduceSub, Nat.reduceAdd, Nat.reduceMul, Nat.reduceLT, Int.reduceAdd, Int.reduceSub, Int.reduceToNat, ci, vt, wt, wa, wp, wap, hr, chA_wo, hwn, hwR]
         exact SeeL.done ⟨rfl, ⟨rfl, rfl, by simp, by simp, rfl, rfl⟩, rfl, by simp⟩
       . have it : ((x.turn.toNat : Int) = 0) = False := eq_false (by omega)
         simp -dsimp +decide (disch := omega) only [vsk, v5q, ↓reduceIte, Nat.reduceSub, Nat.reduceAdd, Nat.reduceMul, Nat.reduceLT, Int.reduceAdd, Int.reduceSub, Int.reduceToNat, v2q, bb2, hsr, hfld, hi0, i1', ld3, it, hRr]
         refine (rputh_own hRo).det' ?_
         have hbl := Hdr.bytes_len hRo
         obtain ⟨j, hj⟩ : ∃ j, j = x.turn.toNat / 8 % 80 := ⟨_, rfl⟩
         have hb1 : IntKind.i64.wrap (x.turn.toNat : Int) = (x.turn.toNat : Int) := IntWalk.i64_in _ (by have := x.turn.toNat_lt; omega)
         have hb2 : (x.turn.toNat : Int).tdiv 8 = ((x.turn.toNat / 8 : Nat) : Int) := rfl
         have hb4 : IntKind.i64.wrap ((x.turn.toNat / 8 : Nat) : Int) = ((x.turn.toNat / 8 : Nat) : Int) := IntWalk.i64_in _ (by have := x.turn.toNat_lt; omega)
         have hb3 : ((x.turn.toNat / 8 : Nat) : Int).tmod 80 = (j : Int) := by rw [hj]; rfl
         have hj80 : j < 80 := by omega
         obtain ⟨y, hy⟩ : ∃ y, R.1.bytes[j]? = some y := ⟨R.1.bytes[j]'(by omega), by simp⟩
         have hym : (R.1.bytes.map by8)[j]? = some (by8 y) := by rw [List.getElem?_map, hy]; rfl
         have hbne : (R.1.bytes.map by8 ≠ []) = True := eq_true fun e => by rw [List.map_eq_nil_iff] at e; rw [e] at hbl; cases hbl
         simp -dsimp +decide (disch := omega) only [vsk, v5q, ↓reduceIte, Nat.reduceSub, Nat.reduceAdd, Nat.reduceMul, Nat.reduceLT, Int.reduceAdd, Int.reduceSub, Int.reduceToNat, v2q, hr]
         refine SemA.draw (fun i => true) [(0, true), (1, true), (2, true), (3, true), (4, true), (5, true), (6, true), (7, true), (8, true), (9, true), (10, true), (11, true), (12, true), (13, true), (14, true), (15, true), (16, true), (17, true), (18, true), (19, true), (20, false)] mixed (by kernel_rfl) ?_
         simp -dsimp +decide (disch := omega) only [vsk, v5q, ↓reduceIte, Nat.reduceSub, Nat.reduceAdd, Nat.reduceMul, Nat.reduceLT, Int.reduceAdd, Int.reduceSub, Int.reduceToNat, v2q, hr, kallT, hsr, hfld, hi0, i1', ld3, hb1, hb2, hb3, hb4, hbne, hbl, hym, hy]
         obtain ⟨bs, hbs⟩ : ∃ bs, bs = R.1.bytes.set j (y ^^^ u8_shl (UInt8.ofInt 1) (x.turn.toNat % 8)) := ⟨_, rfl⟩
         have hbsl : bs.length = 80 := by rw [hbs, List.length_set, hbl]
         rw [<- hbs]
         have hB : ∀ l, Bs (T ++ .cells 30 p.cs :: .gone :: chB C :: hdB out :: .cells 28 R.1.cs :: .cells 28 R.1.cs :: .buf 5 1 (bs.map by8) :: l) (.sl (T.length + 6) 0 80) bs := fun l => by
          have := Bs.obj (bs := bs) (gn6 T (.cells 30 p.cs) .gone (chB C) (hdB out) (.cells 28 R.1.cs) (.cells 28 R.1.cs) (.buf 5 1 (bs.map by8)) l) rfl
          rwa [hbsl] at this
         refine ⟨⟨by omega, by omega⟩, by omega, ⟨by omega, by omega⟩, by omega, (get08_ok (hB []) hbsl).det' ?_⟩
         obtain ⟨h, hh⟩ : ∃ h, h = getH bs := ⟨_, rfl⟩
         have hho : h.Ok := by rw [hh]; exact getH_ok hbsl
         rw [<- hh]
         have hhr := Hdr.rules hho
         have hhv := vz68.2 _ hho
         have hwr : wrA R.1.cs 0 h.cs = h.cs := wrA_all (by rw [hRl, Hdr.cs_len hho])
         have hwo := fun q => hdrs_wo q hI.ok
         have hfl : (out.flatMap Hdr.cs).length = out.length * 68 := flat_len fun y hy => Hdr.cs_len (hI.ok y hy)
         have hnx : out.flatMap Hdr.cs ++ h.cs = (out ++ [h]).flatMap Hdr.cs := by simp
         have hoh : ∀ x ∈ out ++ [h], x.Ok := fun x hx => by
          rcases List.mem_append.1 hx with hx | hx
          . exact hI.ok x hx
          . rw [List.mem_singleton.1 hx]; exact hho
         have hwh := fun q => hdrs_wo q hoh
         have hI0 := hI.o
         have b1 : ((out.length + 1) * 80 <= 140737488355328 /\ out.length + 1 <= 140737488355328) = True := eq_true ⟨by omega, by omega⟩
         simp -dsimp +decide (disch := omega) only [vsk, v5q, ↓reduceIte, Nat.reduceSub, Nat.reduceAdd, Nat.reduceMul, Nat.reduceLT, Int.reduceAdd, Int.reduceSub, Int.reduceToNat, v2q, wt, wa, bb2, hr, hRr, hhr, hhv, hwr, rep1, ez68, vz68, hdB, hwo, hfl, chA_wo, hnx, hwh, b1, true_and]
         have hnext2 : MadeI p (i + 1) C (out ++ [h]) := ⟨hnext.n, by rw [List.length_append, List.length_singleton]; omega, hoh, hnext.c⟩
         refine ⟨(i + 1, C, out ++ [h]), ⟨⟨⟨by dsimp only; omega, by dsimp only; omega⟩, hnext2⟩, by dsimp only; omega⟩, SeeL.cut (T.length + 4) (by omega) ?_⟩
         simp -dsimp +decide only [vsk, v5q, ↓reduceIte, Nat.reduceSub, Nat.reduceAdd, Nat.reduceMul, Nat.reduceLT, Int.reduceAdd, Int.reduceSub, Int.reduceToNat, ci, vt, wt, wa, hr, chA_wo, hwh]
         exact SeeL.done ⟨rfl, ⟨rfl, rfl, rfl, by simp, rfl, rfl⟩, rfl, by simp⟩
 . rintro ⟨C, out⟩ g tmp ⟨h1, h2⟩
   simp -dsimp +decide (disch := omega) only [vsk, v5q, ↓reduceIte, Nat.reduceSub, Nat.reduceAdd, Nat.reduceMul, Nat.reduceLT, Int.reduceAdd, Int.reduceSub, Int.reduceToNat, v2q]
   refine Vw.pub (T.length + 3) (gn3 T _ _ _ _ _) rfl (hdrs_clean _) ?_
   simp -dsimp +decide only [vsk, v5q, ↓reduceIte, Nat.reduceSub, Nat.reduceAdd, Nat.reduceMul, Nat.reduceLT, Int.reduceAdd, Int.reduceSub, Int.reduceToNat, ci, vt, wp]
   exact Vw.cut ⟨out, by rw [chA, AV.wo], rfl, rfl, h1, h2⟩
theorem look_none {s : Fst} {id : List UInt8} : s.look id = none ↔ ∀ e ∈ s.es, ¬ e.1 = id := by
 rw [Fst.look, Option.map_eq_none_iff, List.find?_eq_none]
 exact ⟨fun h e he => by simpa using h e he, fun h e he => by simpa using h e he⟩
theorem drop_look {s : Fst} {k p : Nat} {x y : Nd} {id : List UInt8} (h : s.look id = none ∨ id = x.h.id) : (s.drop k x p y).look id = none := by
 rw [look_none]
 intro e he
 have he' : e ∈ s.es.filter fun e => decide (e.1 ≠ x.h.id) := he
 rw [List.mem_filter] at he'
 rcases h with h | rfl
 . exact look_none.1 h e he'.1
 . simpa using he'.2
theorem Drops.room {s s' : Fst} {l : List (List UInt8)} (h : Drops s l s') : (∃ x, s'.nd s'.top = some x /\ s'.bc.length <= x.ht + 1 + s'.room) /\ (∀ id, (s.look id = none ∨ id ∈ l) -> s'.look id = none) /\ ∀ z, s.nd s.top = some z -> ∃ z', s'.nd s'.top = some z' /\ z'.ht = z.ht /\ z'.wk = z.wk := by
 induction h with
 | @done s x h1 h2 =>
   refine ⟨⟨x, h1, h2⟩, ?_, fun z hz => ⟨z, hz, rfl, rfl⟩⟩
   intro d hd
   rcases hd with hd | hd
   . exact hd
   . cases hd
 | @step s s' x y z k i p l h1 h2 h3 h4 h5 h6 h7 h8 h9 ih =>
   obtain ⟨a1, a2, a3⟩ := ih
   refine ⟨a1, fun id hid => a2 id ?_, fun w hw => ?_⟩
   . rcases hid with hid | hid
     . exact .inl (drop_look (.inl hid))
     . rcases List.mem_cons.1 hid with rfl | hid
       . exact .inl (drop_look (.inr rfl))
       . exact .inr hid
   . obtain ⟨w2, q1, -, -, q2, q3⟩ := (drop_sim (k := k) (x := x) h8).get (j := s.top) trivial hw
     obtain ⟨w3, q4, q5, q6⟩ := a3 w2 q1
     exact ⟨w3, q4, q5.trans q2, q6.trans q3⟩
theorem Drops.gone {s s' : Fst} {l : List (List UInt8)} (h : Drops s l s') : l.length + s'.bc.length <= s.bc.length := by
 induction h with
 | done _ _ => simp
 | @step s s' x y z k i p l h1 h2 h3 h4 h5 h6 h7 h8 h9 ih =>
   have hk := (List.getElem?_eq_some_iff.1 h3).1
   have e : (s.drop k x p y).bc.length = s.bc.length - 1 := by
    show (s.bc.eraseIdx k).length = _
    rw [List.length_eraseIdx_of_lt hk]
   rw [e] at ih
   rw [List.length_cons]
   omega
theorem AddR.gone {N : Nat} {s s' : Fst} {hd : Hdr} {ht : Nat} {l : List (List UInt8)} {e : Int} (h : AddR N s hd s' ht l e) : l.length <= s.bc.length + 1 := by
 cases h with
 | known _ _ => simp
 | none _ _ => simp
 | wrong _ _ _ _ => simp
 | @right p i r rt y z s2 _ _ h1 h2 h3 h4 h5 h6 h6' h7 h8 h9 h10 =>
   have hg := h10.gone
   obtain ⟨f1, f2, f3, f4, f5, f6, f7, f8⟩ := addN_f s hd i p y
   generalize s.addN hd i p y = s1 at *
   generalize (y.wk + wkH hd) % 2 ^ 256 = W at *
   have e : s2.bc.length = s.bc.length + 1 := by
    by_cases hw : z.wk < W
    . rw [if_pos hw] at h9
      rw [h9, (turn_f s1 (s.top :: rt) (i :: p :: r) i).2.2.2.2.2.1, f6]; simp
    . rw [if_neg hw] at h9
      rw [h9, f6]; simp
   omega
theorem AddR.tops {N : Nat} {s s' : Fst} {hd : Hdr} {ht : Nat} {l : List (List UInt8)} {e : Int} {z : Nd} (h : AddR N s hd s' ht l e) (hz : s.nd s.top = some z) (hi : s.bc.length <= z.ht + 1 + s.room) :
 ∃ z', s'.nd s'.top = some z' /\ z.wk <= z'.wk /\ s'.bc.length <= z'.ht + 1 + s'.room /\ ∀ id ∈ l, s'.look id = Option.none := by
 cases h with
 | known _ _ => exact ⟨z, hz, Nat.le_refl _, hi, by simp⟩
 | none _ _ => exact ⟨z, hz, Nat.le_refl _, hi, by simp⟩
 | wrong _ _ _ _ => exact ⟨z, hz, Nat.le_refl _, hi, by simp⟩
 | @right p i r rt y z1 s2 _ _ h1 h2 h3 h4 h5 h6 h6' h7 h8 h9 h10 =>
   rw [hz] at h7; cases h7
   obtain ⟨⟨x, a1, a2⟩, a3, a4⟩ := h10.room
   obtain ⟨f1, f2, f3, f4, f5, f6, f7, f8⟩ := addN_f s hd i p y
   have b1 : (s.addN hd i p y).nd i = some ⟨hd, some p, y.ht + 1, (y.wk + wkH hd) % 2 ^ 256, 0, false⟩ := by rw [addN_nd, if_pos rfl]; rfl
   have hti := h6 s.top z hz
   obtain ⟨z2, c1, -, -, -, c2⟩ := (addN_sim (hd := hd) (i := i) h5).get (j := s.top) (by show s.top ≠ i; omega) hz
   generalize s.addN hd i p y = s1 at *
   generalize (y.wk + wkH hd) % 2 ^ 256 = W at *
   have key : ∃ z3, s2.nd s2.top = some z3 /\ z.wk <= z3.wk := by
    by_cases hw : z.wk < W
    . rw [if_pos hw] at h9
      rw [h9, (turn_f s1 (s.top :: rt) (i :: p :: r) i).2.2.2.2.2.2.2.1]
      exact ⟨_, turn_at b1, Nat.le_of_lt hw⟩
    . rw [if_neg hw] at h9
      rw [h9, f8]
      exact ⟨z2, c1, Nat.le_of_eq c2.symm⟩
   obtain ⟨z3, d1, d2⟩ := key
   obtain ⟨z4, e1, -, e3⟩ := a4 z3 d1
   rw [a1] at e1; cases e1
   exact ⟨x, a1, by omega, a2, fun id hid => a3 id (.inr hid)⟩
abbrev rP : Par := easyP 30 10
theorem rP_ok : rP.Ok := easy_ok' (by omega)
theorem rP_may : mayB rP = true := easy_may (by decide) (by decide) (by decide) (by decide)
structure RoomI (V0 : Tbl) (m n : Nat) (s0 : Fst) (i : Nat) (V : Tbl) (s : Fst) : Prop where
 w : WS V0 (fun k => k <= m) s0 V s
 r : s.room = n
 l : s.bc.length <= i + 1
 z : ∃ z, s.nd s.top = some z /\ s.bc.length <= z.ht + 1 + s.room
theorem forestRoom_ok {T : Tbl} {room : UInt8} {gs : List Gr} (hl : gs.length <= 140737488355328) : CallA prog G 4 [by8 room, .vs (gs.flatMap Gr.cs) gs.length] T fun v _ _ => v = .p (.bool true) := by
 refine CallA.wfs fun wf => ?_
 have wt := wf.t
 have hr := Par.rules rP_ok
 have hpw := vz72.2 _ rP_ok
 have g0 := fun l => gn0 T (.cells 30 rP.cs) l
 obtain ⟨n, hn⟩ : ∃ n, n = 1 + room.toNat % 6 := ⟨_, rfl⟩
 have hn2 : 1 <= n /\ n <= 6 := by omega
 have hw8 : ∀ x : UInt8, IntKind.i64.wrap (x.toNat : Int) = (x.toNat : Int) := fun x => IntWalk.i64_in _ (by have := x.toNat_lt; omega)
 have hmod : (room.toNat : Int).tmod 6 = ((room.toNat % 6 : Nat) : Int) := rfl
 have hadd : (1 : Int) + ((room.toNat % 6 : Nat) : Int) = (n : Int) := by omega
 refine CallA.eV 23 func4 ntmps4 results4 ?_
 simp -dsimp +decide only [vsk, vsk, v5q, ↓reduceIte, Nat.reduceSub, Nat.reduceAdd, Nat.reduceMul, Nat.reduceLT, Int.reduceAdd, Int.reduceSub, Int.reduceToNat, ci]
 refine (easy13_ok (i := 30) (s := 10) (by omega)).det' ?_
 simp -dsimp +decide (disch := omega) only [vsk, vsk, v5q, ↓reduceIte, Nat.reduceSub, Nat.reduceAdd, Nat.reduceMul, Nat.reduceLT, Int.reduceAdd, Int.reduceSub, Int.reduceToNat, v2q, hr, ez72, hpw, vz72, g0, hw8, hmod, hadd]
 have hnew := fun U : Tbl => (fnew_ok (T := U) (p := rP) rP_ok (a := .p (.slice none 0 0)) (by exact rP_ok) rfl rfl (fun _ => clone_nil) (room := (n : Int))).mono (K' := fun v T' es => v = .tu [.ptr (U.length + 4) 0, .p (.int .i64 0)] /\ T' = FT (U ++ List.replicate 5 .gone) (Fst.mk0 rP U.length n) /\ es = []) fun v T' es h => by rw [if_pos ⟨rP_may, by omega, by omega⟩] at h; exact h
 obtain ⟨T1, hT1⟩ : ∃ T1, T1 = T ++ [.cells 30 rP.cs] := ⟨_, rfl⟩
 rw [<- hT1]
 refine (hnew T1).det' ?_
 have hl1 : T1.length = T.length + 1 := by rw [hT1]; simp
 have wf1 : ∀ q : Nat -> Bool, (∀ i, i < T1.length -> q i = false) -> T1.map (AObj.wo q) = T1 := fun q hq => by
  rw [hT1, List.map_append, (wf.wf q fun i hi => hq i (by omega)).1]
  simp only [List.map_cons, List.map_nil, AObj.wo, hr]
 obtain ⟨V0, hV0⟩ : ∃ V0, V0 = T1 ++ List.replicate 5 AObj.gone := ⟨_, rfl⟩
 obtain ⟨s0, hs0⟩ : ∃ s0, s0 = Fst.mk0 rP T1.length n := ⟨_, rfl⟩
 have W0 : FW V0 s0 := by rw [hV0, hs0]; exact mk0_W wf1 rP_ok n
 have G0 : s0.G := by rw [hs0]; exact mk0_G _ _ _
 have F0 : ∀ k, k <= T.length -> s0.Fr k := fun k hk => by rw [hs0]; exact mk0_Fr (.inl (by omega))
 have l0 : T.length < V0.length := by rw [hV0, List.length_append, hl1]; omega
 have P0 : V0[T.length]? = some (.cells 30 rP.cs) := by rw [hV0, hT1, List.append_assoc]; exact gn0 T _ _
 have gP' : (FT V0 s0)[T.length]? = some (.cells 30 rP.cs) := by rw [FT_fr (F0 _ (Nat.le_refl _)), P0]
 have hf0 : T1.length + 4 = s0.f := by rw [hs0]; rfl
 have b0 : s0.b = T.length + 4 := by rw [hs0]; show T1.length + 3 = _; omega
 have f0 : s0.f = T.length + 5 := by rw [<- hf0]; omega
 have v0 : V0.length = T.length + 6 := by rw [hV0, List.length_append, hl1]; rfl
 rw [<- hV0, <- hs0, hf0]
 have Z0 : WS V0 (fun k => k <= T.length) s0 V0 s0 := ⟨W0, G0, rfl, rfl, ⟨[], by simp⟩, F0, fun k hk => by omega⟩
 have wt0 := W0.r.t' W0.i W0.v
 simp -dsimp +decide (disch := omega) only [vsk, vsk, v5q, ↓reduceIte, Nat.reduceSub, Nat.reduceAdd, Nat.reduceMul, Nat.reduceLT, Int.reduceAdd, Int.reduceSub, Int.reduceToNat, v2q, vft, hr, gP', wt0, kallT, bb2]
 refine CallA.mono (made_ok rP_ok (gs := gs) (Es.vs fun _ _ => rfl) hl) fun v T' es hK => ?_
 obtain ⟨hs, rfl, rfl, rfl, hso, hsl⟩ := hK
 have hsE : ∀ U, Es U 68 Hdr.cs (chA hs) hs := fun U => Es.vs fun x hx => Hdr.cs_len (hso x hx)
 have I0 : RoomI V0 T.length n s0 0 V0 s0 := ⟨Z0, by rw [hs0]; rfl, by rw [hs0]; exact Nat.le_refl _, by rw [hs0]; exact ⟨_, mk0_root _ _ _, by show 1 <= _; omega⟩⟩
 have bq : (s0.f == s0.b) = false /\ (T.length == s0.b) = false := ⟨by simp; omega, by simp; omega⟩
 simp -dsimp +decide (disch := omega) only [vsk, vsk, v5q, ↓reduceIte, Nat.reduceSub, Nat.reduceAdd, Nat.reduceMul, Nat.reduceLT, Int.reduceAdd, Int.reduceSub, Int.reduceToNat, v2q]
 refine SemA.loopS (fun t : Nat × Tbl × Fst => [(5, .ptr T.length 0), (6, wint (n : Int)), (7, .ptr s0.f 0), (9, chA hs), (10, wint (t.1 : Int))]) (fun t => FT t.2.1 t.2.2) (fun t => t.1 <= hs.length /\ RoomI V0 T.length n s0 t.1 t.2.1 t.2.2) (fun t => hs.length - t.1) (0, V0, s0) (EF T.length) 0 (fun t : Tbl × Fst => [(7, .ptr s0.f 0)]) (fun t => FT t.1 t.2) (fun _ => True) ⟨Nat.zero_le _, I0⟩ ⟨rfl, rfl, rfl, rfl, rfl, rfl⟩ rfl (by simp) ?_ ?_
 . rintro ⟨i, V, s⟩ g ⟨hi, hI⟩
   dsimp only at hi hI
   have hsr := Sl.rules (hsE (FT V s)).sl (by decide)
   refine SemA.o ?_
   simp -dsimp +decide (disch := omega) only [vsk, vsk, v5q, ↓reduceIte, Nat.reduceSub, Nat.reduceAdd, Nat.reduceMul, Nat.reduceLT, Int.reduceAdd, Int.reduceSub, Int.reduceToNat, v2q, hsr]
   refine CondP.dec (fun hc => ?_) (fun hc => ?_)
   rotate_left
   . simp -dsimp +decide (disch := omega) only [vsk, vsk, v5q, ↓reduceIte, Nat.reduceSub, Nat.reduceAdd, Nat.reduceMul, Nat.reduceLT, Int.reduceAdd, Int.reduceSub, Int.reduceToNat, v2q]
     exact ⟨(V, s), SeeL.done ⟨rfl, ⟨rfl, rfl⟩, rfl, by simp⟩⟩
   obtain ⟨x, hx⟩ : ∃ x, hs[i]? = some x := ⟨hs[i]'(by omega), by simp⟩
   have hxo := hso x (List.mem_of_getElem? hx)
   obtain ⟨z, hz, hzl⟩ := hI.z
   have Z := hI.w
   have hIr := hI.r
   have hIl := hI.l
   have hwk := fwork_ok Z.w hz
   rw [Z.f] at hwk
   have wtV := Z.w.r.t' Z.w.i Z.w.v
   have ez4 : [oQ, oQ, oQ, oQ] = Bg 0 := rfl
   have hld := (hsE (FT V s)).ld (P := prog) (t := 28) (by (simp -dsimp +decide only [vsk, vsk, v5q, ↓reduceIte, Nat.reduceSub, Nat.reduceAdd, Nat.reduceMul, Nat.reduceLT, Int.reduceAdd, Int.reduceSub, Int.reduceToNat, ci])) (by (simp -dsimp +decide only [vsk, vsk, v5q, ↓reduceIte, Nat.reduceSub, Nat.reduceAdd, Nat.reduceMul, Nat.reduceLT, Int.reduceAdd, Int.reduceSub, Int.reduceToNat, ci])) (by decide)
   simp -dsimp +decide (disch := omega) only [vsk, vsk, v5q, ↓reduceIte, Nat.reduceSub, Nat.reduceAdd, Nat.reduceMul, Nat.reduceLT, Int.reduceAdd, Int.reduceSub, Int.reduceToNat, v2q]
   refine hwk.det' ?_
   simp -dsimp +decide (disch := omega) only [vsk, vsk, v5q, ↓reduceIte, Nat.reduceSub, Nat.reduceAdd, Nat.reduceMul, Nat.reduceLT, Int.reduceAdd, Int.reduceSub, Int.reduceToNat, v2q, vft, ez4, vbg, hsr, hld, hx, kallT]
   refine ⟨⟨by omega, by omega⟩, ?_⟩
   have tlB : Tl V.length s.b [.cells 47 (Bg z.wk)] := ⟨fun q _ => by simp only [List.map_cons, List.map_nil, AObj.wo, Bg_wo], by simp only [List.map_cons, List.map_nil, AObj.wo, Bg_wo]⟩
   have Z2 := Z.tail tlB
   have Y2 := Z.box tlB
   rw [FT_tail Z.w.i]
   have xW : (V ++ [AObj.cells 47 (Bg z.wk)])[V.length]? = some (.cells 47 (Bg z.wk)) := gn0 V _ _
   obtain ⟨V2, hV2⟩ : ∃ V2, V2 = V ++ [AObj.cells 47 (Bg z.wk)] := ⟨_, rfl⟩
   rw [<- hV2] at Z2 Y2 xW ⊢
   have lV : V0.length <= V.length := by obtain ⟨X, hX⟩ := Z.x; rw [hX, List.length_append]; omega
   have l2 : V2.length = V.length + 1 := by rw [hV2, List.length_append]; rfl
   have ha := fadd_ok Z2.w Z2.g hxo (by omega) (by omega)
   rw [Z2.f] at ha
   refine CallA.mono ha fun v T' es hK => ?_
   obtain ⟨s3, t3, gs3, e3, l3, a3, R3, G3, I3, W3, -, hb3, hf3, rfl, rfl, rfl⟩ := hK
   have Z3 := Z2.add R3 G3 W3 hb3 hf3
   have Y3 := Y2.add R3 G3 W3 hb3 hf3
   have y3 := I3.wo
   have zb := Z.b
   obtain ⟨V3, hV3⟩ : ∃ V3, V3 = V2 ++ l3 := ⟨_, rfl⟩
   rw [<- hV3] at Z3 Y3 ⊢
   have lV3 : V2.length <= V3.length := by rw [hV3, List.length_append]; omega
   obtain ⟨z3, hz3, hwk3, hl3, hg3⟩ := R3.tops hz hzl
   have hr3 : s3.room = n := R3.dom.2.2.2.1.trans hIr
   have n3 := R3.len
   have ng := R3.gone
   obtain ⟨rt3, hrt3, hrt3b⟩ := Z3.g.p _ Z3.g.t
   obtain ⟨rt, hrt, hrtb⟩ := Z.g.p _ Z.g.t
   have hz3h : z3.ht + 1 <= s3.bc.length := by
    obtain ⟨x', q1, q2, q3⟩ := hrt3.head
    rw [hz3] at q1; cases q1
    have := hrt3.len hrt3b
    rw [List.length_cons] at this
    omega
   have hk1 : z.wk < 2 ^ 256 := by rw [Z.g.w _ z rt hz hrt Z.g.t]; exact sumH_lt _
   have hk3 : z3.wk < 2 ^ 256 := by rw [Z3.g.w _ z3 rt3 hz3 hrt3 Z3.g.t]; exact sumH_lt _
   have bqV : (V.length == s0.b) = false := by simp; omega
   simp -dsimp +decide (disch := omega) only [vsk, vsk, v5q, ↓reduceIte, Nat.reduceSub, Nat.reduceAdd, Nat.reduceMul, Nat.reduceLT, Int.reduceAdd, Int.reduceSub, Int.reduceToNat, v2q, vft, FE_slots, bq, bqV, AV.wo, y3, chA_wo, zb, kallT, List.map_cons, List.map_nil]
   have hsz := size_ok Z3.w hz3 (by omega)
   rw [Z3.f] at hsz
   refine hsz.det' ?_
   simp -dsimp +decide (disch := omega) only [vsk, vsk, v5q, ↓reduceIte, Nat.reduceSub, Nat.reduceAdd, Nat.reduceMul, Nat.reduceLT, Int.reduceAdd, Int.reduceSub, Int.reduceToNat, v2q]
   have hbe := best_ok Z3.w hz3
   rw [Z3.f] at hbe
   refine hbe.det' ?_
   have i3 := z3.h.id_len
   have wt3 := Z3.w.r.t' Z3.w.i Z3.w.v
   simp -dsimp +decide (disch := omega) only [vsk, vsk, v5q, ↓reduceIte, Nat.reduceSub, Nat.reduceAdd, Nat.reduceMul, Nat.reduceLT, Int.reduceAdd, Int.reduceSub, Int.reduceToNat, v2q, vft, vh, i3, ez32, wt3]
   refine SemA.draw (fun i => true) [(0, true), (1, true), (2, true), (3, true), (4, true), (5, true), (6, true), (7, true), (8, true), (9, true), (10, true), (11, true), (12, true), (14, true), (13, false), (15, false), (16, true)] mixed (by kernel_rfl) ?_
   have j1 : ((n : Int) < (s3.bc.length : Int) - (z3.ht : Int) - 1) = False := eq_false (by omega)
   have j2 : ((s3.bc.length : Int) = (s3.bc.length : Int) - (z3.ht : Int) - 1 + (z3.ht : Int) + 1) = True := eq_true (by omega)
   have tlH : Tl V3.length s3.b [.cells 26 (z3.h.id.map by8)] := ⟨fun q _ => by simp only [List.map_cons, List.map_nil, AObj.wo, wb8], by simp only [List.map_cons, List.map_nil, AObj.wo, wb8]⟩
   have Z4 := Z3.tail tlH
   have Y4 := Y3.tail tlH
   have gW := Y4.at (.inr ⟨Nat.le_refl _, by simp⟩) xW
   have ft4 := FT_tail Z3.w.i [.cells 26 (z3.h.id.map by8)]
   have hwk4 := fwork_ok Z4.w hz3
   rw [Z4.f, <- ft4] at hwk4
   rw [<- ft4] at gW
   simp -dsimp +decide (disch := omega) only [vsk, vsk, v5q, ↓reduceIte, Nat.reduceSub, Nat.reduceAdd, Nat.reduceMul, Nat.reduceLT, Int.reduceAdd, Int.reduceSub, Int.reduceToNat, v2q, vft, kallT, j1, j2, bb2, gW, vbg]
   refine hwk4.det' ?_
   simp -dsimp +decide (disch := omega) only [vsk, vsk, v5q, ↓reduceIte, Nat.reduceSub, Nat.reduceAdd, Nat.reduceMul, Nat.reduceLT, Int.reduceAdd, Int.reduceSub, Int.reduceToNat, v2q, vft, kallT, gW, vbg, bb2]
   refine (less02_ok hk3 hk1).det' ?_
   rw [decide_eq_false (show ¬ z3.wk < z.wk by omega)]
   simp -dsimp +decide (disch := omega) only [vsk, vsk, v5q, ↓reduceIte, Nat.reduceSub, Nat.reduceAdd, Nat.reduceMul, Nat.reduceLT, Int.reduceAdd, Int.reduceSub, Int.reduceToNat, v2q, vft, kallT, gW, vbg, bb2]
   rw [ft4]
   have hb4 : T.length <= s0.b := by omega
   refine SemA.loopS (fun k : Nat => [(5, .ptr T.length 0), (6, wint (n : Int)), (7, .ptr s0.f 0), (9, chA hs), (10, wint (i : Int)), (13, a3), (19, wint (k : Int))]) (fun _ => FT (V3 ++ [.cells 26 (z3.h.id.map by8)]) s3) (fun k => k <= gs3.length) (fun k => gs3.length - k) 0 (EF T.length) 2 (fun _ : Unit => [(5, .ptr T.length 0), (6, wint (n : Int)), (7, .ptr s0.f 0), (9, chA hs), (10, wint (i : Int))]) (fun _ => FT (V3 ++ [.cells 26 (z3.h.id.map by8)]) s3) (fun _ => True) (Nat.zero_le _) ⟨rfl, rfl, rfl, rfl, rfl, rfl, rfl, rfl⟩ rfl (qe_rec1 (qe_rec hb4 (qe_rec1 fun e he => he))) ?_ ?_
   . rintro k g' hk
     have hE3 := I3.es (FT (V3 ++ [.cells 26 (z3.h.id.map by8)]) s3)
     have hsg := Sl.rules hE3.sl (by decide)
     have hlg := hE3.ld (P := prog) (t := 26) (by (simp -dsimp +decide only [vsk, vsk, v5q, ↓reduceIte, Nat.reduceSub, Nat.reduceAdd, Nat.reduceMul, Nat.reduceLT, Int.reduceAdd, Int.reduceSub, Int.reduceToNat, ci])) (by (simp -dsimp +decide only [vsk, vsk, v5q, ↓reduceIte, Nat.reduceSub, Nat.reduceAdd, Nat.reduceMul, Nat.reduceLT, Int.reduceAdd, Int.reduceSub, Int.reduceToNat, ci])) (by decide)
     refine SemA.o ?_
     simp -dsimp +decide (disch := omega) only [vsk, vsk, v5q, ↓reduceIte, Nat.reduceSub, Nat.reduceAdd, Nat.reduceMul, Nat.reduceLT, Int.reduceAdd, Int.reduceSub, Int.reduceToNat, v2q, hsg]
     refine CondP.dec (fun hc2 => ?_) (fun hc2 => ?_)
     rotate_left
     . simp -dsimp +decide (disch := omega) only [vsk, vsk, v5q, ↓reduceIte, Nat.reduceSub, Nat.reduceAdd, Nat.reduceMul, Nat.reduceLT, Int.reduceAdd, Int.reduceSub, Int.reduceToNat, v2q]
       exact ⟨(), SeeL.done ⟨rfl, ⟨rfl, rfl, rfl, rfl, rfl, rfl⟩, rfl, by simp⟩⟩
     obtain ⟨id, hid⟩ : ∃ id, gs3[k]? = some id := ⟨gs3[k]'(by omega), by simp⟩
     have hidm := List.mem_of_getElem? hid
     have hln := hg3 id hidm
     have hfi := (find_ok' Z4.w (id := id) (I3.l id hidm) (fun j hj => by rw [hln] at hj; cases hj)).mono (K' := fun v T' es => v = .tu [wint 0, .p (.bool false), .p (.bool false)] /\ T' = FT (V3 ++ [.cells 26 (z3.h.id.map by8)]) s3 /\ es = []) fun v T' es h => by rw [hln] at h; exact h
     rw [Z4.f] at hfi
     simp -dsimp +decide (disch := omega) only [vsk, vsk, v5q, ↓reduceIte, Nat.reduceSub, Nat.reduceAdd, Nat.reduceMul, Nat.reduceLT, Int.reduceAdd, Int.reduceSub, Int.reduceToNat, v2q, hsg, hlg, hid]
     refine ⟨⟨by omega, by omega⟩, ?_⟩
     refine hfi.det' ?_
     simp -dsimp +decide (disch := omega) only [vsk, vsk, v5q, ↓reduceIte, Nat.reduceSub, Nat.reduceAdd, Nat.reduceMul, Nat.reduceLT, Int.reduceAdd, Int.reduceSub, Int.reduceToNat, v2q, bb2]
     exact ⟨k + 1, ⟨by omega, by omega⟩, SeeL.done ⟨rfl, (by (try (simp -dsimp +decide (disch := omega) only [vsk, vsk, v5q, ↓reduceIte, Nat.reduceSub, Nat.reduceAdd, Nat.reduceMul, Nat.reduceLT, Int.reduceAdd, Int.reduceSub, Int.reduceToNat, v4q])); first | done | (and_intros <;> first | with_reducible rfl | rfl) | rfl), rfl, by simp⟩⟩
   . rintro _ g' tmp' -
     simp -dsimp +decide (disch := omega) only [vsk, vsk, v5q, ↓reduceIte, Nat.reduceSub, Nat.reduceAdd, Nat.reduceMul, Nat.reduceLT, Int.reduceAdd, Int.reduceSub, Int.reduceToNat, v2q]
     exact ⟨(i + 1, V3 ++ [.cells 26 (z3.h.id.map by8)], s3), ⟨⟨by dsimp only; omega, Z4, hr3, by show s3.bc.length <= i + 1 + 1; omega, z3, hz3, hl3⟩, by dsimp only; omega⟩, SeeL.done ⟨rfl, ⟨rfl, rfl, rfl, rfl, rfl, rfl⟩, rfl, by simp⟩⟩
 . rintro ⟨V, s⟩ g tmp -
   simp -dsimp +decide (disch := omega) only [vsk, vsk, v5q, ↓reduceIte, Nat.reduceSub, Nat.reduceAdd, Nat.reduceMul, Nat.reduceLT, Int.reduceAdd, Int.reduceSub, Int.reduceToNat, v2q]
   refine works_ok.det' ?_
   simp -dsimp +decide (disch := omega) only [vsk, vsk, v5q, ↓reduceIte, Nat.reduceSub, Nat.reduceAdd, Nat.reduceMul, Nat.reduceLT, Int.reduceAdd, Int.reduceSub, Int.reduceToNat, v2q, EF_slots, bb2]
   exact Vw.done rfl
end Go.Proofs.YtfpjalgfnjjcmaaGreatDoor
namespace Go.E
theorem Dat.avs_sl (l : List Dat) : (Dat.sl l).avs = [.vs (l.flatMap Dat.avs) l.length] := by rw [Dat.avs, Dat.avsL_eq]
theorem Dat.avs_ag (l : List Dat) : (Dat.ag l).avs = l.flatMap Dat.avs := by rw [Dat.avs, Dat.avsL_eq]
theorem open_all {α : Type} {f : α -> List AV} {Ok : α -> Prop} : ∀ {l : List Dat}, (∀ d ∈ l, ∃ x : α, d.avs = f x /\ Ok x) -> ∃ xs : List α, l.flatMap Dat.avs = xs.flatMap f /\ xs.length = l.length /\ ∀ x ∈ xs, Ok x
 | [], _ => ⟨[], rfl, rfl, fun _ h => nomatch h⟩
 | d :: r, h => by
   obtain ⟨x, h1, h2⟩ := h d (by simp)
   obtain ⟨xs, h3, h4, h5⟩ := open_all (l := r) fun y hy => h y (by simp [hy])
   refine ⟨x :: xs, by rw [List.flatMap_cons, List.flatMap_cons, h1, h3], by simp [h4], fun y hy => ?_⟩
   rcases List.mem_cons.1 hy with rfl | hy
   . exact h2
   . exact h5 y hy
end Go.E
namespace Go.Proofs.YtfpjalgfnjjcmaaGreatDoor
open Go.E Go.Proofs.YtfpjalgfnjjcmaaGreatDoor.Tryz Go.Proofs.Tryz
theorem open_slg {α : Type} {P : Program} {t e : TypeId} {f : α -> List AV} {d : Dat} (hd : HasT P t d) (hu : P.underlying t = some (.slice e)) (hb : 1 <= P.bytesOf e)
 (h1 : ∀ d, HasT P e d -> ∃ x : α, d.avs = f x) : ∃ xs : List α, d.arg = .vs (xs.flatMap f) xs.length /\ xs.length <= 140737488355328 := by
 obtain ⟨l, rfl, hl, hm⟩ := hd.slice hu
 obtain ⟨xs, h2, h3, -⟩ := open_all (f := f) (Ok := fun _ => True) (l := l) fun y hy => (h1 y (hm y hy)).elim fun x hx => ⟨x, hx, trivial⟩
 have e : (Dat.sl l).avs = [.vs (xs.flatMap f) xs.length] := by rw [Dat.avs_sl, h2, h3]
 refine ⟨xs, ?_, ?_⟩
 . rw [Dat.arg, e]
   . rfl
   . intro l h; cases h
 . rw [<- h3] at hl
   have := Nat.le_mul_of_pos_right xs.length hb
   have hr : reachBytes = 140737488351232 := rfl
   rw [hr] at hl
   first | omega | (rw [h3] at *; omega)
theorem open_grow {d : Dat} (h : HasT prog 82 d) : ∃ x : Gr, d.avs = x.cs := by
 obtain ⟨l, rfl, hl, hf⟩ := h.struct Tryz.underlying82
 match l, hl with
 | [d0, d1, d2, d3], _ =>
   obtain ⟨a, e0⟩ := open_u8 Tryz.underlying5 d0 (hf 0 _ d0 rfl rfl)
   obtain ⟨b, e1⟩ := open_u8 Tryz.underlying5 d1 (hf 1 _ d1 rfl rfl)
   obtain ⟨c, e2⟩ := open_u8 Tryz.underlying5 d2 (hf 2 _ d2 rfl rfl)
   obtain ⟨e, e3⟩ := open_u16 Tryz.underlying80 d3 (hf 3 _ d3 rfl rfl)
   subst e0 e1 e2 e3
   exact ⟨⟨a, b, c, e⟩, by simp only [Dat.avs_ag, List.flatMap_cons, List.flatMap_nil, Dat.avs]; rfl⟩
theorem open_grows {d : Dat} (h : HasT prog 22 d) : ∃ gs : List Gr, d.arg = .vs (gs.flatMap Gr.cs) gs.length /\ gs.length <= 140737488355328 :=
 open_slg h Tryz.underlying22 (Nat.le_of_ble_eq_true (by kernel_rfl)) fun _ hd => open_grow hd
end Go.Proofs.YtfpjalgfnjjcmaaGreatDoor
namespace Go.Proofs.YtfpjalgfnjjcmaaGreatDoor
open Go.ChangeShapes Go.WideShapes Go.ChangeAt Go.RowKit Go.E Go.Proofs.YtfpjalgfnjjcmaaGreatDoor.Tryz Go.Proofs.Tryz
theorem own : ownKnob prog.godebug = none := by kernel_rfl
theorem laidOut : laidOutB prog = true := by kernel_rfl
theorem gTable : prog.globalNamed "scantling/sha.table" = some 2 := by kernel_rfl
def tblT : TypeId := 178
theorem tTable : (prog.globals[2]?).map (·.type) = some tblT := by kernel_rfl
def tblZ : List Int := tbl.map fun x => (x.toNat : Int)
theorem tblD : (Rows.laid_scantling_sha_table : DataW Unit) = .agg (tblZ.map fun z => .lit (.int .u32 z)) := rfl
theorem gok {W : World} (h : laidMetH prog [("scantling/sha.table", Rows.laid_scantling_sha_table)] W) : GOK G (wholeH W) := by
 rw [MakeChecks.laidMetH_plain _ _ _ (by kernel_rfl)] at h
 obtain ⟨ps, ⟨g0, t0, cs0, f0, p0, q0, hg0, ht0, hv0, hd0, _, _⟩, _, _⟩ := h
 obtain rfl := Option.some.inj (gTable.symm.trans hg0)
 obtain rfl := Option.some.inj (tTable.symm.trans ht0)
 rw [tblD] at hd0
 have hcs := trod_lits (n := 64) Tryz.underlying178 Tryz.underlying23 (by kernel_rfl) (by kernel_rfl) hd0
 have hrd : Rd W (some ⟨2, 0, none⟩) (tblZ.map (Value.int .u32)) := by
  refine .inr ⟨_, rfl, rfl, fun k v hk => ?_⟩
  have := World.var?_cell hg0 hv0 k
  rw [<- hcs] at hk
  rw [add_plain rfl]
  simp only [Nat.zero_add]
  rw [this]
  simpa using hk
 intro g
 unfold G
 split
 . rename_i h0
   subst h0
   refine rel_vp0 (vs := tblZ.map (Value.int .u32)) ?_ (by decide) (arr_holds (wholeH_whole W) hrd)
   have := RelL.ps (Z := wholeH W) (ρ := []) (tblZ.map (Value.int .u32))
   rw [List.map_map] at this
   rw [show tbl.map w32 = tblZ.map (AV.p ∘ Value.int .u32) by rw [tblZ, List.map_map]; rfl]
   exact this
 . exact .p _
theorem door_met (os : Os) (args : Array Value) : laidMetH prog [("scantling/sha.table", Rows.laid_scantling_sha_table)] ((World.doorLaid prog 14 os).forCall (fun _ _ => 0) ⟨#[], args, []⟩).memory :=
 laidMetH_of_parts3 (fuel := 8) (laidMet_of_run' 8 (by kernel_rfl) (by kernel_rfl)) (by kernel_rfl) (by kernel_rfl)
end Go.Proofs.YtfpjalgfnjjcmaaGreatDoor
namespace Go.Proofs.YtfpjalgfnjjcmaaGreatDoor.forestRoomL
open Go.ChangeShapes Go.WideShapes Go.ChangeAt Go.RowKit Go.E Go.Proofs.YtfpjalgfnjjcmaaGreatDoor.Tryz Go.Proofs.Tryz
set_option maxRecDepth 100000 in
theorem contract (H : Type) (enc : TypeId × Value -> H) (W : World) (base : Nat) (args : Array Value) (ds gs : List (DataW H)) (before : List MemPlace)
 (hval : ∀ (j : Nat) t v, Tryz.f4.params[j]? = some t -> args[j]? = some v -> Value.okWide prog W .any base t v)
 (hW : DataW.Whole enc prog Tryz.f4.params.toList Rows.forestRoomSpec.vars false W args.toList ds gs before)
 (hz : (DataW.weightsEach prog (Tryz.f4.params.toList ++ Rows.forestRoomSpec.plain.varTypes prog) (ds ++ gs)).all (· <= reachBytes) = true)
 (hL : laidMetH prog [("scantling/sha.table", Rows.laid_scantling_sha_table)] W) :
 Calls prog 4 args W fun e W' => ∃ v, e = .returned v /\ Rows.forestRoomSpec.post enc prog Tryz.f4 false true false false W args v W' := by
 have hn : ds.length = 2 := by
  obtain ⟨p, q, hA, _⟩ := hW
  rw [Tryz.params4] at hA
  exact (trodAll_length hA).2
 have hg : gs = [] := by
  obtain ⟨p, q, hA, hV, _⟩ := hW
  exact (trodVars_none hV).1
 subst hg
 refine law_callsA (tys := [5, 22, 82, 80]) 4 laidOut (by kernel_rfl) (by kernel_rfl) Tryz.underlying4 rfl ?_ hW (by kernel_rfl) (by kernel_rfl) hval hz (gok hL) ?_
 . match ds, hn with
   | [_, _], _ => rfl
 intro xs hx
 rw [Tryz.params4] at hx
 cases hx with | cons h0 hx =>
 cases hx with | cons h1 hx =>
 cases hx
 obtain ⟨a0, rfl⟩ := open_u8 Tryz.underlying5 _ h0
 obtain ⟨a1, e1, h1l⟩ := open_grows h1
 simp only [List.map_cons, List.map_nil, e1]
 exact forestRoom_ok h1l
set_option maxRecDepth 100000 in
theorem lifted (os : Os) (started : os.Started) (H : Type) (enc : TypeId × Value -> H) :
 ReturnsInHanded {} Tryz.checked os 4 .any (fun w args => (Rows.forestRoomSpec.pre enc prog Tryz.f4 [] false w args /\ laidMetH prog [("scantling/sha.table", Rows.laid_scantling_sha_table)] w) /\ sizedMet enc prog Tryz.f4 (OpenSpec.ofChange Rows.forestRoomSpec) false w args)
  (Rows.forestRoomSpec.post enc prog Tryz.f4 false true false false) := by
 refine returnsInHanded_of_change_and (C := Tryz.checked) (X := fun w _ => laidMetH prog [("scantling/sha.table", Rows.laid_scantling_sha_table)] w) (fun _ _ _ hh h => h.of_heap hh) own started (by kernel_rfl) func4
  (ChangeSpec.witness_shaped (enc := enc) (C := Tryz.checked) (os := os) (X := fun w _ => laidMetH prog [("scantling/sha.table", Rows.laid_scantling_sha_table)] w) false (World.doorLaid prog 14 os) #[.int .u8 0, .slice none 0 0] 8 rfl (World.shaped_of_RefB (by kernel_rfl) (by kernel_rfl)) (by kernel_rfl) (by kernel_rfl) (by kernel_rfl) (door_met os _)) ?_
 intro W base args ds gs before hval hW _ hz hL _
 exact contract H enc W base args ds gs before hval hW hz hL
theorem said : Rows.ForestRoomSaid :=
 OpenClaim.holds_of_wide 4 Tryz.f4 rfl rfl rfl rfl rfl rfl rfl ⟨rfl, rfl, rfl, rfl, rfl⟩ rfl rfl rfl rfl rfl (by kernel_rfl) func4 (by kernel_rfl)
  (of_decide_eq_true (by kernel_rfl)) (by unfold Func.isWrapper; first | (rw [if_pos (by decide +kernel)]; kernel_rfl) | (rw [if_neg (by decide +kernel)]; exact ⟨rfl, rfl⟩))
  (fun os started H enc _ => lifted os started H enc)
theorem proved : Rows.ForestRoomCardSaid :=
 Claim7.holds_tied_plain_at .later [] [.data] true Rows.forestRoomCard.stood.harness false
  said (fun _ h => by cases h) (by kernel_rfl) (fun _ h => by cases h) forestRoom_row_tie rfl ⟨rfl, rfl⟩ (by kernel_rfl) rfl
  (fun f fn hf hfn => by
   obtain rfl : f = 4 := Option.some.inj ((show prog.funcNamed "scantling/scantlinglaw14.ForestRoom" = some 4 by kernel_rfl).symm.trans hf) |>.symm
   obtain rfl : fn = Tryz.f4 := (Option.some.inj (func4.symm.trans hfn)).symm
   exact ⟨by kernel_rfl, fun j t ht => by
    have hm : t ∈ Tryz.f4.params.toList := by simpa using Array.mem_of_getElem? ht
    have hall : (Tryz.f4.params.toList.all fun u => !prog.wantsStandIn u) = true := by kernel_rfl
    exact (show prog.wantsStandIn t = false by simpa using List.all_eq_true.1 hall t hm)⟩)
  (by kernel_rfl)
end Go.Proofs.YtfpjalgfnjjcmaaGreatDoor.forestRoomL
