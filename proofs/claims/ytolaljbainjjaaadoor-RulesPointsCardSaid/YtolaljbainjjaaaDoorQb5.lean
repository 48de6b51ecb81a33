/-
  'scantlinglaw13.RulesPoints' returns true whatever comes, and leaves what came as it was; its row's listed variable is tied to the program's text. No condition.
-/
import Derived.Test.YtolaljbainjjaaaDoorQb4
import Derived.Test.YtolaljbainjjaaaDoorRows
import Derived.LaidMore
import Derived.OpenShut
import Derived.Stop.Joined
import Derived.Test.YtolaljbainjjaaaDoorCards
import Derived.Test.YtolaljbainjjaaaDoorTie
import Derived.SevenTiedAt
import Derived.ChangeCalls
set_option linter.unusedSimpArgs false
set_option linter.unusedVariables false
set_option linter.unusedSectionVars false
set_option maxRecDepth 8000
set_option maxHeartbeats 4000000
namespace Go.Proofs.YtolaljbainjjaaaDoor
open Go.E Go.Proofs.YtolaljbainjjaaaDoor.Tryd Go.Proofs.Tryd
def ptP (p : Par) (x : Pt) : Par := { p with pa := .vs x.cs 1, pts := [x] }
theorem ptP_ok {p : Par} (ok : p.Ok) {x : Pt} (hx : x.id.length = 32) (hh : -9223372036854775808 <= x.h /\ x.h <= 9223372036854775807) : (ptP p x).Ok where
 f := ok.f
 a := fun T => by
  have h := Es.vs (T := T) (sz := 33) (f := Pt.cs) (xs := [x]) fun y hy => by rw [List.mem_singleton.1 hy]; simp [Pt.cs, hx]
  rw [show [x].flatMap Pt.cs = x.cs by simp] at h
  exact h
 l := by simp [ptP]
 i := ok.i
 wo := fun _ => by rw [ptP, AV.wo]
 pub := fun _ _ => by rw [ptP, AV.pub]
 one := rfl
 h := fun y hy => by rw [List.mem_singleton.1 hy]; exact hh
theorem ptP_may {p : Par} {x : Pt} (hm : mayB p = true) (hx : 1 <= x.h) : mayB (ptP p x) = true := by
 have hp : mayP (ptP p x) = true := by
  unfold mayP
  simp only [decide_eq_true_eq]
  intro k hk y hy
  have hk0 : k = 0 := by simp [ptP] at hk; exact hk
  subst hk0
  cases hy
  exact ⟨by omega, fun _ h _ => absurd h (by omega), fun h => absurd h (by omega)⟩
 unfold mayB at hm ⊢
 show (match ofT p.limit.toNat with | none => false | some t => _) = true
 cases ho : ofT p.limit.toNat with
 | none => rw [ho] at hm; cases hm
 | some t =>
   rw [ho] at hm
   simp only [Bool.and_eq_true] at hm ⊢
   exact ⟨hm.1, hp⟩
theorem ptP_bits {p : Par} {x : Pt} (hm : mayB p = true) (hx : 1 <= x.h) (hs : List Hdr) : bitsB (ptP p x) hs = bitsB p hs := by
 unfold bitsB
 cases hs.getLast? with
 | none => rfl
 | some la =>
   simp only [ptP_may hm hx, hm]
   rfl
theorem ptP_good {p : Par} {x : Pt} (hm : mayB p = true) (hx : 1 <= x.h) {hs : List Hdr} {h : Hdr} (hg : Good p hs h) : Good (ptP p x) hs h := ⟨hg.1, by rw [ptP_bits hm hx]; exact hg.2.1, hg.2.2.1, hg.2.2.2⟩
theorem ptP_right {p : Par} {x : Pt} (hm : mayB p = true) (hx : 1 <= x.h) {hs : List Hdr} {h : Hdr} (hg : Good p hs h) : rightE (ptP p x) hs h = if x.h = (hs.length : Int) /\ x.id ≠ h.id then 13 else 0 := by
 rw [right_good (ptP_may hm hx) (ptP_good hm hx hg)]
 have : (ptP p x).pts.any (ptB hs.length h.id) = true ↔ (x.h = (hs.length : Int) /\ x.id ≠ h.id) := by
  show ([x].any (ptB hs.length h.id)) = true ↔ _
  simp [ptB]
 by_cases hc : x.h = (hs.length : Int) /\ x.id ≠ h.id
 . rw [if_pos hc, if_pos (this.2 hc)]
 . rw [if_neg hc, if_neg (mt this.1 hc)]
abbrev pP : Par := easyP 10 10
theorem pP_ok : pP.Ok := easy_ok' (by omega)
theorem pP_may : mayB pP = true := easy_may (by decide) (by decide) (by decide) (by decide)
def e9B : List UInt8 := 9 :: List.replicate 31 0
theorem eze9 : z32.set 0 (.p (.int .u8 9)) = e9B.map by8 := rfl
theorem wrPt {c : AV} {m y : List AV} (hm : m.length = 32) (hy : y.length = 32) : wrA (c :: m) 1 y = c :: y := by
 rw [wrA_eq (by rw [List.length_cons]; omega), List.take_succ_cons, List.take_zero, hy, show 1 + 32 = 32 + 1 from rfl, List.drop_succ_cons, List.drop_of_length_le (by omega)]
 simp
theorem rulesPoints_ok {T : Tbl} {steps : List UInt8} {height : UInt8} {right : Bool} : CallA prog G 5 [.vs (steps.map by8) steps.length, by8 height, .p (.bool right)] T fun v _ _ => v = .p (.bool true) := by
 refine CallA.wfs fun wf => ?_
 have wt := wf.t
 have wp := wf.p
 have hr := Par.rules pP_ok
 obtain ⟨C, hCC⟩ : ∃ C, C = chainB pP steps := ⟨_, rfl⟩
 obtain ⟨aC, haC⟩ : ∃ a, a = AV.vs (C.flatMap Hdr.cs) C.length := ⟨_, rfl⟩
 obtain ⟨n, hn⟩ : ∃ n, n = C.length := ⟨_, rfl⟩
 obtain ⟨k, hk⟩ : ∃ k, k = 1 + height.toNat % (n - 1) := ⟨_, rfl⟩
 have g0 := fun l => gn0 T (.cells 30 pP.cs) l
 have hchain := fun (hs : steps.length <= 20) => chain_good pP_ok (by decide) (steps := steps) (by omega)
 rw [<- hCC] at hchain
 have hHL := fun (hs : steps.length <= 20) => (HL.of (hchain hs).2.1)
 rw [<- haC] at hHL
 refine CallA.enterZ 14 func5 ntmps5 (congrArg Array.toList results5) rfl ⟨by simp, by simp⟩ (by kernel_rfl) ?_
 refine SemA.cutAt [] (fun _ : Pt => [(7, .ptr T.length 0), (8, aC), (9, wint (k : Int)), (10, .ptr (T.length + 1) 0)]) (fun x => T ++ [.cells 30 pP.cs, .cells 52 x.cs]) (fun x => steps.length <= 20 /\ 2 <= n /\ x.h = (k : Int) /\ x.id.length = 32) [] 8 rfl (by kernel_rfl) ?_ ?_
 . by_cases h1 : ((20 : Int) < (steps.length : Int))
   . have i1 := eq_true h1
     simp -dsimp +decide (disch := omega) only [vy, vz, vze, vr, ty, en, ↓reduceIte, Nat.reduceSub, Nat.reduceAdd, Nat.reduceMul, Nat.reduceLT, Int.reduceAdd, Int.reduceSub, Int.reduceToNat, ci, vi, getO_i, vt, i1, bb2]
     refine works_ok.det' ?_
     simp -dsimp +decide (disch := omega) only [vy, vz, vze, vr, ty, en, ↓reduceIte, Nat.reduceSub, Nat.reduceAdd, Nat.reduceMul, Nat.reduceLT, Int.reduceAdd, Int.reduceSub, Int.reduceToNat, ci, vi, getO_i, vt]
     exact Vw.done rfl
   have i1 := eq_false h1
   have hs20 : steps.length <= 20 := by omega
   have hb : ∀ T, Bs T (.vs (steps.map by8) steps.length) steps := fun T => Sl.vs _ _ (by simp)
   have hA := hHL hs20
   obtain ⟨⟨lc, hlc, hlcl⟩, hCo, hCg⟩ := hchain hs20
   have hn21 : n <= 21 := by rw [hn, hlc, List.length_cons]; omega
   simp -dsimp +decide (disch := omega) only [vy, vz, vze, vr, ty, en, ↓reduceIte, Nat.reduceSub, Nat.reduceAdd, Nat.reduceMul, Nat.reduceLT, Int.reduceAdd, Int.reduceSub, Int.reduceToNat, ci, vi, getO_i, vt, i1, bb2]
   refine (easy13_ok (i := 10) (s := 10) (by omega)).det' ?_
   have hpw := vz72.2 _ pP_ok
   simp -dsimp +decide (disch := omega) only [vy, vz, vze, vr, ty, en, ↓reduceIte, Nat.reduceSub, Nat.reduceAdd, Nat.reduceMul, Nat.reduceLT, Int.reduceAdd, Int.reduceSub, Int.reduceToNat, ci, vi, getO_i, vt, hr, ez72, hpw, vz72, g0]
   refine (chain_ok pP_ok (hb _) (by omega)).det' ?_
   rw [<- hCC, <- haC]
   have hsC := Sl.rules (hA.es T).sl (by decide)
   have hldC := (hA.es T).ld (P := prog) (t := 28) (by (simp -dsimp +decide only [vy, vz, vze, vr, ty, en, ↓reduceIte, Nat.reduceSub, Nat.reduceAdd, Nat.reduceMul, Nat.reduceLT, Int.reduceAdd, Int.reduceSub, Int.reduceToNat, ci])) (by (simp -dsimp +decide only [vy, vz, vze, vr, ty, en, ↓reduceIte, Nat.reduceSub, Nat.reduceAdd, Nat.reduceMul, Nat.reduceLT, Int.reduceAdd, Int.reduceSub, Int.reduceToNat, ci])) (by decide)
   rw [<- hn] at hsC hldC
   by_cases h2 : (n : Int) < 2
   . have i2 := eq_true h2
     simp -dsimp +decide (disch := omega) only [vy, vz, vze, vr, ty, en, ↓reduceIte, Nat.reduceSub, Nat.reduceAdd, Nat.reduceMul, Nat.reduceLT, Int.reduceAdd, Int.reduceSub, Int.reduceToNat, ci, vi, getO_i, vt, hsC, i2, bb2]
     refine works_ok.det' ?_
     simp -dsimp +decide (disch := omega) only [vy, vz, vze, vr, ty, en, ↓reduceIte, Nat.reduceSub, Nat.reduceAdd, Nat.reduceMul, Nat.reduceLT, Int.reduceAdd, Int.reduceSub, Int.reduceToNat, ci, vi, getO_i, vt]
     exact Vw.cut rfl
   have i2 := eq_false h2
   have hkm : height.toNat % (n - 1) < n - 1 := Nat.mod_lt _ (by omega)
   have hsub : (n : Int) - 1 = ((n - 1 : Nat) : Int) := by omega
   have hw8 : IntKind.i64.wrap (height.toNat : Int) = (height.toNat : Int) := IntWalk.i64_in _ (by have := height.toNat_lt; omega)
   have hmod : (height.toNat : Int).tmod ((n - 1 : Nat) : Int) = ((height.toNat % (n - 1) : Nat) : Int) := rfl
   have hadd : (1 : Int) + ((height.toNat % (n - 1) : Nat) : Int) = (k : Int) := by omega
   have w9 := fun c : AV => wrPt (c := c) (m := z32) (y := e9B.map by8) rfl rfl
   have hx9 := Pt.rules (x := ⟨(k : Int), e9B⟩) rfl
   dsimp only at hx9
   obtain ⟨ck, hck⟩ : ∃ ck, C[k]? = some ck := ⟨C[k]'(by omega), by simp⟩
   have hcko := hCo ck (List.mem_of_getElem? hck)
   have wi := fun c : AV => wrPt (c := c) (m := e9B.map by8) (y := ck.id.map by8) rfl (by rw [List.length_map]; exact ck.id_len)
   have w0 : wrA (oI :: z32) 0 (AV.p (Value.int IntKind.i64 (k : Int)) :: List.map by8 e9B) = AV.p (Value.int IntKind.i64 (k : Int)) :: List.map by8 e9B := wrA_all rfl
   simp -dsimp +decide (disch := omega) only [vy, vz, vze, vr, ty, en, ↓reduceIte, Nat.reduceSub, Nat.reduceAdd, Nat.reduceMul, Nat.reduceLT, Int.reduceAdd, Int.reduceSub, Int.reduceToNat, ci, vi, getO_i, vt, hsC, i2, bb2, hsub, hw8, hmod, hadd, ez32, ez33, eze9, w9, w0, hx9, vh]
   refine ⟨by omega, ?_⟩
   cases right with
   | false =>
     simp -dsimp +decide (disch := omega) only [vy, vz, vze, vr, ty, en, ↓reduceIte, Nat.reduceSub, Nat.reduceAdd, Nat.reduceMul, Nat.reduceLT, Int.reduceAdd, Int.reduceSub, Int.reduceToNat, ci, vi, getO_i, vt]
     exact ⟨⟨(k : Int), e9B⟩, ⟨hs20, by omega, rfl, rfl⟩, rfl⟩
   | true =>
     simp -dsimp +decide (disch := omega) only [vy, vz, vze, vr, ty, en, ↓reduceIte, Nat.reduceSub, Nat.reduceAdd, Nat.reduceMul, Nat.reduceLT, Int.reduceAdd, Int.reduceSub, Int.reduceToNat, ci, vi, getO_i, vt, hsC, hldC, hck]
     refine ⟨⟨by omega, by omega⟩, (rid_ok hcko).det' ?_⟩
     simp -dsimp +decide (disch := omega) only [vy, vz, vze, vr, ty, en, ↓reduceIte, Nat.reduceSub, Nat.reduceAdd, Nat.reduceMul, Nat.reduceLT, Int.reduceAdd, Int.reduceSub, Int.reduceToNat, ci, vi, getO_i, vt, hsC, wi, vh, ck.id_len, hx9]
     exact ⟨⟨(k : Int), ck.id⟩, ⟨hs20, by omega, rfl, ck.id_len⟩, rfl⟩
 . rintro x g tmp ⟨hs20, hn2, hxh, hx32⟩
   have hA := hHL hs20
   obtain ⟨⟨lc, hlc, hlcl⟩, hCo, hCg⟩ := hchain hs20
   have hn21 : n <= 21 := by rw [hn, hlc, List.length_cons]; omega
   have hkm : height.toNat % (n - 1) < n - 1 := Nat.mod_lt _ (by omega)
   have hk1 : 1 <= k /\ k < n := by omega
   have hsC := Sl.rules (hA.es T).sl (by decide)
   have hldC := (hA.es T).ld (P := prog) (t := 28) (by (simp -dsimp +decide only [vy, vz, vze, vr, ty, en, ↓reduceIte, Nat.reduceSub, Nat.reduceAdd, Nat.reduceMul, Nat.reduceLT, Int.reduceAdd, Int.reduceSub, Int.reduceToNat, ci])) (by (simp -dsimp +decide only [vy, vz, vze, vr, ty, en, ↓reduceIte, Nat.reduceSub, Nat.reduceAdd, Nat.reduceMul, Nat.reduceLT, Int.reduceAdd, Int.reduceSub, Int.reduceToNat, ci])) (by decide)
   rw [<- hn] at hsC hldC
   have hxr := Pt.rules hx32
   have hxo : (ptP pP x).Ok := ptP_ok pP_ok hx32 (by omega)
   have hx33 : x.cs.length = 33 := hxr.2.2.1
   have ht33 : List.take 33 x.cs = x.cs := List.take_of_length_le (Nat.le_of_eq hx33)
   have hz33 : wrA z33 0 x.cs = x.cs := hxr.1
   have hset : ∀ v, pP.cs.set 3 v = w32 pP.limit :: wint pP.interval :: w32 pP.spacing :: v :: pP.first.cs := fun v => rfl
   refine SemA.o ?_
   simp -dsimp +decide (disch := omega) only [vy, vz, vze, vr, ty, en, ↓reduceIte, Nat.reduceSub, Nat.reduceAdd, Nat.reduceMul, Nat.reduceLT, Int.reduceAdd, Int.reduceSub, Int.reduceToNat, ci, vi, getO_i, vt, hr, g0, ht33, hz33, hx33, ez33, rep1, hset]
   have hr' := Par.rules hxo
   have hfc := Hdr.rules pP_ok.f
   have hpf : ∀ i cs, List.map (AV.pub i cs) pP.first.cs = pP.first.cs := hfc.2.2.2.2.2.2.2.2.2.2.1
   have hpx : ∀ i cs, List.map (AV.pub i cs) x.cs = x.cs := fun i cs => by
    show AV.pub i cs (wint x.h) :: List.map (AV.pub i cs) (x.id.map by8) = _
    rw [show List.map (AV.pub i cs) (x.id.map by8) = x.id.map by8 by
     rw [List.map_map]
     exact List.map_congr_left fun y _ => by
      show AV.pub i cs (AV.p (.int .u8 (y.toNat : Int))) = _
      rw [AV.pub]; rfl]
    show AV.pub i cs (AV.p (.int .i64 x.h)) :: _ = _
    rw [AV.pub]; rfl
   refine SemA.pub (T.length + 2) (o := .buf 52 33 x.cs) (gn2 T _ _ _ _) rfl ?_ ?_
   . intro a ha
     rcases List.mem_cons.1 ha with rfl | ha
     . exact .p _
     . exact clean8 _ a ha
   simp -dsimp +decide (disch := omega) only [vy, vz, vze, vr, ty, en, ↓reduceIte, Nat.reduceSub, Nat.reduceAdd, Nat.reduceMul, Nat.reduceLT, Int.reduceAdd, Int.reduceSub, Int.reduceToNat, ci, vi, getO_i, vt, wp, hpf, hpx]
   have hpc : AV.p (Value.int IntKind.u32 (pP.limit.toNat : Int)) :: AV.p (Value.int IntKind.i64 pP.interval) :: AV.p (Value.int IntKind.u32 (pP.spacing.toNat : Int)) :: AV.vs x.cs 1 :: pP.first.cs = (ptP pP x).cs := rfl
   rw [hpc]
   have g0' := fun l => gn0 T (.cells 30 (ptP pP x).cs) l
   have g1' := fun a l => gn1 T a (.cells 52 x.cs) l
   obtain ⟨ck, hck⟩ : ∃ ck, C[k]? = some ck := ⟨C[k]'(by omega), by simp⟩
   have hcko := hCo ck (List.mem_of_getElem? hck)
   refine SemA.loopE (fun i : Nat => [(7, .ptr T.length 0), (8, aC), (9, wint (k : Int)), (10, .ptr (T.length + 1) 0), (11, wint (i : Int))]) (fun _ => T ++ [.cells 30 (ptP pP x).cs, .cells 52 x.cs, .gone]) (fun i => 1 <= i /\ i <= n) (fun i => n - i) 1 [] 0 (fun _ : Unit => []) (fun _ => T ++ [.cells 30 (ptP pP x).cs, .cells 52 x.cs, .gone]) (fun _ => True) (by omega) (by (simp -dsimp +decide (disch := omega) only [vy, vz, vze, vr, ty, en, ↓reduceIte, Nat.reduceSub, Nat.reduceAdd, Nat.reduceMul, Nat.reduceLT, Int.reduceAdd, Int.reduceSub, Int.reduceToNat, ci, vi, getO_i, hA.pub]); first | rfl | exact ⟨rfl, rfl⟩ | done) rfl (by simp) ?_ ?_
   . rintro i g ⟨hi1, hin⟩
     refine SemA.o ?_
     simp -dsimp +decide (disch := omega) only [vy, vz, vze, vr, ty, en, ↓reduceIte, Nat.reduceSub, Nat.reduceAdd, Nat.reduceMul, Nat.reduceLT, Int.reduceAdd, Int.reduceSub, Int.reduceToNat, ci, vi, getO_i, vt, hsC]
     refine CondP.dec (fun hc => ?_) (fun hc => ?_)
     . obtain ⟨cq, hci⟩ : ∃ cq, C[i]? = some cq := ⟨C[i]'(by omega), by simp⟩
       have hcio := hCo cq (List.mem_of_getElem? hci)
       have hAi := hA.sub (l := 0) (m := i) (by omega) (by omega)
       rw [List.drop_zero, Nat.sub_zero] at hAi
       have hg := hCg i cq hi1 hci
       have htl : (C.take i).length = i := by rw [List.length_take]; omega
       have hre := ptP_right (x := x) pP_may (by omega) hg
       rw [htl, hxh] at hre
       simp -dsimp +decide (disch := omega) only [vy, vz, vze, vr, ty, en, ↓reduceIte, Nat.reduceSub, Nat.reduceAdd, Nat.reduceMul, Nat.reduceLT, Int.reduceAdd, Int.reduceSub, Int.reduceToNat, ci, vi, getO_i, vt]
       refine SemA.draw (fun i => true) [(0, true), (1, true), (2, true), (3, true), (4, true), (5, true), (6, true), (7, true), (8, false), (9, true)] mixed (by kernel_rfl) ?_
       simp -dsimp +decide (disch := omega) only [vy, vz, vze, vr, ty, en, ↓reduceIte, Nat.reduceSub, Nat.reduceAdd, Nat.reduceMul, Nat.reduceLT, Int.reduceAdd, Int.reduceSub, Int.reduceToNat, ci, vi, getO_i, vt, hsC, g0', hr', hldC, hci, kallT]
       refine ⟨by omega, ⟨by omega, by omega⟩, ⟨by omega, by omega⟩, (right_ok' hxo (hAi.es _) hAi.ok hcio (by omega)).det' ?_⟩
       rw [hre]
       have hx4 : List.take 32 (List.drop 1 x.cs) = x.id.map by8 := hxr.2.2.2.1
       by_cases hik : k = i
       . subst hik
         have hcc : cq = ck := Option.some.inj (hci.symm.trans hck)
         rw [hcc]
         have ik : ((k : Int) = (k : Int)) = True := eq_true rfl
         simp -dsimp +decide (disch := omega) only [vy, vz, vze, vr, ty, en, ↓reduceIte, Nat.reduceSub, Nat.reduceAdd, Nat.reduceMul, Nat.reduceLT, Int.reduceAdd, Int.reduceSub, Int.reduceToNat, ci, vi, getO_i, vt, vbg]
         refine SemA.draw (fun i => true) [(0, true), (1, true), (2, true), (3, true), (4, true), (5, true), (6, true), (7, true), (8, true), (9, true), (10, false), (11, true), (12, true)] mixed (by kernel_rfl) ?_
         by_cases hxi : x.id = ck.id
         . have ix := eq_true hxi
           rw [if_neg fun h => h hxi]
           simp -dsimp +decide (disch := omega) only [vy, vz, vze, vr, ty, en, ↓reduceIte, Nat.reduceSub, Nat.reduceAdd, Nat.reduceMul, Nat.reduceLT, Int.reduceAdd, Int.reduceSub, Int.reduceToNat, ci, vi, getO_i, vt, vbg, hsC, g1', hx4, hx33, hldC, hck, kallT, ik]
           refine ⟨⟨by omega, by omega⟩, (rid_ok hcko).det' ?_⟩
           simp -dsimp +decide (disch := omega) only [vy, vz, vze, vr, ty, en, ↓reduceIte, Nat.reduceSub, Nat.reduceAdd, Nat.reduceMul, Nat.reduceLT, Int.reduceAdd, Int.reduceSub, Int.reduceToNat, ci, vi, getO_i, vt, vbg, kallT, neh hx32 ck.id_len, ix, bb2]
           exact ⟨k + 1, ⟨⟨by omega, by omega⟩, by omega⟩, rfl⟩
         . have ix := eq_false hxi
           rw [if_pos hxi]
           simp -dsimp +decide (disch := omega) only [vy, vz, vze, vr, ty, en, ↓reduceIte, Nat.reduceSub, Nat.reduceAdd, Nat.reduceMul, Nat.reduceLT, Int.reduceAdd, Int.reduceSub, Int.reduceToNat, ci, vi, getO_i, vt, vbg, hsC, g1', hx4, hx33, hldC, hck, kallT, ik]
           refine ⟨⟨by omega, by omega⟩, (rid_ok hcko).det' ?_⟩
           simp -dsimp +decide (disch := omega) only [vy, vz, vze, vr, ty, en, ↓reduceIte, Nat.reduceSub, Nat.reduceAdd, Nat.reduceMul, Nat.reduceLT, Int.reduceAdd, Int.reduceSub, Int.reduceToNat, ci, vi, getO_i, vt, vbg, kallT, neh hx32 ck.id_len, ix, bb2]
           exact ⟨k + 1, ⟨⟨by omega, by omega⟩, by omega⟩, rfl⟩
       . have ik : ((i : Int) = (k : Int)) = False := eq_false (by omega)
         rw [if_neg fun h => hik (by omega)]
         simp -dsimp +decide (disch := omega) only [vy, vz, vze, vr, ty, en, ↓reduceIte, Nat.reduceSub, Nat.reduceAdd, Nat.reduceMul, Nat.reduceLT, Int.reduceAdd, Int.reduceSub, Int.reduceToNat, ci, vi, getO_i, vt, vbg]
         refine SemA.draw (fun i => true) [(0, true), (1, true), (2, true), (3, true), (4, true), (5, true), (6, true), (7, true), (8, true), (9, true), (10, false), (11, true), (12, true)] mixed (by kernel_rfl) ?_
         simp -dsimp +decide (disch := omega) only [vy, vz, vze, vr, ty, en, ↓reduceIte, Nat.reduceSub, Nat.reduceAdd, Nat.reduceMul, Nat.reduceLT, Int.reduceAdd, Int.reduceSub, Int.reduceToNat, ci, vi, getO_i, vt, vbg, kallT, ik, bb2]
         exact ⟨i + 1, ⟨⟨by omega, by omega⟩, by omega⟩, rfl⟩
     . have e : i = n := by omega
       subst e
       simp -dsimp +decide (disch := omega) only [vy, vz, vze, vr, ty, en, ↓reduceIte, Nat.reduceSub, Nat.reduceAdd, Nat.reduceMul, Nat.reduceLT, Int.reduceAdd, Int.reduceSub, Int.reduceToNat, ci, vi, getO_i, vt]
       exact ⟨(), trivial⟩
   . rintro _ g tmp -
     simp -dsimp +decide (disch := omega) only [vy, vz, vze, vr, ty, en, ↓reduceIte, Nat.reduceSub, Nat.reduceAdd, Nat.reduceMul, Nat.reduceLT, Int.reduceAdd, Int.reduceSub, Int.reduceToNat, ci, vi, getO_i, vt]
     refine works_ok.det' ?_
     simp -dsimp +decide (disch := omega) only [vy, vz, vze, vr, ty, en, ↓reduceIte, Nat.reduceSub, Nat.reduceAdd, Nat.reduceMul, Nat.reduceLT, Int.reduceAdd, Int.reduceSub, Int.reduceToNat, ci, vi, getO_i, vt]
     exact Vw.cut rfl
end Go.Proofs.YtolaljbainjjaaaDoor
namespace Go.Proofs.YtolaljbainjjaaaDoor
open Go.ChangeShapes Go.WideShapes Go.ChangeAt Go.RowKit Go.E Go.Proofs.YtolaljbainjjaaaDoor.Tryd Go.Proofs.Tryd
theorem own : ownKnob prog.godebug = none := by kernel_rfl
theorem laidOut : laidOutB prog = true := by kernel_rfl
theorem gTable : prog.globalNamed "scantling/sha.table" = some 2 := by kernel_rfl
def tblT : TypeId := 132
theorem tTable : (prog.globals[2]?).map (·.type) = some tblT := by kernel_rfl
def tblZ : List Int := tbl.map fun x => (x.toNat : Int)
theorem tblD : (Rows.laid_scantling_sha_table : DataW Unit) = .agg (tblZ.map fun z => .lit (.int .u32 z)) := rfl
theorem gok {W : World} (h : laidMetH prog [("scantling/sha.table", Rows.laid_scantling_sha_table)] W) : GOK G (wholeH W) := by
 rw [MakeChecks.laidMetH_plain _ _ _ (by kernel_rfl)] at h
 obtain ⟨ps, ⟨g0, t0, cs0, f0, p0, q0, hg0, ht0, hv0, hd0, _, _⟩, _, _⟩ := h
 obtain rfl := Option.some.inj (gTable.symm.trans hg0)
 obtain rfl := Option.some.inj (tTable.symm.trans ht0)
 rw [tblD] at hd0
 have hcs := trod_lits (n := 64) Tryd.underlying132 Tryd.underlying23 (by kernel_rfl) (by kernel_rfl) hd0
 have hrd : Rd W (some ⟨2, 0, none⟩) (tblZ.map (Value.int .u32)) := by
  refine .inr ⟨_, rfl, rfl, fun k v hk => ?_⟩
  have := World.var?_cell hg0 hv0 k
  rw [<- hcs] at hk
  rw [add_plain rfl]
  simp only [Nat.zero_add]
  rw [this]
  simpa using hk
 intro g
 unfold G
 split
 . rename_i h0
   subst h0
   refine rel_vp0 (vs := tblZ.map (Value.int .u32)) ?_ (by decide) (arr_holds (wholeH_whole W) hrd)
   have := RelL.ps (Z := wholeH W) (ρ := []) (tblZ.map (Value.int .u32))
   rw [List.map_map] at this
   rw [show tbl.map w32 = tblZ.map (AV.p ∘ Value.int .u32) by rw [tblZ, List.map_map]; rfl]
   exact this
 . exact .p _
theorem door_met (os : Os) (args : Array Value) : laidMetH prog [("scantling/sha.table", Rows.laid_scantling_sha_table)] ((World.doorLaid prog 14 os).forCall (fun _ _ => 0) ⟨#[], args, []⟩).memory :=
 laidMetH_of_parts3 (fuel := 8) (laidMet_of_run' 8 (by kernel_rfl) (by kernel_rfl)) (by kernel_rfl) (by kernel_rfl)
end Go.Proofs.YtolaljbainjjaaaDoor
namespace Go.Proofs.YtolaljbainjjaaaDoor.rulesPointsL
open Go.ChangeShapes Go.WideShapes Go.ChangeAt Go.RowKit Go.E Go.Proofs.YtolaljbainjjaaaDoor.Tryd Go.Proofs.Tryd
set_option maxRecDepth 100000 in
theorem contract (H : Type) (enc : TypeId × Value -> H) (W : World) (base : Nat) (args : Array Value) (ds gs : List (DataW H)) (before : List MemPlace)
 (hval : ∀ (j : Nat) t v, Tryd.f5.params[j]? = some t -> args[j]? = some v -> Value.okWide prog W .any base t v)
 (hW : DataW.Whole enc prog Tryd.f5.params.toList Rows.rulesPointsSpec.vars false W args.toList ds gs before)
 (hz : (DataW.weightsEach prog (Tryd.f5.params.toList ++ Rows.rulesPointsSpec.plain.varTypes prog) (ds ++ gs)).all (· <= reachBytes) = true)
 (hL : laidMetH prog [("scantling/sha.table", Rows.laid_scantling_sha_table)] W) :
 Calls prog 5 args W fun e W' => ∃ v, e = .returned v /\ Rows.rulesPointsSpec.post enc prog Tryd.f5 false true false false W args v W' := by
 have hn : ds.length = 3 := by
  obtain ⟨p, q, hA, _⟩ := hW
  rw [Tryd.params5] at hA
  exact (trodAll_length hA).2
 have hg : gs = [] := by
  obtain ⟨p, q, hA, hV, _⟩ := hW
  exact (trodVars_none hV).1
 subst hg
 refine law_callsA (tys := [49, 5, 4]) 4 laidOut (by kernel_rfl) (by kernel_rfl) Tryd.underlying4 rfl ?_ hW (by kernel_rfl) (by kernel_rfl) hval hz (gok hL) ?_
 . match ds, hn with
   | [_, _, _], _ => rfl
 intro xs hx
 rw [Tryd.params5] at hx
 cases hx with | cons h0 hx =>
 cases hx with | cons h1 hx =>
 cases hx with | cons h2 hx =>
 cases hx
 obtain ⟨a0, e0, h0l⟩ := arg_nums (fun a : UInt8 => by rw [Dat.avs]) (open_u8 Tryd.underlying5) h0 Tryd.underlying49
 obtain ⟨a1, rfl⟩ := open_u8 Tryd.underlying5 _ h1
 obtain ⟨a2, rfl⟩ := h2.bool Tryd.underlying4
 simp only [List.map_cons, List.map_nil, e0]
 exact rulesPoints_ok
set_option maxRecDepth 100000 in
theorem lifted (os : Os) (started : os.Started) (H : Type) (enc : TypeId × Value -> H) :
 ReturnsInHanded {} Tryd.checked os 5 .any (fun w args => (Rows.rulesPointsSpec.pre enc prog Tryd.f5 [] false w args /\ laidMetH prog [("scantling/sha.table", Rows.laid_scantling_sha_table)] w) /\ sizedMet enc prog Tryd.f5 (OpenSpec.ofChange Rows.rulesPointsSpec) false w args)
  (Rows.rulesPointsSpec.post enc prog Tryd.f5 false true false false) := by
 refine returnsInHanded_of_change_and (C := Tryd.checked) (X := fun w _ => laidMetH prog [("scantling/sha.table", Rows.laid_scantling_sha_table)] w) (fun _ _ _ hh h => h.of_heap hh) own started (by kernel_rfl) func5
  (ChangeSpec.witness_shaped (enc := enc) (C := Tryd.checked) (os := os) (X := fun w _ => laidMetH prog [("scantling/sha.table", Rows.laid_scantling_sha_table)] w) false (World.doorLaid prog 14 os) #[.slice none 0 0, .int .u8 0, .bool false] 8 rfl (World.shaped_of_RefB (by kernel_rfl) (by kernel_rfl)) (by kernel_rfl) (by kernel_rfl) (by kernel_rfl) (door_met os _)) ?_
 intro W base args ds gs before hval hW _ hz hL _
 exact contract H enc W base args ds gs before hval hW hz hL
theorem said : Rows.RulesPointsSaid :=
 OpenClaim.holds_of_wide 5 Tryd.f5 rfl rfl rfl rfl rfl rfl rfl ⟨rfl, rfl, rfl, rfl, rfl⟩ rfl rfl rfl rfl rfl (by kernel_rfl) func5 (by kernel_rfl)
  (of_decide_eq_true (by kernel_rfl)) (by unfold Func.isWrapper; first | (rw [if_pos (by decide +kernel)]; kernel_rfl) | (rw [if_neg (by decide +kernel)]; exact ⟨rfl, rfl⟩))
  (fun os started H enc _ => lifted os started H enc)
theorem proved : Rows.RulesPointsCardSaid :=
 Claim7.holds_tied_plain_at .later [] [.data] true Rows.rulesPointsCard.stood.harness false
  said (fun _ h => by cases h) (by kernel_rfl) (fun _ h => by cases h) rulesPoints_row_tie rfl ⟨rfl, rfl⟩ (by kernel_rfl) rfl
  (fun f fn hf hfn => by
   obtain rfl : f = 5 := Option.some.inj ((show prog.funcNamed "scantling/scantlinglaw13.RulesPoints" = some 5 by kernel_rfl).symm.trans hf) |>.symm
   obtain rfl : fn = Tryd.f5 := (Option.some.inj (func5.symm.trans hfn)).symm
   exact ⟨by kernel_rfl, fun j t ht => by
    have hm : t ∈ Tryd.f5.params.toList := by simpa using Array.mem_of_getElem? ht
    have hall : (Tryd.f5.params.toList.all fun u => !prog.wantsStandIn u) = true := by kernel_rfl
    exact (show prog.wantsStandIn t = false by simpa using List.all_eq_true.1 hall t hm)⟩)
  (by kernel_rfl)
end Go.Proofs.YtolaljbainjjaaaDoor.rulesPointsL
