/-
  'scantlinglaw06.JsonPrints' returns true whatever comes, and leaves what came as it was; its row's listed variables are tied to the program's text. No condition.
-/
import Derived.Test.YtglpcedoongagaaGreatDoorQk5
import Derived.Test.YtglpcedoongagaaGreatDoorCards
import Derived.Test.YtglpcedoongagaaGreatDoorTie
import Derived.SevenTiedAt
import Derived.ChangeCalls
set_option linter.unusedSimpArgs false
set_option linter.unusedVariables false
set_option linter.unusedSectionVars false
set_option maxRecDepth 8000
set_option maxHeartbeats 4000000
namespace Go.Proofs.YtglpcedoongagaaGreatDoor
open Go.E Go.Proofs.YtglpcedoongagaaGreatDoor.Tryz Go.Proofs.Tryz Go.J Go.Proofs
theorem copied_ok {T : Tbl} {a : AV} {l : B} (ha : Bs T a l) (hl : l.length <= 1099511627776) : CallA prog G 18 [a] T fun v T' es => v = bl l /\ T' = T /\ es = [] := by
 refine CallA.wfs fun wf => ?_
 have wt := wf.t
 have wp := wf.p
 have hr := Sl.rules (ha : Sl T 1 a _ _) (by decide)
 refine CallA.eV 3 func18 ntmps18 results18 ?_
 simp -dsimp +decide only [vr, ty, en, ↓reduceIte, Nat.reduceSub, Nat.reduceAdd, Nat.reduceMul, Nat.reduceLT, Int.reduceAdd, Int.reduceSub, Int.reduceToNat, ci]
 simp -dsimp +decide (disch := omega) only [vr, ty, en, ↓reduceIte, Nat.reduceSub, Nat.reduceAdd, Nat.reduceMul, Nat.reduceLT, Int.reduceAdd, Int.reduceSub, Int.reduceToNat, ci, vi, getO_i, vt, wt, hr, sn0]
 refine ⟨⟨by omega, by omega⟩, ?_⟩
 refine Vw.pub T.length (o := .buf 5 1 (l.map by8)) (gn0 _ _ _) rfl (clean8 _) ?_
 simp -dsimp +decide only [vr, ty, en, ↓reduceIte, Nat.reduceSub, Nat.reduceAdd, Nat.reduceMul, Nat.reduceLT, Int.reduceAdd, Int.reduceSub, Int.reduceToNat, ci, vt, wp]
 exact Vw.cut ⟨rfl, rfl, rfl⟩
theorem zcr : zc.length = 5 /\ List.take 5 zc = zc /\ (∀ a b c d e, wrA [a, b, c, d, e] 0 zc = zc) /\ (∀ q, List.map (AV.wo q) zc = zc) /\ ones zc = true :=
 ⟨rfl, rfl, fun _ _ _ _ _ => rfl, fun q => by simp only [zc, List.map_cons, List.map_nil, AV.wo], rfl⟩
theorem zc_weak : ∀ (Z : Heap) (ρ : List BI) (x : Value), Rel Z ρ (.ag zc) x -> Rel Z ρ (.ag (vcs vNull)) x := by
 rw [vNull, vcs_nil]; exact ag5_weak nil_vs nil_vs
theorem fldV_sz {v x : JV} {s : B} (h : fldV v s = some x) : vsz x <= vsz v := by
 unfold fldV at h
 split at h
 . have := vszL_mem (List.mem_of_getElem? h)
   rw [vsz_eq v]; omega
 . cases h
theorem prints_ok {T : Tbl} {v u : JV} {s : B} (hv : LOk v) (hu : LOk u) (hf : fits 8 v) : CallA prog G 3 [.ag (vcs v), .ag (vcs u), str s] T fun r T' es => r = .p (.bool true) /\ T' = T /\ es = [] := by
 refine CallA.wfs fun wf => ?_
 have wt := wf.t
 have wp := wf.p
 have hVv := fun U => vast_ok (T := U) hv
 have hVu := fun U => vast_ok (T := U) hu
 have hcv := vcr v
 have hcu := vcr u
 have hwv : wrA (vcs v) 0 (vcs v) = vcs v := wrA_all rfl
 rw [show str s = .p (.string (ba s)) from rfl]
 refine CallA.eV 18 func3 ntmps3 results3 ?_
 simp -dsimp +decide only [vr, ty, en, ↓reduceIte, Nat.reduceSub, Nat.reduceAdd, Nat.reduceMul, Nat.reduceLT, Int.reduceAdd, Int.reduceSub, Int.reduceToNat, ci]
 simp -dsimp +decide (disch := omega) only [vr, ty, en, ↓reduceIte, Nat.reduceSub, Nat.reduceAdd, Nat.reduceMul, Nat.reduceLT, Int.reduceAdd, Int.reduceSub, Int.reduceToNat, ci, vi, getO_i, vt, tk5, gn0, gn1, hcv, hcu]
 refine (hVv _).mono ?_
 rintro r T' es ⟨⟨b1, rfl, hb1⟩, rfl, rfl⟩
 cases b1 with
 | true =>
   simp -dsimp +decide (disch := omega) only [vr, ty, en, ↓reduceIte, Nat.reduceSub, Nat.reduceAdd, Nat.reduceMul, Nat.reduceLT, Int.reduceAdd, Int.reduceSub, Int.reduceToNat, ci, vi, getO_i, vt, gn0, gn1, hcv, hcu]
   refine works_ok.det' ?_
   simp -dsimp +decide (disch := omega) only [vr, ty, en, ↓reduceIte, Nat.reduceSub, Nat.reduceAdd, Nat.reduceMul, Nat.reduceLT, Int.reduceAdd, Int.reduceSub, Int.reduceToNat, ci, vi, getO_i, vt]
   exact Vw.cut ⟨rfl, rfl, rfl⟩
 | false =>
 simp -dsimp +decide (disch := omega) only [vr, ty, en, ↓reduceIte, Nat.reduceSub, Nat.reduceAdd, Nat.reduceMul, Nat.reduceLT, Int.reduceAdd, Int.reduceSub, Int.reduceToNat, ci, vi, getO_i, vt, gn0, gn1, hcv, hcu]
 refine (hVu _).mono ?_
 rintro r T' es ⟨⟨b2, rfl, hb2⟩, rfl, rfl⟩
 cases b2 with
 | true =>
   simp -dsimp +decide (disch := omega) only [vr, ty, en, ↓reduceIte, Nat.reduceSub, Nat.reduceAdd, Nat.reduceMul, Nat.reduceLT, Int.reduceAdd, Int.reduceSub, Int.reduceToNat, ci, vi, getO_i, vt, gn0, gn1, hcv, hcu]
   refine works_ok.det' ?_
   simp -dsimp +decide (disch := omega) only [vr, ty, en, ↓reduceIte, Nat.reduceSub, Nat.reduceAdd, Nat.reduceMul, Nat.reduceLT, Int.reduceAdd, Int.reduceSub, Int.reduceToNat, ci, vi, getO_i, vt]
   exact Vw.cut ⟨rfl, rfl, rfl⟩
 | false =>
 have hvs := hb1 rfl
 have hus := hb2 rfl
 simp -dsimp +decide (disch := omega) only [vr, ty, en, ↓reduceIte, Nat.reduceSub, Nat.reduceAdd, Nat.reduceMul, Nat.reduceLT, Int.reduceAdd, Int.reduceSub, Int.reduceToNat, ci, vi, getO_i, vt, gn0, gn1, hcv, hcu]
 refine (copy06_ok (v := v) (by omega)).det' ?_
 simp -dsimp +decide (disch := omega) only [vr, ty, en, ↓reduceIte, Nat.reduceSub, Nat.reduceAdd, Nat.reduceMul, Nat.reduceLT, Int.reduceAdd, Int.reduceSub, Int.reduceToNat, ci, vi, getO_i, vt, gn0, gn1, gn2, hcv, hcu, hwv]
 refine (print_ok (v := v) (by omega) hf).mono ?_
 obtain ⟨p, hp⟩ : ∃ p, prt 8 v = p := ⟨_, rfl⟩
 have hple := prt_le 8 v
 rw [hp] at hple ⊢
 intro r T' es h
 obtain ⟨a, l, e, rfl, hal, hcase, rfl, rfl⟩ : ∃ (a : AV) (l : B) (e : Int), r = .tu [a, .p (.int .i64 e)] /\ (∀ U, Bs U a l) /\ ((may 8 v /\ e = 0 /\ a = bl p /\ l = p) ∨ (¬ may 8 v /\ e = 1 /\ a = .p (.slice none 0 0) /\ l = [])) /\ T' = _ /\ es = [] := by
  obtain ⟨h1 | h1, h2, h3⟩ := h
  . exact ⟨bl p, p, 0, h1.2, fun U => Bs.vs p, .inl ⟨h1.1, rfl, rfl, rfl⟩, h2, h3⟩
  . exact ⟨.p (.slice none 0 0), [], 1, h1.2, fun U => Bs.nil, .inr ⟨h1.1, rfl, rfl, rfl⟩, h2, h3⟩
 have hlp : l.length <= 60000 := by
  rcases hcase with ⟨h1, -, -, rfl⟩ | ⟨-, -, -, rfl⟩
  . have := hple h1 hf; omega
  . simp
 have hla := fun U => Sl.rules (hal U : Sl U 1 a _ _) (by decide)
 simp -dsimp +decide (disch := omega) only [vr, ty, en, ↓reduceIte, Nat.reduceSub, Nat.reduceAdd, Nat.reduceMul, Nat.reduceLT, Int.reduceAdd, Int.reduceSub, Int.reduceToNat, ci, vi, getO_i, vt, gn0, gn1, gn2, hcv, hcu, hwv]
 refine (Print06_ok (v := v) (by omega) hf).mono ?_
 rw [hp]
 intro r T' es h
 obtain ⟨rfl, rfl, rfl⟩ : r = .tu [a, .p (.int .i64 e)] /\ T' = _ /\ es = [] := by
  obtain ⟨h1, h2, h3⟩ := h
  refine ⟨?_, h2, h3⟩
  rcases hcase with ⟨m1, rfl, rfl, rfl⟩ | ⟨m1, rfl, rfl, rfl⟩
  . rcases h1 with h1 | h1
    . exact h1.2
    . exact absurd m1 h1.1
  . rcases h1 with h1 | h1
    . exact absurd h1.1 m1
    . exact h1.2
 simp -dsimp +decide (disch := omega) only [vr, ty, en, ↓reduceIte, Nat.reduceSub, Nat.reduceAdd, Nat.reduceMul, Nat.reduceLT, Int.reduceAdd, Int.reduceSub, Int.reduceToNat, ci, vi, getO_i, vt, gn0, gn1, gn2, hcv, hcu, hwv]
 obtain ⟨c, y, bf', hfl, hcc, hcw, hys⟩ : ∃ (c : List AV) (y : JV) (b : Bool), (∀ r : AV, (match fldV v s with
  | some x => r = .tu [.ag (vcs x), .p (.bool true)]
  | none => r = .tu [.ag zc, .p (.bool false)]) -> r = .tu [.ag c, .p (.bool b)]) /\ (c.length = 5 /\ List.take 5 c = c /\ (∀ a b c' d e, wrA [a, b, c', d, e] 0 c = c) /\ (∀ q, List.map (AV.wo q) c = c) /\ ones c = true) /\ (∀ (Z : Heap) (ρ : List BI) (x : Value), Rel Z ρ (.ag c) x -> Rel Z ρ (.ag (vcs y)) x) /\ vsz y <= 2000 := by
  cases hfv : fldV v s with
  | some x => exact ⟨vcs x, x, true, fun r h => h, vcr x, fun _ _ _ h => h, by have := fldV_sz hfv; omega⟩
  | none => exact ⟨zc, vNull, false, fun r h => h, zcr, zc_weak, by decide⟩
 have hwc : wrA c 0 c = c := wrA_all rfl
 refine (field_ok (v := v) (s := s) (by omega)).mono ?_
 rintro r T' es ⟨h1, rfl, rfl⟩
 obtain rfl := hfl r h1
 simp -dsimp +decide (disch := omega) only [vr, ty, en, ↓reduceIte, Nat.reduceSub, Nat.reduceAdd, Nat.reduceMul, Nat.reduceLT, Int.reduceAdd, Int.reduceSub, Int.reduceToNat, ci, vi, getO_i, vt, gn0, gn1, gn2, gn3, hcv, hcu, hwv, hcc, hwc]
 refine (field06_ok (v := v) (s := s) (by omega)).mono ?_
 rintro r T' es ⟨h1, rfl, rfl⟩
 obtain rfl := hfl r h1
 simp -dsimp +decide (disch := omega) only [vr, ty, en, ↓reduceIte, Nat.reduceSub, Nat.reduceAdd, Nat.reduceMul, Nat.reduceLT, Int.reduceAdd, Int.reduceSub, Int.reduceToNat, ci, vi, getO_i, vt, gn0, gn1, gn2, gn3, gn4, hcv, hcu, hwv, hcc, hwc]
 have kk : (∀ k j : Nat, decide (T.length + k < T.length + j) = decide (k < j)) /\ (∀ j : Nat, decide (T.length < T.length + j) = decide (0 < j)) := ⟨fun k j => by simp, fun j => by simp⟩
 refine SemA.draw (fun i => decide (i < T.length + 5)) [(0, true), (2, true), (1, false), (3, false), (4, true), (5, true), (6, true), (7, true), (8, false), (9, true), (10, true), (11, true), (12, true), (13, true), (14, true), (15, true), (16, true), (17, true), (18, true), (19, false), (20, true), (21, true), (22, true), (23, true), (24, true), (26, true), (27, true), (25, false), (28, false), (29, true), (30, true), (31, true), (32, true), (33, true), (34, false), (35, true), (36, true), (37, true), (38, true), (39, true), (40, true), (41, true), (42, true), (43, true), (44, true), (45, false), (46, true), (47, true)] mixed (by kernel_rfl) ?_
 simp -dsimp +decide (disch := omega) only [vr, ty, en, ↓reduceIte, Nat.reduceSub, Nat.reduceAdd, Nat.reduceMul, Nat.reduceLT, Int.reduceAdd, Int.reduceSub, Int.reduceToNat, ci, vi, getO_i, vt, gn0, gn1, gn2, gn3, gn4, keepT_get, keepO, kk, hcv, hcu, hwv, hcc, hwc]
 refine (May_ok (v := v) (by omega) hf).mono ?_
 rintro r T' es ⟨⟨b3, rfl, hb3⟩, rfl, rfl⟩
 simp -dsimp +decide (disch := omega) only [vr, ty, en, ↓reduceIte, Nat.reduceSub, Nat.reduceAdd, Nat.reduceMul, Nat.reduceLT, Int.reduceAdd, Int.reduceSub, Int.reduceToNat, ci, vi, getO_i, vt, gn0, gn1, gn2, gn3, gn4, keepT_get, keepO, kk, hcv, hcu, hwv, hcc, hwc]
 refine (May06_ok (v := v) (by omega)).mono ?_
 rintro r T' es ⟨⟨b4, rfl, hb4⟩, rfl, rfl⟩
 obtain rfl : b3 = b4 := Bool.eq_iff_iff.2 (hb3.trans hb4.symm)
 have hbb : ∀ b : Bool, (!(b == b)) = false := fun b => by cases b <;> rfl
 have hee : (decide (e = e)) = true := decide_eq_true rfl
 simp -dsimp +decide (disch := omega) only [vr, ty, en, ↓reduceIte, Nat.reduceSub, Nat.reduceAdd, Nat.reduceMul, Nat.reduceLT, Int.reduceAdd, Int.reduceSub, Int.reduceToNat, ci, vi, getO_i, vt, gn0, gn1, gn2, gn3, gn4, keepT_get, keepO, kk, hcv, hcu, hwv, hcc, hwc, hbb, bb2, hee]
 refine (bsame_ok (l := l) (m := l) (hal _) (hal _) (by omega)).det' ?_
 have hll : decide (l = l) = true := decide_eq_true rfl
 rw [hll]
 simp -dsimp +decide (disch := omega) only [vr, ty, en, ↓reduceIte, Nat.reduceSub, Nat.reduceAdd, Nat.reduceMul, Nat.reduceLT, Int.reduceAdd, Int.reduceSub, Int.reduceToNat, ci, vi, getO_i, vt, gn0, gn1, gn2, gn3, gn4, keepT_get, keepO, kk, hcv, hcu, hwv, hcc, hwc, hbb, bb2, hee]
 refine (same06_ok (a := v) (c := v) (by omega)).mono ?_
 rintro r T' es ⟨⟨b5, rfl, hb5⟩, rfl, rfl⟩
 obtain rfl := hb5.2 rfl
 simp -dsimp +decide (disch := omega) only [vr, ty, en, ↓reduceIte, Nat.reduceSub, Nat.reduceAdd, Nat.reduceMul, Nat.reduceLT, Int.reduceAdd, Int.reduceSub, Int.reduceToNat, ci, vi, getO_i, vt, gn0, gn1, gn2, gn3, gn4, keepT_get, keepO, kk, hcv, hcu, hwv, hcc, hwc, hbb, bb2, hee]
 refine (same_ok (a := v) (c := u) (by omega)).mono ?_
 rintro r T' es ⟨⟨b6, rfl, hb6⟩, rfl, rfl⟩
 simp -dsimp +decide (disch := omega) only [vr, ty, en, ↓reduceIte, Nat.reduceSub, Nat.reduceAdd, Nat.reduceMul, Nat.reduceLT, Int.reduceAdd, Int.reduceSub, Int.reduceToNat, ci, vi, getO_i, vt, gn0, gn1, gn2, gn3, gn4, keepT_get, keepO, kk, hcv, hcu, hwv, hcc, hwc, hbb, bb2, hee]
 refine (same06_ok (a := v) (c := u) (by omega)).mono ?_
 rintro r T' es ⟨⟨b7, rfl, hb7⟩, rfl, rfl⟩
 obtain rfl : b6 = b7 := Bool.eq_iff_iff.2 (hb6.trans hb7.symm)
 simp -dsimp +decide (disch := omega) only [vr, ty, en, ↓reduceIte, Nat.reduceSub, Nat.reduceAdd, Nat.reduceMul, Nat.reduceLT, Int.reduceAdd, Int.reduceSub, Int.reduceToNat, ci, vi, getO_i, vt, gn0, gn1, gn2, gn3, gn4, keepT_get, keepO, kk, hcv, hcu, hwv, hcc, hwc, hbb, bb2, hee]
 refine (same_ok (a := v) (c := v) (by omega)).mono ?_
 rintro r T' es ⟨⟨b8, rfl, hb8⟩, rfl, rfl⟩
 obtain rfl := hb8.2 rfl
 simp -dsimp +decide (disch := omega) only [vr, ty, en, ↓reduceIte, Nat.reduceSub, Nat.reduceAdd, Nat.reduceMul, Nat.reduceLT, Int.reduceAdd, Int.reduceSub, Int.reduceToNat, ci, vi, getO_i, vt, gn0, gn1, gn2, gn3, gn4, keepT_get, keepO, kk, hcv, hcu, hwv, hcc, hwc, hbb, bb2, hee]
 refine CallA.weak2 hcw hcw ?_
 refine (same06_ok (a := y) (c := y) (by omega)).mono ?_
 rintro r T' es ⟨⟨b9, rfl, hb9⟩, rfl, rfl⟩
 obtain rfl := hb9.2 rfl
 simp -dsimp +decide (disch := omega) only [vr, ty, en, ↓reduceIte, Nat.reduceSub, Nat.reduceAdd, Nat.reduceMul, Nat.reduceLT, Int.reduceAdd, Int.reduceSub, Int.reduceToNat, ci, vi, getO_i, vt, gn0, gn1, gn2, gn3, gn4, keepT_get, keepO, kk, hcv, hcu, hwv, hcc, hwc, hbb, bb2, hee]
 rcases hcase with ⟨hm, rfl, rfl, rfl⟩ | ⟨hm, rfl, rfl, rfl⟩
 rotate_left
 . simp -dsimp +decide (disch := omega) only [vr, ty, en, ↓reduceIte, Nat.reduceSub, Nat.reduceAdd, Nat.reduceMul, Nat.reduceLT, Int.reduceAdd, Int.reduceSub, Int.reduceToNat, ci, vi, getO_i, vt]
   refine works_ok.det' ?_
   simp -dsimp +decide (disch := omega) only [vr, ty, en, ↓reduceIte, Nat.reduceSub, Nat.reduceAdd, Nat.reduceMul, Nat.reduceLT, Int.reduceAdd, Int.reduceSub, Int.reduceToNat, ci, vi, getO_i, vt]
   exact Vw.cut ⟨rfl, rfl, rfl⟩
 subst hp
 have hpp : parse (prt 8 v) = .ok v := by
  have := parse_prt hm hf (w := []) (w' := []) (fun x hx => (nomatch hx)) (fun x hx => (nomatch hx)) (by simp; omega)
  simpa using this
 obtain ⟨p, hpe⟩ : ∃ p, prt 8 v = p := ⟨_, rfl⟩
 rw [hpe] at hpp hlp hla hal ⊢
 have hp64 : ((65536 : Int) < (p.length : Int)) = False := eq_false (by omega)
 simp -dsimp +decide (disch := omega) only [vr, ty, en, ↓reduceIte, Nat.reduceSub, Nat.reduceAdd, Nat.reduceMul, Nat.reduceLT, Int.reduceAdd, Int.reduceSub, Int.reduceToNat, ci, vi, getO_i, vt]
 refine (copied_ok (hal _) (by omega)).det' ?_
 simp -dsimp +decide (disch := omega) only [vr, ty, en, ↓reduceIte, Nat.reduceSub, Nat.reduceAdd, Nat.reduceMul, Nat.reduceLT, Int.reduceAdd, Int.reduceSub, Int.reduceToNat, ci, vi, getO_i, vt]
 refine (parse_ok (l := p) (by omega)).mono ?_
 rintro r T' es ⟨rfl, rfl, rfl⟩
 rw [hpp, show parsV p (.ok v) = .tu [.ag (vcs v), .p (.int .i64 0)] from rfl]
 simp -dsimp +decide (disch := omega) only [vr, ty, en, ↓reduceIte, Nat.reduceSub, Nat.reduceAdd, Nat.reduceMul, Nat.reduceLT, Int.reduceAdd, Int.reduceSub, Int.reduceToNat, ci, vi, getO_i, vt, vbl, gn0, gn1, gn2, gn3, gn4, gn5, hcv, hcu, hwv, hcc, hwc, hp64, bb2]
 refine (same06_ok (a := v) (c := v) (by omega)).mono ?_
 rintro r T' es ⟨⟨b9, rfl, hb9⟩, rfl, rfl⟩
 obtain rfl := hb9.2 rfl
 simp -dsimp +decide (disch := omega) only [vr, ty, en, ↓reduceIte, Nat.reduceSub, Nat.reduceAdd, Nat.reduceMul, Nat.reduceLT, Int.reduceAdd, Int.reduceSub, Int.reduceToNat, ci, vi, getO_i, vt]
 refine works_ok.det' ?_
 simp -dsimp +decide (disch := omega) only [vr, ty, en, ↓reduceIte, Nat.reduceSub, Nat.reduceAdd, Nat.reduceMul, Nat.reduceLT, Int.reduceAdd, Int.reduceSub, Int.reduceToNat, ci, vi, getO_i, vt]
 exact Vw.cut ⟨rfl, rfl, rfl⟩
end Go.Proofs.YtglpcedoongagaaGreatDoor
namespace Go.Proofs.YtglpcedoongagaaGreatDoor.jsonPrintsL
open Go.ChangeShapes Go.WideShapes Go.ChangeAt Go.RowKit Go.E Go.Proofs.YtglpcedoongagaaGreatDoor.Tryz Go.Proofs.Tryz
set_option maxRecDepth 100000 in
theorem contract (H : Type) (enc : TypeId × Value -> H) (W : World) (base : Nat) (args : Array Value) (ds gs : List (DataW H)) (before : List MemPlace)
 (hval : ∀ (j : Nat) t v, Tryz.f3.params[j]? = some t -> args[j]? = some v -> Value.okWide prog W .any base t v)
 (hW : DataW.Whole enc prog Tryz.f3.params.toList Rows.jsonPrintsSpec.vars false W args.toList ds gs before)
 (hz : (DataW.weightsEach prog (Tryz.f3.params.toList ++ Rows.jsonPrintsSpec.plain.varTypes prog) (ds ++ gs)).all (· <= reachBytes) = true)
 (hL : laidMetH prog [("math/bits.deBruijn32tab", Rows.laid_math_bits_deBruijn32tab), ("math/bits.deBruijn64tab", Rows.laid_math_bits_deBruijn64tab), ("internal/strconv.uint64pow10", Rows.laid_internal_strconv_uint64pow10), ("unicode/utf8.acceptRanges", Rows.laid_unicode_utf8_acceptRanges), ("strconv.ErrRange", Rows.laid_strconv_ErrRange), ("strconv.ErrSyntax", Rows.laid_strconv_ErrSyntax), ("unicode/utf8.first", Rows.laid_unicode_utf8_first)] W) :
 Calls prog 3 args W fun e W' => ∃ v, e = .returned v /\ Rows.jsonPrintsSpec.post enc prog Tryz.f3 false true false false W args v W' := by
 have hn : ds.length = 3 := by
  obtain ⟨p, q, hA, _⟩ := hW
  rw [Tryz.params3] at hA
  exact (trodAll_length hA).2
 have hg : gs = [] := by
  obtain ⟨p, q, hA, hV, _⟩ := hW
  exact (trodVars_none hV).1
 subst hg
 refine law_callsA (tys := [25, 5, 2, 9, 22, 23]) 4 laidOut (by kernel_rfl) (by kernel_rfl) Tryz.underlying4 rfl ?_ hW (by kernel_rfl) (by kernel_rfl) hval hz (gok hL) ?_
 . match ds, hn with
   | [_, _, _], _ => rfl
 intro xs hx
 rw [Tryz.params3] at hx
 cases hx with | cons h0 hx =>
 cases hx with | cons h1 hx =>
 cases hx with | cons h2 hx =>
 cases hx
 obtain ⟨a0, e0, h0l, h0f⟩ := open_jvA h0
 obtain ⟨a1, e1, h1l, h1f⟩ := open_jvA h1
 obtain ⟨a2, e2, h2l⟩ := open_strA h2
 simp only [List.map_cons, List.map_nil, e0, e1, e2]
 exact (prints_ok (T := []) h0l h1l (h0f 8)).mono fun v T E h => h.1
set_option maxRecDepth 100000 in
theorem lifted (os : Os) (started : os.Started) (H : Type) (enc : TypeId × Value -> H) :
 ReturnsInHanded {} Tryz.checked os 3 .any (fun w args => (Rows.jsonPrintsSpec.pre enc prog Tryz.f3 [] false w args /\ laidMetH prog [("math/bits.deBruijn32tab", Rows.laid_math_bits_deBruijn32tab), ("math/bits.deBruijn64tab", Rows.laid_math_bits_deBruijn64tab), ("internal/strconv.uint64pow10", Rows.laid_internal_strconv_uint64pow10), ("unicode/utf8.acceptRanges", Rows.laid_unicode_utf8_acceptRanges), ("strconv.ErrRange", Rows.laid_strconv_ErrRange), ("strconv.ErrSyntax", Rows.laid_strconv_ErrSyntax), ("unicode/utf8.first", Rows.laid_unicode_utf8_first)] w) /\ sizedMet enc prog Tryz.f3 (OpenSpec.ofChange Rows.jsonPrintsSpec) false w args)
  (Rows.jsonPrintsSpec.post enc prog Tryz.f3 false true false false) := by
 refine returnsInHanded_of_change_and (C := Tryz.checked) (X := fun w _ => laidMetH prog [("math/bits.deBruijn32tab", Rows.laid_math_bits_deBruijn32tab), ("math/bits.deBruijn64tab", Rows.laid_math_bits_deBruijn64tab), ("internal/strconv.uint64pow10", Rows.laid_internal_strconv_uint64pow10), ("unicode/utf8.acceptRanges", Rows.laid_unicode_utf8_acceptRanges), ("strconv.ErrRange", Rows.laid_strconv_ErrRange), ("strconv.ErrSyntax", Rows.laid_strconv_ErrSyntax), ("unicode/utf8.first", Rows.laid_unicode_utf8_first)] w) (fun _ _ _ hh h => h.of_heap hh) own started (by kernel_rfl) func3
  (ChangeSpec.witness_shaped (enc := enc) (C := Tryz.checked) (os := os) (X := fun w _ => laidMetH prog [("math/bits.deBruijn32tab", Rows.laid_math_bits_deBruijn32tab), ("math/bits.deBruijn64tab", Rows.laid_math_bits_deBruijn64tab), ("internal/strconv.uint64pow10", Rows.laid_internal_strconv_uint64pow10), ("unicode/utf8.acceptRanges", Rows.laid_unicode_utf8_acceptRanges), ("strconv.ErrRange", Rows.laid_strconv_ErrRange), ("strconv.ErrSyntax", Rows.laid_strconv_ErrSyntax), ("unicode/utf8.first", Rows.laid_unicode_utf8_first)] w) false (World.laidAll prog os [("math/bits.deBruijn32tab", Rows.laid_math_bits_deBruijn32tab), ("math/bits.deBruijn64tab", Rows.laid_math_bits_deBruijn64tab), ("internal/strconv.uint64pow10", Rows.laid_internal_strconv_uint64pow10), ("unicode/utf8.acceptRanges", Rows.laid_unicode_utf8_acceptRanges), ("strconv.ErrRange", Rows.laid_strconv_ErrRange), ("strconv.ErrSyntax", Rows.laid_strconv_ErrSyntax), ("unicode/utf8.first", Rows.laid_unicode_utf8_first)]) #[.agg #[.int .u8 0, .int .i64 0, .string ByteArray.empty, .slice none 0 0, .slice none 0 0], .agg #[.int .u8 0, .int .i64 0, .string ByteArray.empty, .slice none 0 0, .slice none 0 0], .string ByteArray.empty] 8 (World.laidAll_os _ _ _) (World.shaped_of_ZipB (by kernel_rfl) (by kernel_rfl)) (by kernel_rfl) (by kernel_rfl) (by kernel_rfl) (laid_met os _)) ?_
 intro W base args ds gs before hval hW _ hz hL _
 exact contract H enc W base args ds gs before hval hW hz hL
theorem said : Rows.JsonPrintsSaid :=
 OpenClaim.holds_of_wide 3 Tryz.f3 rfl rfl rfl rfl rfl rfl rfl ⟨rfl, rfl, rfl, rfl, rfl⟩ rfl rfl rfl rfl rfl (by kernel_rfl) func3 (by kernel_rfl)
  (of_decide_eq_true (by kernel_rfl)) (by unfold Func.isWrapper; first | (rw [if_pos (by decide +kernel)]; kernel_rfl) | (rw [if_neg (by decide +kernel)]; exact ⟨rfl, rfl⟩))
  (fun os started H enc _ => lifted os started H enc)
theorem proved : Rows.JsonPrintsCardSaid :=
 Claim7.holds_tied_plain_at .later [] [.data, .data, .data, .data, .sentinel, .sentinel, .pinned] true Rows.jsonPrintsCard.stood.harness true
  said (fun _ h => by cases h) (by kernel_rfl) (fun _ h => by cases h) jsonPrints_row_tie rfl ⟨rfl, rfl⟩ (by kernel_rfl) rfl
  (fun f fn hf hfn => by
   obtain rfl : f = 3 := Option.some.inj ((show prog.funcNamed "scantling/scantlinglaw06.JsonPrints" = some 3 by kernel_rfl).symm.trans hf) |>.symm
   obtain rfl : fn = Tryz.f3 := (Option.some.inj (func3.symm.trans hfn)).symm
   exact ⟨by kernel_rfl, fun j t ht => by
    have hm : t ∈ Tryz.f3.params.toList := by simpa using Array.mem_of_getElem? ht
    have hall : (Tryz.f3.params.toList.all fun u => !prog.wantsStandIn u) = true := by kernel_rfl
    exact (show prog.wantsStandIn t = false by simpa using List.all_eq_true.1 hall t hm)⟩)
  (by kernel_rfl)
end Go.Proofs.YtglpcedoongagaaGreatDoor.jsonPrintsL
