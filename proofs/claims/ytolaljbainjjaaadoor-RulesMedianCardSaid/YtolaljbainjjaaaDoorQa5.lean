/-
  'scantlinglaw13.RulesMedian' returns true whatever comes, and leaves what came as it was; its row's listed variable is tied to the program's text. No condition.
-/
import Derived.Test.YtolaljbainjjaaaDoorQa4
import Derived.Test.YtolaljbainjjaaaDoorRows
import Derived.LaidMore
import Derived.OpenShut
import Derived.Stop.Joined
import Derived.Test.YtolaljbainjjaaaDoorCards
import Derived.Test.YtolaljbainjjaaaDoorTie
import Derived.SevenTiedAt
import Derived.ChangeCalls
set_option linter.unusedSimpArgs false
set_option linter.unusedVariables false
set_option linter.unusedSectionVars false
set_option maxRecDepth 8000
set_option maxHeartbeats 4000000
namespace Go.Proofs.YtolaljbainjjaaaDoor
open Go.E Go.Proofs.YtolaljbainjjaaaDoor.Tryd Go.Proofs.Tryd
theorem rulesMedian_ok {T : Tbl} {l more : List UInt32} : CallA prog G 4 [.vs (l.map w32) l.length, .vs (more.map w32) more.length] T fun v _ _ => v = .p (.bool true) := by
 refine CallA.wfs fun wf => ?_
 have wt := wf.t
 refine CallA.eV 12 func4 ntmps4 results4 ?_
 simp -dsimp +decide only [vy, vz, vze, vr, ty, en, ↓reduceIte, Nat.reduceSub, Nat.reduceAdd, Nat.reduceMul, Nat.reduceLT, Int.reduceAdd, Int.reduceSub, Int.reduceToNat, ci]
 by_cases h1 : ((300 : Int) < (l.length : Int))
 . have i1 := eq_true h1
   simp -dsimp +decide (disch := omega) only [vy, vz, vze, vr, ty, en, ↓reduceIte, Nat.reduceSub, Nat.reduceAdd, Nat.reduceMul, Nat.reduceLT, Int.reduceAdd, Int.reduceSub, Int.reduceToNat, ci, vi, getO_i, vt, i1, bb2]
   refine works_ok.det' ?_
   simp -dsimp +decide (disch := omega) only [vy, vz, vze, vr, ty, en, ↓reduceIte, Nat.reduceSub, Nat.reduceAdd, Nat.reduceMul, Nat.reduceLT, Int.reduceAdd, Int.reduceSub, Int.reduceToNat, ci, vi, getO_i, vt]
   exact Vw.done rfl
 have i1 := eq_false h1
 by_cases h2 : ((300 : Int) < (more.length : Int))
 . have i2 := eq_true h2
   simp -dsimp +decide (disch := omega) only [vy, vz, vze, vr, ty, en, ↓reduceIte, Nat.reduceSub, Nat.reduceAdd, Nat.reduceMul, Nat.reduceLT, Int.reduceAdd, Int.reduceSub, Int.reduceToNat, ci, vi, getO_i, vt, i1, i2, bb2]
   refine works_ok.det' ?_
   simp -dsimp +decide (disch := omega) only [vy, vz, vze, vr, ty, en, ↓reduceIte, Nat.reduceSub, Nat.reduceAdd, Nat.reduceMul, Nat.reduceLT, Int.reduceAdd, Int.reduceSub, Int.reduceToNat, ci, vi, getO_i, vt]
   exact Vw.done rfl
 have i2 := eq_false h2
 obtain ⟨al, hal⟩ : ∃ a, a = AV.vs (l.map w32) l.length := ⟨_, rfl⟩
 have hb : ∀ T, Sl T 1 al (l.map w32) l.length := fun T => by rw [hal]; exact Sl.vs _ _ (by simp)
 simp -dsimp +decide (disch := omega) only [vy, vz, vze, vr, ty, en, ↓reduceIte, Nat.reduceSub, Nat.reduceAdd, Nat.reduceMul, Nat.reduceLT, Int.reduceAdd, Int.reduceSub, Int.reduceToNat, ci, vi, getO_i, vt, i1, i2, bb2]
 rw [<- hal]
 refine (times_ok (hb _) (by omega)).det' ?_
 obtain ⟨aH, haH⟩ : ∃ a, a = AV.vs ((timesH l).flatMap Hdr.cs) l.length := ⟨_, rfl⟩
 have hlen : (timesH l).length = l.length := by simp [timesH]
 have hH : HL aH (timesH l) := by rw [haH, <- hlen]; exact HL.of (timesH_ok _)
 rw [<- haH]
 simp -dsimp +decide (disch := omega) only [vy, vz, vze, vr, ty, en, ↓reduceIte, Nat.reduceSub, Nat.reduceAdd, Nat.reduceMul, Nat.reduceLT, Int.reduceAdd, Int.reduceSub, Int.reduceToNat, ci, vi, getO_i, vt]
 refine (pmedian_ok (hH.es _) hH.ok (by omega)).det' ?_
 obtain ⟨m, hm⟩ : ∃ m, m = medB (timesH l) := ⟨_, rfl⟩
 rw [<- hm]
 have hsr := Sl.rules (hb T) (by decide)
 have hl1 := Sl.loads (hb T) (P := prog) (t := 23) (by (simp -dsimp +decide only [vy, vz, vze, vr, ty, en, ↓reduceIte, Nat.reduceSub, Nat.reduceAdd, Nat.reduceMul, Nat.reduceLT, Int.reduceAdd, Int.reduceSub, Int.reduceToNat, ci]))
 by_cases h3 : (l.length : Int) = 0
 . have i3 := eq_true h3
   have hl0 : l = [] := List.eq_nil_of_length_eq_zero (by omega)
   have m0 : m = 0 := by rw [hm, hl0]; simp [medB, lastT, timesH, medT, sortU]
   subst m0
   have c0 : (((0 : UInt32).toNat : Int) = 0) = True := eq_true rfl
   simp -dsimp +decide (disch := omega) only [vy, vz, vze, vr, ty, en, ↓reduceIte, Nat.reduceSub, Nat.reduceAdd, Nat.reduceMul, Nat.reduceLT, Int.reduceAdd, Int.reduceSub, Int.reduceToNat, ci, vi, getO_i, vt, hsr, i3, c0, bb2]
   refine works_ok.det' ?_
   simp -dsimp +decide (disch := omega) only [vy, vz, vze, vr, ty, en, ↓reduceIte, Nat.reduceSub, Nat.reduceAdd, Nat.reduceMul, Nat.reduceLT, Int.reduceAdd, Int.reduceSub, Int.reduceToNat, ci, vi, getO_i, vt, bb2]
   exact Vw.done rfl
 have i3 := eq_false h3
 obtain ⟨f, hf⟩ : ∃ f, f = l.length - 11 := ⟨_, rfl⟩
 have hmx : max ((l.length : Int) - 11) 0 = (f : Int) := by omega
 simp -dsimp +decide (disch := omega) only [vy, vz, vze, vr, ty, en, ↓reduceIte, Nat.reduceSub, Nat.reduceAdd, Nat.reduceMul, Nat.reduceLT, Int.reduceAdd, Int.reduceSub, Int.reduceToNat, ci, vi, getO_i, vt, hsr, i3, vmm, hmx, bb2]
 obtain ⟨L, hL⟩ : ∃ L, L = l.drop f := ⟨_, rfl⟩
 have hLl : L.length = l.length - f := by rw [hL, List.length_drop]
 have hmL : m = medT L := by rw [hm, medB, timesH_last, hL, hf]
 refine SemA.loopE (fun j : Nat => [(0, al), (1, .vs (more.map w32) more.length), (5, w32 m), (6, wint (f : Int)), (7, wint ((L.take j).countP (fun x => decide (x.toNat < m.toNat)) : Int)), (8, wint ((L.take j).countP (fun x => decide (m.toNat < x.toNat)) : Int)), (9, .p (.bool ((L.take j).any fun x => decide (x.toNat = m.toNat)))), (10, wint ((f + j : Nat) : Int))]) (fun _ => T) (fun j => f + j <= l.length) (fun j => l.length - j) 0 [] 0 (fun _ : Unit => [(0, al), (1, .vs (more.map w32) more.length), (5, w32 m), (6, wint (f : Int)), (7, wint (L.countP (fun x => decide (x.toNat < m.toNat)) : Int)), (8, wint (L.countP (fun x => decide (m.toNat < x.toNat)) : Int)), (9, .p (.bool (L.any fun x => decide (x.toNat = m.toNat))))]) (fun _ => T) (fun _ => True) (by omega) (by (simp -dsimp +decide (disch := omega) only [vy, vz, vze, vr, ty, en, ↓reduceIte, Nat.reduceSub, Nat.reduceAdd, Nat.reduceMul, Nat.reduceLT, Int.reduceAdd, Int.reduceSub, Int.reduceToNat, ci, vi, getO_i]); rw [List.take_zero]; first | rfl | exact ⟨rfl, rfl, rfl⟩ | done) rfl (by simp) ?_ ?_
 . rintro j g hj
   refine SemA.o ?_
   simp -dsimp +decide (disch := omega) only [vy, vz, vze, vr, ty, en, ↓reduceIte, Nat.reduceSub, Nat.reduceAdd, Nat.reduceMul, Nat.reduceLT, Int.reduceAdd, Int.reduceSub, Int.reduceToNat, ci, vi, getO_i, vt, hsr]
   refine CondP.dec (fun h => ?_) (fun h => ?_)
   . obtain ⟨x, hx⟩ : ∃ x, l[f + j]? = some x := ⟨l[f + j]'(by omega), by simp⟩
     have hxL : L[j]? = some x := by rw [hL, List.getElem?_drop, hx]
     have n1 : (L.take (j + 1)).countP (fun x => decide (x.toNat < m.toNat)) = (L.take j).countP (fun x => decide (x.toNat < m.toNat)) + if x.toNat < m.toNat then 1 else 0 := by
      rw [List.take_add_one, hxL, List.countP_append]; simp [List.countP_singleton]
     have n2 : (L.take (j + 1)).countP (fun x => decide (m.toNat < x.toNat)) = (L.take j).countP (fun x => decide (m.toNat < x.toNat)) + if m.toNat < x.toNat then 1 else 0 := by
      rw [List.take_add_one, hxL, List.countP_append]; simp [List.countP_singleton]
     have n3 : (L.take (j + 1)).any (fun x => decide (x.toNat = m.toNat)) = ((L.take j).any (fun x => decide (x.toNat = m.toNat)) || decide (x.toNat = m.toNat)) := by
      rw [List.take_add_one, hxL, List.any_append]; simp
     have hc1 := List.countP_le_length (p := fun x : UInt32 => decide (x.toNat < m.toNat)) (l := L.take j)
     have hc2 := List.countP_le_length (p := fun x : UInt32 => decide (m.toNat < x.toNat)) (l := L.take j)
     have hlt : (L.take j).length <= 300 := by rw [List.length_take]; omega
     obtain ⟨A, hA⟩ : ∃ A, A = (L.take j).countP (fun x => decide (x.toNat < m.toNat)) := ⟨_, rfl⟩
     obtain ⟨B, hB⟩ : ∃ B, B = (L.take j).countP (fun x => decide (m.toNat < x.toNat)) := ⟨_, rfl⟩
     obtain ⟨C, hC⟩ : ∃ C, C = (L.take j).any (fun x => decide (x.toNat = m.toNat)) := ⟨_, rfl⟩
     rw [<- hA] at n1 hc1 ⊢
     rw [<- hB] at n2 hc2 ⊢
     rw [<- hC] at n3 ⊢
     rcases Nat.lt_trichotomy x.toNat m.toNat with hq | hq | hq
     . have q1 : ((x.toNat : Int) < (m.toNat : Int)) = True := eq_true (by omega)
       have q2 : ((m.toNat : Int) < (x.toNat : Int)) = False := eq_false (by omega)
       have q3 : ((x.toNat : Int) = (m.toNat : Int)) = False := eq_false (by omega)
       rw [if_pos (by omega)] at n1
       rw [if_neg (by omega)] at n2
       rw [decide_eq_false (by omega)] at n3
       cases C
       all_goals
        simp -dsimp +decide (disch := omega) only [vy, vz, vze, vr, ty, en, ↓reduceIte, Nat.reduceSub, Nat.reduceAdd, Nat.reduceMul, Nat.reduceLT, Int.reduceAdd, Int.reduceSub, Int.reduceToNat, ci, vi, getO_i, vt, hsr, hl1, hx, q1, q2, q3, bb2]
        repeat (refine And.intro ⟨by omega, by omega⟩ ?_)
        refine ⟨j + 1, ⟨by omega, by omega⟩, ?_⟩
        rw [n1, n2, n3]
        exact ⟨rfl, rfl, rfl, rfl⟩
     . have q1 : ((x.toNat : Int) < (m.toNat : Int)) = False := eq_false (by omega)
       have q2 : ((m.toNat : Int) < (x.toNat : Int)) = False := eq_false (by omega)
       have q3 : ((x.toNat : Int) = (m.toNat : Int)) = True := eq_true (by omega)
       rw [if_neg (by omega)] at n1
       rw [if_neg (by omega)] at n2
       rw [decide_eq_true (by omega)] at n3
       cases C
       all_goals
        simp -dsimp +decide (disch := omega) only [vy, vz, vze, vr, ty, en, ↓reduceIte, Nat.reduceSub, Nat.reduceAdd, Nat.reduceMul, Nat.reduceLT, Int.reduceAdd, Int.reduceSub, Int.reduceToNat, ci, vi, getO_i, vt, hsr, hl1, hx, q1, q2, q3, bb2]
        repeat (refine And.intro ⟨by omega, by omega⟩ ?_)
        refine ⟨j + 1, ⟨by omega, by omega⟩, ?_⟩
        rw [n1, n2, n3]
        exact ⟨rfl, rfl, rfl, rfl⟩
     . have q1 : ((x.toNat : Int) < (m.toNat : Int)) = False := eq_false (by omega)
       have q2 : ((m.toNat : Int) < (x.toNat : Int)) = True := eq_true (by omega)
       have q3 : ((x.toNat : Int) = (m.toNat : Int)) = False := eq_false (by omega)
       rw [if_neg (by omega)] at n1
       rw [if_pos (by omega)] at n2
       rw [decide_eq_false (by omega)] at n3
       cases C
       all_goals
        simp -dsimp +decide (disch := omega) only [vy, vz, vze, vr, ty, en, ↓reduceIte, Nat.reduceSub, Nat.reduceAdd, Nat.reduceMul, Nat.reduceLT, Int.reduceAdd, Int.reduceSub, Int.reduceToNat, ci, vi, getO_i, vt, hsr, hl1, hx, q1, q2, q3, bb2]
        repeat (refine And.intro ⟨by omega, by omega⟩ ?_)
        refine ⟨j + 1, ⟨by omega, by omega⟩, ?_⟩
        rw [n1, n2, n3]
        exact ⟨rfl, rfl, rfl, rfl⟩
   . have e : j = L.length := by omega
     subst e
     simp -dsimp +decide (disch := omega) only [vy, vz, vze, vr, ty, en, ↓reduceIte, Nat.reduceSub, Nat.reduceAdd, Nat.reduceMul, Nat.reduceLT, Int.reduceAdd, Int.reduceSub, Int.reduceToNat, ci, vi, getO_i, vt]
     rw [List.take_length]
     exact ⟨(), rfl, rfl, rfl⟩
 . rintro _ g tmp -
   have hLne : L ≠ [] := fun e => by rw [e] at hLl; simp at hLl; omega
   obtain ⟨k1, k2, k3⟩ := med_mid hLne
   rw [<- hmL] at k1 k2 k3
   have hany : (L.any fun x => decide (x.toNat = m.toNat)) = true := List.any_eq_true.2 ⟨m, k1, decide_eq_true rfl⟩
   rw [hany]
   have hsubL : (l.length : Int) - (f : Int) = (L.length : Int) := by omega
   have hq : (L.length : Int).tdiv 2 = ((L.length / 2 : Nat) : Int) := rfl
   generalize L.countP (fun x => decide (x.toNat < m.toNat)) = A at *
   generalize L.countP (fun x => decide (m.toNat < x.toNat)) = B at *
   have c1 : (((L.length / 2 : Nat) : Int) < (A : Int)) = False := eq_false (by omega)
   have c2 : (((L.length / 2 : Nat) : Int) < (B : Int)) = False := eq_false (by omega)
   simp -dsimp +decide (disch := omega) only [vy, vz, vze, vr, ty, en, ↓reduceIte, Nat.reduceSub, Nat.reduceAdd, Nat.reduceMul, Nat.reduceLT, Int.reduceAdd, Int.reduceSub, Int.reduceToNat, ci, vi, getO_i, vt, hsr, hsubL, hq, c1, c2, bb2]
   by_cases h11 : (L.length : Int) < 11
   . have i11 := eq_true h11
     simp -dsimp +decide (disch := omega) only [vy, vz, vze, vr, ty, en, ↓reduceIte, Nat.reduceSub, Nat.reduceAdd, Nat.reduceMul, Nat.reduceLT, Int.reduceAdd, Int.reduceSub, Int.reduceToNat, ci, vi, getO_i, vt, i11, bb2]
     refine works_ok.det' ?_
     simp -dsimp +decide (disch := omega) only [vy, vz, vze, vr, ty, en, ↓reduceIte, Nat.reduceSub, Nat.reduceAdd, Nat.reduceMul, Nat.reduceLT, Int.reduceAdd, Int.reduceSub, Int.reduceToNat, ci, vi, getO_i, vt, bb2]
     exact Vw.done rfl
   . have i11 := eq_false h11
     have hl11 : 11 <= l.length := by omega
     rw [hal]
     simp -dsimp +decide (disch := omega) only [vy, vz, vze, vr, ty, en, ↓reduceIte, Nat.reduceSub, Nat.reduceAdd, Nat.reduceMul, Nat.reduceLT, Int.reduceAdd, Int.reduceSub, Int.reduceToNat, ci, vi, getO_i, vt, wt, i11, bb2]
     have hml : (more ++ l).length = more.length + l.length := List.length_append
     rw [<- hml]
     refine ⟨⟨by omega, by omega⟩, ⟨by omega, by omega⟩, (times_ok (l := more ++ l) (Sl.obj (gn0 T _ _) rfl (by simp)) (by omega)).det' ?_⟩
     have hlen2 : (timesH (more ++ l)).length = (more ++ l).length := by simp [timesH]
     obtain ⟨aM, haM⟩ : ∃ a, a = AV.vs ((timesH (more ++ l)).flatMap Hdr.cs) (more ++ l).length := ⟨_, rfl⟩
     have hM : HL aM (timesH (more ++ l)) := by rw [haM, <- hlen2]; exact HL.of (timesH_ok _)
     rw [<- haM]
     simp -dsimp +decide (disch := omega) only [vy, vz, vze, vr, ty, en, ↓reduceIte, Nat.reduceSub, Nat.reduceAdd, Nat.reduceMul, Nat.reduceLT, Int.reduceAdd, Int.reduceSub, Int.reduceToNat, ci, vi, getO_i, vt]
     refine (pmedian_ok (hM.es _) hM.ok (by omega)).det' ?_
     rw [med_same hl11, <- hm]
     have cm : ((m.toNat : Int) = (m.toNat : Int)) = True := eq_true rfl
     simp -dsimp +decide (disch := omega) only [vy, vz, vze, vr, ty, en, ↓reduceIte, Nat.reduceSub, Nat.reduceAdd, Nat.reduceMul, Nat.reduceLT, Int.reduceAdd, Int.reduceSub, Int.reduceToNat, ci, vi, getO_i, vt, cm, bb2]
     refine works_ok.det' ?_
     simp -dsimp +decide (disch := omega) only [vy, vz, vze, vr, ty, en, ↓reduceIte, Nat.reduceSub, Nat.reduceAdd, Nat.reduceMul, Nat.reduceLT, Int.reduceAdd, Int.reduceSub, Int.reduceToNat, ci, vi, getO_i, vt, bb2]
     exact Vw.cut rfl
end Go.Proofs.YtolaljbainjjaaaDoor
namespace Go.Proofs.YtolaljbainjjaaaDoor
open Go.ChangeShapes Go.WideShapes Go.ChangeAt Go.RowKit Go.E Go.Proofs.YtolaljbainjjaaaDoor.Tryd Go.Proofs.Tryd
theorem own : ownKnob prog.godebug = none := by kernel_rfl
theorem laidOut : laidOutB prog = true := by kernel_rfl
theorem gTable : prog.globalNamed "scantling/sha.table" = some 2 := by kernel_rfl
def tblT : TypeId := 132
theorem tTable : (prog.globals[2]?).map (·.type) = some tblT := by kernel_rfl
def tblZ : List Int := tbl.map fun x => (x.toNat : Int)
theorem tblD : (Rows.laid_scantling_sha_table : DataW Unit) = .agg (tblZ.map fun z => .lit (.int .u32 z)) := rfl
theorem gok {W : World} (h : laidMetH prog [("scantling/sha.table", Rows.laid_scantling_sha_table)] W) : GOK G (wholeH W) := by
 rw [MakeChecks.laidMetH_plain _ _ _ (by kernel_rfl)] at h
 obtain ⟨ps, ⟨g0, t0, cs0, f0, p0, q0, hg0, ht0, hv0, hd0, _, _⟩, _, _⟩ := h
 obtain rfl := Option.some.inj (gTable.symm.trans hg0)
 obtain rfl := Option.some.inj (tTable.symm.trans ht0)
 rw [tblD] at hd0
 have hcs := trod_lits (n := 64) Tryd.underlying132 Tryd.underlying23 (by kernel_rfl) (by kernel_rfl) hd0
 have hrd : Rd W (some ⟨2, 0, none⟩) (tblZ.map (Value.int .u32)) := by
  refine .inr ⟨_, rfl, rfl, fun k v hk => ?_⟩
  have := World.var?_cell hg0 hv0 k
  rw [<- hcs] at hk
  rw [add_plain rfl]
  simp only [Nat.zero_add]
  rw [this]
  simpa using hk
 intro g
 unfold G
 split
 . rename_i h0
   subst h0
   refine rel_vp0 (vs := tblZ.map (Value.int .u32)) ?_ (by decide) (arr_holds (wholeH_whole W) hrd)
   have := RelL.ps (Z := wholeH W) (ρ := []) (tblZ.map (Value.int .u32))
   rw [List.map_map] at this
   rw [show tbl.map w32 = tblZ.map (AV.p ∘ Value.int .u32) by rw [tblZ, List.map_map]; rfl]
   exact this
 . exact .p _
theorem door_met (os : Os) (args : Array Value) : laidMetH prog [("scantling/sha.table", Rows.laid_scantling_sha_table)] ((World.doorLaid prog 14 os).forCall (fun _ _ => 0) ⟨#[], args, []⟩).memory :=
 laidMetH_of_parts3 (fuel := 8) (laidMet_of_run' 8 (by kernel_rfl) (by kernel_rfl)) (by kernel_rfl) (by kernel_rfl)
end Go.Proofs.YtolaljbainjjaaaDoor
namespace Go.Proofs.YtolaljbainjjaaaDoor.rulesMedianL
open Go.ChangeShapes Go.WideShapes Go.ChangeAt Go.RowKit Go.E Go.Proofs.YtolaljbainjjaaaDoor.Tryd Go.Proofs.Tryd
set_option maxRecDepth 100000 in
theorem contract (H : Type) (enc : TypeId × Value -> H) (W : World) (base : Nat) (args : Array Value) (ds gs : List (DataW H)) (before : List MemPlace)
 (hval : ∀ (j : Nat) t v, Tryd.f4.params[j]? = some t -> args[j]? = some v -> Value.okWide prog W .any base t v)
 (hW : DataW.Whole enc prog Tryd.f4.params.toList Rows.rulesMedianSpec.vars false W args.toList ds gs before)
 (hz : (DataW.weightsEach prog (Tryd.f4.params.toList ++ Rows.rulesMedianSpec.plain.varTypes prog) (ds ++ gs)).all (· <= reachBytes) = true)
 (hL : laidMetH prog [("scantling/sha.table", Rows.laid_scantling_sha_table)] W) :
 Calls prog 4 args W fun e W' => ∃ v, e = .returned v /\ Rows.rulesMedianSpec.post enc prog Tryd.f4 false true false false W args v W' := by
 have hn : ds.length = 2 := by
  obtain ⟨p, q, hA, _⟩ := hW
  rw [Tryd.params4] at hA
  exact (trodAll_length hA).2
 have hg : gs = [] := by
  obtain ⟨p, q, hA, hV, _⟩ := hW
  exact (trodVars_none hV).1
 subst hg
 refine law_callsA (tys := [22, 23]) 4 laidOut (by kernel_rfl) (by kernel_rfl) Tryd.underlying4 rfl ?_ hW (by kernel_rfl) (by kernel_rfl) hval hz (gok hL) ?_
 . match ds, hn with
   | [_, _], _ => rfl
 intro xs hx
 rw [Tryd.params4] at hx
 cases hx with | cons h0 hx =>
 cases hx with | cons h1 hx =>
 cases hx
 obtain ⟨a0, e0, h0l⟩ := arg_nums (fun a : UInt32 => by rw [Dat.avs]) (open_u32 Tryd.underlying23) h0 Tryd.underlying22
 obtain ⟨a1, e1, h1l⟩ := arg_nums (fun a : UInt32 => by rw [Dat.avs]) (open_u32 Tryd.underlying23) h1 Tryd.underlying22
 simp only [List.map_cons, List.map_nil, e0, e1]
 exact rulesMedian_ok
set_option maxRecDepth 100000 in
theorem lifted (os : Os) (started : os.Started) (H : Type) (enc : TypeId × Value -> H) :
 ReturnsInHanded {} Tryd.checked os 4 .any (fun w args => (Rows.rulesMedianSpec.pre enc prog Tryd.f4 [] false w args /\ laidMetH prog [("scantling/sha.table", Rows.laid_scantling_sha_table)] w) /\ sizedMet enc prog Tryd.f4 (OpenSpec.ofChange Rows.rulesMedianSpec) false w args)
  (Rows.rulesMedianSpec.post enc prog Tryd.f4 false true false false) := by
 refine returnsInHanded_of_change_and (C := Tryd.checked) (X := fun w _ => laidMetH prog [("scantling/sha.table", Rows.laid_scantling_sha_table)] w) (fun _ _ _ hh h => h.of_heap hh) own started (by kernel_rfl) func4
  (ChangeSpec.witness_shaped (enc := enc) (C := Tryd.checked) (os := os) (X := fun w _ => laidMetH prog [("scantling/sha.table", Rows.laid_scantling_sha_table)] w) false (World.doorLaid prog 14 os) #[.slice none 0 0, .slice none 0 0] 8 rfl (World.shaped_of_RefB (by kernel_rfl) (by kernel_rfl)) (by kernel_rfl) (by kernel_rfl) (by kernel_rfl) (door_met os _)) ?_
 intro W base args ds gs before hval hW _ hz hL _
 exact contract H enc W base args ds gs before hval hW hz hL
theorem said : Rows.RulesMedianSaid :=
 OpenClaim.holds_of_wide 4 Tryd.f4 rfl rfl rfl rfl rfl rfl rfl ⟨rfl, rfl, rfl, rfl, rfl⟩ rfl rfl rfl rfl rfl (by kernel_rfl) func4 (by kernel_rfl)
  (of_decide_eq_true (by kernel_rfl)) (by unfold Func.isWrapper; first | (rw [if_pos (by decide +kernel)]; kernel_rfl) | (rw [if_neg (by decide +kernel)]; exact ⟨rfl, rfl⟩))
  (fun os started H enc _ => lifted os started H enc)
theorem proved : Rows.RulesMedianCardSaid :=
 Claim7.holds_tied_plain_at .later [] [.data] true Rows.rulesMedianCard.stood.harness false
  said (fun _ h => by cases h) (by kernel_rfl) (fun _ h => by cases h) rulesMedian_row_tie rfl ⟨rfl, rfl⟩ (by kernel_rfl) rfl
  (fun f fn hf hfn => by
   obtain rfl : f = 4 := Option.some.inj ((show prog.funcNamed "scantling/scantlinglaw13.RulesMedian" = some 4 by kernel_rfl).symm.trans hf) |>.symm
   obtain rfl : fn = Tryd.f4 := (Option.some.inj (func4.symm.trans hfn)).symm
   exact ⟨by kernel_rfl, fun j t ht => by
    have hm : t ∈ Tryd.f4.params.toList := by simpa using Array.mem_of_getElem? ht
    have hall : (Tryd.f4.params.toList.all fun u => !prog.wantsStandIn u) = true := by kernel_rfl
    exact (show prog.wantsStandIn t = false by simpa using List.all_eq_true.1 hall t hm)⟩)
  (by kernel_rfl)
end Go.Proofs.YtolaljbainjjaaaDoor.rulesMedianL
