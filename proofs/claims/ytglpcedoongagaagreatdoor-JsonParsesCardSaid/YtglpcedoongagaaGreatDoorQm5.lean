/-
  Part 5 of the proof: no statement of its own. No condition but those in each theorem.
-/
import Derived.Test.YtglpcedoongagaaGreatDoorQm4
import Derived.RecoverIn
import Derived.Test.YtglpcedoongagaaGreatDoorRows
import Derived.LaidMore
import Derived.Lay
import Derived.Stop.LaidErr
import Derived.OpenShut
import Derived.Stop.Joined
import Derived.KernelRfl
set_option linter.unusedSimpArgs false
set_option linter.unusedVariables false
set_option linter.unusedSectionVars false
set_option maxRecDepth 8000
set_option maxHeartbeats 4000000
namespace Go.Proofs.YtglpcedoongagaaGreatDoor
open Go.E Go.Proofs.YtglpcedoongagaaGreatDoor.Tryz Go.Proofs.Tryz Go.J Go.Proofs
theorem bsame_ok {T : Tbl} {a b : AV} {l m : List UInt8} (ha : Sl T 1 a (l.map by8) l.length) (hb : Sl T 1 b (m.map by8) m.length) (hl : l.length <= 1099511627776) :
 CallA prog G 14 [a, b] T fun v T' es => v = .p (.bool (decide (l = m))) /\ T' = T /\ es = [] := by
 have hra := Sl.rules ha (by decide)
 have hrb := Sl.rules hb (by decide)
 have hla := Sl.loads ha (P := prog) (t := 5) (by (simp -dsimp +decide only [vt2, vy, vz, vze, vy, vz, vze, vr, ty, en, ↓reduceIte, Nat.reduceSub, Nat.reduceAdd, Nat.reduceMul, Nat.reduceLT, Int.reduceAdd, Int.reduceSub, Int.reduceToNat, ci]))
 have hlb := Sl.loads hb (P := prog) (t := 5) (by (simp -dsimp +decide only [vt2, vy, vz, vze, vy, vz, vze, vr, ty, en, ↓reduceIte, Nat.reduceSub, Nat.reduceAdd, Nat.reduceMul, Nat.reduceLT, Int.reduceAdd, Int.reduceSub, Int.reduceToNat, ci]))
 refine CallA.eV 6 func14 ntmps14 results14 ?_
 simp -dsimp +decide only [vt2, vy, vz, vze, vy, vz, vze, vr, ty, en, ↓reduceIte, Nat.reduceSub, Nat.reduceAdd, Nat.reduceMul, Nat.reduceLT, Int.reduceAdd, Int.reduceSub, Int.reduceToNat, ci]
 simp -dsimp +decide (disch := omega) only [vt2, vy, vz, vze, vy, vz, vze, vr, ty, en, ↓reduceIte, Nat.reduceSub, Nat.reduceAdd, Nat.reduceMul, Nat.reduceLT, Int.reduceAdd, Int.reduceSub, Int.reduceToNat, ci, vi, getO_i, hra, hrb]
 refine CondP.split (fun h => ?_) (fun h => ?_)
 . simp -dsimp +decide (disch := omega) only [vt2, vy, vz, vze, vy, vz, vze, vr, ty, en, ↓reduceIte, Nat.reduceSub, Nat.reduceAdd, Nat.reduceMul, Nat.reduceLT, Int.reduceAdd, Int.reduceSub, Int.reduceToNat, ci, vi, getO_i]
   refine Vw.done ⟨?_, rfl, rfl⟩
   rw [decide_eq_false]
   rintro rfl; simp at h
 . have hlen : l.length = m.length := by simp at h; omega
   simp -dsimp +decide (disch := omega) only [vt2, vy, vz, vze, vy, vz, vze, vr, ty, en, ↓reduceIte, Nat.reduceSub, Nat.reduceAdd, Nat.reduceMul, Nat.reduceLT, Int.reduceAdd, Int.reduceSub, Int.reduceToNat, ci, vi, getO_i]
   refine SemA.loopL (fun i : Nat => [(0, a), (1, b), (5, wint (i : Int))]) (fun _ => T) (fun i => i <= l.length /\ l.take i = m.take i) (fun i => l.length - i) 0 [] (by kernel_rfl) ⟨by omega, by simp⟩ (by (simp -dsimp +decide only [vt2, vy, vz, vze, vy, vz, vze, vr, ty, en, ↓reduceIte, Nat.reduceSub, Nat.reduceAdd, Nat.reduceMul, Nat.reduceLT, Int.reduceAdd, Int.reduceSub, Int.reduceToNat, ci])) rfl (by simp) ?_
   rintro i g ⟨hi, he⟩
   simp -dsimp +decide only [vt2, vy, vz, vze, vy, vz, vze, vr, ty, en, ↓reduceIte, Nat.reduceSub, Nat.reduceAdd, Nat.reduceMul, Nat.reduceLT, Int.reduceAdd, Int.reduceSub, Int.reduceToNat, ci, hra]
   refine CondP.dec (fun h => ?_) (fun h => ?_)
   . obtain ⟨x, hx⟩ : ∃ x, l[i]? = some x := ⟨l[i]'(by omega), by simp⟩
     obtain ⟨y, hy⟩ : ∃ y, m[i]? = some y := ⟨m[i]'(by omega), by simp⟩
     have hgx : (l.map by8)[i]? = some (by8 x) := by rw [List.getElem?_map, hx]; rfl
     have hgy : (m.map by8)[i]? = some (by8 y) := by rw [List.getElem?_map, hy]; rfl
     simp -dsimp +decide only [vt2, vy, vz, vze, vy, vz, vze, vr, ty, en, ↓reduceIte, Nat.reduceSub, Nat.reduceAdd, Nat.reduceMul, Nat.reduceLT, Int.reduceAdd, Int.reduceSub, Int.reduceToNat, ci]
     refine SemA.drawS (.fl 0 (.fl 1 (.fl 2 (.fl 3 (.fl 4 (.fl 5 (.fl 6 (.fl 7 (.fl 8 .nil))))))))) mixed (by kernel_rfl) ?_
     simp -dsimp +decide (disch := omega) only [vt2, vy, vz, vze, vy, vz, vze, vr, ty, en, ↓reduceIte, Nat.reduceSub, Nat.reduceAdd, Nat.reduceMul, Nat.reduceLT, Int.reduceAdd, Int.reduceSub, Int.reduceToNat, ci, vi, getO_i, hra, hrb, hla, hlb, hgx, hgy]
     refine ⟨⟨by omega, by omega⟩, ⟨by omega, by omega⟩, CondP.ndec (fun h => ?_) (fun h => ?_)⟩
     . simp -dsimp +decide (disch := omega) only [vt2, vy, vz, vze, vy, vz, vze, vr, ty, en, ↓reduceIte, Nat.reduceSub, Nat.reduceAdd, Nat.reduceMul, Nat.reduceLT, Int.reduceAdd, Int.reduceSub, Int.reduceToNat, ci, vi, getO_i]
       refine Vw.done ⟨?_, rfl, rfl⟩
       rw [decide_eq_false]
       rintro rfl
       rw [hx] at hy; cases hy; exact h rfl
     . have : x = y := UInt8.toNat_inj.1 (by omega)
       simp -dsimp +decide (disch := omega) only [vt2, vy, vz, vze, vy, vz, vze, vr, ty, en, ↓reduceIte, Nat.reduceSub, Nat.reduceAdd, Nat.reduceMul, Nat.reduceLT, Int.reduceAdd, Int.reduceSub, Int.reduceToNat, ci, vi, getO_i]
       refine ⟨i + 1, ⟨by omega, ?_⟩, by omega, rfl⟩
       rw [List.take_add_one, List.take_add_one, hx, hy, he, this]
   . simp -dsimp +decide (disch := omega) only [vt2, vy, vz, vze, vy, vz, vze, vr, ty, en, ↓reduceIte, Nat.reduceSub, Nat.reduceAdd, Nat.reduceMul, Nat.reduceLT, Int.reduceAdd, Int.reduceSub, Int.reduceToNat, ci, vi, getO_i]
     refine Vw.done ⟨?_, rfl, rfl⟩
     rw [List.take_of_length_le (by omega), List.take_of_length_le (by omega)] at he
     rw [decide_eq_true he]
theorem eqs_ok {T : Tbl} {l m : List B} (hl : l.length <= 1099511627776) :
 CallA prog G 26 [.vs (l.map str) l.length, .vs (m.map str) m.length] T fun v T' es => v = .p (.bool (decide (l = m))) /\ T' = T /\ es = [] := by
 have ha : Sl T 1 (.vs (l.map str) l.length) (l.map str) l.length := Sl.vs _ _ (by simp)
 have hb : Sl T 1 (.vs (m.map str) m.length) (m.map str) m.length := Sl.vs _ _ (by simp)
 have hra := Sl.rules ha (by decide)
 have hrb := Sl.rules hb (by decide)
 have hla := Sl.loads ha (P := prog) (t := 9) (by (simp -dsimp +decide only [vt2, vy, vz, vze, vy, vz, vze, vr, ty, en, ↓reduceIte, Nat.reduceSub, Nat.reduceAdd, Nat.reduceMul, Nat.reduceLT, Int.reduceAdd, Int.reduceSub, Int.reduceToNat, ci]))
 have hlb := Sl.loads hb (P := prog) (t := 9) (by (simp -dsimp +decide only [vt2, vy, vz, vze, vy, vz, vze, vr, ty, en, ↓reduceIte, Nat.reduceSub, Nat.reduceAdd, Nat.reduceMul, Nat.reduceLT, Int.reduceAdd, Int.reduceSub, Int.reduceToNat, ci]))
 refine CallA.eV 14 func26 ntmps26 results26 ?_
 simp -dsimp +decide only [vt2, vy, vz, vze, vy, vz, vze, vr, ty, en, ↓reduceIte, Nat.reduceSub, Nat.reduceAdd, Nat.reduceMul, Nat.reduceLT, Int.reduceAdd, Int.reduceSub, Int.reduceToNat, ci]
 refine CondP.split (fun h => ?_) (fun h => ?_)
 . simp -dsimp +decide (disch := omega) only [vt2, vy, vz, vze, vy, vz, vze, vr, ty, en, ↓reduceIte, Nat.reduceSub, Nat.reduceAdd, Nat.reduceMul, Nat.reduceLT, Int.reduceAdd, Int.reduceSub, Int.reduceToNat, ci, vi, getO_i]
   refine Vw.done ⟨?_, rfl, rfl⟩
   rw [decide_eq_false]
   rintro rfl; simp at h
 . have hlen : l.length = m.length := by simp at h; omega
   simp -dsimp +decide (disch := omega) only [vt2, vy, vz, vze, vy, vz, vze, vr, ty, en, ↓reduceIte, Nat.reduceSub, Nat.reduceAdd, Nat.reduceMul, Nat.reduceLT, Int.reduceAdd, Int.reduceSub, Int.reduceToNat, ci, vi, getO_i]
   refine SemA.loopL (fun i : Nat => [(0, .vs (l.map str) l.length), (1, .vs (m.map str) m.length), (12, wint (l.length : Int)), (13, wint (i : Int))]) (fun _ => T) (fun i => i <= l.length /\ l.take i = m.take i) (fun i => l.length - i) 0 [] (by kernel_rfl) ⟨by omega, by simp⟩ (by (simp -dsimp +decide only [vt2, vy, vz, vze, vy, vz, vze, vr, ty, en, ↓reduceIte, Nat.reduceSub, Nat.reduceAdd, Nat.reduceMul, Nat.reduceLT, Int.reduceAdd, Int.reduceSub, Int.reduceToNat, ci])) rfl (by simp) ?_
   rintro i g ⟨hi, he⟩
   simp -dsimp +decide only [vt2, vy, vz, vze, vy, vz, vze, vr, ty, en, ↓reduceIte, Nat.reduceSub, Nat.reduceAdd, Nat.reduceMul, Nat.reduceLT, Int.reduceAdd, Int.reduceSub, Int.reduceToNat, ci, hra]
   refine CondP.dec (fun h => ?_) (fun h => ?_)
   . obtain ⟨x, hx⟩ : ∃ x, l[i]? = some x := ⟨l[i]'(by omega), by simp⟩
     obtain ⟨y, hy⟩ : ∃ y, m[i]? = some y := ⟨m[i]'(by omega), by simp⟩
     have hgx : (l.map str)[i]? = some (.p (.string (ba x))) := by rw [List.getElem?_map, hx]; rfl
     have hgy : (m.map str)[i]? = some (.p (.string (ba y))) := by rw [List.getElem?_map, hy]; rfl
     simp -dsimp +decide only [vt2, vy, vz, vze, vy, vz, vze, vr, ty, en, ↓reduceIte, Nat.reduceSub, Nat.reduceAdd, Nat.reduceMul, Nat.reduceLT, Int.reduceAdd, Int.reduceSub, Int.reduceToNat, ci]
     refine SemA.drawS (.fl 0 (.fl 1 (.fl 2 (.fl 3 (.fl 4 (.fl 5 (.fl 6 (.fl 7 (.fl 8 .nil))))))))) mixed (by kernel_rfl) ?_
     by_cases hxy : x = y
     . have hxy' : (ba x = ba y) = True := eq_true (by rw [hxy])
       simp -dsimp +decide (disch := omega) only [vt2, vy, vz, vze, vy, vz, vze, vr, ty, en, ↓reduceIte, Nat.reduceSub, Nat.reduceAdd, Nat.reduceMul, Nat.reduceLT, Int.reduceAdd, Int.reduceSub, Int.reduceToNat, ci, vi, getO_i, hra, hrb, hla, hlb, hgx, hgy, vstr, hxy']
       refine ⟨⟨by omega, by omega⟩, ⟨by omega, by omega⟩, i + 1, ⟨by omega, ?_⟩, by omega, rfl⟩
       rw [List.take_add_one, List.take_add_one, hx, hy, he, hxy]
     . have hxy' : (ba x = ba y) = False := eq_false (fun h => hxy (ba_inj.1 h))
       simp -dsimp +decide (disch := omega) only [vt2, vy, vz, vze, vy, vz, vze, vr, ty, en, ↓reduceIte, Nat.reduceSub, Nat.reduceAdd, Nat.reduceMul, Nat.reduceLT, Int.reduceAdd, Int.reduceSub, Int.reduceToNat, ci, vi, getO_i, hra, hrb, hla, hlb, hgx, hgy, vstr, hxy']
       refine ⟨⟨by omega, by omega⟩, ⟨by omega, by omega⟩, ?_⟩
       refine Vw.done ⟨?_, rfl, rfl⟩
       rw [decide_eq_false]
       rintro rfl
       rw [hx] at hy; cases hy; exact hxy rfl
   . simp -dsimp +decide (disch := omega) only [vt2, vy, vz, vze, vy, vz, vze, vr, ty, en, ↓reduceIte, Nat.reduceSub, Nat.reduceAdd, Nat.reduceMul, Nat.reduceLT, Int.reduceAdd, Int.reduceSub, Int.reduceToNat, ci, vi, getO_i]
     refine Vw.done ⟨?_, rfl, rfl⟩
     rw [List.take_of_length_le (by omega), List.take_of_length_le (by omega)] at he
     rw [decide_eq_true he]
def SameOk (x : JV) : Prop := ∀ (T : Tbl) (y : JV), CallA prog G 16 [.ag (vcs x), .ag (vcs y)] T fun r T' es => (∃ b : Bool, r = .p (.bool b) /\ (b = true ↔ x = y)) /\ T' = T /\ es = []
theorem eqf_ok {T : Tbl} {l m : List JV} (hl : l.length <= 1099511627776) (hs : ∀ x ∈ l, SameOk x) :
 CallA prog G 27 [.vs (vcsL l) l.length, .vs (vcsL m) m.length, .p (.func (.func 16) #[] #[])] T fun r T' es => (∃ b : Bool, r = .p (.bool b) /\ (b = true ↔ l = m)) /\ T' = T /\ es = [] := by
 refine CallA.wfs fun wf => ?_
 have wt := wf.t
 have ha := Es_vcs T l
 have hb := Es_vcs T m
 have hra := Sl.rules ha.sl (by decide)
 have hrb := Sl.rules hb.sl (by decide)
 have hla := ha.ld (P := prog) (t := 25) (by (simp -dsimp +decide only [vt2, vy, vz, vze, vy, vz, vze, vr, ty, en, ↓reduceIte, Nat.reduceSub, Nat.reduceAdd, Nat.reduceMul, Nat.reduceLT, Int.reduceAdd, Int.reduceSub, Int.reduceToNat, ci])) (by (simp -dsimp +decide only [vt2, vy, vz, vze, vy, vz, vze, vr, ty, en, ↓reduceIte, Nat.reduceSub, Nat.reduceAdd, Nat.reduceMul, Nat.reduceLT, Int.reduceAdd, Int.reduceSub, Int.reduceToNat, ci])) (by decide)
 have hlb := hb.ld (P := prog) (t := 25) (by (simp -dsimp +decide only [vt2, vy, vz, vze, vy, vz, vze, vr, ty, en, ↓reduceIte, Nat.reduceSub, Nat.reduceAdd, Nat.reduceMul, Nat.reduceLT, Int.reduceAdd, Int.reduceSub, Int.reduceToNat, ci])) (by (simp -dsimp +decide only [vt2, vy, vz, vze, vy, vz, vze, vr, ty, en, ↓reduceIte, Nat.reduceSub, Nat.reduceAdd, Nat.reduceMul, Nat.reduceLT, Int.reduceAdd, Int.reduceSub, Int.reduceToNat, ci])) (by decide)
 by_cases hlen : l.length = m.length
 . have hlen' : ((l.length : Int) = (m.length : Int)) = True := eq_true (by omega)
   refine CallA.eV 18 func27 ntmps27 results27 ?_
   simp -dsimp +decide only [vt2, vy, vz, vze, vy, vz, vze, vr, ty, en, ↓reduceIte, Nat.reduceSub, Nat.reduceAdd, Nat.reduceMul, Nat.reduceLT, Int.reduceAdd, Int.reduceSub, Int.reduceToNat, ci]
   simp -dsimp +decide (disch := omega) only [vt2, vy, vz, vze, vy, vz, vze, vr, ty, en, ↓reduceIte, Nat.reduceSub, Nat.reduceAdd, Nat.reduceMul, Nat.reduceLT, Int.reduceAdd, Int.reduceSub, Int.reduceToNat, ci, vi, getO_i, hlen']
   refine SemA.loopK T.length (fun i : Nat => [(0, .vs (vcsL l) l.length), (1, .vs (vcsL m) m.length), (2, .p (.func (.func 16) #[] #[])), (15, .vs (vcsL l) l.length), (16, wint (l.length : Int)), (17, wint (i : Int))]) (fun _ => T) (fun i => i <= l.length /\ l.take i = m.take i) (fun i => l.length - i) 0 [] 0 (fun _ : Unit => []) (fun _ => T) (fun _ => l = m) (by omega) ⟨by omega, by simp⟩ (by (simp -dsimp +decide (disch := omega) only [vt2, vy, vz, vze, vy, vz, vze, vr, ty, en, ↓reduceIte, Nat.reduceSub, Nat.reduceAdd, Nat.reduceMul, Nat.reduceLT, Int.reduceAdd, Int.reduceSub, Int.reduceToNat, ci, vi, getO_i]); first | rfl | done) rfl (by simp) ?_ ?_
   . rintro i g ⟨hi, he⟩
     refine SemA.o ?_
     by_cases hlt : i < l.length
     . have hlt' : ((i : Int) < (l.length : Int)) = True := eq_true (by omega)
       obtain ⟨x, hx⟩ : ∃ x, l[i]? = some x := ⟨l[i]'(by omega), by simp⟩
       obtain ⟨y, hy⟩ : ∃ y, m[i]? = some y := ⟨m[i]'(by omega), by simp⟩
       have hatx : List.take 5 (List.drop (i * 5) (vcsL l)) = vcs x := by rw [vcsL_eq]; exact flat_at (fun x _ => vcs_len x) hx
       have haty : List.take 5 (List.drop (i * 5) (vcsL m)) = vcs y := by rw [vcsL_eq]; exact flat_at (fun x _ => vcs_len x) hy
       have hfl : (vcsL l).length = l.length * 5 := by rw [vcsL_eq]; exact flat_len fun x _ => vcs_len x
       have hfm : (vcsL m).length = m.length * 5 := by rw [vcsL_eq]; exact flat_len fun x _ => vcs_len x
       have hc := fun U => hs x (List.mem_of_getElem? hx) U y
       obtain ⟨k1, z1, s1, ks1, ns1⟩ := x
       obtain ⟨k2, z2, s2, ks2, ns2⟩ := y
       simp only [vcs, str] at hatx haty hc
       have hv1 : vcs (.mk k1 z1 s1 ks1 ns1) = [by8 k1, .p (.int .i64 z1), .p (.string (ba s1)), .vs (vcsL ks1) ks1.length, .vs (ns1.map str) ns1.length] := by rw [vcs]; rfl
       have hv2 : vcs (.mk k2 z2 s2 ks2 ns2) = [by8 k2, .p (.int .i64 z2), .p (.string (ba s2)), .vs (vcsL ks2) ks2.length, .vs (ns2.map str) ns2.length] := by rw [vcs]; rfl
       simp -dsimp +decide (disch := omega) only [vt2, vy, vz, vze, vy, vz, vze, vr, ty, en, ↓reduceIte, Nat.reduceSub, Nat.reduceAdd, Nat.reduceMul, Nat.reduceLT, Int.reduceAdd, Int.reduceSub, Int.reduceToNat, ci, vi, getO_i, vt, hra, hrb, hla, hlb, hx, hy, hlt', hv1, hv2, wr5, tk5]
       refine ⟨by omega, ⟨by omega, by omega⟩, ?_⟩
       refine (hc _).mono ?_
       rintro r T' es ⟨⟨b, rfl, hbb⟩, rfl, rfl⟩
       cases b with
       | false =>
         simp -dsimp +decide (disch := omega) only [vt2, vy, vz, vze, vy, vz, vze, vr, ty, en, ↓reduceIte, Nat.reduceSub, Nat.reduceAdd, Nat.reduceMul, Nat.reduceLT, Int.reduceAdd, Int.reduceSub, Int.reduceToNat, ci, vi, getO_i, vt]
         refine Vw.cut ⟨⟨false, rfl, ⟨fun h => (by cases h), fun h => ?_⟩⟩, rfl, rfl⟩
         subst h
         rw [hx] at hy
         have := hbb.2 (Option.some.inj hy)
         cases this
       | true =>
         have hxy := hbb.1 rfl
         simp -dsimp +decide (disch := omega) only [vt2, vy, vz, vze, vy, vz, vze, vr, ty, en, ↓reduceIte, Nat.reduceSub, Nat.reduceAdd, Nat.reduceMul, Nat.reduceLT, Int.reduceAdd, Int.reduceSub, Int.reduceToNat, ci, vi, getO_i, vt]
         exact ⟨i + 1, ⟨⟨by omega, by rw [List.take_add_one, List.take_add_one, hx, hy, he, hxy]⟩, by omega⟩, rfl, wt.2.1⟩
     . have hlt' : ((i : Int) < (l.length : Int)) = False := eq_false (by omega)
       rw [List.take_of_length_le (by omega), List.take_of_length_le (by omega)] at he
       simp -dsimp +decide (disch := omega) only [vt2, vy, vz, vze, vy, vz, vze, vr, ty, en, ↓reduceIte, Nat.reduceSub, Nat.reduceAdd, Nat.reduceMul, Nat.reduceLT, Int.reduceAdd, Int.reduceSub, Int.reduceToNat, ci, vi, getO_i, vt, hlt']
       exact ⟨(), he, wt.2.1⟩
   . rintro _ g tmp he
     simp -dsimp +decide (disch := omega) only [vt2, vy, vz, vze, vy, vz, vze, vr, ty, en, ↓reduceIte, Nat.reduceSub, Nat.reduceAdd, Nat.reduceMul, Nat.reduceLT, Int.reduceAdd, Int.reduceSub, Int.reduceToNat, ci, vi, getO_i, vt]
     exact Vw.done ⟨⟨true, rfl, ⟨fun _ => he, fun _ => rfl⟩⟩, rfl, rfl⟩
 . have hlen' : ((l.length : Int) = (m.length : Int)) = False := eq_false (by omega)
   refine CallA.eV 18 func27 ntmps27 results27 ?_
   simp -dsimp +decide only [vt2, vy, vz, vze, vy, vz, vze, vr, ty, en, ↓reduceIte, Nat.reduceSub, Nat.reduceAdd, Nat.reduceMul, Nat.reduceLT, Int.reduceAdd, Int.reduceSub, Int.reduceToNat, ci]
   simp -dsimp +decide (disch := omega) only [vt2, vy, vz, vze, vy, vz, vze, vr, ty, en, ↓reduceIte, Nat.reduceSub, Nat.reduceAdd, Nat.reduceMul, Nat.reduceLT, Int.reduceAdd, Int.reduceSub, Int.reduceToNat, ci, vi, getO_i, hlen']
   exact Vw.done ⟨⟨false, rfl, ⟨fun h => (by cases h), fun h => absurd (by rw [h]) hlen⟩⟩, rfl, rfl⟩
theorem same_step (a : JV) (ha : vsz a <= 1099511627776) (hs : ∀ x ∈ a.kids, SameOk x) : SameOk a := by
 intro T c
 obtain ⟨k1, z1, s1, ks1, ns1⟩ := a
 obtain ⟨k2, z2, s2, ks2, ns2⟩ := c
 have hv : vsz (.mk k1 z1 s1 ks1 ns1) = 1 + s1.length + (ns1.map fun x => 1 + x.length).sum + vszL ks1 := by rw [vsz]
 have hkl := vszL_len ks1
 have hnl := nsz_len ns1
 have hE := fun U => eqf_ok (T := U) (l := ks1) (m := ks2) (by omega) hs
 have hN := fun U => eqs_ok (T := U) (l := ns1) (m := ns2) (by omega)
 simp only [vcs, show ∀ l, str l = .p (.string (ba l)) from fun _ => rfl]
 have t1 : ((k1.toNat : Int) = (k2.toNat : Int)) = (k1 = k2) := propext ⟨fun h => UInt8.toNat_inj.1 (by omega), fun h => by rw [h]⟩
 have t3 : (ba s1 = ba s2) = (s1 = s2) := propext ba_inj
 by_cases e1 : k1 = k2
 . have e1' : (k1 = k2) = True := eq_true e1
   by_cases e2 : z1 = z2
   . have e2' : (z1 = z2) = True := eq_true e2
     by_cases e3 : s1 = s2
     . have e3' : (s1 = s2) = True := eq_true e3
       by_cases e4 : ns1 = ns2
       . have e4' : (ns1 = ns2) = True := eq_true e4
         refine CallA.eV 5 func16 ntmps16 results16 ?_
         simp -dsimp +decide only [vt2, vy, vz, vze, vy, vz, vze, vr, ty, en, ↓reduceIte, Nat.reduceSub, Nat.reduceAdd, Nat.reduceMul, Nat.reduceLT, Int.reduceAdd, Int.reduceSub, Int.reduceToNat, ci]
         simp -dsimp +decide (disch := omega) only [vt2, vy, vz, vze, vy, vz, vze, vr, ty, en, ↓reduceIte, Nat.reduceSub, Nat.reduceAdd, Nat.reduceMul, Nat.reduceLT, Int.reduceAdd, Int.reduceSub, Int.reduceToNat, ci, vi, getO_i, vt, t1, t3, e1', e2', e3', gn0, gn1, vstr]
         refine (hN _).det' ?_
         simp -dsimp +decide (disch := omega) only [vt2, vy, vz, vze, vy, vz, vze, vr, ty, en, ↓reduceIte, Nat.reduceSub, Nat.reduceAdd, Nat.reduceMul, Nat.reduceLT, Int.reduceAdd, Int.reduceSub, Int.reduceToNat, ci, vi, getO_i, vt, e4', gn0, gn1, vstr]
         refine (hE _).mono ?_
         rintro r T' es ⟨⟨b, rfl, hb⟩, rfl, rfl⟩
         simp -dsimp +decide (disch := omega) only [vt2, vy, vz, vze, vy, vz, vze, vr, ty, en, ↓reduceIte, Nat.reduceSub, Nat.reduceAdd, Nat.reduceMul, Nat.reduceLT, Int.reduceAdd, Int.reduceSub, Int.reduceToNat, ci, vi, getO_i, vt, gn0, gn1]
         refine Vw.cut ⟨⟨b, rfl, ?_⟩, rfl, rfl⟩
         rw [hb, e1, e2, e3, e4]
         exact ⟨fun h => by rw [h], fun h => by injection h⟩
       . have e4' : (ns1 = ns2) = False := eq_false e4
         refine CallA.eV 5 func16 ntmps16 results16 ?_
         simp -dsimp +decide only [vt2, vy, vz, vze, vy, vz, vze, vr, ty, en, ↓reduceIte, Nat.reduceSub, Nat.reduceAdd, Nat.reduceMul, Nat.reduceLT, Int.reduceAdd, Int.reduceSub, Int.reduceToNat, ci]
         simp -dsimp +decide (disch := omega) only [vt2, vy, vz, vze, vy, vz, vze, vr, ty, en, ↓reduceIte, Nat.reduceSub, Nat.reduceAdd, Nat.reduceMul, Nat.reduceLT, Int.reduceAdd, Int.reduceSub, Int.reduceToNat, ci, vi, getO_i, vt, t1, t3, e1', e2', e3', gn0, gn1, vstr]
         refine (hN _).det' ?_
         simp -dsimp +decide (disch := omega) only [vt2, vy, vz, vze, vy, vz, vze, vr, ty, en, ↓reduceIte, Nat.reduceSub, Nat.reduceAdd, Nat.reduceMul, Nat.reduceLT, Int.reduceAdd, Int.reduceSub, Int.reduceToNat, ci, vi, getO_i, vt, e4', gn0, gn1, vstr]
         exact Vw.cut ⟨⟨false, rfl, ⟨fun h => (by cases h), fun h => absurd (by injection h) e4⟩⟩, rfl, rfl⟩
     . have e3' : (s1 = s2) = False := eq_false e3
       refine CallA.eV 5 func16 ntmps16 results16 ?_
       simp -dsimp +decide only [vt2, vy, vz, vze, vy, vz, vze, vr, ty, en, ↓reduceIte, Nat.reduceSub, Nat.reduceAdd, Nat.reduceMul, Nat.reduceLT, Int.reduceAdd, Int.reduceSub, Int.reduceToNat, ci]
       simp -dsimp +decide (disch := omega) only [vt2, vy, vz, vze, vy, vz, vze, vr, ty, en, ↓reduceIte, Nat.reduceSub, Nat.reduceAdd, Nat.reduceMul, Nat.reduceLT, Int.reduceAdd, Int.reduceSub, Int.reduceToNat, ci, vi, getO_i, vt, t1, t3, e1', e2', e3', gn0, gn1, vstr]
       exact Vw.cut ⟨⟨false, rfl, ⟨fun h => (by cases h), fun h => absurd (by injection h) e3⟩⟩, rfl, rfl⟩
   . have e2' : (z1 = z2) = False := eq_false e2
     refine CallA.eV 5 func16 ntmps16 results16 ?_
     simp -dsimp +decide only [vt2, vy, vz, vze, vy, vz, vze, vr, ty, en, ↓reduceIte, Nat.reduceSub, Nat.reduceAdd, Nat.reduceMul, Nat.reduceLT, Int.reduceAdd, Int.reduceSub, Int.reduceToNat, ci]
     simp -dsimp +decide (disch := omega) only [vt2, vy, vz, vze, vy, vz, vze, vr, ty, en, ↓reduceIte, Nat.reduceSub, Nat.reduceAdd, Nat.reduceMul, Nat.reduceLT, Int.reduceAdd, Int.reduceSub, Int.reduceToNat, ci, vi, getO_i, vt, t1, t3, e1', e2', gn0, gn1, vstr]
     exact Vw.cut ⟨⟨false, rfl, ⟨fun h => (by cases h), fun h => absurd (by injection h) e2⟩⟩, rfl, rfl⟩
 . have e1' : (k1 = k2) = False := eq_false e1
   refine CallA.eV 5 func16 ntmps16 results16 ?_
   simp -dsimp +decide only [vt2, vy, vz, vze, vy, vz, vze, vr, ty, en, ↓reduceIte, Nat.reduceSub, Nat.reduceAdd, Nat.reduceMul, Nat.reduceLT, Int.reduceAdd, Int.reduceSub, Int.reduceToNat, ci]
   simp -dsimp +decide (disch := omega) only [vt2, vy, vz, vze, vy, vz, vze, vr, ty, en, ↓reduceIte, Nat.reduceSub, Nat.reduceAdd, Nat.reduceMul, Nat.reduceLT, Int.reduceAdd, Int.reduceSub, Int.reduceToNat, ci, vi, getO_i, vt, t1, t3, e1', gn0, gn1, vstr]
   exact Vw.cut ⟨⟨false, rfl, ⟨fun h => (by cases h), fun h => absurd (by injection h) e1⟩⟩, rfl, rfl⟩
theorem same_all : ∀ (N : Nat) (a : JV), vsz a <= N -> N <= 1099511627776 -> SameOk a
 | 0, a, h, _ => absurd h (by rw [vsz_eq]; omega)
 | N + 1, a, h, hN => same_step a (by omega) fun x hx => same_all N x (by have := vszL_mem hx; rw [vsz_eq] at h; omega) (by omega)
theorem same_ok {T : Tbl} {a c : JV} (h : vsz a <= 1099511627776) : CallA prog G 16 [.ag (vcs a), .ag (vcs c)] T fun r T' es => (∃ b : Bool, r = .p (.bool b) /\ (b = true ↔ a = c)) /\ T' = T /\ es = [] := same_all _ a h (Nat.le_refl _) T c
end Go.Proofs.YtglpcedoongagaaGreatDoor
namespace Go.E
def keepsE (cs : List AV) (E : Eff) : Prop := ∀ a ∈ cs, ∀ j o, a = AV.ptr j o -> (j, true) ∉ E
theorem keep_rel {Z Z' : Heap} {ρ ρ' : List BI} {T T' : Tbl} {w w' : World} {E : Eff} {cs : List AV} {vs : List Value} (hp : ∀ a ∈ cs, ∃ j o, a = AV.ptr j o) (h : RelL Z ρ cs vs) (hx : Ext Z ρ T w Z' ρ' T' w' E) (hk : keepsE cs E) : RelL Z' ρ' cs vs := by
 refine ⟨h.1, fun k a v ha hv => ?_⟩
 have hm := List.mem_of_getElem? ha
 obtain ⟨j, o, rfl⟩ := hp a hm
 have hr := h.2 k _ v ha hv
 cases hr with
 | ptr h1 h2 => exact .ptr (hx.place _ _ h1 (hk _ hm _ _ rfl)) h2
section
variable {P : Program} {G : Nat -> AV} {T : Tbl} {K : AV -> Tbl -> Eff -> Prop}
theorem CallA.enterD (mp : Nat -> Bool) {f g : FuncId} {fn : Func} {c0 x c2 : Code} {id td : Nat} {ops : Array Oper} {o1 o2 : Oper} {capo : Array Operand} {ts : Array TypeId} {args : List AV} {m : Nat} {rs : List ResultVar} (C : List AV -> AV -> Tbl -> Tbl -> Eff -> Prop) (n : Nat)
 (hf : P.funcs[f]? = some fn) (hm : fn.ntmps = m) (hrs : fn.results.toList = rs) (hb : fn.body = some (.seq c0 (.seq x (.seq (.region id ops false) c2)))) (hn : args.length <= n /\ n <= m) (hok0 : codeOK m c0 = true) (hokx : codeOK m x = true) (hok2 : codeOK m c2 = true) (hr : rsLt n rs = true)
 (hops : ops = #[o1, o2]) (h1 : o1.op = .makeFunc (.func g) #[] capo) (h1g : o1.guard = none) (h1d : o1.dst = some td) (h2 : o2.op = .defer ⟨.value (.tmp td), #[], ts⟩) (h2g : o2.guard = none) (h2d : o2.dst = none) (htd : n <= td /\ td < m) (hent : entered P g = true)
 (hret : ∀ (vs : List Value) (w : World), vs.length = capo.size -> CallsDIn Fence.wide 0 P g vs.toArray .returning w fun e u' w' => (∃ r, e = .returned r) /\ u' = .returning /\ w' = w)
 (hpan : ∀ (Z : Heap) (ρ : List BI) (T T3 : Tbl) (w : World) (vs : List Value) (cs : List AV) (a : AV) (v : Value) (ES : Eff), GOK G Z -> St Z ρ T w -> RelL Z ρ cs vs -> Rel Z ρ a v -> C cs a T T3 ES ->
  CallsDIn Fence.wide 0 P g vs.toArray (.panicking [pe v]) w fun e u' w' => (∃ r, e = .returned r) /\ u' = .panicking [{ v := v, recovered := true }] /\ ∃ Z' ρ', St Z' ρ' T3 w' /\ Ext Z ρ T w Z' ρ' T3 w' ES)
 (h : codeB P ⟨G, mp, fun _ _ _ _ => False, []⟩ T.length none n m c0 [] (args ++ List.replicate (n - args.length) (.p undef)) [] T [] (fun ds loc tmp Tx Ex => codeB P ⟨G, mp, fun _ _ _ _ => False, []⟩ T.length none n m x ds loc tmp Tx Ex
  (fun ds loc tmp T1 E1 => ds = [] /\ (∀ a ∈ capo.toList.map (evA G n loc tmp), ∃ j o, a = AV.ptr j o) /\ ∀ d, codeB P ⟨G, mp, fun loc' a T2 E2 => keepsE (capo.toList.map (evA G n loc tmp)) E2 /\ ∃ T3 ES, C (capo.toList.map (evA G n loc tmp)) a T2 T3 ES /\ retA P rs (Vw G T K) [] (slots ES loc') [] T3 (recE T.length ES (recE T.length E2 E1)), [d]⟩ T1.length none n m c2 [] loc [] T1 []
   (fun ds' loc' tmp' T2 E2 => ds' = [] /\ keepsE (capo.toList.map (evA G n loc tmp)) E2 /\ retA P rs (Vw G T K) [] loc' tmp' T2 (recE T.length E2 E1)) (fun _ _ _ _ _ _ => False)
   (fun ds' loc' tmp' T2 E2 => ds' = [] /\ keepsE (capo.toList.map (evA G n loc tmp)) E2 /\ retA P rs (Vw G T K) [] loc' tmp' T2 (recE T.length E2 E1))) (fun _ _ _ _ _ _ => False) (retA P rs (Vw G T K))) (fun _ _ _ _ _ _ => False) (retA P rs (Vw G T K))) : CallA P G f args T K := by
 subst hm; subst hrs; subst hops
 intro Z ρ w vs hG hs ha
 have hl := ha.1
 refine callsIn_wide (n := 0).1 (callsIn_of_wp_marks hf hb trivial ?_)
 have seen : ∀ {x : Value} {w' : World}, Post Z ρ T w (fun v T' E' => Vw G T K v T' E') x w' -> Post Z ρ T w K x w' := by
  rintro x w' ⟨Z', ρ', T', es, a, h1, h2, h3, h4⟩
  exact h4 Z ρ w Z' ρ' w' _ hs ⟨hG.mono h2.le, h1, h2⟩ h3
 have fin : ∀ {Z1 : Heap} {ρ1 : List BI} {T1 : Tbl} {w1 : World} {E1 : Eff} {loc : List AV} {tmp : List (Nat × AV)} {lv : List Value}, Frm G Z ρ T w Z1 ρ1 T1 w1 E1 -> RelL Z1 ρ1 loc lv -> retA P fn.results.toList (Vw G T K) [] loc tmp T1 E1 -> ResP P fn n (Post Z ρ T w K) [] lv w1 := by
  intro Z1 ρ1 T1 w1 E1 loc tmp lv g1 g2 g3
  exact ResP.mono (fun _ _ h => seen h) _ _ _ (retA_sound (dv := []) g1 .nil g2 hr g3)
 have early : ∀ {dv : List Nat} {lv : List Value} {tv : List (Nat × Value)} {w' : World} {a : Act}, FitsD [] n fn.ntmps dv lv tv a -> LK G Z ρ T w (retA P fn.results.toList (Vw G T K)) dv lv tv w' -> LeavesInM Fence.wide 0 P fn a.tmps (fun e w' => ∃ v, e = .returned v /\ Post Z ρ T w K v w') a.defers .returning w' := by
  rintro dv lv tv w' a hfa ⟨Z1, ρ1, T1, E1, ds1, loc1, tmp1, g1, g2, g3, g4, g5⟩
  obtain ⟨base, _, _, h3, _⟩ := hfa.base
  rw [hfa.defers, List.append_nil]
  exact (ResP.mono (fun _ _ h => seen h) _ _ _ (retA_sound g1 g2 g3 hr g5)).leaves _ _ _ h3
 have hsz : vs.toArray.size <= n := by simp; omega
 have hfit0 : FitsD [] n fn.ntmps [] (vs ++ List.replicate (n - vs.length) undef) [] { tmps := vs.toArray ++ Array.replicate (fn.ntmps - vs.toArray.size) undef, defers := [] } := by
  refine ⟨⟨fun _ => undef, by simp; omega, by simp; omega, fun t ht => ?_, fun t ht => ?_⟩, by simp; omega, rfl⟩
  . simp only [Array.getD_eq_getD_getElem?, List.getD_eq_getElem?_getD]
    by_cases h1 : t < vs.length
    . rw [Array.getElem?_append_left (by simpa using h1), List.getElem?_append_left h1]; simp
    . rw [Array.getElem?_append_right (by simp; omega), List.getElem?_append_right (by omega)]
      simp only [Array.getElem?_replicate, List.getElem?_replicate, List.size_toArray]
      rw [if_pos (by omega), if_pos (by omega)]
  . simp only [Array.getD_eq_getD_getElem?, lk]
    rw [Array.getElem?_append_right (by simp; omega), Array.getElem?_replicate]
    split <;> rfl
 have hrep : RelL Z ρ (args ++ List.replicate (n - args.length) (.p undef)) (vs ++ List.replicate (n - vs.length) undef) :=
  ha.append (by rw [hl]; have := RelL.ps (Z := Z) (ρ := ρ) (List.replicate (n - vs.length) undef); rwa [List.map_replicate] at this)
 have hsem0 := codeB_sound c0 _ _ _ _ _ _ _ _ h hok0 Z ρ T w Z ρ w [] _ [] hs.len ⟨hG, hs, Ext.refl rfl⟩ ⟨.nil, hrep, .nil⟩
 refine wpIn_seq (hsem0 _ hfit0 _ fun e dv lv tv w1 a1 hfa hq => ?_)
 cases e with
 | exit i => obtain ⟨_, _, _, _, _, _, _, _, _, _, _, g5⟩ := hq; exact g5.elim
 | ret => exact early hfa hq
 | panic c => obtain ⟨_, _, _, _, _, _, _, _, _, _, _, _, g5⟩ := hq; exact g5.elim
 | normal =>
   obtain ⟨Z1, ρ1, T1, E1, ds1, loc1, tmp1, g1, g2, g3, g4, hx⟩ := hq
   have hsemx := codeB_sound x _ _ _ _ _ _ _ _ hx hokx Z ρ T w Z1 ρ1 w1 dv lv tv hs.len g1 ⟨g2, g3, g4⟩
   refine wpIn_seq (hsemx _ hfa _ fun e dv lv tv w2 a2 hfa hq => ?_)
   cases e with
   | exit i => obtain ⟨_, _, _, _, _, _, _, _, _, _, _, g5⟩ := hq; exact g5.elim
   | ret => exact early hfa hq
   | panic c => obtain ⟨_, _, _, _, _, _, _, _, _, _, _, _, g5⟩ := hq; exact g5.elim
   | normal =>
     obtain ⟨Z2, ρ2, T2, E2, ds2, loc2, tmp2, g1, g2, g3, g4, rfl, hptr, hall⟩ := hq
     have hdv : dv = [] := by have := g2.unnil; simpa using this
     subst hdv
     obtain ⟨base, hag⟩ := hfa.base
     have hcaps : RelL Z2 ρ2 (capo.toList.map (evA G n loc2 tmp2)) (capo.toList.map a2.eval) := by
      rw [hag.ev]
      exact ⟨by simp, fun k y z hy hz => by
       rw [List.getElem?_map] at hy hz
       cases hk : capo.toList[k]? with
       | none => rw [hk] at hy; cases hy
       | some o => rw [hk] at hy hz; cases hy; cases hz; exact evA_rel g1.g g3 g4 o⟩
     generalize hcs : capo.toList.map (evA G n loc2 tmp2) = cs at hall hcaps hptr
     generalize hcv : capo.toList.map a2.eval = cv at hcaps
     have hcv' : capo.map a2.eval = cv.toArray := by rw [<- hcv, <- Array.toList_map]
     have hdd : a2.defers = [] := by rw [hfa.defers]; rfl
     obtain ⟨d, hd⟩ : ∃ d : Deferred, d = { target := .fn (.func g) cv.toArray, args := #[] } := ⟨_, rfl⟩
     refine wpIn_seq (wpIn_region_list ?_)
     have w1 : ∀ (o : Oper) (a : Act), o.guard = none -> Region.wanted o (yielded #[o1, o2] a.tmps) = true := fun o a h => by simp [Region.wanted, h]
     show wpListIn _ 0 P #[o1, o2] _ [o1, o2] a2 w2
     unfold wpListIn
     rw [if_pos (w1 o1 a2 h1g)]
     refine ⟨fun _ _ => trivial, ?_⟩
     have e1 : (Oper.semAt Fence.wide.round a2.eval o1).run P w2 = .ok (.value (.func (.func g) #[] cv.toArray)) w2 := by
      show (execOp a2.eval o1).run P w2 = _
      simp [execOp, h1, Instr.makeFunc, hcv']
     rw [e1, Oper.uponIn_value]
     obtain ⟨l3, t3, hag3, rfl, hlk⟩ := hag.put (d := o1.dst) (fun t ht => by rw [h1d] at ht; cases ht; rw [hfa.size]; exact htd.2) (.func (.func g) #[] cv.toArray) (K := fun l t => l = lv /\ lk base t td = .func (.func g) #[] cv.toArray) (by rw [h1d]; unfold putK; show (if td < n then _ else _); rw [if_neg (by omega)]; exact ⟨rfl, by simp [lk]⟩)
     unfold wpListIn
     rw [if_pos (w1 o2 _ h2g)]
     refine ⟨fun _ _ => trivial, ?_⟩
     have e2 : (a2.put o1.dst (.func (.func g) #[] cv.toArray)).eval (.tmp td) = .func (.func g) #[] cv.toArray := by
      rw [hag3.ev]
      show (if td < n then _ else _) = _
      rw [if_neg (by omega)]
      exact hlk
     have e3 : (Oper.semAt Fence.wide.round (a2.put o1.dst (.func (.func g) #[] cv.toArray)).eval o2).run P w2 = .ok (.defer d) w2 := by
      show (execOp _ o2).run P w2 = _
      simp [execOp, h2, resolve, e2, Deferred.ofValue, hd]
     rw [e3, Oper.uponIn_defer]
     rw [h2d]
     have hfit3 : FitsD [d] n fn.ntmps [] l3 t3 ({ (a2.put o1.dst (.func (.func g) #[] cv.toArray)) with defers := d :: (a2.put o1.dst (.func (.func g) #[] cv.toArray)).defers }.put none undef) := by
      refine ⟨⟨base, hag3⟩, ?_, ?_⟩
      . rw [h1d]; simp [Act.put, hfa.size]
      . rw [h1d]; simp [Act.put, hdd]
     show (Code.wpIn Fence.wide 0 P c2 (bodyPostM Fence.wide 0 P fn fun e w' => ∃ v, e = Ending.returned v /\ Post Z ρ T w K v w')) _ w2
     have hc2 := hall d
     have hsem2 := codeB_sound c2 _ _ _ _ _ _ _ _ hc2 hok2 Z2 ρ2 T2 w2 Z2 ρ2 w2 [] l3 [] g1.st.len ⟨g1.g, g1.st, Ext.refl rfl⟩ ⟨.nil, g3, .nil⟩
     have hinv : ∀ wX : World, (invoke d.target d.args).run P wX = .ok (.enter g cv.toArray) wX := by
      intro wX
      have hcall : (callFunc g cv.toArray).run P wX = .ok (.enter g cv.toArray) wX := by
       have he := hent
       unfold entered at he
       cases hf : P.funcs[g]? with
       | none => rw [hf] at he; cases he
       | some fn =>
         rw [hf] at he
         simp only [Bool.and_eq_true, bne_iff_ne, ne_eq] at he
         obtain ⟨h1, h2⟩ := he
         have h3 : ¬ fn.body = none := by intro hb; rw [hb] at h2; cases h2
         simp [callFunc, hf, h1, h3]
      rw [hd]
      have e : invoke (.fn (.func g) cv.toArray) #[] = callFunc g (#[] ++ cv.toArray) := rfl
      rw [e]
      simpa using hcall
     refine (SemZ.cleared hsem2) _ hfit3 _ fun e dv lv tv w3 a3 hfa3 hq => ?_
     have done : ∀ {Z3 : Heap} {ρ3 : List BI} {T3 : Tbl} {w3 : World} {E3 : Eff} {loc : List AV} {tmp : List (Nat × AV)} {lv : List Value} {tmps : Array Value}, (∀ t, t < n -> tmps.getD t undef = lv.getD t undef) -> Frm G Z ρ T w Z3 ρ3 T3 w3 E3 -> RelL Z3 ρ3 loc lv -> retA P fn.results.toList (Vw G T K) [] loc tmp T3 E3 -> LeavesInM Fence.wide 0 P fn tmps (fun e w' => ∃ v, e = .returned v /\ Post Z ρ T w K v w') [] .returning w3 := by
      intro Z3 ρ3 T3 w3 E3 loc tmp lv tmps ht k1 k2 k3
      exact (fin k1 k2 k3).leaves [] lv w3 ht
     have hrt : ∀ {dv : List Nat} {lv : List Value} {tv : List (Nat × Value)} {w3 : World} {a3 : Act}, FitsD [d] n fn.ntmps dv lv tv a3 -> LK G Z2 ρ2 T2 w2 (fun ds' loc' tmp' T2 E2' => ds' = [] /\ keepsE cs E2' /\ retA P fn.results.toList (Vw G T K) [] loc' tmp' T2 (recE T.length E2' E2)) dv lv tv w3 -> LeavesInM Fence.wide 0 P fn a3.tmps (fun e w' => ∃ v, e = .returned v /\ Post Z ρ T w K v w') a3.defers .returning w3 := by
      rintro dv lv tv w3 a3 hfa3 ⟨Z3, ρ3, T3, E3, ds3, loc3, tmp3, k1, k2, k3, k4, rfl, hkp, hrA⟩
      have hdv : dv = [] := by have := k2.unnil; simpa using this
      subst hdv
      obtain ⟨_, _, _, ht, _⟩ := hfa3.base
      rw [hfa3.defers]
      refine ⟨by simp, .inr ⟨(fun h => by cases h), .func g, cv.toArray, g, cv.toArray, by rw [hd], hinv _, fun _ _ => trivial, ?_⟩⟩
      refine (hret cv w3 (by rw [<- hcv, List.length_map]; rfl)).mono ?_
      rintro e u' w' ⟨⟨r, rfl⟩, rfl, rfl⟩
      have hf3 := g1.step k1.st k1.ext
      rw [hs.len] at hf3
      exact done ht hf3 k3 hrA
     cases e with
     | normal => exact hrt hfa3 hq
     | ret => exact hrt hfa3 hq
     | exit i => obtain ⟨_, _, _, _, _, _, _, _, _, _, _, g5⟩ := hq; exact g5.elim
     | panic c =>
       obtain ⟨v, rfl, rfl, Z3, ρ3, T3, E3, loc3, a, k1, k3, k4, hkp, T4, ES, hC, hrA⟩ := hq
       obtain ⟨_, _, _, ht, _⟩ := hfa3.base
       show LeavesInM _ _ _ _ _ _ a3.defers (.panicking [pe v]) w3
       rw [hfa3.defers]
       refine ⟨by simp, .inr ⟨(fun h => by cases h), .func g, cv.toArray, g, cv.toArray, by rw [hd], hinv _, fun _ _ => trivial, ?_⟩⟩
       refine (hpan Z3 ρ3 T3 T4 w3 cv cs a v ES k1.g k1.st (keep_rel hptr hcaps k1.ext hkp) k4 hC).mono ?_
       rintro e u' w' ⟨⟨r, rfl⟩, rfl, Z4, ρ4, hst, hext⟩
       have hf3 := (g1.step k1.st k1.ext).step hst hext
       rw [hs.len] at hf3
       have hat : At Z3 ρ3 [] loc3 [] [] lv [] := ⟨.nil, k3, .nil⟩
       exact done ht hf3 (hat.step hext).loc hrA
     | _ => exact hq.elim
   | _ => exact hq.elim
 | _ => exact hq.elim
end
end Go.E
namespace Go.Proofs.YtglpcedoongagaaGreatDoor
open Go.E Go.Proofs.YtglpcedoongagaaGreatDoor.Tryz Go.Proofs.Tryz Go.J
theorem as_nil (w : World) : (Instr.typeAssert .nilIface 20 30 true).run prog w = .ok (.tuple #[.int .i64 0, .bool false]) w := by kernel_rfl
theorem as_eno (x : Value) (w : World) : (Instr.typeAssert (.iface 30 x) 20 30 true).run prog w = .ok (.tuple #[x, .bool true]) w := by kernel_rfl
theorem ex0 (P : Program) (a b : Value) (w : World) : (Instr.extract (.tuple #[a, b]) 0).run P w = .ok a w := rfl
theorem ex1 (P : Program) (a b : Value) (w : World) : (Instr.extract (.tuple #[a, b]) 1).run P w = .ok b w := rfl
theorem clo_ret (vs : List Value) (w : World) (h : vs.length = 2) : CallsDIn Fence.wide 0 prog 28 vs.toArray .returning w fun e u' w' => (∃ r, e = .returned r) /\ u' = .returning /\ w' = w := by
 obtain ⟨x, y, rfl⟩ : ∃ x y, vs = [x, y] := by
  match vs, h with
  | [x, y], _ => exact ⟨x, y, rfl⟩
 refine callsDIn_of_wpSIn func28 rfl trivial fun c₀ cs hu => ?_
 refine wpSIn_seq (wpSIn_region ?_)
 have hrec : recoverD (c₀ :: cs) = none := by simp [recoverD, hu]
 simp [wpOpsSIn, List.range_succ, execOp, resolve, invoke, builtin, hrec, Region.wanted, as_nil, ex0, ex1, Act.put, Act.eval, Oper.about]
 refine ⟨fun _ _ => trivial, ?_⟩
 show Code.wpSIn _ 0 _ _ _ _ _ _
 refine wpSIn_seq (wpSIn_region ?_)
 simp [wpOpsSIn, List.range_succ, execOp, Region.wanted, Act.put, Act.eval, Oper.about]
 show Code.wpSIn _ 0 _ _ _ _ _ _
 refine wpSIn_cond (t := false) (by simp [Act.eval]) ?_
 refine wpSIn_of_wpIn rfl (wpIn_skip ?_)
 refine ⟨rfl, .returning, ?_, .tuple #[], ?_, ⟨_, rfl⟩, rfl, rfl⟩
 . rw [<- hu]
 . simp [results, results28]
def zc : List AV := [.p (.int .u8 0), .p (.int .i64 0), .p (.string ByteArray.empty), .p (.slice none 0 0), .p (.slice none 0 0)]
def CloP (cs : List AV) (a : AV) (T T3 : Tbl) (ES : Eff) : Prop := ∃ (j1 j2 : Nat) (c1 : List AV) (x : AV) (e : Int), cs = [.ptr j1 0, .ptr j2 0] /\ a = eno e /\ T[j1]? = some (.cells 25 c1) /\ c1.length = 5 /\ T[j2]? = some (.cells 30 [x]) /\ j1 ≠ j2 /\
 T3 = (T.set j1 (.cells 25 zc)).set j2 (.cells 30 [.p (.int .i64 e)]) /\ ES = [(j1, false), (j2, false)]
theorem clo_pan (Z : Heap) (ρ : List BI) (T T3 : Tbl) (w : World) (vs : List Value) (cs : List AV) (a : AV) (v : Value) (ES : Eff) (hG : GOK G Z) (hs : St Z ρ T w) (hc : RelL Z ρ cs vs) (ha : Rel Z ρ a v) (hC : CloP cs a T T3 ES) :
 CallsDIn Fence.wide 0 prog 28 vs.toArray (.panicking [pe v]) w fun e u' w' => (∃ r, e = .returned r) /\ u' = .panicking [{ v := v, recovered := true }] /\ ∃ Z' ρ', St Z' ρ' T3 w' /\ Ext Z ρ T w Z' ρ' T3 w' ES := by
 obtain ⟨j1, j2, c1, x, e, rfl, rfl, hj1, hc1, hj2, hne, rfl, rfl⟩ := hC
 obtain ⟨x1, us, rfl, r1, hc⟩ := hc.uncons
 obtain ⟨x2, us, rfl, r2, hc⟩ := hc.uncons
 obtain rfl := hc.unnil
 obtain ⟨y, rfl⟩ : ∃ y, v = .iface 30 y := by cases ha with | ic h => exact ⟨_, rfl⟩
 obtain rfl : y = .int .i64 e := by cases ha with | ic h => exact h.p_inv
 refine callsDIn_of_wpSIn func28 rfl trivial fun c₀ cs hu => ?_
 refine wpSIn_seq (wpSIn_region ?_)
 have hrec : recoverD (c₀ :: cs) = some (.iface 30 (.int .i64 e), { c₀ with mode := .panicking [{ v := .iface 30 (.int .i64 e), recovered := true }] } :: cs) := by simp [recoverD, hu, pe]
 simp [wpOpsSIn, List.range_succ, execOp, resolve, invoke, builtin, hrec, Region.wanted, as_eno, ex0, ex1, Act.put, Act.eval, Oper.about]
 refine ⟨fun _ _ => trivial, ?_⟩
 show Code.wpSIn _ 0 _ _ _ _ _ _
 refine wpSIn_seq (wpSIn_region ?_)
 simp [wpOpsSIn, List.range_succ, execOp, Region.wanted, Act.put, Act.eval, Oper.about]
 show Code.wpSIn _ 0 _ _ _ _ _ _
 refine wpSIn_cond (t := true) (by simp [Act.eval]) ?_
 refine wpSIn_of_wpIn rfl ?_
 rw [if_pos rfl]
 have key : ∀ (c : Code) (Q : Exit -> Act -> World -> Prop) (a0 : Act) (z4 z5 z6 z7 z8 z9 z10 z11 : Value), Fits' 12 12 [] [x1, x2, .int .i64 e, .bool true, z4, z5, z6, z7, z8, z9, z10, z11] [] a0 -> (∀ a' w', a'.defers = [] -> (∃ Z' ρ', St Z' ρ' ((T.set j1 (.cells 25 zc)).set j2 (.cells 30 [.p (.int .i64 e)])) w' /\ Ext Z ρ T w Z' ρ' ((T.set j1 (.cells 25 zc)).set j2 (.cells 30 [.p (.int .i64 e)])) w' [(j1, false), (j2, false)]) -> Q .normal a' w') ->
  SemA prog G T.length none 12 12 c [] [.ptr j1 0, .ptr j2 0, .p (.int .i64 e), .p (.bool true), .any, .any, .any, .any, .any, .any, .any, .any] [] T [] (fun ds _ _ T' E' => ds = [] /\ T' = (T.set j1 (.cells 25 zc)).set j2 (.cells 30 [.p (.int .i64 e)]) /\ ∀ x ∈ E', x ∈ [(j1, false), (j2, false)]) (fun _ _ _ _ _ _ => False) (fun _ _ _ _ _ => False) ->
  c.wpIn Fence.wide 0 prog Q a0 w := by
  intro c Q a0 z4 z5 z6 z7 z8 z9 z10 z11 hfit hQ hc
  have hloc : RelL Z ρ [.ptr j1 0, .ptr j2 0, .p (.int .i64 e), .p (.bool true), .any, .any, .any, .any, .any, .any, .any, .any] [x1, x2, .int .i64 e, .bool true, z4, z5, z6, z7, z8, z9, z10, z11] := by
   refine ⟨rfl, fun k y z hy hz => ?_⟩
   match k with
   | 0 => cases hy; cases hz; exact r1
   | 1 => cases hy; cases hz; exact r2
   | 2 => cases hy; cases hz; exact .p _
   | 3 => cases hy; cases hz; exact .p _
   | 4 => cases hy; cases hz; exact .any _
   | 5 => cases hy; cases hz; exact .any _
   | 6 => cases hy; cases hz; exact .any _
   | 7 => cases hy; cases hz; exact .any _
   | 8 => cases hy; cases hz; exact .any _
   | 9 => cases hy; cases hz; exact .any _
   | 10 => cases hy; cases hz; exact .any _
   | 11 => cases hy; cases hz; exact .any _
   | k + 12 => cases hy
  refine hc Z ρ T w Z ρ w [] _ [] hs.len ⟨hG, hs, Ext.refl rfl⟩ ⟨.nil, hloc, .nil⟩ a0 hfit _ fun e' dv lv tv w' a' hfa hq => ?_
  cases e' with
  | normal =>
    obtain ⟨Z3, ρ3, T3, E3, ds3, loc3, tmp3, k1, k2, k3, k4, rfl, rfl, hE⟩ := hq
    have hdv : dv = [] := by have := k2.unnil; simpa using this
    subst hdv
    exact hQ _ _ hfa.defers ⟨Z3, ρ3, k1.st, k1.ext.more fun x hx _ => hE x hx⟩
  | ret => obtain ⟨_, _, _, _, _, _, _, _, _, _, _, g5⟩ := hq; exact g5.elim
  | exit i => obtain ⟨_, _, _, _, _, _, _, _, _, _, _, g5⟩ := hq; exact g5.elim
  | _ => exact hq.elim
 refine key _ _ _ (.tuple #[.int .i64 e, .bool true]) (.iface 30 (.int .i64 e)) (.tuple #[.int .i64 e, .bool true]) (.int .i64 e) (.bool true) (.bool true) undef undef ?_ ?_ (SemA.o ?_)
 . refine ⟨⟨fun _ => undef, rfl, by simp, fun t ht => ?_, fun t ht => ?_⟩, by simp, rfl⟩
   . rcases (show t = 0 ∨ t = 1 ∨ t = 2 ∨ t = 3 ∨ t = 4 ∨ t = 5 ∨ t = 6 ∨ t = 7 ∨ t = 8 ∨ t = 9 ∨ t = 10 ∨ t = 11 by omega) with rfl | rfl | rfl | rfl | rfl | rfl | rfl | rfl | rfl | rfl | rfl | rfl <;>
      simp [Array.getD_eq_getD_getElem?, Array.getElem?_append, Array.getElem?_setIfInBounds]
   . simp only [Array.getD_eq_getD_getElem?, lk]
     rw [Array.getElem?_eq_none (by simp; omega)]
     rfl
 . intro a' w' hd hx
   refine ⟨hd, _, rfl, .tuple #[], ?_, ⟨_, rfl⟩, rfl, hx⟩
   simp [results, results28]
 . have hj1l := (List.getElem?_eq_some_iff.1 hj1).1
   have hj2l := (List.getElem?_eq_some_iff.1 hj2).1
   obtain ⟨b0, b1, b2, b3, b4, rfl⟩ : ∃ b0 b1 b2 b3 b4, c1 = [b0, b1, b2, b3, b4] := by
    match c1, hc1 with
    | [b0, b1, b2, b3, b4], _ => exact ⟨b0, b1, b2, b3, b4, rfl⟩
   have hj2' : ∀ o : AObj, (T.set j1 o)[j2]? = some (.cells 30 [x]) := fun o => by rw [List.getElem?_set_ne hne]; exact hj2
   simp -dsimp +decide (disch := omega) only [vr, ty, en, ↓reduceIte, Nat.reduceSub, Nat.reduceAdd, Nat.reduceMul, Nat.reduceLT, Int.reduceAdd, Int.reduceSub, Int.reduceToNat, ci, vi, getO_i, vt, hj1, hj2', wr5]
   refine ⟨rfl, fun z hz => ?_⟩
   unfold rec1 at hz
   simp only [hj1l, hj2l, if_true, List.mem_cons, List.not_mem_nil, or_false] at hz ⊢
   rcases hz with h | h <;> simp [h]
end Go.Proofs.YtglpcedoongagaaGreatDoor
namespace Go.Proofs.YtglpcedoongagaaGreatDoor
open Go.E Go.Proofs.YtglpcedoongagaaGreatDoor.Tryz Go.Proofs.Tryz Go.J
def parsV (l : B) (r : Except Int JV) : AV := match r with
 | .ok u => .tu [.ag (vcs u), .p (.int .i64 0)]
 | .error e => .tu [.ag (vcs vNull), .p (.int .i64 e)]
theorem sn0 (T : Tbl) (A o : AObj) (l : Tbl) : (T ++ A :: l).set T.length o = T ++ o :: l := by simp
theorem sn1 (T : Tbl) (A B o : AObj) (l : Tbl) : (T ++ A :: B :: l).set (T.length + 1) o = T ++ A :: o :: l := by simp
theorem sn2 (T : Tbl) (A B C o : AObj) (l : Tbl) : (T ++ A :: B :: C :: l).set (T.length + 2) o = T ++ A :: B :: o :: l := by simp
theorem tu2_weak {a a' b : AV} (h : ∀ Z ρ x, Rel Z ρ a x -> Rel Z ρ a' x) : ∀ (Z : Heap) (ρ : List BI) (x : Value), Rel Z ρ (.tu [a, b]) x -> Rel Z ρ (.tu [a', b]) x := by
 intro Z ρ x hr
 cases hr with
 | @tu _ _ vs hl hr =>
   refine .tu hl fun k h1 h2 => ?_
   match k, h1 with
   | 0, _ => exact h _ _ _ (hr 0 (by simp) h2)
   | 1, _ => exact hr 1 (by simp) h2
theorem keeps_nil (cs : List AV) : keepsE cs [] := fun _ _ _ _ _ h => by cases h
theorem null_weak {e : Int} : ∀ (Z : Heap) (ρ : List BI) (x : Value), Rel Z ρ (.tu [.ag zc, .p (.int .i64 e)]) x -> Rel Z ρ (.tu [.ag (vcs vNull), .p (.int .i64 e)]) x :=
 tu2_weak (by rw [vNull, vcs_nil]; exact ag5_weak nil_vs nil_vs)
theorem parse_ok {T : Tbl} {l : B} (hl : l.length <= 1099511627776) : CallA prog G 17 [bl l] T fun v T' es => v = parsV l (parse l) /\ T' = T /\ es = [] := by
 refine CallA.wf fun wf => ?_
 refine CallA.enterD Tryz.mp CloP 5 func17 ntmps17 (congrArg Array.toList results17) rfl ⟨by simp, by simp⟩ (by kernel_rfl) (by kernel_rfl) (by kernel_rfl) (by kernel_rfl) rfl rfl rfl rfl rfl rfl rfl ⟨by decide, by decide⟩ (by kernel_rfl) clo_ret clo_pan ?_
 simp -dsimp +decide (disch := omega) only [vr, ty, en, ↓reduceIte, Nat.reduceSub, Nat.reduceAdd, Nat.reduceMul, Nat.reduceLT, Int.reduceAdd, Int.reduceSub, Int.reduceToNat, ci, vi, getO_i, vb, Tryz.mpf, vt, vbl]
 refine CondP.dec (fun hc => ?_) (fun hc => ?_)
 . simp -dsimp +decide (disch := omega) only [vr, ty, en, ↓reduceIte, Nat.reduceSub, Nat.reduceAdd, Nat.reduceMul, Nat.reduceLT, Int.reduceAdd, Int.reduceSub, Int.reduceToNat, ci, vi, getO_i, vb, Tryz.mpf, vt, vbl, gn0, gn1, tk5, wr5, vres, vone]
   rw [parse, if_pos (by omega)]
   refine Vw.weak (fun Z ρ x h => null_weak (e := 6) Z ρ x h) ?_
   exact Vw.cut ⟨by simp only [parsV, AV.wo, AV.woL, AV.woL_eq, vcr], rfl, rfl⟩
 simp -dsimp +decide (disch := omega) only [vr, ty, en, ↓reduceIte, Nat.reduceSub, Nat.reduceAdd, Nat.reduceMul, Nat.reduceLT, Int.reduceAdd, Int.reduceSub, Int.reduceToNat, ci, vi, getO_i, vb, Tryz.mpf, vt, vbl, gn0, gn1, tk5, wr5, vres, vone]
 refine ⟨fun a ha => by simp only [List.mem_cons, List.not_mem_nil, or_false] at ha; rcases ha with rfl | rfl <;> exact ⟨_, _, rfl⟩, fun d => ?_⟩
 have hpe : ∀ e, val 8 l = .error e -> parse l = .error e := fun e h => by rw [parse, if_neg (by omega), h]
 have hpo : ∀ v r, val 8 l = .ok (v, r) -> parse l = if blk r = [] then .ok v else .error 5 := fun v r h => by rw [parse, if_neg (by omega), h]
 have hpan : ∀ (e : Int) (c1 : List AV) (U : Tbl) (E2 : Eff) (loc' : List AV), parse l = .error e -> c1.length = 5 -> keepsE [AV.ptr T.length 0, AV.ptr (T.length + 1) 0] E2 -> recE T.length E2 [] = [] -> loc'.getD 2 .any = .ptr T.length 0 -> loc'.getD 3 .any = .ptr (T.length + 1) 0 ->
  keepsE [AV.ptr T.length 0, AV.ptr (T.length + 1) 0] E2 /\ ∃ T3 ES, CloP [AV.ptr T.length 0, AV.ptr (T.length + 1) 0] (eno e) (T ++ AObj.cells 25 c1 :: AObj.cells 30 [.p (.int .i64 0)] :: U) T3 ES /\
   loadA prog 25 ((slots ES loc').getD 2 AV.any) T3 fun v => rsA prog (slots ES loc') T3 [ResultVar.cell 3 30] fun l_1 => oneA (v :: l_1) fun v => Vw G T (fun v T' es => v = parsV l (parse l) /\ T' = T /\ es = []) v T3 (recE T.length ES (recE T.length E2 [])) := by
  intro e c1 U E2 loc' hpe h5 hk hE h2 h3
  refine ⟨hk, _, _, ⟨T.length, T.length + 1, c1, .p (.int .i64 0), e, rfl, rfl, gn0 _ _ _, h5, gn1 _ _ _ _, by omega, rfl, rfl⟩, ?_⟩
  rw [sn0, sn1]
  have hsl : slots [(T.length, false), (T.length + 1, false)] loc' = loc' := rfl
  rw [hsl, h2, hE]
  simp -dsimp +decide (disch := omega) only [vr, ty, en, ↓reduceIte, Nat.reduceSub, Nat.reduceAdd, Nat.reduceMul, Nat.reduceLT, Int.reduceAdd, Int.reduceSub, Int.reduceToNat, ci, vi, getO_i, vb, Tryz.mpf, vt, vbl, gn0, gn1, tk5, wr5, vres, vone, h2, h3, zc]
  rw [hpe]
  refine Vw.weak (fun Z ρ x h => null_weak (e := e) Z ρ x h) ?_
  exact Vw.cut ⟨by simp only [parsV, AV.wo, AV.woL, AV.woL_eq, vcr], rfl, rfl⟩
 refine (val_all 8 (Nat.le_refl 8) _ (T.length + 2) l hl (gn2 _ _ _ _ _)).mono ?_ ?_
 . rintro v T' es ⟨u, r, hv, rfl, rfl, rfl⟩
   rw [sn2]
   have hvr := vcr u
   have hww : wrA (vcs u) 0 (vcs u) = vcs u := wrA_all rfl
   have k1 : ∀ E : Eff, keepsE [AV.ptr T.length 0, AV.ptr (T.length + 1) 0] E -> ∀ j, keepsE [AV.ptr T.length 0, AV.ptr (T.length + 1) 0] (rec1 (T.length + 2) j false E) := fun E hE j a ha j' o e hm => by
    unfold rec1 at hm
    split at hm
    . rcases List.mem_cons.1 hm with h | h
      . cases h
      . exact hE a ha j' o e h
    . exact hE a ha j' o e hm
   have k2 : ∀ (E : Eff), recE T.length E [] = [] -> ∀ j, T.length <= j -> recE T.length (rec1 (T.length + 2) j false E) [] = [] := fun E hE j hj => by
    unfold rec1
    split
    . rw [recE, hE]; exact if_neg (by omega)
    . exact hE
   have hgood := val_good 8 l u r hv
   simp -dsimp +decide (disch := omega) only [vr, ty, en, ↓reduceIte, Nat.reduceSub, Nat.reduceAdd, Nat.reduceMul, Nat.reduceLT, Int.reduceAdd, Int.reduceSub, Int.reduceToNat, ci, vi, getO_i, vb, Tryz.mpf, vt, vbl, gn0, gn1, gn2, sn0, sn1, sn2, tk5, wr5, hvr, vres, vone]
   refine (blanks_ok' (by omega) (gn2 _ _ _ _ _)).det' ?_
   rw [sn2, rdr]
   simp -dsimp +decide (disch := omega) only [vr, ty, en, ↓reduceIte, Nat.reduceSub, Nat.reduceAdd, Nat.reduceMul, Nat.reduceLT, Int.reduceAdd, Int.reduceSub, Int.reduceToNat, ci, vi, getO_i, vb, Tryz.mpf, vt, vbl, gn0, gn1, gn2, sn0, sn1, sn2, tk5, wr5, hvr, vres, vone]
   have hbl : decide ((blk r).length = (0 : Int)) = decide (blk r = []) := decide_eq_decide.2 (by rw [<- List.length_eq_zero_iff]; omega)
   refine (need_ok _).mono ?_ ?_
   . rintro v T' es ⟨hb, rfl, rfl, rfl⟩
     have hbn : blk r = [] := by have := of_decide_eq_true hb; exact List.length_eq_zero_iff.1 (by omega)
     rw [hpo u r hv, if_pos hbn]
     simp -dsimp +decide (disch := omega) only [vr, ty, en, ↓reduceIte, Nat.reduceSub, Nat.reduceAdd, Nat.reduceMul, Nat.reduceLT, Int.reduceAdd, Int.reduceSub, Int.reduceToNat, ci, vi, getO_i, vb, Tryz.mpf, vt, vbl, gn0, gn1, gn2, sn0, sn1, sn2, tk5, wr5, hvr, hww, vres, vone]
     refine ⟨k1 _ (k1 _ (k1 _ (keeps_nil _) _) _) _, ?_⟩
     rw [k2 _ (k2 _ (k2 _ rfl _ (by omega)) _ (by omega)) _ (by omega)]
     exact Vw.cut ⟨by simp only [parsV, AV.wo, AV.woL, AV.woL_eq, vcr], rfl, rfl⟩
   . rintro v T' es ⟨hb, rfl, rfl, rfl⟩
     have hbn : ¬ blk r = [] := fun e => by have := of_decide_eq_false hb; rw [e] at this; simp at this
     refine ⟨rfl, ?_⟩
     simp -dsimp +decide (disch := omega) only [vr, ty, en, ↓reduceIte, Nat.reduceSub, Nat.reduceAdd, Nat.reduceMul, Nat.reduceLT, Int.reduceAdd, Int.reduceSub, Int.reduceToNat, ci, vi, getO_i, vb, Tryz.mpf, vt, vbl, gn0, gn1, gn2, sn0, sn1, sn2, tk5, wr5, hvr, hww, vres, vone]
     exact hpan 5 (vcs u) [rdr (blk r)] (rec1 (T.length + 2) T.length false []) [bl l, .p (.tuple #[]), .ptr T.length 0, .ptr (T.length + 1) 0, .ptr (T.length + 2) 0] (by rw [hpo u r hv, if_neg hbn]) (vcs_len u) (k1 _ (keeps_nil _) _) (k2 _ rfl _ (Nat.le_refl _)) rfl rfl
 . rintro v T' es ⟨e, r, hv, rfl, rfl, rfl⟩
   rw [sn2]
   simp -dsimp +decide (disch := omega) only [vr, ty, en, ↓reduceIte, Nat.reduceSub, Nat.reduceAdd, Nat.reduceMul, Nat.reduceLT, Int.reduceAdd, Int.reduceSub, Int.reduceToNat, ci, vi, getO_i, vb, Tryz.mpf, vt, vbl, gn0, gn1, gn2, sn0, sn1, sn2]
   have e0 : recE (T.length + 2) [(T.length + 2, false)] [] = [] := if_neg (by omega)
   rw [e0]
   exact hpan e zc [rdr r] [] [bl l, .p (.tuple #[]), .ptr T.length 0, .ptr (T.length + 1) 0, .ptr (T.length + 2) 0] (hpe e hv) rfl (keeps_nil _) rfl rfl rfl
end Go.Proofs.YtglpcedoongagaaGreatDoor
namespace Go.Proofs.YtglpcedoongagaaGreatDoor
open Go.E Go.Proofs.YtglpcedoongagaaGreatDoor.Tryz Go.Proofs.Tryz Go.J Go.Proofs
def fldV (v : JV) (s : B) : Option JV := if v.kind = 5 /\ 0 <= idxS v.names s then v.kids[(idxS v.names s).toNat]? else none
theorem field_ok {T : Tbl} {v : JV} {s : B} (hv : vsz v <= 1099511627776) : CallA prog G 10 [.ag (vcs v), str s] T fun r T' es => (match fldV v s with
 | some x => r = .tu [.ag (vcs x), .p (.bool true)]
 | none => r = .tu [.ag zc, .p (.bool false)]) /\ T' = T /\ es = [] := by
 refine CallA.wfs fun wf => ?_
 have wt := wf.t
 obtain ⟨k, z, t, ks, ns⟩ := v
 have hvz : vsz (.mk k z t ks ns) = 1 + t.length + (ns.map fun x => 1 + x.length).sum + vszL ks := by rw [vsz]
 have hkl := vszL_len ks
 have hnl := nsz_len ns
 have hI := fun U => index_ok (T := U) (a := .vs (ns.map str) ns.length) (ns := ns) (s := s) (by omega) (Sl.vs _ _ (by simp))
 have hr := Sl.rules (Es_vcs T ks).sl (by decide)
 have hld := (Es_vcs T ks).ld (P := prog) (t := 25) (by (simp -dsimp +decide only [vy, vz, vze, vr, ty, en, ↓reduceIte, Nat.reduceSub, Nat.reduceAdd, Nat.reduceMul, Nat.reduceLT, Int.reduceAdd, Int.reduceSub, Int.reduceToNat, ci])) (by (simp -dsimp +decide only [vy, vz, vze, vr, ty, en, ↓reduceIte, Nat.reduceSub, Nat.reduceAdd, Nat.reduceMul, Nat.reduceLT, Int.reduceAdd, Int.reduceSub, Int.reduceToNat, ci])) (by decide)
 have hf : fldV (.mk k z t ks ns) s = if k = 5 /\ 0 <= idxS ns s then ks[(idxS ns s).toNat]? else none := rfl
 rw [hf]
 simp only [vcs, show ∀ l, str l = .p (.string (ba l)) from fun _ => rfl]
 obtain ⟨m, hm⟩ : ∃ m, idxS ns s = m := ⟨_, rfl⟩
 rw [hm] at hI ⊢
 simp only [show ∀ l, str l = .p (.string (ba l)) from fun _ => rfl] at hI
 have t5 : ((k.toNat : Int) = 5) = (k = 5) := propext (u8_num (n := 5) (by decide))
 refine CallA.eV 7 func10 ntmps10 results10 ?_
 simp -dsimp +decide only [vy, vz, vze, vr, ty, en, ↓reduceIte, Nat.reduceSub, Nat.reduceAdd, Nat.reduceMul, Nat.reduceLT, Int.reduceAdd, Int.reduceSub, Int.reduceToNat, ci]
 refine (hI _).det' ?_
 by_cases e5 : k = 5
 . have e5' : (k = 5) = True := eq_true e5
   by_cases h0 : 0 <= m
   . have h0' : (m < 0) = False := eq_false (by omega)
     rw [if_pos ⟨e5, h0⟩]
     by_cases hk : m.toNat < ks.length
     . have hk' : ((ks.length : Int) <= m) = False := eq_false (by omega)
       obtain ⟨x, hx⟩ : ∃ x, ks[m.toNat]? = some x := ⟨_, List.getElem?_eq_getElem hk⟩
       rw [hx]
       obtain ⟨k2, z2, s2, ks2, ns2⟩ := x
       have hv2 : vcs (.mk k2 z2 s2 ks2 ns2) = [by8 k2, .p (.int .i64 z2), .p (.string (ba s2)), .vs (vcsL ks2) ks2.length, .vs (ns2.map str) ns2.length] := by rw [vcs]; rfl
       have hat : List.take 5 (List.drop (m.toNat * 5) (vcsL ks)) = vcs (.mk k2 z2 s2 ks2 ns2) := by rw [vcsL_eq]; exact flat_at (fun x _ => vcs_len x) hx
       have hfl : (vcsL ks).length = ks.length * 5 := by rw [vcsL_eq]; exact flat_len fun x _ => vcs_len x
       simp -dsimp +decide (disch := omega) only [vy, vz, vze, vr, ty, en, ↓reduceIte, Nat.reduceSub, Nat.reduceAdd, Nat.reduceMul, Nat.reduceLT, Int.reduceAdd, Int.reduceSub, Int.reduceToNat, ci, vi, getO_i, vt, t5, e5', h0', hk', gn0, gn1, hr, hld, hx, hat, hv2, wr5, tk5, vres, vone]
       exact ⟨⟨by omega, by omega⟩, Vw.cut ⟨by show _ = _; rw [hv2]; rfl, rfl, rfl⟩⟩
     . have hk' : ((ks.length : Int) <= m) = True := eq_true (by omega)
       have hx : ks[m.toNat]? = none := List.getElem?_eq_none (by omega)
       rw [hx]
       simp -dsimp +decide (disch := omega) only [vy, vz, vze, vr, ty, en, ↓reduceIte, Nat.reduceSub, Nat.reduceAdd, Nat.reduceMul, Nat.reduceLT, Int.reduceAdd, Int.reduceSub, Int.reduceToNat, ci, vi, getO_i, vt, t5, e5', h0', hk', gn0, gn1, wr5, tk5, vres, vone]
       exact Vw.cut ⟨rfl, rfl, rfl⟩
   . have h0' : (m < 0) = True := eq_true (by omega)
     rw [if_neg (fun h => h0 h.2)]
     simp -dsimp +decide (disch := omega) only [vy, vz, vze, vr, ty, en, ↓reduceIte, Nat.reduceSub, Nat.reduceAdd, Nat.reduceMul, Nat.reduceLT, Int.reduceAdd, Int.reduceSub, Int.reduceToNat, ci, vi, getO_i, vt, t5, e5', h0', gn0, gn1, wr5, tk5, vres, vone]
     exact Vw.cut ⟨rfl, rfl, rfl⟩
 . have e5' : (k = 5) = False := eq_false e5
   rw [if_neg (fun h => e5 h.1)]
   simp -dsimp +decide (disch := omega) only [vy, vz, vze, vr, ty, en, ↓reduceIte, Nat.reduceSub, Nat.reduceAdd, Nat.reduceMul, Nat.reduceLT, Int.reduceAdd, Int.reduceSub, Int.reduceToNat, ci, vi, getO_i, vt, t5, e5', gn0, gn1, wr5, tk5, vres, vone]
   exact Vw.cut ⟨rfl, rfl, rfl⟩
end Go.Proofs.YtglpcedoongagaaGreatDoor
namespace Go.Proofs.YtglpcedoongagaaGreatDoor
open Go.E Go.Proofs.YtglpcedoongagaaGreatDoor.Tryz Go.Proofs.Tryz Go.J Go.Proofs
theorem CallA.weak1 {P : Program} {G : Nat -> AV} {f : FuncId} {a a' : AV} {T : Tbl} {K : AV -> Tbl -> Eff -> Prop} (h : ∀ (Z : Heap) (ρ : List BI) (x : Value), Rel Z ρ a x -> Rel Z ρ a' x) (hc : CallA P G f [a'] T K) : CallA P G f [a] T K := by
 intro Z ρ w vs hG hs ha
 obtain ⟨v1, us, rfl, r1, ha⟩ := ha.uncons
 obtain rfl := ha.unnil
 exact hc Z ρ w _ hG hs (.cons (h _ _ _ r1) .nil)
theorem CallA.weak2 {P : Program} {G : Nat -> AV} {f : FuncId} {a a' b b' : AV} {T : Tbl} {K : AV -> Tbl -> Eff -> Prop} (h : ∀ (Z : Heap) (ρ : List BI) (x : Value), Rel Z ρ a x -> Rel Z ρ a' x) (h2 : ∀ (Z : Heap) (ρ : List BI) (x : Value), Rel Z ρ b x -> Rel Z ρ b' x) (hc : CallA P G f [a', b'] T K) : CallA P G f [a, b] T K := by
 intro Z ρ w vs hG hs ha
 obtain ⟨v1, us, rfl, r1, ha⟩ := ha.uncons
 obtain ⟨v2, us, rfl, r2, ha⟩ := ha.uncons
 obtain rfl := ha.unnil
 exact hc Z ρ w _ hG hs (.cons (h _ _ _ r1) (.cons (h2 _ _ _ r2) .nil))
theorem vs_weak {cs ds : List AV} {n : Nat} (hl : cs.length = ds.length) (h : ∀ (Z : Heap) (k : Nat) (a b : AV) (x : Value), cs[k]? = some a -> ds[k]? = some b -> Rel Z [] a x -> Rel Z [] b x) : ∀ (Z : Heap) (ρ : List BI) (x : Value), Rel Z ρ (.vs cs n) x -> Rel Z ρ (.vs ds n) x := by
 intro Z ρ x hr
 cases hr with
 | vs0 h0 hc =>
   refine .vs0 ?_ hc
   rcases h0 with h0 | h0
   . subst h0
     exact .inl (List.eq_nil_of_length_eq_zero hl.symm)
   . exact .inr h0
 | @vs _ _ _ m b o c T fr f hm hb hc hr =>
   refine .vs (f := f) hm hb (fun k hk => hc k (by omega)) fun k hk => ?_
   exact h Z k cs[k] ds[k] _ (List.getElem?_eq_getElem (by omega)) (List.getElem?_eq_getElem hk) (hr k (by omega))
end Go.Proofs.YtglpcedoongagaaGreatDoor
namespace Go.Proofs.YtglpcedoongagaaGreatDoor
open Go.E Go.Proofs.YtglpcedoongagaaGreatDoor.Tryz Go.Proofs.Tryz Go.J Go.Proofs
end Go.Proofs.YtglpcedoongagaaGreatDoor
namespace Go.Proofs.YtglpcedoongagaaGreatDoor
open Go.ChangeShapes Go.WideShapes Go.ChangeAt Go.RowKit Go.E Go.Proofs.YtglpcedoongagaaGreatDoor.Tryz Go.Proofs.Tryz
theorem own : ownKnob prog.godebug = none := by kernel_rfl
theorem laidOut : laidOutB prog = true := by kernel_rfl
theorem g64 : prog.globalNamed "math/bits.deBruijn64tab" = some 7 := by kernel_rfl
theorem gpw : prog.globalNamed "internal/strconv.uint64pow10" = some 2 := by kernel_rfl
theorem gac : prog.globalNamed "unicode/utf8.acceptRanges" = some 1 := by kernel_rfl
theorem ger : prog.globalNamed "strconv.ErrRange" = some 5 := by kernel_rfl
theorem gfi : prog.globalNamed "unicode/utf8.first" = some 0 := by kernel_rfl
theorem starE : "*" ++ "errors.errorString" = "*errors.errorString" := by decide
theorem only (u : TypeId) (h : prog.typeName? 3 u = some "*errors.errorString") : u = 135 :=
 typeName_ptr_named (nm := "errors.errorString") (by rw [starE]; kernel_rfl) (by kernel_rfl) (by decide) u (by rw [starE]; exact h)
theorem gdat {W : World} {n : String} {t0 : TypeId} {g : Nat} {cs : Array Value} {fuel : Nat} {d : DataW Unit} {p : List MemPlace} {ts : List TypeId} (hc : closedT prog ts = true) (hg : prog.globalNamed n = some g) (hv : W.var? prog n = some cs) (ht : t0 ∈ ts)
 (hd : DataW.trod (fun _ => ()) prog W 0 (fun _ => true) false fuel t0 cs.toList = some (d, p)) (hw : (d.weights prog t0).all (· <= reachBytes) = true) (hne : decide (0 < prog.cellsOf t0) = true) : Rel (wholeH W) [] (.vp (toD d).avs 0) (.pointer (some ⟨g, 0, none⟩)) := by
 obtain ⟨dd, -, h2, h3, rfl⟩ := trod_dat hc fuel t0 cs.toList (d, p) ht hd (fun n hn => by simpa using List.all_eq_true.1 hw n hn)
 have hrd : Rd W (some ⟨g, 0, none⟩) cs.toList := by
  refine .inr ⟨_, rfl, rfl, fun k v hk => ?_⟩
  have := World.var?_cell hg hv k
  rw [add_plain rfl]
  simp only [Nat.zero_add]
  rw [this]
  simpa using hk
 exact rel_vp0 h2 (by intro e; rw [e] at h3; have := of_decide_eq_true hne; simp at h3; omega) (arr_holds (wholeH_whole W) hrd)
theorem gok {W : World} (h : laidMetH prog [("math/bits.deBruijn32tab", Rows.laid_math_bits_deBruijn32tab), ("math/bits.deBruijn64tab", Rows.laid_math_bits_deBruijn64tab), ("internal/strconv.uint64pow10", Rows.laid_internal_strconv_uint64pow10), ("unicode/utf8.acceptRanges", Rows.laid_unicode_utf8_acceptRanges), ("strconv.ErrRange", Rows.laid_strconv_ErrRange), ("strconv.ErrSyntax", Rows.laid_strconv_ErrSyntax), ("unicode/utf8.first", Rows.laid_unicode_utf8_first)] W) : GOK G (wholeH W) := by
 rw [MakeChecks.laidMetH_plain _ _ _ (by kernel_rfl)] at h
 obtain ⟨ps, ⟨g0, t0, cs0, f0, p0, q0, hg0, ht0, hv0, hd0, ⟨g1, t1, cs1, f1, p1, q1, hg1, ht1, hv1, hd1, ⟨g2, t2, cs2, f2, p2, q2, hg2, ht2, hv2, hd2, ⟨g3, t3, cs3, f3, p3, q3, hg3, ht3, hv3, hd3, ⟨g4, t4, cs4, f4, p4, q4, hg4, ht4, hv4, hd4, ⟨g5, t5, cs5, f5, p5, q5, hg5, ht5, hv5, hd5, ⟨g6, t6, cs6, f6, p6, q6, hg6, ht6, hv6, hd6, _⟩, _⟩, _⟩, _⟩, _⟩, _⟩, _⟩, _, _⟩ := h
 obtain rfl := Option.some.inj (g64.symm.trans hg1)
 obtain rfl := Option.some.inj (gpw.symm.trans hg2)
 obtain rfl := Option.some.inj (gac.symm.trans hg3)
 obtain rfl := Option.some.inj (ger.symm.trans hg4)
 obtain rfl := Option.some.inj (gfi.symm.trans hg6)
 obtain rfl := Option.some.inj ((show (prog.globals[7]?).map (·.type) = some 139 by kernel_rfl).symm.trans ht1)
 obtain rfl := Option.some.inj ((show (prog.globals[2]?).map (·.type) = some 124 by kernel_rfl).symm.trans ht2)
 obtain rfl := Option.some.inj ((show (prog.globals[1]?).map (·.type) = some 83 by kernel_rfl).symm.trans ht3)
 obtain rfl := Option.some.inj ((show (prog.globals[5]?).map (·.type) = some 94 by kernel_rfl).symm.trans ht4)
 obtain rfl := Option.some.inj ((show (prog.globals[0]?).map (·.type) = some 80 by kernel_rfl).symm.trans ht6)
 have r1 := gdat (ts := [139, 5]) (by kernel_rfl) g64 hv1 (by simp) hd1 (by kernel_rfl) (by kernel_rfl)
 have r2 := gdat (ts := [124, 77]) (by kernel_rfl) gpw hv2 (by simp) hd2 (by kernel_rfl) (by kernel_rfl)
 have r3 := gdat (ts := [83, 82, 5]) (by kernel_rfl) gac hv3 (by simp) hd3 (by kernel_rfl) (by kernel_rfl)
 have r6 := gdat (ts := [80, 5]) (by kernel_rfl) gfi hv6 (by simp) hd6 (by kernel_rfl) (by kernel_rfl)
 rw [show (toD Rows.laid_math_bits_deBruijn64tab).avs = dbjL.map by8 by kernel_rfl] at r1
 rw [show (toD Rows.laid_internal_strconv_uint64pow10).avs = powL by kernel_rfl] at r2
 rw [show (toD Rows.laid_unicode_utf8_acceptRanges).avs = accL.map by8 by kernel_rfl] at r3
 rw [show (toD Rows.laid_unicode_utf8_first).avs = firL.map by8 by kernel_rfl] at r6
 have r4 : Rel (wholeH W) [] (.vp [.ic 135 .any] 0) (.pointer (some ⟨5, 0, none⟩)) := by
  have hu : ∃ ms, prog.underlying 94 = some (.interface ms) := by
   have : (match prog.underlying 94 with | some (.interface _) => true | _ => false) = true := by kernel_rfl
   split at this
   . rename_i ms h; exact ⟨ms, h⟩
   . cases this
  obtain ⟨ms, hu⟩ := hu
  obtain ⟨v, hcs⟩ : ∃ v, cs4.toList = [.iface 135 v] := by
   cases f4 with
   | zero => simp [DataW.trod] at hd4
   | succ f =>
     unfold DataW.trod at hd4
     rw [hu] at hd4
     dsimp only at hd4
     generalize cs4.toList = l at hd4 ⊢
     rcases l with _ | ⟨v, _ | ⟨y, r⟩⟩
     . simp at hd4
     . cases v with
       | iface u x =>
         dsimp only at hd4
         cases hn : prog.typeName? 3 u with
         | none => rw [hn] at hd4; cases hd4
         | some name =>
           rw [hn] at hd4
           dsimp only at hd4
           obtain ⟨z, -, he⟩ := Option.map_eq_some_iff.1 hd4
           have he := (Prod.mk.inj he).1
           have hname : name = "*errors.errorString" := (DataW.iface.inj he).1
           rw [hname] at hn
           exact ⟨x, by rw [only u hn]⟩
       | nilIface => exact absurd (Prod.mk.inj (Option.some.inj hd4)).1 (fun e => by cases e)
       | _ => simp at hd4
     . simp at hd4
  have hrd : Rd W (some ⟨5, 0, none⟩) cs4.toList := by
   refine .inr ⟨_, rfl, rfl, fun k v hk => ?_⟩
   have := World.var?_cell ger hv4 k
   rw [add_plain rfl]
   simp only [Nat.zero_add]
   rw [this]
   simpa using hk
  rw [hcs] at hrd
  exact rel_vp0 (.cons (.ic (.any v)) .nil) (by simp) (arr_holds (wholeH_whole W) hrd)
 intro g
 unfold G
 split
 . rename_i h0; subst h0; exact r6
 split
 . rename_i h0; subst h0; exact r3
 split
 . rename_i h0; subst h0; exact r2
 split
 . rename_i h0; subst h0; exact r1
 split
 . rename_i h0; subst h0; exact r4
 . exact .p _
theorem laid_met (os : Os) (args : Array Value) : laidMetH prog [("math/bits.deBruijn32tab", Rows.laid_math_bits_deBruijn32tab), ("math/bits.deBruijn64tab", Rows.laid_math_bits_deBruijn64tab), ("internal/strconv.uint64pow10", Rows.laid_internal_strconv_uint64pow10), ("unicode/utf8.acceptRanges", Rows.laid_unicode_utf8_acceptRanges), ("strconv.ErrRange", Rows.laid_strconv_ErrRange), ("strconv.ErrSyntax", Rows.laid_strconv_ErrSyntax), ("unicode/utf8.first", Rows.laid_unicode_utf8_first)] ((World.laidAll prog os [("math/bits.deBruijn32tab", Rows.laid_math_bits_deBruijn32tab), ("math/bits.deBruijn64tab", Rows.laid_math_bits_deBruijn64tab), ("internal/strconv.uint64pow10", Rows.laid_internal_strconv_uint64pow10), ("unicode/utf8.acceptRanges", Rows.laid_unicode_utf8_acceptRanges), ("strconv.ErrRange", Rows.laid_strconv_ErrRange), ("strconv.ErrSyntax", Rows.laid_strconv_ErrSyntax), ("unicode/utf8.first", Rows.laid_unicode_utf8_first)]).forCall (fun _ _ => 0) ⟨#[], args, []⟩).memory := by
 rw [MakeChecks.laidMetH_plain _ _ _ (by kernel_rfl)]; exact laidMet_laidAll _ (by kernel_rfl) (by kernel_rfl)
end Go.Proofs.YtglpcedoongagaaGreatDoor
namespace Go.J
def exV : JV := vList [vNum 1, vText [97, 10], vNull]
theorem dn1 : dn 1 = [49] := by rw [dn]; rfl
theorem exV_prt : prt 8 exV = [91, 49, 44, 34, 97, 92, 110, 34, 44, 110, 117, 108, 108, 93] := by
 have h : prt 8 exV = 91 :: (joinC [numS 1, quote [97, 10], [110, 117, 108, 108]] ++ [93]) := by rfl
 rw [h, show numS 1 = dn 1 from rfl, dn1]
 rfl
theorem nam_nil (l : B) : nam [] l = if (blk l).head? = some 34 then (match txtF (blk l).tail [] with
 | some (s, r) => if (blk r).head? = some 58 then some (s, (blk r).tail) else none
 | none => none) else none := by
 unfold nam
 by_cases h : (blk l).head? = some 34
 . rw [if_pos h, if_pos h]
   cases txtF (blk l).tail [] with
   | none => rfl
   | some q => exact if_neg (by simp)
 . rw [if_neg h, if_neg h]
def exO : B := [32, 123, 32, 34, 97, 34, 32, 58, 32, 45, 48, 32, 125, 32]
theorem exO_nam : nam [] [34, 97, 34, 32, 58, 32, 45, 48, 32, 125, 32] = some ([97], [32, 45, 48, 32, 125, 32]) := (nam_nil _).trans (by kernel_rfl)
theorem exO_num : val 7 [32, 45, 48, 32, 125, 32] = .ok (vNum 0, [32, 125, 32]) := by kernel_rfl
theorem exO_obj : obj (val 7) [32, 34, 97, 34, 32, 58, 32, 45, 48, 32, 125, 32] = .ok (vObj [[97]] [vNum 0], [32]) := by
 have e : obj (val 7) [32, 34, 97, 34, 32, 58, 32, 45, 48, 32, 125, 32] = objL (val 7) 12 [34, 97, 34, 32, 58, 32, 45, 48, 32, 125, 32] [] [] := by kernel_rfl
 rw [e, objL, exO_nam]
 show (match val 7 [32, 45, 48, 32, 125, 32] with | .error e => (.error e : R) | .ok (v, r) => if (blk r).head? = some 125 then .ok (vObj ([] ++ [[97]]) ([] ++ [v]), (blk r).tail) else if (blk r).head? = some 44 then objL (val 7) 11 (blk r).tail ([] ++ [[97]]) ([] ++ [v]) else .error 5) = _
 rw [exO_num]
 rfl
theorem exO_parse : parse exO = .ok (vObj [[97]] [vNum 0]) := by
 have e : val 8 exO = obj (val 7) [32, 34, 97, 34, 32, 58, 32, 45, 48, 32, 125, 32] := by kernel_rfl
 rw [parse, if_neg (by decide), e, exO_obj]
 rfl
theorem exB_parse : parse [91, 49, 44, 93] = .error 5 := by kernel_rfl
theorem exM_parse : parse [91, 91, 91, 91, 91, 91, 91, 91, 91] = .error 6 := by kernel_rfl
theorem exV_may : may 8 exV := by
 have v1 : Valid [97, 10] := by
  have h1 : enc 97 = [97] := by decide
  have h2 : enc 10 = [10] := by decide
  have := (Valid.one (c := 97) (by unfold okC; decide)).app (Valid.one (c := 10) (by unfold okC; decide))
  rwa [h1, h2] at this
 refine .inr ⟨.inl rfl, ⟨.inl rfl, .inl rfl, .inr (.inl rfl), rfl⟩, ⟨fun s hs => (nomatch hs), List.nodup_nil⟩, fun k hk => ?_⟩
 have hk : k ∈ [vNum 1, vText [97, 10], vNull] := hk
 rcases List.mem_cons.1 hk with rfl | hk
 . exact may_leaf_num 1 7
 rcases List.mem_cons.1 hk with rfl | hk
 . exact may_leaf (v := vText [97, 10]) ⟨⟨.inl rfl, .inr rfl, .inl rfl, rfl⟩, .inr (.inr (.inr ⟨rfl, v1⟩))⟩ 7
 rcases List.mem_cons.1 hk with rfl | hk
 . exact may_leaf (v := vNull) ⟨⟨.inl rfl, .inl rfl, .inl rfl, rfl⟩, .inl rfl⟩ 7
 . cases hk
theorem exV_fits : fits 8 exV := by
 have w : ∀ v : JV, v = vNum 1 ∨ v = vText [97, 10] ∨ v = vNull -> fits 7 v := by
  rintro v (rfl | rfl | rfl)
  . exact fits_small (by decide) rfl 7
  . exact fits_small (by decide) rfl 7
  . exact fits_small (by decide) rfl 7
 refine ⟨by show _ /\ _; decide, fun k hk => w k ?_⟩
 have hk : k ∈ [vNum 1, vText [97, 10], vNull] := hk
 simpa using hk
end Go.J
namespace Go.Proofs.YtglpcedoongagaaGreatDoor
open Go.E Go.Proofs.YtglpcedoongagaaGreatDoor.Tryz Go.Proofs.Tryz Go.J Go.Proofs
def exK : List AV := [.p (.int .u8 2), .p (.int .i64 1), .p (.string ByteArray.empty), .p (.slice none 0 0), .p (.slice none 0 0), .p (.int .u8 3), .p (.int .i64 0), .p (.string (ByteArray.mk #[97, 10])), .p (.slice none 0 0), .p (.slice none 0 0), .p (.int .u8 0), .p (.int .i64 0), .p (.string ByteArray.empty), .p (.slice none 0 0), .p (.slice none 0 0)]
def exC : List AV := [.p (.int .u8 4), .p (.int .i64 0), .p (.string ByteArray.empty), .vs exK 3, .p (.slice none 0 0)]
theorem exK_weak : ∀ (Z : Heap) (k : Nat) (a b : AV) (x : Value), exK[k]? = some a -> (vcsL exV.kids)[k]? = some b -> Rel Z [] a x -> Rel Z [] b x := by
 intro Z k a b x ha hb hr
 have hd : vcsL exV.kids = [by8 2, .p (.int .i64 1), str [], .vs [] 0, .vs [] 0, by8 3, .p (.int .i64 0), str [97, 10], .vs [] 0, .vs [] 0, by8 0, .p (.int .i64 0), str [], .vs [] 0, .vs [] 0] := rfl
 rw [hd] at hb
 match k with
 | 0 => cases ha; cases hb; exact hr
 | 1 => cases ha; cases hb; exact hr
 | 2 => cases ha; cases hb; exact hr
 | 3 => cases ha; cases hb; exact nil_vs _ _ _ hr
 | 4 => cases ha; cases hb; exact nil_vs _ _ _ hr
 | 5 => cases ha; cases hb; exact hr
 | 6 => cases ha; cases hb; exact hr
 | 7 => cases ha; cases hb; exact hr
 | 8 => cases ha; cases hb; exact nil_vs _ _ _ hr
 | 9 => cases ha; cases hb; exact nil_vs _ _ _ hr
 | 10 => cases ha; cases hb; exact hr
 | 11 => cases ha; cases hb; exact hr
 | 12 => cases ha; cases hb; exact hr
 | 13 => cases ha; cases hb; exact nil_vs _ _ _ hr
 | 14 => cases ha; cases hb; exact nil_vs _ _ _ hr
 | k + 15 => cases ha
theorem exC_weak : ∀ (Z : Heap) (ρ : List BI) (x : Value), Rel Z ρ (.ag exC) x -> Rel Z ρ (.ag (vcs exV)) x := by
 have e : vcs exV = [.p (.int .u8 4), .p (.int .i64 0), .p (.string ByteArray.empty), .vs (vcsL exV.kids) 3, .vs [] 0] := rfl
 rw [e]
 exact ag5_weak (vs_weak rfl exK_weak) nil_vs
theorem exV_sz : vsz exV = 6 := rfl
theorem exK_clean : ∀ a ∈ exK, a.Clean := by
 intro a ha
 simp only [exK, List.mem_cons, List.not_mem_nil, or_false] at ha
 rcases ha with rfl | rfl | rfl | rfl | rfl | rfl | rfl | rfl | rfl | rfl | rfl | rfl | rfl | rfl | rfl <;> exact .p _
theorem works_ok {T : Tbl} : CallA prog G 6 [] T fun v T' es => v = .p (.bool true) /\ T' = T /\ es = [] := by
 refine CallA.wfs fun wf => ?_
 have wt := wf.t
 have wp := wf.p
 have hk0 : (wrA (wrA (wrA (List.replicate 3 [AV.p (.int .u8 0), AV.p (.int .i64 0), AV.p (.string ByteArray.empty), AV.p (.slice none 0 0), AV.p (.slice none 0 0)]).flatten 0 [AV.p (.int .u8 2), AV.p (.int .i64 1), AV.p (.string ByteArray.empty), AV.p (.slice none 0 0), AV.p (.slice none 0 0)]) 5 [AV.p (.int .u8 3), AV.p (.int .i64 0), AV.p (.string (ByteArray.mk #[97, 10])), AV.p (.slice none 0 0), AV.p (.slice none 0 0)]) 10 [AV.p (.int .u8 0), AV.p (.int .i64 0), AV.p (.string ByteArray.empty), AV.p (.slice none 0 0), AV.p (.slice none 0 0)]) = exK := rfl
 refine CallA.eV 12 func6 ntmps6 results6 ?_
 simp -dsimp +decide only [vr, ty, en, ↓reduceIte, Nat.reduceSub, Nat.reduceAdd, Nat.reduceMul, Nat.reduceLT, Int.reduceAdd, Int.reduceSub, Int.reduceToNat, ci]
 simp -dsimp +decide (disch := omega) only [vr, ty, en, ↓reduceIte, Nat.reduceSub, Nat.reduceAdd, Nat.reduceMul, Nat.reduceLT, Int.reduceAdd, Int.reduceSub, Int.reduceToNat, ci, vi, getO_i, vt, wr5, tk5, hk0]
 refine CallA.pub (i := T.length) (o := .buf 25 5 exK) (gn0 T _ _) rfl exK_clean ?_ (fun v T' es h => h)
 simp -dsimp +decide only [vr, ty, en, ↓reduceIte, Nat.reduceSub, Nat.reduceAdd, Nat.reduceMul, Nat.reduceLT, Int.reduceAdd, Int.reduceSub, Int.reduceToNat, ci, wp]
 refine CallA.weak1 exC_weak ?_
 refine (print_ok (v := exV) (by rw [exV_sz]; decide) exV_fits).mono ?_
 rintro v T' es ⟨⟨-, rfl⟩ | ⟨h, -⟩, rfl, rfl⟩
 rotate_left
 . exact absurd exV_may h
 rw [exV_prt]
 obtain ⟨P1, hP1⟩ : ∃ P1 : B, P1 = [91, 49, 44, 34, 97, 92, 110, 34, 44, 110, 117, 108, 108, 93] := ⟨_, rfl⟩
 rw [<- hP1]
 obtain ⟨C1, hC1⟩ : ∃ C1 : AObj, C1 = .cells 25 exC := ⟨_, rfl⟩
 have hk14 : (List.replicate 14 [AV.p (.int .u8 0)]).flatten = [.p (.int .u8 0), .p (.int .u8 0), .p (.int .u8 0), .p (.int .u8 0), .p (.int .u8 0), .p (.int .u8 0), .p (.int .u8 0), .p (.int .u8 0), .p (.int .u8 0), .p (.int .u8 0), .p (.int .u8 0), .p (.int .u8 0), .p (.int .u8 0), .p (.int .u8 0)] := rfl
 simp -dsimp +decide (disch := omega) only [vr, ty, en, ↓reduceIte, Nat.reduceSub, Nat.reduceAdd, Nat.reduceMul, Nat.reduceLT, Int.reduceAdd, Int.reduceSub, Int.reduceToNat, ci, vi, getO_i, vt, wp, wr5, tk5, gn0, gn1, gn2, List.nil_append, hk14, List.set_cons_zero, List.set_cons_succ]
 refine (parse_ok (l := exO) (by decide)).mono ?_
 rintro v T' es ⟨rfl, rfl, rfl⟩
 rw [exO_parse]
 obtain ⟨u1, hu1⟩ : ∃ u1, u1 = vObj [[97]] [vNum 0] := ⟨_, rfl⟩
 rw [<- hu1, show parsV exO (.ok u1) = .tu [.ag (vcs u1), .p (.int .i64 0)] from rfl]
 have hv1 := vcr u1
 have hf1 : fldV u1 [97] = some (vNum 0) := by rw [hu1]; rfl
 have hF := fun U => field_ok (T := U) (v := u1) (s := [97]) (by rw [hu1]; decide)
 rw [hf1] at hF
 have hw1 : wrA (vcs u1) 0 (vcs u1) = vcs u1 := wrA_all rfl
 simp -dsimp +decide (disch := omega) only [vr, ty, en, ↓reduceIte, Nat.reduceSub, Nat.reduceAdd, Nat.reduceMul, Nat.reduceLT, Int.reduceAdd, Int.reduceSub, Int.reduceToNat, ci, vi, getO_i, vt, wp, wr5, tk5, gn0, gn1, gn2, gn3, hv1, hw1]
 refine (hF _).mono ?_
 rintro v T' es ⟨rfl, rfl, rfl⟩
 obtain ⟨u2, hu2⟩ : ∃ u2, u2 = vNum 0 := ⟨_, rfl⟩
 rw [<- hu2]
 have hv2 := vcr u2
 have hw2 : wrA (vcs u2) 0 (vcs u2) = vcs u2 := wrA_all rfl
 have hk4 : (List.replicate 4 [AV.p (.int .u8 0)]).flatten = [.p (.int .u8 0), .p (.int .u8 0), .p (.int .u8 0), .p (.int .u8 0)] := rfl
 simp -dsimp +decide (disch := omega) only [vr, ty, en, ↓reduceIte, Nat.reduceSub, Nat.reduceAdd, Nat.reduceMul, Nat.reduceLT, Int.reduceAdd, Int.reduceSub, Int.reduceToNat, ci, vi, getO_i, vt, wp, wr5, tk5, gn0, gn1, gn2, gn3, gn4, gn5, hv1, hv2, hw1, hw2, hk4, List.set_cons_zero, List.set_cons_succ, vcs_pub]
 refine (parse_ok (l := [91, 49, 44, 93]) (by decide)).mono ?_
 rintro v T' es ⟨rfl, rfl, rfl⟩
 rw [exB_parse]
 obtain ⟨u3, hu3⟩ : ∃ u3, u3 = vNull := ⟨_, rfl⟩
 rw [show parsV [91, 49, 44, 93] (.error 5) = .tu [.ag (vcs u3), .p (.int .i64 5)] from by rw [hu3]; rfl]
 have hv3 := vcr u3
 have hw3 : wrA (vcs u3) 0 (vcs u3) = vcs u3 := wrA_all rfl
 have hk9 : (List.replicate 9 [AV.p (.int .u8 0)]).flatten = [.p (.int .u8 0), .p (.int .u8 0), .p (.int .u8 0), .p (.int .u8 0), .p (.int .u8 0), .p (.int .u8 0), .p (.int .u8 0), .p (.int .u8 0), .p (.int .u8 0)] := rfl
 simp -dsimp +decide (disch := omega) only [vr, ty, en, ↓reduceIte, Nat.reduceSub, Nat.reduceAdd, Nat.reduceMul, Nat.reduceLT, Int.reduceAdd, Int.reduceSub, Int.reduceToNat, ci, vi, getO_i, vt, wp, wr5, tk5, gn0, gn1, gn2, gn3, gn4, gn5, gn6, gn7, hv1, hv2, hv3, hw1, hw2, hw3, hk9, List.set_cons_zero, List.set_cons_succ, vcs_pub]
 refine (parse_ok (l := [91, 91, 91, 91, 91, 91, 91, 91, 91]) (by decide)).mono ?_
 rintro v T' es ⟨rfl, rfl, rfl⟩
 rw [exM_parse, show parsV [91, 91, 91, 91, 91, 91, 91, 91, 91] (.error 6) = .tu [.ag (vcs u3), .p (.int .i64 6)] from by rw [hu3]; rfl]
 have hby := bytes8 P1
 have hP2 : (ByteArray.mk P1.toArray = ByteArray.mk #[91, 49, 44, 34, 97, 92, 110, 34, 44, 110, 117, 108, 108, 93]) = True := eq_true (by rw [hP1])
 have h20 : (vcs u2)[0]! = .p (.int .u8 2) := by rw [hu2]; rfl
 simp -dsimp +decide (disch := omega) only [vr, ty, en, ↓reduceIte, Nat.reduceSub, Nat.reduceAdd, Nat.reduceMul, Nat.reduceLT, Int.reduceAdd, Int.reduceSub, Int.reduceToNat, ci, vi, getO_i, vt, wp, wr5, tk5, gn0, gn1, gn2, gn3, gn4, gn5, gn6, gn7, gn8, hv1, hv2, hv3, hw1, hw2, hw3, vstr, hP2, hby, h20]
 refine CallA.weak1 exC_weak ?_
 refine (May_ok (v := exV) (by rw [exV_sz]; decide) exV_fits).mono ?_
 rintro v T' es ⟨⟨b, rfl, hb⟩, rfl, rfl⟩
 have hb := hb.2 exV_may
 subst hb
 simp -dsimp +decide (disch := omega) only [vr, ty, en, ↓reduceIte, Nat.reduceSub, Nat.reduceAdd, Nat.reduceMul, Nat.reduceLT, Int.reduceAdd, Int.reduceSub, Int.reduceToNat, ci, vi, getO_i, vt, wr5, tk5, gn0, gn1, gn2, gn3, gn4, gn5, gn6, gn7, gn8]
 refine CallA.weak2 exC_weak exC_weak ?_
 refine (same_ok (a := exV) (c := exV) (by rw [exV_sz]; decide)).mono ?_
 rintro v T' es ⟨⟨b, rfl, hb⟩, rfl, rfl⟩
 have hb := hb.2 rfl
 subst hb
 simp -dsimp +decide (disch := omega) only [vr, ty, en, ↓reduceIte, Nat.reduceSub, Nat.reduceAdd, Nat.reduceMul, Nat.reduceLT, Int.reduceAdd, Int.reduceSub, Int.reduceToNat, ci, vi, getO_i, vt, wr5, tk5, gn0, gn1, gn2, gn3, gn4, gn5, gn6, gn7, gn8, hv1]
 refine CallA.weak2 (fun _ _ _ h => h) exC_weak ?_
 refine (same_ok (a := u1) (c := exV) (by rw [hu1]; decide)).mono ?_
 rintro v T' es ⟨⟨b, rfl, hb⟩, rfl, rfl⟩
 have hne : u1 ≠ exV := by rw [hu1]; intro e; injection e with e; cases e
 cases b with
 | true => exact absurd (hb.1 rfl) hne
 | false =>
   simp -dsimp +decide (disch := omega) only [vr, ty, en, ↓reduceIte, Nat.reduceSub, Nat.reduceAdd, Nat.reduceMul, Nat.reduceLT, Int.reduceAdd, Int.reduceSub, Int.reduceToNat, ci, vi, getO_i, vt]
   exact Vw.cut ⟨rfl, rfl, rfl⟩
end Go.Proofs.YtglpcedoongagaaGreatDoor
namespace Go.E
inductive AV.Far : AV -> Prop
 | p (v : Value) : Far (.p v)
 | any : Far .any
 | vs0 (n : Nat) : Far (.vs [] n)
 | vs {cs : List AV} {n k : Nat} {a : AV} (hk : cs[k]? = some a) (hne : ∀ (Z : Heap) (z : Int), ¬ Rel Z [] a (.int .u8 z)) (h : ∀ a ∈ cs, Far a) : Far (.vs cs n)
 | ag {cs : List AV} (h : ∀ a ∈ cs, Far a) : Far (.ag cs)
 | tu {cs : List AV} (h : ∀ a ∈ cs, Far a) : Far (.tu cs)
def Heap.less (Z : Heap) (b : Nat) : Heap := ⟨fun b' => if b' = b then none else Z b', Z.os, Z.out, Z.cut⟩
theorem Rel.far {Z : Heap} {ρ : List BI} {a : AV} {v : Value} {b : Nat} {c : Array Value} {E : TypeId} {fr : Nat × Nat} (h : Rel Z ρ a v) (hf : a.Far) (hb : Z b = some (.cells c E fr)) (hc : ∀ (k : Nat) (x : Value), c[k]? = some x -> ∃ z, x = .int .u8 z) : Rel (Z.less b) ρ a v := by
 induction h with
 | p v => exact .p v
 | any v => exact .any v
 | ptr _ _ => cases hf
 | sl _ _ _ _ => cases hf
 | vp _ _ _ _ => cases hf
 | vs0 h hc => exact .vs0 h hc
 | @vs ρ cs n m b' o c' T' fr' f hm hb' hc' hr ih =>
   cases hf with
   | vs0 => exact .vs0 (.inl rfl) hm
   | @vs _ _ k a hk hne hall =>
     have hbb : b' ≠ b := by
      rintro rfl
      rw [hb] at hb'
      simp only [Option.some.injEq, Obj.cells.injEq] at hb'
      obtain ⟨rfl, -, -⟩ := hb'
      obtain ⟨hkl, rfl⟩ := List.getElem?_eq_some_iff.1 hk
      obtain ⟨z, hz⟩ := hc _ _ (hc' k hkl)
      have := hr k hkl
      rw [hz] at this
      exact hne _ _ this
     exact .vs hm (show (if b' = b then none else Z b') = _ by rw [if_neg hbb]; exact hb') hc' fun k hk => ih k hk (hall _ (List.getElem_mem hk))
 | ag hl _ ih => cases hf with | ag hall => exact .ag hl fun k h1 h2 => ih k h1 h2 (hall _ (List.getElem_mem h1))
 | tu hl _ ih => cases hf with | tu hall => exact .tu hl fun k h1 h2 => ih k h1 h2 (hall _ (List.getElem_mem h1))
 | fn _ _ _ => cases hf
 | ic _ _ => cases hf
 | mp _ _ => cases hf
 | yl _ _ => cases hf
section
variable {P : Program} {G : Nat -> AV} {T : Tbl} {f : FuncId} {j : Nat} {E : TypeId} {l : List UInt8} {K0 : AV -> Prop}
def vb8 (x : UInt8) : Value := .int .u8 (x.toNat : Int)
theorem by8_p (l : List UInt8) : l.map by8 = (l.map vb8).map AV.p := by rw [List.map_map]; rfl
theorem St.restore {Z Z1 Z' Z2 : Heap} {ρ : List BI} {w w' : World} {o0 : AObj} {x : BI} (hs : St Z ρ T w) (hT : T[j]? = some o0) (hl0 : o0.live = true) (hx : ρ[j]? = some x) (g1 : St Z' ρ (T.set j .gone) w') (g2 : Ext Z1 ρ (T.set j .gone) w Z' ρ (T.set j .gone) w' [])
 (hle : Heap.le Z Z2) (hof : Z2.ofc w') (hno : ∀ b, Z' b = none -> Z2 b = none) (hb : ∀ b, x.blk = some b -> Z2 b = none /\ w'.heap[b]? = w.heap[b]?) : St Z2 ρ T w' /\ Ext Z ρ T w Z2 ρ T w' [] := by
 have hjT := (List.getElem?_eq_some_iff.1 hT).1
 have hset : ∀ (i : Nat) (o : AObj), i ≠ j -> T[i]? = some o -> (T.set j .gone)[i]? = some o := fun i o hi h => by rw [List.getElem?_set_ne (Ne.symm hi)]; exact h
 have hheap : ∀ (i : Nat) (o : AObj) (y : BI) (b : Nat), T[i]? = some o -> o.live = true -> ρ[i]? = some y -> y.blk = some b -> w'.heap[b]? = w.heap[b]? := by
  intro i o y b hi hl hy hyb
  by_cases e : i = j
  . subst e
    rw [hx] at hy; cases hy
    exact (hb b hyb).2
  . exact (g2.same i y o b (hset i o e hi) hl hy hyb (by simp)).1
 refine ⟨⟨hof, hs.len, fun i o y hi hy => ?_, fun i o y b hi hl hy hyb => ?_⟩, ⟨hle, fun i y hy _ => hy, fun i y o b hi hl hy hyb _ => ⟨hheap i o y b hi hl hy hyb, o, hi, hl⟩⟩⟩
 . by_cases hl : o.live = true
   . exact ((hs.obj i o y hi hy).world fun b hyb => hheap i o y b hi hl hy hyb).mono hle fun _ _ h => h
   . cases o <;> first | exact (hl rfl).elim | trivial
 . obtain ⟨_, k2⟩ := hs.apart i o y b hi hl hy hyb
   refine ⟨?_, k2⟩
   by_cases e : i = j
   . subst e
     rw [hx] at hy; cases hy
     exact (hb b hyb).1
   . exact hno b (g1.apart i o y b (hset i o e hi) hl hy hyb).1
theorem CallA.thaw (hT : T[j]? = some (.buf E 1 (l.map by8))) (hfar : ∀ v, K0 v -> v.Far)
 (h : CallA P G f [.vs (l.map by8) l.length] (T.set j .gone) fun v T' es => K0 v /\ T' = T.set j .gone /\ es = []) :
 CallA P G f [.sl j 0 l.length] T fun v T' es => K0 v /\ T' = T /\ es = [] := by
 intro Z ρ w vs hG hs ha
 obtain ⟨s, us, rfl, r1, ha2⟩ := ha.uncons
 obtain rfl := ha2.unnil
 cases r1 with
 | @sl _ _ _ _ cp x a hx haa hcp h0 =>
 have hor := hs.obj j _ x hT hx
 have hjT := (List.getElem?_eq_some_iff.1 hT).1
 have hgone : ∀ (i : Nat) (o : AObj), (T.set j .gone)[i]? = some o -> o.live = true -> i ≠ j /\ T[i]? = some o := by
  intro i o hi hl
  by_cases e : i = j
  . subst e
    rw [List.getElem?_set_self hjT] at hi
    cases hi; cases hl
  . exact ⟨e, by rwa [List.getElem?_set_ne (Ne.symm e)] at hi⟩
 have hρ : ∀ {Z1 Z' : Heap} {ρ' : List BI} {w' : World}, St Z' ρ' (T.set j .gone) w' -> Ext Z1 ρ (T.set j .gone) w Z' ρ' (T.set j .gone) w' [] -> ρ' = ρ := by
  intro Z1 Z' ρ' w' g1 g2
  refine List.ext_getElem? fun i => ?_
  by_cases hi : i < ρ.length
  . obtain ⟨y, hy⟩ : ∃ y, ρ[i]? = some y := ⟨ρ[i], by simp [hi]⟩
    rw [hy]; exact g2.place i y hy (by simp)
  . have h1 : ρ.length <= i := Nat.le_of_not_lt hi
    have h2 : ρ'.length <= i := by rw [g1.len, List.length_set, <- hs.len]; exact h1
    rw [List.getElem?_eq_none h1, List.getElem?_eq_none h2]
 have hstart : ∀ (Z1 : Heap), Heap.le Z Z1 -> Z1.ofc w -> (∀ b, x.blk ≠ some b -> Z1 b = Z b) -> St Z1 ρ (T.set j .gone) w := by
  intro Z1 hle hof hdom
  refine ⟨hof, by rw [List.length_set]; exact hs.len, fun i o y hi hy => ?_, fun i o y b' hi hl hy hb' => ?_⟩
  . by_cases hl : o.live = true
    . obtain ⟨_, hi⟩ := hgone i o hi hl; exact (hs.obj i o y hi hy).mono hle fun _ _ h => h
    . cases o <;> first | exact (hl rfl).elim | trivial
  . obtain ⟨hij, hi'⟩ := hgone i o hi hl
    obtain ⟨g1, g2⟩ := hs.apart i o y b' hi' hl hy hb'
    exact ⟨by rw [hdom b' (g2 j _ x (Ne.symm hij) hT rfl hx)]; exact g1, fun k o' z hki hk hlk hz => g2 k o' z hki (hgone k o' hk hlk).2 hlk hz⟩
 obtain ⟨hg0, n, hn1, hn2, ⟨hbn, hcs, hcap⟩ | ⟨b, cur, hxb, hw, hmx, hcz, hrel⟩⟩ := hor
 . have hl0 : l = [] := List.map_eq_nil_iff.1 hcs
   subst hl0
   refine Calls.mono (h Z ρ w _ hG (hstart Z (Heap.le_refl _) hs.of fun _ _ => rfl) (.cons (.vs0 (.inl rfl) hcp) .nil)) ?_
   rintro e w' ⟨v, rfl, Z', ρ', T', es, a', g1, g2, g3, hk, rfl, rfl⟩
   obtain rfl := hρ g1 g2
   obtain ⟨k1, k2⟩ := hs.restore hT rfl hx g1 g2 g2.le g1.of (fun _ h => h) (fun b hb => by rw [hbn] at hb; cases hb)
   exact ⟨v, rfl, Z', ρ', T, [], a', k1, k2, g3, hk, rfl, rfl⟩
 . have hnone := (hs.apart j _ x b hT rfl hx hxb).1
   have hnl : n = l.length := by simpa using hn1.symm
   subst hnl
   have hcur : cur.toList.take l.length = l.map vb8 := by
    have := hrel
    rw [Nat.mul_one, by8_p] at this
    exact this.ps_inv
   let Z1 : Heap := ⟨fun b' => if b' = b then some (.cells (l.map vb8).toArray E (0, 0)) else Z b', Z.os, Z.out, fun b' => if b' = b then some (.cells cur E (0, 0)) else Z.cut b'⟩
   have hZb : Z1 b = some (.cells (l.map vb8).toArray E (0, 0)) := if_pos rfl
   have hcb : Z1.cut b = some (.cells cur E (0, 0)) := if_pos rfl
   have hne : ∀ b' o, Z b' = some o -> b' ≠ b := fun b' o h e => by subst e; rw [hnone] at h; cases h
   have hle1 : Heap.le Z Z1 := ⟨fun b' o h => (if_neg (hne b' o h)).trans h, rfl, rfl, fun b' o h => if_neg (hne b' o h)⟩
   have hof1 : Z1.ofc w := by
    refine ⟨fun b' o hb' => ?_, hs.of.2⟩
    by_cases e : b' = b
    . subst e
      rw [hZb] at hb'; cases hb'
      rw [hcb]
      refine ⟨hw, _, cur, E, (0, 0), rfl, rfl, fun k v hk => ?_⟩
      have hk : (l.map vb8)[k]? = some v := by simpa using hk
      rw [<- hcur, List.getElem?_take] at hk
      split at hk
      . simpa using hk
      . cases hk
    . have h1 : Z b' = some o := (if_neg e).symm.trans hb'
      have h2 : Z1.cut b' = Z.cut b' := if_neg e
      rw [h2]; exact hs.of.1 b' o h1
   have hst1 := hstart Z1 hle1 hof1 fun b' hb' => if_neg fun e => hb' (by rw [e]; exact hxb)
   have harg : Rel Z1 ρ (.vs (l.map by8) l.length) (.slice a l.length cp) := by
    by_cases hl0 : l = []
    . subst hl0; exact .vs0 (.inl rfl) hcp
    . have : a = some ⟨b, 0, none⟩ := by rw [haa (.inr rfl), hxb]; rfl
      subst this
      refine .vs (o := 0) (f := fun k => ((l.map vb8)[k]?).getD undef) hcp hZb (fun k hk => ?_) fun k hk => ?_
      . have hk' : k < l.length := by simpa using hk
        simp [hk']
      . have hk' : k < l.length := by simpa using hk
        simp only [List.getElem?_map, List.getElem?_eq_getElem hk', Option.map_some, Option.getD_some, List.getElem_map]
        exact .p _
   refine Calls.mono (h Z1 ρ w _ (hG.mono hle1) hst1 (.cons harg .nil)) ?_
   rintro e w' ⟨v, rfl, Z', ρ', T', es, a', g1, g2, g3, hk, rfl, rfl⟩
   obtain rfl := hρ g1 g2
   have hb' : Z' b = some (.cells (l.map vb8).toArray E (0, 0)) := g2.le.1 _ _ hZb
   have hcb' : Z'.cut b = some (.cells cur E (0, 0)) := (g2.le.2.2.2 _ _ hZb).trans hcb
   have hheap : w'.heap[b]? = w.heap[b]? := by
    have := g1.of.1 _ _ hb'
    rw [hcb'] at this
    rw [this.1, hw]
   have hle2 : Heap.le Z (Z'.less b) := by
    refine ⟨fun b' o h => (if_neg (hne b' o h)).trans (g2.le.1 _ _ (hle1.1 _ _ h)), g2.le.2.1.trans hle1.2.1, g2.le.2.2.1.trans hle1.2.2.1, fun b' o h => ?_⟩
    exact (g2.le.2.2.2 _ _ (hle1.1 _ _ h)).trans (hle1.2.2.2 _ _ h)
   obtain ⟨k1, k2⟩ := hs.restore (Z2 := Z'.less b) hT rfl hx g1 g2 hle2 ⟨fun b' o hb2 => by
    by_cases e : b' = b
    . subst e
      have : (Z'.less b') b' = none := if_pos rfl
      rw [this] at hb2; cases hb2
    . exact g1.of.1 b' o ((if_neg e).symm.trans hb2), g1.of.2⟩ (fun b' h => by
    show (if b' = b then none else Z' b') = none
    rw [h, ite_self]) (fun b' hb2 => by rw [hxb] at hb2; cases hb2; exact ⟨if_pos rfl, hheap⟩)
   exact ⟨v, rfl, Z'.less b, ρ', T, [], a', k1, k2, g3.far (hfar _ hk) hb' (fun k y hy => by
    have hy : (l.map vb8)[k]? = some y := by simpa using hy
    rw [List.getElem?_map] at hy
    cases hl : l[k]? with
    | none => rw [hl] at hy; cases hy
    | some u => rw [hl] at hy; cases hy; exact ⟨_, rfl⟩), hk, rfl, rfl⟩
end
end Go.E
namespace Go.Proofs.YtglpcedoongagaaGreatDoor
open Go.E Go.Proofs.YtglpcedoongagaaGreatDoor.Tryz Go.Proofs.Tryz Go.J Go.Proofs
mutual
theorem vcs_far : ∀ v : JV, ∀ a ∈ vcs v, a.Far
 | .mk k z s ks ns => by
   intro a ha
   rw [vcs] at ha
   simp only [List.mem_cons, List.not_mem_nil, or_false] at ha
   rcases ha with rfl | rfl | rfl | rfl | rfl
   . exact .p _
   . exact .p _
   . exact .p _
   . have hf := vcsL_far ks
     cases ks with
     | nil => exact .vs0 _
     | cons x r =>
       refine .vs (k := 1) (a := .p (.int .i64 x.num)) ?_ (fun Z z h => by cases h) hf
       rw [vcsL, vcs_eq]; rfl
   . cases ns with
     | nil => exact .vs0 _
     | cons x r =>
       refine .vs (k := 0) (a := str x) rfl (fun Z z h => by rw [str] at h; cases h) fun a ha => ?_
       obtain ⟨y, -, rfl⟩ := List.mem_map.1 ha
       exact .p _
theorem vcsL_far : ∀ l : List JV, ∀ a ∈ vcsL l, a.Far
 | [] => fun a ha => by rw [vcsL] at ha; cases ha
 | v :: r => fun a ha => by
   rw [vcsL] at ha
   rcases List.mem_append.1 ha with h | h
   . exact vcs_far v a h
   . exact vcsL_far r a h
end
theorem parsV_far (l : B) (r : Except Int JV) : (parsV l r).Far := by
 have h : ∀ u e, (AV.tu [.ag (vcs u), .p e]).Far := fun u e => .tu fun a ha => by
  simp only [List.mem_cons, List.not_mem_nil, or_false] at ha
  rcases ha with rfl | rfl
  . exact .ag (vcs_far u)
  . exact .p _
 cases r with
 | error e => exact h vNull _
 | ok u => exact h u _
theorem parse_own {T : Tbl} {j : Nat} {l : B} (hT : T[j]? = some (.buf 5 1 (l.map by8))) (hl : l.length <= 1099511627776) : CallA prog G 17 [.sl j 0 l.length] T fun v T' es => v = parsV l (parse l) /\ T' = T /\ es = [] :=
 CallA.thaw hT (fun v h => by rw [h]; exact parsV_far l _) (parse_ok hl)
theorem copied_own {T : Tbl} {a : AV} {l : B} (ha : Bs T a l) (hl : l.length <= 1099511627776) : CallA prog G 18 [a] T fun v T' es => v = .sl T.length 0 l.length /\ T' = T ++ [.buf 5 1 (l.map by8)] /\ es = [] := by
 refine CallA.wfs fun wf => ?_
 have wt := wf.t
 have wp := wf.p
 have hr := Sl.rules (ha : Sl T 1 a _ _) (by decide)
 refine CallA.eV 3 func18 ntmps18 results18 ?_
 simp -dsimp +decide only [vr, ty, en, ↓reduceIte, Nat.reduceSub, Nat.reduceAdd, Nat.reduceMul, Nat.reduceLT, Int.reduceAdd, Int.reduceSub, Int.reduceToNat, ci]
 simp -dsimp +decide (disch := omega) only [vr, ty, en, ↓reduceIte, Nat.reduceSub, Nat.reduceAdd, Nat.reduceMul, Nat.reduceLT, Int.reduceAdd, Int.reduceSub, Int.reduceToNat, ci, vi, getO_i, vt, wt, hr, sn0]
 refine ⟨⟨by omega, by omega⟩, ?_⟩
 exact Vw.done ⟨rfl, rfl, rfl⟩
end Go.Proofs.YtglpcedoongagaaGreatDoor
namespace Go.Proofs.YtglpcedoongagaaGreatDoor
open Go.E Go.Proofs.YtglpcedoongagaaGreatDoor.Tryz Go.Proofs.Tryz Go.J Go.Proofs
theorem joinC_ge : ∀ l : List B, (l.map List.length).sum <= (joinC l).length
 | [] => Nat.zero_le _
 | [x] => by simp [joinC]
 | x :: y :: r => by
   have := joinC_ge (y :: r)
   rw [List.map_cons, List.sum_cons]
   simp only [joinC, List.length_append, List.length_cons] at this ⊢; omega
theorem list_ge {n : Nat} (h : ∀ v : JV, may n v -> vsz v <= (prt n v).length) : ∀ ks : List JV, (∀ x ∈ ks, may n x) -> vszL ks <= ((ks.map (prt n)).map List.length).sum
 | [], _ => Nat.zero_le _
 | x :: r, hm => by
   have := h x (hm x (by simp))
   have := list_ge h r (fun y hy => hm y (by simp [hy]))
   rw [List.map_cons, List.map_cons, List.sum_cons, vszL]; omega
theorem obj_ge {n : Nat} (h : ∀ v : JV, may n v -> vsz v <= (prt n v).length) : ∀ (ks : List JV) (ns : List B), ns.length = ks.length -> (∀ x ∈ ks, may n x) -> vszL ks + (ns.map fun x => 1 + x.length).sum <= ((List.zipWith ent ns (ks.map (prt n))).map List.length).sum
 | [], ns, hl, _ => by cases ns with
   | nil => simp [vszL]
   | cons => simp at hl
 | x :: r, [], hl, _ => by simp at hl
 | x :: r, y :: ns, hl, hm => by
   have := h x (hm x (by simp))
   have := obj_ge h r ns (by simpa using hl) (fun y hy => hm y (by simp [hy]))
   have := quote_le y
   simp only [List.map_cons, List.zipWith_cons_cons, List.sum_cons, vszL, ent, List.length_append, List.length_cons] at *; omega
theorem qb_ge (l : B) : l.length <= (l.flatMap qb).length := by
 induction l with
 | nil => simp
 | cons c r ih =>
   have : 1 <= (qb c).length := by unfold qb; (repeat' split) <;> simp
   rw [List.flatMap_cons, List.length_append, List.length_cons]; omega
theorem vsz_leaf {v : JV} (h : mayL v) : vsz v = 1 + v.text.length := by
 obtain ⟨n4, n5⟩ := mayL_bare h
 obtain ⟨⟨-, -, hk, hn⟩, -⟩ := h
 rw [if_neg n5] at hn
 have hk : v.kids = [] := by rcases hk with hk | hk | hk; · exact hk
                             . exact absurd hk n4
                             . exact absurd hk n5
 have hn : v.names = [] := List.eq_nil_of_length_eq_zero hn
 rw [vsz_eq, hk, hn]; simp [vszL]
theorem prtL_ge {n : Nat} {v : JV} (h : mayL v) : vsz v <= (prt n v).length := by
 rw [vsz_leaf h]
 have hp := prt_pos (may_leaf h n)
 rw [prt_leaf h] at hp ⊢
 by_cases h3 : v.kind = 3
 . have : prtL v = quote v.text := by unfold prtL; rw [h3]; rfl
   have hq : v.text.length + 2 <= (quote v.text).length := by
    have := qb_ge v.text
    rw [quote]; simp only [List.length_cons, List.length_append, List.length_nil]; omega
   rw [this]; omega
 . have : v.text = [] := by rcases h.1.2.1 with h | h; · exact h
                            . exact absurd h h3
   rw [this]; simp; omega
theorem vsz_le : ∀ (n : Nat) (v : JV), may n v -> vsz v <= (prt n v).length
 | 0, v, hm => prtL_ge (n := 0) hm
 | n + 1, v, hm => by
   rcases hm with hm | ⟨hk, hb, hn, hkk⟩
   . exact prtL_ge hm
   . obtain ⟨k, z, s, ks, ns⟩ := v
     have hk : k = 4 ∨ k = 5 := hk
     have hv : vsz (.mk k z s ks ns) = 1 + s.length + (ns.map fun x => 1 + x.length).sum + vszL ks := by rw [vsz]
     have hs : s = [] := by rcases hb.2.1 with h | h; · exact h
                            . have h : k = 3 := h
                              rcases hk with rfl | rfl <;> cases h
     have hnm : ns.length = if k = 5 then ks.length else 0 := hb.2.2.2
     subst hs
     rcases hk with rfl | rfl
     . have hp : prt (n + 1) (.mk 4 z [] ks ns) = 91 :: (joinC (ks.map (prt n)) ++ [93]) := by rw [prt]; exact if_pos rfl
       have h1 := list_ge (vsz_le n) ks hkk
       have j1 := joinC_ge (ks.map (prt n))
       have hn0 : ns = [] := List.eq_nil_of_length_eq_zero (by rw [hnm]; rfl)
       have e := congrArg List.length hp
       simp only [List.length_cons, List.length_append, List.length_nil] at e
       rw [e, hv, hn0]; simp only [List.map_nil, List.sum_nil, List.length_nil]; omega
     . have hp : prt (n + 1) (.mk 5 z [] ks ns) = 123 :: (joinC (List.zipWith ent ns (ks.map (prt n))) ++ [125]) := by rw [prt]; exact (if_neg (show ¬ (5 : UInt8) = 4 by decide)).trans (if_pos rfl)
       have h1 := obj_ge (vsz_le n) ks ns (by rw [hnm]; rfl) hkk
       have j1 := joinC_ge (List.zipWith ent ns (ks.map (prt n)))
       have e := congrArg List.length hp
       simp only [List.length_cons, List.length_append, List.length_nil] at e
       rw [e, hv]; simp only [List.length_nil]; omega
end Go.Proofs.YtglpcedoongagaaGreatDoor
namespace Go.J
theorem dec_le (l : B) : (dec l).2 <= l.length := by
 by_cases h : 0 < (dec l).2
 . obtain ⟨_, hn, r, hr⟩ := dec_spec (l := l) (c := (dec l).1) (n := (dec l).2) rfl h
   have := congrArg List.length hr
   rw [List.length_append] at this; omega
 . omega
theorem dspan_lt : ∀ {d : B} {k : Nat}, k <= dspan d -> (k < dspan d ↔ ∃ x, d[k]? = some x /\ isD x = true)
 | [], k, h => by
   have h : k <= 0 := h
   exact ⟨fun h' => absurd h' (Nat.not_lt_zero _), fun ⟨x, hx, _⟩ => by simp at hx⟩
 | x :: r, 0, _ => by
   rw [dspan]
   split
   . rename_i hx; exact ⟨fun _ => ⟨x, rfl, hx⟩, fun _ => by omega⟩
   . rename_i hx; exact ⟨fun h => absurd h (Nat.not_lt_zero _), fun ⟨y, hy, h⟩ => by cases hy; exact absurd h hx⟩
 | x :: r, k + 1, h => by
   rw [dspan] at h ⊢
   split
   . rename_i hx
     rw [if_pos hx] at h
     have := dspan_lt (d := r) (k := k) (by omega)
     rw [List.getElem?_cons_succ]
     exact ⟨fun h' => this.1 (by omega), fun h' => by have := this.2 h'; omega⟩
   . rename_i hx; rw [if_neg hx] at h; omega
theorem dlen_lt {d : B} {k : Nat} (h : k <= dlen d) : k < dlen d ↔ (∃ x, d[k]? = some x /\ isD x = true) /\ (k = 0 ∨ d.head? ≠ some 48) := by
 unfold dlen at h ⊢
 split
 . rename_i h0
   rw [if_pos h0] at h
   constructor
   . intro hk
     have : k = 0 := by omega
     subst this
     cases d with
     | nil => cases h0
     | cons x r => cases h0; exact ⟨⟨48, rfl, rfl⟩, .inl rfl⟩
   . rintro ⟨_, h1 | h1⟩
     . omega
     . exact absurd h0 h1
 . rename_i h0
   rw [if_neg h0] at h
   rw [dspan_lt h]
   exact ⟨fun h' => ⟨h', .inr h0⟩, fun h' => h'.1⟩
theorem dval_take {d : B} {k : Nat} {x : UInt8} (h : d[k]? = some x) : dval (d.take (k + 1)) = 10 * dval (d.take k) + (x.toNat - 48) := by
 rw [List.take_add_one, h]; exact dval_snoc _ _
def fitN (D : Nat) : Bool := decide (D <= 9223372036854775808)
theorem fitN_step {D e : Nat} (he : e < 10) : fitN (10 * D + e) = (fitN D && !decide (-(D : Int) < Int.tdiv (-9223372036854775808 + (e : Int)) 10)) := by
 have h : Int.tdiv (-9223372036854775808 + (e : Int)) 10 = -(((9223372036854775808 - e) / 10 : Nat) : Int) := by
  have h1 : (-9223372036854775808 + (e : Int)) = -((9223372036854775808 - e : Nat) : Int) := by omega
  rw [h1, Int.neg_tdiv]
  congr 1
 rw [h]
 unfold fitN
 by_cases hD : D <= 9223372036854775808
 . rw [decide_eq_true hD, Bool.true_and, <- decide_not]
   exact decide_eq_decide.2 (by omega)
 . rw [decide_eq_false hD, Bool.false_and]
   exact decide_eq_false (by omega)
theorem num_of {l d : B} {neg : Bool} (hl : (neg = true /\ l.head? = some 45 /\ d = l.tail) ∨ (neg = false /\ l.head? ≠ some 45 /\ d = l)) :
 num l = if dlen d = 0 ∨ fitN (dval (d.take (dlen d))) = false ∨ (neg = false /\ dval (d.take (dlen d)) = 9223372036854775808) then none
  else some (if neg then -(dval (d.take (dlen d)) : Int) else (dval (d.take (dlen d)) : Int), d.drop (dlen d)) := by
 have e : num l = numD neg d := by
  rcases hl with ⟨rfl, h, rfl⟩ | ⟨rfl, h, rfl⟩
  . unfold num; rw [if_pos h]
  . unfold num; rw [if_neg h]
 have h2 : (2 : Nat) ^ 63 = 9223372036854775808 := rfl
 rw [e]
 unfold numD fitN
 rw [h2]
 generalize dval (List.take (dlen d) d) = D
 by_cases h0 : dlen d = 0
 . rw [if_pos h0, if_pos (.inl h0)]
 rw [if_neg h0]
 cases neg with
 | true =>
   rw [if_pos rfl]
   by_cases hD : D <= 9223372036854775808
   . rw [if_pos hD, if_neg (by simp [h0, hD]), if_pos rfl]
   . rw [if_neg hD, if_pos (.inr (.inl (decide_eq_false hD)))]
 | false =>
   rw [if_neg (by simp)]
   by_cases hD : D < 9223372036854775808
   . rw [if_pos hD, if_neg (by simp [h0]; omega)]; rfl
   . rw [if_neg hD, if_pos ?_]
     by_cases hE : D = 9223372036854775808
     . exact .inr (.inr ⟨rfl, hE⟩)
     . exact .inr (.inl (decide_eq_false (by omega)))
def cont (c : Nat) : B -> Nat -> Option Nat
 | _, 0 => some c
 | [], _ + 1 => none
 | x :: r, k + 1 => if isC x then cont (64 * c + x.toNat % 64) r k else none
def decC (n c : Nat) (r : B) : Nat × Nat := match cont c r (n - 1) with
 | some d => chk d n
 | none => (0, 0)
theorem dec_2 {a : UInt8} (r : B) (h : 0xc0 <= a.toNat) (h2 : a.toNat < 0xe0) : dec (a :: r) = decC 2 (a.toNat % 32) r := by
 rw [dec, if_neg (by omega), if_neg (by omega), if_pos h2]
 unfold decC
 cases r with
 | nil => rfl
 | cons x r =>
   simp only [d2, cont, Nat.reduceSub]
   split <;> rfl
theorem dec_3 {a : UInt8} (r : B) (h : 0xe0 <= a.toNat) (h2 : a.toNat < 0xf0) : dec (a :: r) = decC 3 (a.toNat % 16) r := by
 rw [dec, if_neg (by omega), if_neg (by omega), if_neg (by omega), if_pos h2]
 unfold decC
 match r with
 | [] => rfl
 | [x] => simp only [d3, cont, Nat.reduceSub, ite_self]
 | x :: y :: r =>
   simp only [d3, cont, Nat.reduceSub]
   by_cases hx : isC x
   . by_cases hy : isC y
     . rw [if_pos ⟨hx, hy⟩, if_pos hx, if_pos hy]
     . rw [if_neg (fun h => hy h.2), if_pos hx, if_neg hy]
   . rw [if_neg (fun h => hx h.1), if_neg hx]
theorem dec_4 {a : UInt8} (r : B) (h : 0xf0 <= a.toNat) (h2 : a.toNat < 0xf8) : dec (a :: r) = decC 4 (a.toNat % 8) r := by
 rw [dec, if_neg (by omega), if_neg (by omega), if_neg (by omega), if_neg (by omega), if_pos h2]
 unfold decC
 match r with
 | [] => rfl
 | [x] => simp only [d4, cont, Nat.reduceSub, ite_self]
 | [x, y] => simp only [d4, cont, Nat.reduceSub, ite_self]
 | x :: y :: z :: r =>
   simp only [d4, cont, Nat.reduceSub]
   by_cases hx : isC x
   . by_cases hy : isC y
     . by_cases hz : isC z
       . rw [if_pos ⟨hx, hy, hz⟩, if_pos hx, if_pos hy, if_pos hz]
       . rw [if_neg (fun h => hz h.2.2), if_pos hx, if_pos hy, if_neg hz]
     . rw [if_neg (fun h => hy h.2.1), if_pos hx, if_neg hy]
   . rw [if_neg (fun h => hx h.1), if_neg hx]
theorem dec_0 {a : UInt8} (r : B) (h : (0x80 <= a.toNat /\ a.toNat < 0xc0) ∨ 0xf8 <= a.toNat) : dec (a :: r) = (0, 0) := by
 rw [dec, if_neg (by omega)]
 by_cases h2 : a.toNat < 0xc0
 . rw [if_pos h2]
 . rw [if_neg h2, if_neg (by omega), if_neg (by omega), if_neg (by omega)]
theorem cont_short {c : Nat} : ∀ {r : B} {k : Nat}, r.length < k -> cont c r k = none
 | _, 0, h => absurd h (Nat.not_lt_zero _)
 | [], _ + 1, _ => rfl
 | x :: r, k + 1, h => by
   rw [cont]
   split
   . exact cont_short (by simpa using h)
   . rfl
theorem decC_short {n c : Nat} {r : B} (h : r.length < n - 1) : decC n c r = (0, 0) := by unfold decC; rw [cont_short h]
end Go.J
namespace Go.Proofs.YtglpcedoongagaaGreatDoor
open Go.E Go.Proofs.YtglpcedoongagaaGreatDoor.Tryz Go.Proofs.Tryz Go.J Go.Proofs
theorem u8add (k n : Nat) : UInt8.ofInt (k : Int) + u8 n = u8 (k + n) := UInt8.toNat_inj.1 (by
 rw [UInt8.toNat_add, UInt8.toNat_ofNat', UInt8.toNat_ofNat']
 show (((k : Int) % 256).toNat % 256 + n % 256) % 256 = (k + n) % 256
 omega)
theorem bytes06_ok {T : Tbl} {c : Nat} (hc : c < 4294967296) : CallA prog G 76 [wint (c : Int)] T fun v T' es => v = bl (enc c) /\ T' = T /\ es = [] := by
 refine CallA.wfs fun wf => ?_
 have wt := wf.t
 have wp := wf.p
 have h0 : ((c : Int) < 0) = False := eq_false (by omega)
 have hq1 : Int.tdiv (c : Int) 64 = ((c / 64 : Nat) : Int) := rfl
 have hq2 : Int.tdiv (c : Int) 4096 = ((c / 4096 : Nat) : Int) := rfl
 have hq3 : Int.tdiv (c : Int) 262144 = ((c / 262144 : Nat) : Int) := rfl
 have hr1 : Int.tmod (c : Int) 64 = ((c % 64 : Nat) : Int) := rfl
 have hr2 : Int.tmod ((c / 64 : Nat) : Int) 64 = ((c / 64 % 64 : Nat) : Int) := rfl
 have hr3 : Int.tmod ((c / 4096 : Nat) : Int) 64 = ((c / 4096 % 64 : Nat) : Int) := rfl
 have hpub : ∀ l : B, enc c = l -> Vw G T (fun v T' es => v = bl (enc c) /\ T' = T /\ es = []) (.sl T.length 0 l.length) (T ++ [.buf 5 1 (l.map by8)]) [] := fun l h => by
  refine Vw.pub T.length (o := .buf 5 1 (l.map by8)) (by (simp -dsimp +decide only [vy, vz, vze, vr, ty, en, ↓reduceIte, Nat.reduceSub, Nat.reduceAdd, Nat.reduceMul, Nat.reduceLT, Int.reduceAdd, Int.reduceSub, Int.reduceToNat, ci])) rfl (clean8 _) ?_
  simp -dsimp +decide only [vy, vz, vze, vr, ty, en, ↓reduceIte, Nat.reduceSub, Nat.reduceAdd, Nat.reduceMul, Nat.reduceLT, Int.reduceAdd, Int.reduceSub, Int.reduceToNat, ci, vt, wp]
  exact Vw.cut ⟨by rw [h]; rfl, rfl, rfl⟩
 have hI : ∀ n : Nat, UInt8.ofInt (n : Int) = u8 n := fun n => UInt8.toNat_inj.1 (by
  show ((n : Int) % 256).toNat % 256 = n % 256
  omega)
 by_cases h1 : 1114111 < c
 . have h1' : ((1114111 : Int) < (c : Int)) = True := eq_true (by omega)
   refine CallA.eV 19 func76 ntmps76 results76 ?_
   simp -dsimp +decide only [vy, vz, vze, vr, ty, en, ↓reduceIte, Nat.reduceSub, Nat.reduceAdd, Nat.reduceMul, Nat.reduceLT, Int.reduceAdd, Int.reduceSub, Int.reduceToNat, ci]
   simp -dsimp +decide (disch := omega) only [vy, vz, vze, vr, ty, en, ↓reduceIte, Nat.reduceSub, Nat.reduceAdd, Nat.reduceMul, Nat.reduceLT, Int.reduceAdd, Int.reduceSub, Int.reduceToNat, ci, vi, getO_i, vt, h0, h1', bb2]
   rw [enc_nil (fun h => by have := h.1; omega)]
   exact Vw.weak (u := bl []) (fun _ _ _ h => nil_bl h) (Vw.done ⟨rfl, rfl, rfl⟩)
 have h1' : ((1114111 : Int) < (c : Int)) = False := eq_false (by omega)
 by_cases h2 : 55296 <= c /\ c <= 57343
 . have h2' : ((55296 : Int) <= (c : Int)) = True := eq_true (by omega)
   have h3' : ((c : Int) <= 57343) = True := eq_true (by omega)
   refine CallA.eV 19 func76 ntmps76 results76 ?_
   simp -dsimp +decide only [vy, vz, vze, vr, ty, en, ↓reduceIte, Nat.reduceSub, Nat.reduceAdd, Nat.reduceMul, Nat.reduceLT, Int.reduceAdd, Int.reduceSub, Int.reduceToNat, ci]
   simp -dsimp +decide (disch := omega) only [vy, vz, vze, vr, ty, en, ↓reduceIte, Nat.reduceSub, Nat.reduceAdd, Nat.reduceMul, Nat.reduceLT, Int.reduceAdd, Int.reduceSub, Int.reduceToNat, ci, vi, getO_i, vt, h0, h1', h2', h3', bb2]
   rw [enc_nil (fun h => by have := h.2; omega)]
   exact Vw.weak (u := bl []) (fun _ _ _ h => nil_bl h) (Vw.done ⟨rfl, rfl, rfl⟩)
 have hs : (((55296 : Int) <= (c : Int)) = True /\ ((c : Int) <= 57343) = False) ∨ ((55296 : Int) <= (c : Int)) = False := by
  by_cases h : 55296 <= c
  . exact .inl ⟨eq_true (by omega), eq_false (by omega)⟩
  . exact .inr (eq_false (by omega))
 by_cases h4 : c < 128
 . have h4' : ((c : Int) < 128) = True := eq_true (by omega)
   have e := enc_len1 h4
   have hp := hpub _ e
   rcases hs with ⟨h2', h3'⟩ | h2'
   . skip
     refine CallA.eV 19 func76 ntmps76 results76 ?_
     simp -dsimp +decide only [vy, vz, vze, vr, ty, en, ↓reduceIte, Nat.reduceSub, Nat.reduceAdd, Nat.reduceMul, Nat.reduceLT, Int.reduceAdd, Int.reduceSub, Int.reduceToNat, ci]
     simp -dsimp +decide (disch := omega) only [vy, vz, vze, vr, ty, en, ↓reduceIte, Nat.reduceSub, Nat.reduceAdd, Nat.reduceMul, Nat.reduceLT, Int.reduceAdd, Int.reduceSub, Int.reduceToNat, ci, vi, getO_i, vt, h0, h1', h2', h3', h4', bb2, hI]
     exact hp
   . skip
     refine CallA.eV 19 func76 ntmps76 results76 ?_
     simp -dsimp +decide only [vy, vz, vze, vr, ty, en, ↓reduceIte, Nat.reduceSub, Nat.reduceAdd, Nat.reduceMul, Nat.reduceLT, Int.reduceAdd, Int.reduceSub, Int.reduceToNat, ci]
     simp -dsimp +decide (disch := omega) only [vy, vz, vze, vr, ty, en, ↓reduceIte, Nat.reduceSub, Nat.reduceAdd, Nat.reduceMul, Nat.reduceLT, Int.reduceAdd, Int.reduceSub, Int.reduceToNat, ci, vi, getO_i, vt, h0, h1', h2', h4', bb2, hI]
     exact hp
 have h4' : ((c : Int) < 128) = False := eq_false (by omega)
 have hA1 : ∀ n : Nat, UInt8.ofInt 192 + u8 n = u8 (0xc0 + n) := u8add 192
 have hA2 : ∀ n : Nat, UInt8.ofInt 128 + u8 n = u8 (0x80 + n) := u8add 128
 have hA3 : ∀ n : Nat, UInt8.ofInt 224 + u8 n = u8 (0xe0 + n) := u8add 224
 have hA4 : ∀ n : Nat, UInt8.ofInt 240 + u8 n = u8 (0xf0 + n) := u8add 240
 by_cases h5 : c < 2048
 . have h5' : ((c : Int) < 2048) = True := eq_true (by omega)
   have hp := hpub _ (enc_len2 (by omega) h5)
   rcases hs with ⟨h2', h3'⟩ | h2'
   . skip
     refine CallA.eV 19 func76 ntmps76 results76 ?_
     simp -dsimp +decide only [vy, vz, vze, vr, ty, en, ↓reduceIte, Nat.reduceSub, Nat.reduceAdd, Nat.reduceMul, Nat.reduceLT, Int.reduceAdd, Int.reduceSub, Int.reduceToNat, ci]
     simp -dsimp +decide (disch := omega) only [vy, vz, vze, vr, ty, en, ↓reduceIte, Nat.reduceSub, Nat.reduceAdd, Nat.reduceMul, Nat.reduceLT, Int.reduceAdd, Int.reduceSub, Int.reduceToNat, ci, vi, getO_i, vt, h0, h1', h2', h3', h4', h5', bb2, hI, hA1, hA2, hA3, hA4, hq1, hq2, hq3, hr1, hr2, hr3, repb, List.set_cons_zero, List.set_cons_succ, List.length_cons]
     exact hp
   . skip
     refine CallA.eV 19 func76 ntmps76 results76 ?_
     simp -dsimp +decide only [vy, vz, vze, vr, ty, en, ↓reduceIte, Nat.reduceSub, Nat.reduceAdd, Nat.reduceMul, Nat.reduceLT, Int.reduceAdd, Int.reduceSub, Int.reduceToNat, ci]
     simp -dsimp +decide (disch := omega) only [vy, vz, vze, vr, ty, en, ↓reduceIte, Nat.reduceSub, Nat.reduceAdd, Nat.reduceMul, Nat.reduceLT, Int.reduceAdd, Int.reduceSub, Int.reduceToNat, ci, vi, getO_i, vt, h0, h1', h2', h4', h5', bb2, hI, hA1, hA2, hA3, hA4, hq1, hq2, hq3, hr1, hr2, hr3, repb, List.set_cons_zero, List.set_cons_succ, List.length_cons]
     exact hp
 have h5' : ((c : Int) < 2048) = False := eq_false (by omega)
 by_cases h6 : c < 65536
 . have h6' : ((c : Int) < 65536) = True := eq_true (by omega)
   have hp := hpub _ (enc_len3 (by omega) h6 (by omega))
   rcases hs with ⟨h2', h3'⟩ | h2'
   . skip
     refine CallA.eV 19 func76 ntmps76 results76 ?_
     simp -dsimp +decide only [vy, vz, vze, vr, ty, en, ↓reduceIte, Nat.reduceSub, Nat.reduceAdd, Nat.reduceMul, Nat.reduceLT, Int.reduceAdd, Int.reduceSub, Int.reduceToNat, ci]
     simp -dsimp +decide (disch := omega) only [vy, vz, vze, vr, ty, en, ↓reduceIte, Nat.reduceSub, Nat.reduceAdd, Nat.reduceMul, Nat.reduceLT, Int.reduceAdd, Int.reduceSub, Int.reduceToNat, ci, vi, getO_i, vt, h0, h1', h2', h3', h4', h5', h6', bb2, hI, hA1, hA2, hA3, hA4, hq1, hq2, hq3, hr1, hr2, hr3, repb, List.set_cons_zero, List.set_cons_succ, List.length_cons]
     exact hp
   . skip
     refine CallA.eV 19 func76 ntmps76 results76 ?_
     simp -dsimp +decide only [vy, vz, vze, vr, ty, en, ↓reduceIte, Nat.reduceSub, Nat.reduceAdd, Nat.reduceMul, Nat.reduceLT, Int.reduceAdd, Int.reduceSub, Int.reduceToNat, ci]
     simp -dsimp +decide (disch := omega) only [vy, vz, vze, vr, ty, en, ↓reduceIte, Nat.reduceSub, Nat.reduceAdd, Nat.reduceMul, Nat.reduceLT, Int.reduceAdd, Int.reduceSub, Int.reduceToNat, ci, vi, getO_i, vt, h0, h1', h2', h4', h5', h6', bb2, hI, hA1, hA2, hA3, hA4, hq1, hq2, hq3, hr1, hr2, hr3, repb, List.set_cons_zero, List.set_cons_succ, List.length_cons]
     exact hp
 have h6' : ((c : Int) < 65536) = False := eq_false (by omega)
 have hp := hpub _ (enc_len4 (by omega) (by omega))
 rcases hs with ⟨h2', h3'⟩ | h2'
 . skip
   refine CallA.eV 19 func76 ntmps76 results76 ?_
   simp -dsimp +decide only [vy, vz, vze, vr, ty, en, ↓reduceIte, Nat.reduceSub, Nat.reduceAdd, Nat.reduceMul, Nat.reduceLT, Int.reduceAdd, Int.reduceSub, Int.reduceToNat, ci]
   simp -dsimp +decide (disch := omega) only [vy, vz, vze, vr, ty, en, ↓reduceIte, Nat.reduceSub, Nat.reduceAdd, Nat.reduceMul, Nat.reduceLT, Int.reduceAdd, Int.reduceSub, Int.reduceToNat, ci, vi, getO_i, vt, h0, h1', h2', h3', h4', h5', h6', bb2, hI, hA1, hA2, hA3, hA4, hq1, hq2, hq3, hr1, hr2, hr3, repb, List.set_cons_zero, List.set_cons_succ, List.length_cons]
   exact hp
 . skip
   refine CallA.eV 19 func76 ntmps76 results76 ?_
   simp -dsimp +decide only [vy, vz, vze, vr, ty, en, ↓reduceIte, Nat.reduceSub, Nat.reduceAdd, Nat.reduceMul, Nat.reduceLT, Int.reduceAdd, Int.reduceSub, Int.reduceToNat, ci]
   simp -dsimp +decide (disch := omega) only [vy, vz, vze, vr, ty, en, ↓reduceIte, Nat.reduceSub, Nat.reduceAdd, Nat.reduceMul, Nat.reduceLT, Int.reduceAdd, Int.reduceSub, Int.reduceToNat, ci, vi, getO_i, vt, h0, h1', h2', h4', h5', h6', bb2, hI, hA1, hA2, hA3, hA4, hq1, hq2, hq3, hr1, hr2, hr3, repb, List.set_cons_zero, List.set_cons_succ, List.length_cons]
   exact hp
theorem rune06_ok {T : Tbl} {s : B} {at' : Nat} (hs : s.length <= 140737488355328) (ha : at' <= 140737488355328) : CallA prog G 65 [str s, wint (at' : Int)] T fun v T' es => v = .tu [wint ((dec (s.drop at')).1 : Int), wint ((dec (s.drop at')).2 : Int)] /\ T' = T /\ es = [] := by
 refine CallA.wfs fun wf => ?_
 have wt := wf.t
 have hsz := ba_size s
 rw [show str s = .p (.string (ba s)) from rfl]
 by_cases hat : s.length <= at'
 . have hat' : ((s.length : Int) <= (at' : Int)) = True := eq_true (by omega)
   rw [List.drop_eq_nil_of_le hat]
   refine CallA.eV 10 func65 ntmps65 results65 ?_
   simp -dsimp +decide only [vy, vz, vze, vr, ty, en, ↓reduceIte, Nat.reduceSub, Nat.reduceAdd, Nat.reduceMul, Nat.reduceLT, Int.reduceAdd, Int.reduceSub, Int.reduceToNat, ci]
   simp -dsimp +decide (disch := omega) only [vy, vz, vze, vr, ty, en, ↓reduceIte, Nat.reduceSub, Nat.reduceAdd, Nat.reduceMul, Nat.reduceLT, Int.reduceAdd, Int.reduceSub, Int.reduceToNat, ci, vi, getO_i, vt, hsz, hat', vres, vone]
   exact Vw.done ⟨rfl, rfl, rfl⟩
 have hat' : ((s.length : Int) <= (at' : Int)) = False := eq_false (by omega)
 obtain ⟨a, r, hr⟩ : ∃ a r, s.drop at' = a :: r := ⟨s[at']'(by omega), s.drop (at' + 1), List.drop_eq_getElem_cons (by omega)⟩
 have hga : (ba s)[at']? = some a := by
  rw [ba_get]
  have := congrArg (fun l => l[0]?) hr
  simp only [List.getElem?_drop, Nat.add_zero] at this
  exact this
 have hlr : r.length + 1 = s.length - at' := by have := congrArg List.length hr; rw [List.length_drop, List.length_cons] at this; omega
 have hgr : ∀ k x, r[k]? = some x -> (ba s)[at' + (k + 1)]? = some x := fun k x h => by
  rw [ba_get]
  have := congrArg (fun l => l[k + 1]?) hr
  simp only [List.getElem?_drop, List.getElem?_cons_succ] at this
  rw [this, h]
 have ha8 := a.toNat_lt
 rw [hr]
 have hp64 : ∀ k : Nat, (64 : Nat) ^ (k + 1) = 64 * 64 ^ k := fun k => by rw [Nat.pow_succ, Nat.mul_comm]
 obtain ⟨D, hD⟩ : ∃ D, dec (a :: r) = D := ⟨_, rfl⟩
 rw [hD]
 have h0a : (0 : Int) <= (at' : Int) := by omega
 refine CallA.enterZ 10 func65 ntmps65 (congrArg Array.toList results65) rfl ⟨by simp, by simp⟩ (by kernel_rfl) ?_
 refine SemA.cutAt [] (fun s' : Nat × Nat => [(0, .p (.string (ba s))), (1, wint (at' : Int)), (6, wint (s'.2 : Int)), (7, wint (s'.1 : Int))]) (fun _ => T) (fun s' => 2 <= s'.1 /\ s'.1 <= 4 /\ s'.2 < 32 /\ s'.1 - 1 <= r.length /\ D = decC s'.1 s'.2 r) [] 6 rfl (by kernel_rfl) ?_ ?_
 . by_cases h1 : a.toNat < 128
   . have h1' : ((a.toNat : Int) < 128) = True := eq_true (by omega)
     rw [dec_one r h1] at hD
     simp -dsimp +decide (disch := omega) only [vy, vz, vze, vr, ty, en, ↓reduceIte, Nat.reduceSub, Nat.reduceAdd, Nat.reduceMul, Nat.reduceLT, Int.reduceAdd, Int.reduceSub, Int.reduceToNat, ci, vi, getO_i, vt, hsz, hat', hga, h1', vres, vone, Int.toNat_natCast]
     exact ⟨h0a, Vw.done ⟨by rw [<- hD]; rfl, rfl, rfl⟩⟩
   have h1' : ((a.toNat : Int) < 128) = False := eq_false (by omega)
   by_cases h0 : (0x80 <= a.toNat /\ a.toNat < 0xc0) ∨ 0xf8 <= a.toNat
   . rw [dec_0 r h0] at hD
     rcases h0 with h0 | h0
     . have g1 : ((192 : Int) <= (a.toNat : Int)) = False := eq_false (by omega)
       have g2 : ((224 : Int) <= (a.toNat : Int)) = False := eq_false (by omega)
       have g3 : ((240 : Int) <= (a.toNat : Int)) = False := eq_false (by omega)
       simp -dsimp +decide (disch := omega) only [vy, vz, vze, vr, ty, en, ↓reduceIte, Nat.reduceSub, Nat.reduceAdd, Nat.reduceMul, Nat.reduceLT, Int.reduceAdd, Int.reduceSub, Int.reduceToNat, ci, vi, getO_i, vt, hsz, hat', hga, h1', g1, g2, g3, vres, vone, Int.toNat_natCast]
       exact ⟨h0a, Vw.done ⟨by rw [<- hD]; rfl, rfl, rfl⟩⟩
     . have g1 : ((192 : Int) <= (a.toNat : Int)) = True := eq_true (by omega)
       have g2 : ((224 : Int) <= (a.toNat : Int)) = True := eq_true (by omega)
       have g3 : ((240 : Int) <= (a.toNat : Int)) = True := eq_true (by omega)
       have g4 : ((a.toNat : Int) < 224) = False := eq_false (by omega)
       have g5 : ((a.toNat : Int) < 240) = False := eq_false (by omega)
       have g6 : ((a.toNat : Int) < 248) = False := eq_false (by omega)
       simp -dsimp +decide (disch := omega) only [vy, vz, vze, vr, ty, en, ↓reduceIte, Nat.reduceSub, Nat.reduceAdd, Nat.reduceMul, Nat.reduceLT, Int.reduceAdd, Int.reduceSub, Int.reduceToNat, ci, vi, getO_i, vt, hsz, hat', hga, h1', g1, g2, g3, g4, g5, g6, vres, vone, Int.toNat_natCast]
       exact ⟨h0a, Vw.done ⟨by rw [<- hD]; rfl, rfl, rfl⟩⟩
   have hm1 : Int.tmod (a.toNat : Int) 32 = ((a.toNat % 32 : Nat) : Int) := rfl
   have hm2 : Int.tmod (a.toNat : Int) 16 = ((a.toNat % 16 : Nat) : Int) := rfl
   have hm3 : Int.tmod (a.toNat : Int) 8 = ((a.toNat % 8 : Nat) : Int) := rfl
   have hcls : (192 <= a.toNat /\ a.toNat < 224) ∨ (224 <= a.toNat /\ a.toNat < 240) ∨ (240 <= a.toNat /\ a.toNat < 248) := by omega
   have fin : ∀ n c0 : Nat, 2 <= n -> n <= 4 -> c0 < 32 -> D = decC n c0 r -> (((s.length : Int) - (at' : Int) < (n : Int)) = True /\ D = (0, 0)) ∨ (((s.length : Int) - (at' : Int) < (n : Int)) = False /\ n - 1 <= r.length) := fun n c0 h2 h4 hc hd => by
    by_cases hl : s.length - at' < n
    . exact .inl ⟨eq_true (by omega), by rw [hd]; exact decC_short (by omega)⟩
    . exact .inr ⟨eq_false (by omega), by omega⟩
   rcases hcls with ⟨l1, l2⟩ | ⟨l1, l2⟩ | ⟨l1, l2⟩
   . have g1 : ((192 : Int) <= (a.toNat : Int)) = True := eq_true (by omega)
     have g2 : ((a.toNat : Int) < 224) = True := eq_true (by omega)
     rw [dec_2 r l1 l2] at hD
     have := fin 2 _ (by omega) (by omega) (by omega) hD.symm
     rcases this with ⟨f1, f2⟩ | ⟨f1, f2⟩
     . have f1 : ((s.length : Int) - (at' : Int) < 2) = True := f1
       simp -dsimp +decide (disch := omega) only [vy, vz, vze, vr, ty, en, ↓reduceIte, Nat.reduceSub, Nat.reduceAdd, Nat.reduceMul, Nat.reduceLT, Int.reduceAdd, Int.reduceSub, Int.reduceToNat, ci, vi, getO_i, vt, hsz, hat', hga, h1', g1, g2, hm1, f1, vres, vone, Int.toNat_natCast]
       exact ⟨h0a, Vw.done ⟨by rw [f2]; rfl, rfl, rfl⟩⟩
     . have f1 : ((s.length : Int) - (at' : Int) < 2) = False := f1
       simp -dsimp +decide (disch := omega) only [vy, vz, vze, vr, ty, en, ↓reduceIte, Nat.reduceSub, Nat.reduceAdd, Nat.reduceMul, Nat.reduceLT, Int.reduceAdd, Int.reduceSub, Int.reduceToNat, ci, vi, getO_i, vt, hsz, hat', hga, h1', g1, g2, hm1, f1, vres, vone, Int.toNat_natCast]
       exact ⟨h0a, ⟨(2, a.toNat % 32), ⟨by dsimp only; omega, by dsimp only; omega, by dsimp only; omega, f2, hD.symm⟩, by first | rfl | exact ⟨rfl, rfl⟩⟩⟩
   . have g1 : ((192 : Int) <= (a.toNat : Int)) = True := eq_true (by omega)
     have g2 : ((a.toNat : Int) < 224) = False := eq_false (by omega)
     have g3 : ((224 : Int) <= (a.toNat : Int)) = True := eq_true (by omega)
     have g4 : ((a.toNat : Int) < 240) = True := eq_true (by omega)
     rw [dec_3 r l1 l2] at hD
     have := fin 3 _ (by omega) (by omega) (by omega) hD.symm
     rcases this with ⟨f1, f2⟩ | ⟨f1, f2⟩
     . have f1 : ((s.length : Int) - (at' : Int) < 3) = True := f1
       simp -dsimp +decide (disch := omega) only [vy, vz, vze, vr, ty, en, ↓reduceIte, Nat.reduceSub, Nat.reduceAdd, Nat.reduceMul, Nat.reduceLT, Int.reduceAdd, Int.reduceSub, Int.reduceToNat, ci, vi, getO_i, vt, hsz, hat', hga, h1', g1, g2, g3, g4, hm2, f1, vres, vone, Int.toNat_natCast]
       exact ⟨h0a, Vw.done ⟨by rw [f2]; rfl, rfl, rfl⟩⟩
     . have f1 : ((s.length : Int) - (at' : Int) < 3) = False := f1
       simp -dsimp +decide (disch := omega) only [vy, vz, vze, vr, ty, en, ↓reduceIte, Nat.reduceSub, Nat.reduceAdd, Nat.reduceMul, Nat.reduceLT, Int.reduceAdd, Int.reduceSub, Int.reduceToNat, ci, vi, getO_i, vt, hsz, hat', hga, h1', g1, g2, g3, g4, hm2, f1, vres, vone, Int.toNat_natCast]
       exact ⟨h0a, ⟨(3, a.toNat % 16), ⟨by dsimp only; omega, by dsimp only; omega, by dsimp only; omega, f2, hD.symm⟩, by first | rfl | exact ⟨rfl, rfl⟩⟩⟩
   . have g1 : ((192 : Int) <= (a.toNat : Int)) = True := eq_true (by omega)
     have g2 : ((a.toNat : Int) < 224) = False := eq_false (by omega)
     have g3 : ((224 : Int) <= (a.toNat : Int)) = True := eq_true (by omega)
     have g4 : ((a.toNat : Int) < 240) = False := eq_false (by omega)
     have g5 : ((240 : Int) <= (a.toNat : Int)) = True := eq_true (by omega)
     have g6 : ((a.toNat : Int) < 248) = True := eq_true (by omega)
     rw [dec_4 r l1 l2] at hD
     have := fin 4 _ (by omega) (by omega) (by omega) hD.symm
     rcases this with ⟨f1, f2⟩ | ⟨f1, f2⟩
     . have f1 : ((s.length : Int) - (at' : Int) < 4) = True := f1
       simp -dsimp +decide (disch := omega) only [vy, vz, vze, vr, ty, en, ↓reduceIte, Nat.reduceSub, Nat.reduceAdd, Nat.reduceMul, Nat.reduceLT, Int.reduceAdd, Int.reduceSub, Int.reduceToNat, ci, vi, getO_i, vt, hsz, hat', hga, h1', g1, g2, g3, g4, g5, g6, hm3, f1, vres, vone, Int.toNat_natCast]
       exact ⟨h0a, Vw.done ⟨by rw [f2]; rfl, rfl, rfl⟩⟩
     . have f1 : ((s.length : Int) - (at' : Int) < 4) = False := f1
       simp -dsimp +decide (disch := omega) only [vy, vz, vze, vr, ty, en, ↓reduceIte, Nat.reduceSub, Nat.reduceAdd, Nat.reduceMul, Nat.reduceLT, Int.reduceAdd, Int.reduceSub, Int.reduceToNat, ci, vi, getO_i, vt, hsz, hat', hga, h1', g1, g2, g3, g4, g5, g6, hm3, f1, vres, vone, Int.toNat_natCast]
       exact ⟨h0a, ⟨(4, a.toNat % 8), ⟨by dsimp only; omega, by dsimp only; omega, by dsimp only; omega, f2, hD.symm⟩, by first | rfl | exact ⟨rfl, rfl⟩⟩⟩
 . rintro ⟨n, c0⟩ g tmp ⟨hn2, hn4, hc0, hnr, hd⟩
   dsimp only at hn2 hn4 hc0 hnr hd
   refine SemA.o ?_
   simp -dsimp +decide (disch := omega) only [vy, vz, vze, vr, ty, en, ↓reduceIte, Nat.reduceSub, Nat.reduceAdd, Nat.reduceMul, Nat.reduceLT, Int.reduceAdd, Int.reduceSub, Int.reduceToNat, ci, vi, getO_i, vt]
   refine SemA.loopE (fun q : Nat × Nat => [(0, .p (.string (ba s))), (1, wint (at' : Int)), (6, wint (q.2 : Int)), (7, wint (n : Int)), (8, wint ((q.1 + 1 : Nat) : Int))]) (fun _ => T)
    (fun q => q.1 <= n - 1 /\ q.2 < 32 * 64 ^ q.1 /\ cont c0 r (n - 1) = cont q.2 (r.drop q.1) (n - 1 - q.1)) (fun q => n - q.1) (0, c0) [] 1
    (fun d : Nat => [(6, wint (d : Int)), (7, wint (n : Int))]) (fun _ => T) (fun d => d < 4294967296 /\ cont c0 r (n - 1) = some d) ⟨by omega, by simpa using hc0, rfl⟩ (by (simp -dsimp +decide (disch := omega) only [vy, vz, vze, vr, ty, en, ↓reduceIte, Nat.reduceSub, Nat.reduceAdd, Nat.reduceMul, Nat.reduceLT, Int.reduceAdd, Int.reduceSub, Int.reduceToNat, ci, vi, getO_i]); first | rfl | done) rfl (by simp) ?_ ?_
   . rintro ⟨i, c⟩ g ⟨hi, hc, hct⟩
     dsimp only at hi hc hct
     have hc4 : c < 4294967296 := by
      have : i <= 3 := by omega
      have : (64 : Nat) ^ i <= 64 ^ 3 := Nat.pow_le_pow_right (by decide) this
      have h3 : (64 : Nat) ^ 3 = 262144 := rfl
      omega
     refine SemA.o ?_
     by_cases hlt : i < n - 1
     . have hlt' : (((i + 1 : Nat) : Int) < (n : Int)) = True := eq_true (by omega)
       obtain ⟨x, hx⟩ : ∃ x, r[i]? = some x := ⟨r[i]'(by omega), by simp⟩
       have hgx := hgr i x hx
       have hx8 := x.toNat_lt
       have hdr : r.drop i = x :: r.drop (i + 1) := by obtain ⟨h1, rfl⟩ := List.getElem?_eq_some_iff.1 hx; exact List.drop_eq_getElem_cons h1
       rw [hdr, show n - 1 - i = (n - 1 - (i + 1)) + 1 by omega, cont] at hct
       have hcst : ((at' : Int) + ((i + 1 : Nat) : Int)).toNat = at' + (i + 1) := by omega
       have hmx : Int.tmod (x.toNat : Int) 64 = ((x.toNat % 64 : Nat) : Int) := rfl
       by_cases b1 : x.toNat < 128
       . have b1' : ((x.toNat : Int) < 128) = True := eq_true (by omega)
         have hC : isC x = false := decide_eq_false (by omega)
         rw [hC] at hct
         simp -dsimp +decide (disch := omega) only [vy, vz, vze, vr, ty, en, ↓reduceIte, Nat.reduceSub, Nat.reduceAdd, Nat.reduceMul, Nat.reduceLT, Int.reduceAdd, Int.reduceSub, Int.reduceToNat, ci, vi, getO_i, vt, hsz, hlt', hcst, hgx, b1', vres, vone]
         exact ⟨by omega, Vw.done ⟨by rw [hd, decC, hct]; rfl, rfl, rfl⟩⟩
       have b1' : ((x.toNat : Int) < 128) = False := eq_false (by omega)
       by_cases b2 : 192 <= x.toNat
       . have b2' : ((192 : Int) <= (x.toNat : Int)) = True := eq_true (by omega)
         have hC : isC x = false := decide_eq_false (by omega)
         rw [hC] at hct
         simp -dsimp +decide (disch := omega) only [vy, vz, vze, vr, ty, en, ↓reduceIte, Nat.reduceSub, Nat.reduceAdd, Nat.reduceMul, Nat.reduceLT, Int.reduceAdd, Int.reduceSub, Int.reduceToNat, ci, vi, getO_i, vt, hsz, hlt', hcst, hgx, b1', b2', vres, vone]
         exact ⟨by omega, Vw.done ⟨by rw [hd, decC, hct]; rfl, rfl, rfl⟩⟩
       have b2' : ((192 : Int) <= (x.toNat : Int)) = False := eq_false (by omega)
       have hC : isC x = true := decide_eq_true (by omega)
       rw [hC, if_pos rfl] at hct
       simp -dsimp +decide (disch := omega) only [vy, vz, vze, vr, ty, en, ↓reduceIte, Nat.reduceSub, Nat.reduceAdd, Nat.reduceMul, Nat.reduceLT, Int.reduceAdd, Int.reduceSub, Int.reduceToNat, ci, vi, getO_i, vt, hsz, hlt', hcst, hgx, b1', b2', hmx, vres, vone]
       refine ⟨by omega, (i + 1, 64 * c + x.toNat % 64), ⟨⟨by dsimp only; omega, ?_, hct⟩, by dsimp only; omega⟩, ?_⟩
       . have := hp64 i
         show 64 * c + x.toNat % 64 < 32 * 64 ^ (i + 1)
         rw [this]; omega
       . dsimp only
         exact ⟨by congr 2, by congr 2⟩
     . have hlt' : (((i + 1 : Nat) : Int) < (n : Int)) = False := eq_false (by omega)
       rw [show n - 1 - i = 0 by omega] at hct
       have hct : cont c0 r (n - 1) = some c := by rw [hct]; cases r.drop i <;> rfl
       simp -dsimp +decide (disch := omega) only [vy, vz, vze, vr, ty, en, ↓reduceIte, Nat.reduceSub, Nat.reduceAdd, Nat.reduceMul, Nat.reduceLT, Int.reduceAdd, Int.reduceSub, Int.reduceToNat, ci, vi, getO_i, vt, hsz, hlt']
       exact ⟨c, ⟨hc4, hct⟩, rfl⟩
   . rintro d g tmp ⟨hd4, hcd⟩
     have hDc : D = chk d n := by rw [hd, decC, hcd]
     simp -dsimp +decide (disch := omega) only [vy, vz, vze, vr, ty, en, ↓reduceIte, Nat.reduceSub, Nat.reduceAdd, Nat.reduceMul, Nat.reduceLT, Int.reduceAdd, Int.reduceSub, Int.reduceToNat, ci, vi, getO_i, vt]
     refine (bytes06_ok hd4).det' ?_
     by_cases he : (enc d).length = n
     . have he' : (((enc d).length : Int) = (n : Int)) = True := eq_true (by omega)
       rw [chk, if_pos he] at hDc
       simp -dsimp +decide (disch := omega) only [vy, vz, vze, vr, ty, en, ↓reduceIte, Nat.reduceSub, Nat.reduceAdd, Nat.reduceMul, Nat.reduceLT, Int.reduceAdd, Int.reduceSub, Int.reduceToNat, ci, vi, getO_i, vt, vbl, he', vres, vone]
       exact Vw.done ⟨by rw [hDc]; rfl, rfl, rfl⟩
     . have he' : (((enc d).length : Int) = (n : Int)) = False := eq_false (by omega)
       rw [chk, if_neg he] at hDc
       simp -dsimp +decide (disch := omega) only [vy, vz, vze, vr, ty, en, ↓reduceIte, Nat.reduceSub, Nat.reduceAdd, Nat.reduceMul, Nat.reduceLT, Int.reduceAdd, Int.reduceSub, Int.reduceToNat, ci, vi, getO_i, vt, vbl, he', vres, vone]
       exact Vw.done ⟨by rw [hDc]; rfl, rfl, rfl⟩
theorem has06_ok {T : Tbl} {a : AV} {ns : List B} {s : B} (hl : ns.length <= 140737488355328) (ha : Sl T 1 a (ns.map str) ns.length) : CallA prog G 44 [a, str s] T fun v T' es => (∃ b : Bool, v = .p (.bool b) /\ (b = true ↔ s ∈ ns)) /\ T' = T /\ es = [] := by
 refine CallA.wfs fun wf => ?_
 have wt := wf.t
 have hr := Sl.rules ha (by decide)
 have hld := Sl.loads ha (P := prog) (t := 9) (by (simp -dsimp +decide only [vy, vz, vze, vr, ty, en, ↓reduceIte, Nat.reduceSub, Nat.reduceAdd, Nat.reduceMul, Nat.reduceLT, Int.reduceAdd, Int.reduceSub, Int.reduceToNat, ci]))
 rw [show str s = .p (.string (ba s)) from rfl]
 refine CallA.eV 6 func44 ntmps44 results44 ?_
 simp -dsimp +decide only [vy, vz, vze, vr, ty, en, ↓reduceIte, Nat.reduceSub, Nat.reduceAdd, Nat.reduceMul, Nat.reduceLT, Int.reduceAdd, Int.reduceSub, Int.reduceToNat, ci]
 refine SemA.loopE (fun i : Nat => [(0, a), (1, .p (.string (ba s))), (5, wint (i : Int))]) (fun _ => T) (fun i => i <= ns.length /\ s ∉ ns.take i) (fun i => ns.length - i) 0 [] 0
  (fun _ : Unit => []) (fun _ => T) (fun _ => s ∉ ns) ⟨by omega, by simp⟩ (by (simp -dsimp +decide (disch := omega) only [vy, vz, vze, vr, ty, en, ↓reduceIte, Nat.reduceSub, Nat.reduceAdd, Nat.reduceMul, Nat.reduceLT, Int.reduceAdd, Int.reduceSub, Int.reduceToNat, ci, vi, getO_i]); first | rfl | done) rfl (by simp) ?_ ?_
 . rintro i g ⟨hi, hv⟩
   refine SemA.o ?_
   by_cases hlt : i < ns.length
   . have hlt' : ((i : Int) < (ns.length : Int)) = True := eq_true (by omega)
     obtain ⟨y, hy⟩ : ∃ y, ns[i]? = some y := ⟨ns[i]'(by omega), by simp⟩
     have hge : (ns.map str)[i]? = some (.p (.string (ba y))) := by rw [List.getElem?_map, hy]; rfl
     have t3 : (ba y = ba s) = (y = s) := propext ba_inj
     by_cases e : y = s
     . have e' : (y = s) = True := eq_true e
       simp -dsimp +decide (disch := omega) only [vy, vz, vze, vr, ty, en, ↓reduceIte, Nat.reduceSub, Nat.reduceAdd, Nat.reduceMul, Nat.reduceLT, Int.reduceAdd, Int.reduceSub, Int.reduceToNat, ci, vi, getO_i, vt, hr, hld, hge, hlt', vstr, t3, e']
       exact ⟨by omega, Vw.done ⟨⟨true, rfl, ⟨fun _ => e ▸ List.mem_of_getElem? hy, fun _ => rfl⟩⟩, rfl, rfl⟩⟩
     . have e' : (y = s) = False := eq_false e
       simp -dsimp +decide (disch := omega) only [vy, vz, vze, vr, ty, en, ↓reduceIte, Nat.reduceSub, Nat.reduceAdd, Nat.reduceMul, Nat.reduceLT, Int.reduceAdd, Int.reduceSub, Int.reduceToNat, ci, vi, getO_i, vt, hr, hld, hge, hlt', vstr, t3, e']
       refine ⟨by omega, i + 1, ⟨⟨by omega, ?_⟩, by omega⟩, rfl⟩
       rw [List.take_add_one, hy]
       intro h
       rcases List.mem_append.1 h with h | h
       . exact hv h
       . exact e (by have h : s = y := by simpa using h
                     exact h.symm)
   . have hlt' : ((i : Int) < (ns.length : Int)) = False := eq_false (by omega)
     rw [List.take_of_length_le (by omega)] at hv
     simp -dsimp +decide (disch := omega) only [vy, vz, vze, vr, ty, en, ↓reduceIte, Nat.reduceSub, Nat.reduceAdd, Nat.reduceMul, Nat.reduceLT, Int.reduceAdd, Int.reduceSub, Int.reduceToNat, ci, vi, getO_i, vt, hr, hlt']
     exact ⟨(), hv⟩
 . rintro _ g tmp hv
   simp -dsimp +decide (disch := omega) only [vy, vz, vze, vr, ty, en, ↓reduceIte, Nat.reduceSub, Nat.reduceAdd, Nat.reduceMul, Nat.reduceLT, Int.reduceAdd, Int.reduceSub, Int.reduceToNat, ci, vi, getO_i, vt]
   exact Vw.done ⟨⟨false, rfl, ⟨fun h => (by cases h), fun h => absurd h hv⟩⟩, rfl, rfl⟩
end Go.Proofs.YtglpcedoongagaaGreatDoor
namespace Go.Proofs.YtglpcedoongagaaGreatDoor
open Go.E Go.Proofs.YtglpcedoongagaaGreatDoor.Tryz Go.Proofs.Tryz Go.J Go.Proofs
def rs (b r : B) (e : Int) : AObj := .cells 57 [.p (.string (ba b)), wint ((b.length - r.length : Nat) : Int), .p (.int .i64 e)]
structure Rst (b r : B) : Prop where
 suf : r <:+ b
 len : b.length <= 1099511627776
theorem Rst.le {b r : B} (h : Rst b r) : r.length <= b.length := h.suf.length_le
theorem Rst.get {b r : B} (h : Rst b r) (k : Nat) : (ba b)[b.length - r.length + k]? = r[k]? := by
 obtain ⟨t, rfl⟩ := h.suf
 rw [ba_get, List.length_append, Nat.add_sub_cancel, List.getElem?_append_right (by omega)]
 congr 1; omega
theorem Rst.get0 {b r : B} (h : Rst b r) : (ba b)[b.length - r.length]? = r.head? := by
 have := h.get 0
 rw [Nat.add_zero] at this
 rw [this, List.head?_eq_getElem?]
theorem Rst.drop {b r : B} (h : Rst b r) (k : Nat) : Rst b (r.drop k) := ⟨(List.drop_suffix k r).trans h.suf, h.len⟩
theorem Rst.tail {b r : B} (h : Rst b r) : Rst b r.tail := ⟨(List.tail_suffix r).trans h.suf, h.len⟩
theorem Rst.at {b r : B} (h : Rst b r) : b.drop (b.length - r.length) = r := by
 obtain ⟨t, rfl⟩ := h.suf
 rw [List.length_append, Nat.add_sub_cancel, List.drop_left]
theorem blk_suf : ∀ r : B, Go.J.blk r <:+ r
 | [] => List.suffix_refl _
 | x :: r => by
   unfold Go.J.blk
   split
   . exact (blk_suf r).trans (List.suffix_cons x r)
   . exact List.suffix_refl _
theorem Rst.bk {b r : B} (h : Rst b r) : Rst b (Go.J.blk r) := ⟨(blk_suf r).trans h.suf, h.len⟩
theorem rs_step {b r : B} {x : UInt8} {t : B} (h : Rst b r) (e : r = x :: t) : b.length - r.length + 1 = b.length - t.length := by
 have := h.le; subst e; simp only [List.length_cons] at this ⊢; omega
theorem rs_drop {b r : B} (h : Rst b r) {k : Nat} (hk : k <= r.length) : b.length - r.length + k = b.length - (r.drop k).length := by
 have := h.le; rw [List.length_drop]; omega
def wrE (e x : Int) : Int := if e = 0 then x else e
theorem next06_ok {T : Tbl} {i : Nat} {b r : B} {e : Int} (hi : T[i]? = some (rs b r e)) (h : Rst b r) : CallA prog G 52 [.ptr i 0] T fun v T' es => v = by8 (r.headD 0) /\ T' = T /\ es = [] := by
 have hle := h.le
 have hbl := h.len
 have hsz := ba_size b
 rw [rs] at hi
 cases r with
 | nil =>
   have hlt : (((b.length - ([] : B).length : Nat) : Int) < (b.length : Int)) = False := eq_false (by simp)
   refine CallA.eV 3 func52 ntmps52 results52 ?_
   simp -dsimp +decide only [vy, vz, vze, vr, ty, en, ↓reduceIte, Nat.reduceSub, Nat.reduceAdd, Nat.reduceMul, Nat.reduceLT, Int.reduceAdd, Int.reduceSub, Int.reduceToNat, ci]
   refine SemA.drawS (.fl 0 (.fl 1 (.fl 2 (.fl 3 (.fl 4 (.fl 5 (.fl 6 (.fl 7 (.fl 8 (.fl 9 .nil)))))))))) mixed (by kernel_rfl) ?_
   simp -dsimp +decide (disch := omega) only [vy, vz, vze, vr, ty, en, ↓reduceIte, Nat.reduceSub, Nat.reduceAdd, Nat.reduceMul, Nat.reduceLT, Int.reduceAdd, Int.reduceSub, Int.reduceToNat, ci, vi, getO_i, vt, hi, hsz, hlt]
   exact Vw.done ⟨rfl, rfl, rfl⟩
 | cons x t =>
   have hg := h.get0
   have hlt : (((b.length - (x :: t).length : Nat) : Int) < (b.length : Int)) = True := eq_true (by simp only [List.length_cons] at hle ⊢; omega)
   generalize b.length - (x :: t).length = a at hi hg hlt
   have hg : (ba b)[a]? = some x := hg
   refine CallA.eV 3 func52 ntmps52 results52 ?_
   simp -dsimp +decide only [vy, vz, vze, vr, ty, en, ↓reduceIte, Nat.reduceSub, Nat.reduceAdd, Nat.reduceMul, Nat.reduceLT, Int.reduceAdd, Int.reduceSub, Int.reduceToNat, ci]
   refine SemA.drawS (.fl 0 (.fl 1 (.fl 2 (.fl 3 (.fl 4 (.fl 5 (.fl 6 (.fl 7 (.fl 8 (.fl 9 .nil)))))))))) mixed (by kernel_rfl) ?_
   simp -dsimp +decide (disch := omega) only [vy, vz, vze, vr, ty, en, ↓reduceIte, Nat.reduceSub, Nat.reduceAdd, Nat.reduceMul, Nat.reduceLT, Int.reduceAdd, Int.reduceSub, Int.reduceToNat, ci, vi, getO_i, vt, hi, hsz, hlt]
   refine SemA.drawS (.fl 0 (.fl 1 (.fl 2 (.fl 3 (.fl 4 (.fl 5 (.fl 6 (.fl 7 (.fl 8 (.fl 9 .nil)))))))))) mixed (by kernel_rfl) ?_
   simp -dsimp +decide (disch := omega) only [vy, vz, vze, vr, ty, en, ↓reduceIte, Nat.reduceSub, Nat.reduceAdd, Nat.reduceMul, Nat.reduceLT, Int.reduceAdd, Int.reduceSub, Int.reduceToNat, ci, vi, getO_i, vt, hi, hg]
   exact ⟨by omega, Vw.done ⟨rfl, rfl, rfl⟩⟩
theorem wrong06_ok {T : Tbl} {i : Nat} {b r : B} {e x : Int} (hi : T[i]? = some (rs b r e)) : CallA prog G 56 [.ptr i 0, .p (.int .i64 x)] T fun v T' es => v = .tu [] /\ T' = T.set i (rs b r (wrE e x)) /\ es = [(i, false)] := by
 have hil := (List.getElem?_eq_some_iff.1 hi).1
 have hi' := hi
 rw [rs] at hi
 by_cases h0 : e = 0
 . have h0' : (e = 0) = True := eq_true h0
   refine CallA.eV 4 func56 ntmps56 results56 ?_
   simp -dsimp +decide only [vy, vz, vze, vr, ty, en, ↓reduceIte, Nat.reduceSub, Nat.reduceAdd, Nat.reduceMul, Nat.reduceLT, Int.reduceAdd, Int.reduceSub, Int.reduceToNat, ci]
   simp -dsimp +decide (disch := omega) only [vy, vz, vze, vr, ty, en, ↓reduceIte, Nat.reduceSub, Nat.reduceAdd, Nat.reduceMul, Nat.reduceLT, Int.reduceAdd, Int.reduceSub, Int.reduceToNat, ci, vi, getO_i, vt, hi, h0']
   rw [rec1_in hil]
   refine Vw.done ⟨rfl, ?_, rfl⟩
   rw [rs, wrE, if_pos h0]; rfl
 . have h0' : (e = 0) = False := eq_false h0
   refine CallA.eV 4 func56 ntmps56 results56 ?_
   simp -dsimp +decide only [vy, vz, vze, vr, ty, en, ↓reduceIte, Nat.reduceSub, Nat.reduceAdd, Nat.reduceMul, Nat.reduceLT, Int.reduceAdd, Int.reduceSub, Int.reduceToNat, ci]
   simp -dsimp +decide (disch := omega) only [vy, vz, vze, vr, ty, en, ↓reduceIte, Nat.reduceSub, Nat.reduceAdd, Nat.reduceMul, Nat.reduceLT, Int.reduceAdd, Int.reduceSub, Int.reduceToNat, ci, vi, getO_i, vt, hi, h0']
   refine Vw.eff (E' := [(i, false)]) (by simp) (Vw.done ⟨rfl, ?_, rfl⟩)
   rw [wrE, if_neg h0]; exact (set_self hi').symm
theorem blanks06_ok {T : Tbl} {i : Nat} {b r : B} {e : Int} (hi : T[i]? = some (rs b r e)) (h : Rst b r) : CallA prog G 33 [.ptr i 0] T fun v T' es => v = .tu [] /\ T' = T.set i (rs b (blk r) e) /\ es = [(i, false)] := by
 refine CallA.wfs fun wf => ?_
 have wt := wf.t
 have hil := (List.getElem?_eq_some_iff.1 hi).1
 have hsz := ba_size b
 have hgi : ∀ o, (T.set i o)[i]? = some o := fun o => List.getElem?_set_self hil
 refine CallA.eV 2 func33 ntmps33 results33 ?_
 simp -dsimp +decide only [vy, vz, vze, vr, ty, en, ↓reduceIte, Nat.reduceSub, Nat.reduceAdd, Nat.reduceMul, Nat.reduceLT, Int.reduceAdd, Int.reduceSub, Int.reduceToNat, ci]
 refine SemA.loopE (fun q : B => [(0, .ptr i 0)]) (fun q => T.set i (rs b q e)) (fun q => Rst b q /\ blk q = blk r) (fun q => q.length) r [(i, false)] 0
  (fun _ : Unit => []) (fun _ => T.set i (rs b (blk r) e)) (fun _ => True) ⟨h, rfl⟩ (by (simp -dsimp +decide (disch := omega) only [vy, vz, vze, vr, ty, en, ↓reduceIte, Nat.reduceSub, Nat.reduceAdd, Nat.reduceMul, Nat.reduceLT, Int.reduceAdd, Int.reduceSub, Int.reduceToNat, ci, vi, getO_i]); first | rfl | done) (set_self hi).symm (by simp) ?_ ?_
 . rintro q g ⟨hq, hbk⟩
   have hle := hq.le
   refine SemA.o ?_
   refine SemA.drawS (.fl 0 (.fl 1 (.fl 2 (.fl 3 (.fl 4 (.fl 5 (.fl 6 (.fl 7 (.fl 8 (.fl 9 (.fl 10 (.fl 11 (.fl 12 (.fl 13 (.fl 14 (.fl 15 (.fl 16 (.fl 17 (.fl 18 (.fl 19 (.fl 20 (.fl 21 (.fl 22 (.fl 23 (.fl 24 (.fl 25 (.fl 26 (.fl 27 (.fl 28 (.fl 29 (.fl 30 (.fl 31 (.fl 32 (.fl 33 (.fl 34 (.fl 35 (.fl 36 (.fl 37 (.fl 38 (.fl 39 (.fl 40 (.fl 41 (.fl 42 (.fl 43 (.fl 44 (.fl 45 (.fl 46 (.fl 47 (.fl 48 (.fl 49 (.fl 50 (.fl 51 (.fl 52 (.fl 53 (.fl 54 (.fl 55 (.fl 56 (.fl 57 .nil)))))))))))))))))))))))))))))))))))))))))))))))))))))))))) mixed (by kernel_rfl) ?_
   cases q with
   | nil =>
     have hlt : (((b.length - ([] : B).length : Nat) : Int) < (b.length : Int)) = False := eq_false (by simp)
     simp -dsimp +decide (disch := omega) only [vy, vz, vze, vr, ty, en, ↓reduceIte, Nat.reduceSub, Nat.reduceAdd, Nat.reduceMul, Nat.reduceLT, Int.reduceAdd, Int.reduceSub, Int.reduceToNat, ci, vi, getO_i, vt, rs, hgi, hsz, hlt]
     exact ⟨(), by rw [<- hbk]; rfl⟩
   | cons x t =>
     have hg := hq.get0
     have hlt : (((b.length - (x :: t).length : Nat) : Int) < (b.length : Int)) = True := eq_true (by simp only [List.length_cons] at hle ⊢; omega)
     have hst := rs_step hq rfl
     have hbl := h.len
     obtain ⟨a, ha⟩ : ∃ a, b.length - (x :: t).length = a := ⟨_, rfl⟩
     rw [ha] at hg hlt hst
     have hg : (ba b)[a]? = some x := hg
     have t32 : ((x.toNat : Int) = 32) = (x = 32) := propext (u8_num (n := 32) (by decide))
     have t9 : ((x.toNat : Int) = 9) = (x = 9) := propext (u8_num (n := 9) (by decide))
     have t10 : ((x.toNat : Int) = 10) = (x = 10) := propext (u8_num (n := 10) (by decide))
     have t13 : ((x.toNat : Int) = 13) = (x = 13) := propext (u8_num (n := 13) (by decide))
     have hrs : rs b (x :: t) e = .cells 57 [.p (.string (ba b)), wint (a : Int), .p (.int .i64 e)] := by rw [rs, ha]
     have hsub : subE (rec1 T.length i false [(i, false)]) [(i, false)] := by rw [rec1_in hil]; intro y hy; simpa using hy
     have go : isB x = true -> ∃ s : B, ((Rst b s /\ Go.J.blk s = Go.J.blk r) /\ s.length < (x :: t).length) /\ T.set i (.cells 57 [.p (.string (ba b)), .p (.int .i64 ((a : Int) + 1)), .p (.int .i64 e)]) = T.set i (rs b s e) := fun hB => ⟨t, ⟨⟨hq.tail, by rw [<- hbk, Go.J.blk, hB]; rfl⟩, by simp⟩, by rw [rs, <- hst]; rfl⟩
     rw [hrs]
     rcases Classical.propComplete (x = 32) with e1 | e1
     . simp -dsimp +decide (disch := omega) only [vy, vz, vze, vr, ty, en, ↓reduceIte, Nat.reduceSub, Nat.reduceAdd, Nat.reduceMul, Nat.reduceLT, Int.reduceAdd, Int.reduceSub, Int.reduceToNat, ci, vi, getO_i, vt, hgi, hsz, hlt, hg, t32, e1, List.set_set]
       repeat refine ⟨by omega, ?_⟩
       exact ⟨go (by rw [of_eq_true e1]; rfl), hsub⟩
     rcases Classical.propComplete (x = 9) with e2 | e2
     . simp -dsimp +decide (disch := omega) only [vy, vz, vze, vr, ty, en, ↓reduceIte, Nat.reduceSub, Nat.reduceAdd, Nat.reduceMul, Nat.reduceLT, Int.reduceAdd, Int.reduceSub, Int.reduceToNat, ci, vi, getO_i, vt, hgi, hsz, hlt, hg, t32, t9, e1, e2, List.set_set]
       repeat refine ⟨by omega, ?_⟩
       exact ⟨go (by rw [of_eq_true e2]; rfl), hsub⟩
     rcases Classical.propComplete (x = 10) with e3 | e3
     . simp -dsimp +decide (disch := omega) only [vy, vz, vze, vr, ty, en, ↓reduceIte, Nat.reduceSub, Nat.reduceAdd, Nat.reduceMul, Nat.reduceLT, Int.reduceAdd, Int.reduceSub, Int.reduceToNat, ci, vi, getO_i, vt, hgi, hsz, hlt, hg, t32, t9, t10, e1, e2, e3, List.set_set]
       repeat refine ⟨by omega, ?_⟩
       exact ⟨go (by rw [of_eq_true e3]; rfl), hsub⟩
     rcases Classical.propComplete (x = 13) with e4 | e4
     . simp -dsimp +decide (disch := omega) only [vy, vz, vze, vr, ty, en, ↓reduceIte, Nat.reduceSub, Nat.reduceAdd, Nat.reduceMul, Nat.reduceLT, Int.reduceAdd, Int.reduceSub, Int.reduceToNat, ci, vi, getO_i, vt, hgi, hsz, hlt, hg, t32, t9, t10, t13, e1, e2, e3, e4, List.set_set]
       repeat refine ⟨by omega, ?_⟩
       exact ⟨go (by rw [of_eq_true e4]; rfl), hsub⟩
     . simp -dsimp +decide (disch := omega) only [vy, vz, vze, vr, ty, en, ↓reduceIte, Nat.reduceSub, Nat.reduceAdd, Nat.reduceMul, Nat.reduceLT, Int.reduceAdd, Int.reduceSub, Int.reduceToNat, ci, vi, getO_i, vt, hgi, hsz, hlt, hg, t32, t9, t10, t13, e1, e2, e3, e4, List.set_set]
       repeat refine ⟨by omega, ?_⟩
       refine ⟨(), ?_⟩
       rw [<- hbk, blk_ne (by simp [isB, of_eq_false e1, of_eq_false e2, of_eq_false e3, of_eq_false e4]), hrs]; rfl
 . rintro _ g tmp -
   simp -dsimp +decide (disch := omega) only [vy, vz, vze, vr, ty, en, ↓reduceIte, Nat.reduceSub, Nat.reduceAdd, Nat.reduceMul, Nat.reduceLT, Int.reduceAdd, Int.reduceSub, Int.reduceToNat, ci, vi, getO_i, vt]
   exact Vw.done ⟨rfl, rfl, rfl⟩
theorem want06_ok {T : Tbl} {i : Nat} {b r s : B} {e : Int} (hi : T[i]? = some (rs b r e)) (h : Rst b r) (hs : s.length <= 1000) : CallA prog G 53 [.ptr i 0, str s] T fun v T' es => v = .tu [] /\ T' = T.set i (if s.isPrefixOf r then rs b (r.drop s.length) e else rs b r (wrE e 5)) /\ es = [(i, false)] := by
 refine CallA.wfs fun wf => ?_
 have wt := wf.t
 have hil := (List.getElem?_eq_some_iff.1 hi).1
 have hsb := ba_size b
 have hss := ba_size s
 have hle := h.le
 have hbl := h.len
 have hi' := hi
 have hdr := rs_drop h (k := s.length)
 have hex : (ba b).extract (b.length - r.length) (b.length - r.length + s.length) = ba (r.take s.length) := by rw [ba_ext, h.at, Nat.add_sub_cancel_left]
 have hps := pre_iff (p := s) (l := r)
 rw [show str s = .p (.string (ba s)) from rfl]
 rw [rs] at hi
 obtain ⟨a, ha⟩ : ∃ a, b.length - r.length = a := ⟨_, rfl⟩
 rw [ha] at hi hex hdr
 by_cases hc : r.length < s.length
 . have hc' : ((b.length : Int) - (a : Int) < (s.length : Int)) = True := eq_true (by omega)
   refine CallA.eV 4 func53 ntmps53 results53 ?_
   simp -dsimp +decide only [vy, vz, vze, vr, ty, en, ↓reduceIte, Nat.reduceSub, Nat.reduceAdd, Nat.reduceMul, Nat.reduceLT, Int.reduceAdd, Int.reduceSub, Int.reduceToNat, ci]
   refine SemA.drawS (.fl 0 (.fl 1 (.fl 2 (.fl 3 (.fl 4 (.fl 5 (.fl 6 (.fl 7 (.fl 8 (.fl 9 (.fl 10 (.fl 11 (.fl 12 (.fl 13 (.fl 14 (.fl 15 (.fl 16 (.fl 17 (.fl 18 (.fl 19 (.fl 20 (.fl 21 (.fl 22 (.fl 23 (.fl 24 (.fl 25 (.fl 26 (.fl 27 (.fl 28 (.fl 29 (.fl 30 (.fl 31 (.fl 32 .nil))))))))))))))))))))))))))))))))) mixed (by kernel_rfl) ?_
   simp -dsimp +decide (disch := omega) only [vy, vz, vze, vr, ty, en, ↓reduceIte, Nat.reduceSub, Nat.reduceAdd, Nat.reduceMul, Nat.reduceLT, Int.reduceAdd, Int.reduceSub, Int.reduceToNat, ci, vi, getO_i, vt, hi, hsb, hss, hc']
   refine (wrong06_ok hi').det' ?_
   simp -dsimp +decide (disch := omega) only [vy, vz, vze, vr, ty, en, ↓reduceIte, Nat.reduceSub, Nat.reduceAdd, Nat.reduceMul, Nat.reduceLT, Int.reduceAdd, Int.reduceSub, Int.reduceToNat, ci, vi, getO_i, vt]
   rw [hps, decide_eq_false (by omega)]
   exact Vw.eff (E' := [(i, false)]) (by simp [rec1_in hil]) (Vw.done ⟨rfl, rfl, rfl⟩)
 . have hc' : ((b.length : Int) - (a : Int) < (s.length : Int)) = False := eq_false (by omega)
   have hto : ((a : Int) + (s.length : Int)).toNat = a + s.length := by omega
   have tt : (ba (r.take s.length) = ba s) = (r.take s.length = s) := propext ba_inj
   rcases Classical.propComplete (r.take s.length = s) with ht | ht
   . skip
     refine CallA.eV 4 func53 ntmps53 results53 ?_
     simp -dsimp +decide only [vy, vz, vze, vr, ty, en, ↓reduceIte, Nat.reduceSub, Nat.reduceAdd, Nat.reduceMul, Nat.reduceLT, Int.reduceAdd, Int.reduceSub, Int.reduceToNat, ci]
     refine SemA.drawS (.fl 0 (.fl 1 (.fl 2 (.fl 3 (.fl 4 (.fl 5 (.fl 6 (.fl 7 (.fl 8 (.fl 9 (.fl 10 (.fl 11 (.fl 12 (.fl 13 (.fl 14 (.fl 15 (.fl 16 (.fl 17 (.fl 18 (.fl 19 (.fl 20 (.fl 21 (.fl 22 (.fl 23 (.fl 24 (.fl 25 (.fl 26 (.fl 27 (.fl 28 (.fl 29 (.fl 30 (.fl 31 (.fl 32 .nil))))))))))))))))))))))))))))))))) mixed (by kernel_rfl) ?_
     simp -dsimp +decide (disch := omega) only [vy, vz, vze, vr, ty, en, ↓reduceIte, Nat.reduceSub, Nat.reduceAdd, Nat.reduceMul, Nat.reduceLT, Int.reduceAdd, Int.reduceSub, Int.reduceToNat, ci, vi, getO_i, vt, hi, hsb, hss, hc', hto, hex, vstr, tt, ht, Int.toNat_natCast]
     have hp : s.isPrefixOf r = true := by rw [hps]; exact decide_eq_true ⟨by omega, of_eq_true ht⟩
     rw [hp, if_pos rfl, rec1_in hil]
     refine ⟨by omega, by omega, ⟨by omega, by omega⟩, Vw.done ⟨rfl, ?_, rfl⟩⟩
     rw [rs, <- hdr (by omega)]; rfl
   . skip
     refine CallA.eV 4 func53 ntmps53 results53 ?_
     simp -dsimp +decide only [vy, vz, vze, vr, ty, en, ↓reduceIte, Nat.reduceSub, Nat.reduceAdd, Nat.reduceMul, Nat.reduceLT, Int.reduceAdd, Int.reduceSub, Int.reduceToNat, ci]
     refine SemA.drawS (.fl 0 (.fl 1 (.fl 2 (.fl 3 (.fl 4 (.fl 5 (.fl 6 (.fl 7 (.fl 8 (.fl 9 (.fl 10 (.fl 11 (.fl 12 (.fl 13 (.fl 14 (.fl 15 (.fl 16 (.fl 17 (.fl 18 (.fl 19 (.fl 20 (.fl 21 (.fl 22 (.fl 23 (.fl 24 (.fl 25 (.fl 26 (.fl 27 (.fl 28 (.fl 29 (.fl 30 (.fl 31 (.fl 32 .nil))))))))))))))))))))))))))))))))) mixed (by kernel_rfl) ?_
     simp -dsimp +decide (disch := omega) only [vy, vz, vze, vr, ty, en, ↓reduceIte, Nat.reduceSub, Nat.reduceAdd, Nat.reduceMul, Nat.reduceLT, Int.reduceAdd, Int.reduceSub, Int.reduceToNat, ci, vi, getO_i, vt, hi, hsb, hss, hc', hto, hex, vstr, tt, ht, Int.toNat_natCast]
     have hp : s.isPrefixOf r = false := by rw [hps]; exact decide_eq_false fun h => of_eq_false ht h.2
     rw [hp]
     refine ⟨by omega, by omega, ⟨by omega, by omega⟩, ?_⟩
     refine (wrong06_ok hi').det' ?_
     simp -dsimp +decide (disch := omega) only [vy, vz, vze, vr, ty, en, ↓reduceIte, Nat.reduceSub, Nat.reduceAdd, Nat.reduceMul, Nat.reduceLT, Int.reduceAdd, Int.reduceSub, Int.reduceToNat, ci, vi, getO_i, vt]
     exact Vw.eff (E' := [(i, false)]) (by simp [rec1_in hil]) (Vw.done ⟨rfl, rfl, rfl⟩)
end Go.Proofs.YtglpcedoongagaaGreatDoor
namespace Go.J
def hxn : Nat -> Nat -> B -> Option (Nat × B)
 | 0, n, r => some (n, r)
 | _ + 1, _, [] => none
 | k + 1, n, x :: t => match hexv x with
   | some d => hxn k (16 * n + d) t
   | none => none
theorem hex4_hxn (r : B) : hex4 r = hxn 4 0 r := by
 unfold hex4
 match r with
 | [] => rfl
 | [a] => simp only [hxn]; split <;> rfl
 | [a, b] => simp only [hxn]; (repeat' split) <;> first | rfl | simp_all
 | [a, b, c] => simp only [hxn]; (repeat' split) <;> first | rfl | simp_all
 | a :: b :: c :: d :: r =>
   simp only [hxn]
   cases hexv a with
   | none => rfl
   | some x =>
     cases hexv b with
     | none => rfl
     | some y =>
       cases hexv c with
       | none => rfl
       | some z =>
         cases hexv d with
         | none => rfl
         | some t => simp only []; congr 2; omega
end Go.J
namespace Go.Proofs.YtglpcedoongagaaGreatDoor
open Go.E Go.Proofs.YtglpcedoongagaaGreatDoor.Tryz Go.Proofs.Tryz Go.J Go.Proofs
theorem minV {P : Program} {K : AV -> Prop} (ts : Array TypeId) (ty : TypeId) (x y : Int) : pureK P K (Builtin.min_ ts ty #[.int .i64 x, .int .i64 y]) = K (.p (.int .i64 (min x y))) := by
 refine pureK_det fun w => ?_
 have : (if y < x then y else x) = min x y := by split <;> omega
 simp [Builtin.min_, Builtin.min2, this]
theorem four06_ok {T : Tbl} {i : Nat} {b r : B} {e : Int} (hi : T[i]? = some (rs b r e)) (h : Rst b r) : CallA prog G 89 [.ptr i 0] T fun v T' es => (match hex4 r with
 | some (n, r') => v = wint (n : Int) /\ Rst b r' /\ T' = T.set i (rs b r' e)
 | none => v = wint 0 /\ ∃ q, Rst b q /\ T' = T.set i (rs b q (wrE e 5))) /\ es = [(i, false)] := by
 refine CallA.wfs fun wf => ?_
 have wt := wf.t
 have hil := (List.getElem?_eq_some_iff.1 hi).1
 have hgi : ∀ o, (T.set i o)[i]? = some o := fun o => List.getElem?_set_self hil
 rw [hex4_hxn]
 obtain ⟨R, hR⟩ : ∃ R, hxn 4 0 r = R := ⟨_, rfl⟩
 rw [hR]
 have hsub : subE (rec1 T.length i false [(i, false)]) [(i, false)] := by rw [rec1_in hil]; intro y hy; simpa using hy
 refine CallA.eV 16 func89 ntmps89 results89 ?_
 simp -dsimp +decide only [vy, vz, vze, vr, ty, en, ↓reduceIte, Nat.reduceSub, Nat.reduceAdd, Nat.reduceMul, Nat.reduceLT, Int.reduceAdd, Int.reduceSub, Int.reduceToNat, ci]
 refine SemA.loopE (fun q : Nat × Nat × B => [(0, .ptr i 0), (3, wint (q.2.1 : Int)), (4, wint (q.1 : Int))]) (fun q => T.set i (rs b q.2.2 e)) (fun q => q.1 <= 4 /\ q.2.1 < 16 ^ q.1 /\ Rst b q.2.2 /\ hxn (4 - q.1) q.2.1 q.2.2 = R) (fun q => 4 - q.1) (0, 0, r) [(i, false)] 0
  (fun q : Nat × B => [(3, wint (q.1 : Int))]) (fun q => T.set i (rs b q.2 e)) (fun q => Rst b q.2 /\ R = some q) ⟨by dsimp only; omega, by show 0 < 16 ^ 0; decide, h, hR⟩ (by (simp -dsimp +decide (disch := omega) only [vy, vz, vze, vr, ty, en, ↓reduceIte, Nat.reduceSub, Nat.reduceAdd, Nat.reduceMul, Nat.reduceLT, Int.reduceAdd, Int.reduceSub, Int.reduceToNat, ci, vi, getO_i]); first | rfl | done | exact ⟨rfl, rfl⟩) (set_self hi).symm (by simp) ?_ ?_
 . rintro ⟨k, n, q⟩ g ⟨hk, hn, hq, hx4⟩
   dsimp only at hk hn hq hx4
   refine SemA.o ?_
   by_cases hlt : k < 4
   rotate_left
   . have hlt' : ((k : Int) < 4) = False := eq_false (by omega)
     rw [show 4 - k = 0 by omega] at hx4
     simp -dsimp +decide (disch := omega) only [vy, vz, vze, vr, ty, en, ↓reduceIte, Nat.reduceSub, Nat.reduceAdd, Nat.reduceMul, Nat.reduceLT, Int.reduceAdd, Int.reduceSub, Int.reduceToNat, ci, vi, getO_i, vt, hlt']
     exact ⟨(n, q), ⟨hq, hx4.symm⟩, rfl, rfl⟩
   have hlt' : ((k : Int) < 4) = True := eq_true (by omega)
   have hn16 : n < 4096 := by
    have : (16 : Nat) ^ k <= 16 ^ 3 := Nat.pow_le_pow_right (by decide) (by omega)
    have h3 : (16 : Nat) ^ 3 = 4096 := rfl
    omega
   have hp16 : (16 : Nat) ^ (k + 1) = 16 * 16 ^ k := by rw [Nat.pow_succ, Nat.mul_comm]
   rw [show 4 - k = (4 - (k + 1)) + 1 by omega] at hx4
   obtain ⟨x, hx⟩ : ∃ x, q.headD 0 = x := ⟨_, rfl⟩
   have hx8 := x.toNat_lt
   have hstep : ∀ d, hexv x = some d -> d < 16 /\ ∃ t, q = x :: t /\ hxn (4 - (k + 1)) (16 * n + d) t = R := by
    intro d hd
    have hd16 := hexv_lt hd
    cases q with
    | nil => have : x = 0 := hx.symm
             subst this; cases hd
    | cons y t =>
      have : y = x := hx
      subst this
      rw [hxn, hd] at hx4
      exact ⟨hd16, t, rfl, hx4⟩
   simp -dsimp +decide (disch := omega) only [vy, vz, vze, vr, ty, en, ↓reduceIte, Nat.reduceSub, Nat.reduceAdd, Nat.reduceMul, Nat.reduceLT, Int.reduceAdd, Int.reduceSub, Int.reduceToNat, ci, vi, getO_i, vt, hlt']
   refine (next06_ok (hgi _) hq).det' ?_
   rw [hx]
   by_cases c1 : 48 <= x.toNat /\ x.toNat <= 57
   . obtain ⟨hd16, t, rfl, hx5⟩ := hstep (x.toNat - 48) (by rw [hexv, if_pos c1])
     have hst := rs_step hq rfl
     have hbl := h.len
     have hle := hq.le
     obtain ⟨a, ha⟩ : ∃ a, b.length - (x :: t).length = a := ⟨_, rfl⟩
     rw [ha] at hst
     have hrs : rs b (x :: t) e = .cells 57 [.p (.string (ba b)), wint (a : Int), .p (.int .i64 e)] := by rw [rs, ha]
     have fin : ∃ s : Nat × Nat × B, ((s.1 <= 4 /\ s.2.1 < 16 ^ s.1 /\ Rst b s.2.2 /\ hxn (4 - s.1) s.2.1 s.2.2 = R) /\ 4 - s.1 < 4 - k) /\ (wint (16 * (n : Int) + (x.toNat : Int) - 48) = wint (s.2.1 : Int) /\ wint ((k : Int) + 1) = wint (s.1 : Int)) /\ T.set i (.cells 57 [.p (.string (ba b)), .p (.int .i64 ((a : Int) + 1)), .p (.int .i64 e)]) = T.set i (rs b s.2.2 e) :=
      ⟨(k + 1, 16 * n + (x.toNat - 48), t), ⟨⟨by dsimp only; omega, by dsimp only; omega, hq.tail, hx5⟩, by dsimp only; omega⟩, ⟨by dsimp only; congr 2; omega, rfl⟩, by dsimp only; rw [rs, <- hst]; rfl⟩
     have b1 : ((48 : Int) <= (x.toNat : Int)) = True := eq_true (by omega)
     have b2 : ((x.toNat : Int) <= 57) = True := eq_true (by omega)
     simp -dsimp +decide (disch := omega) only [vy, vz, vze, vr, ty, en, ↓reduceIte, Nat.reduceSub, Nat.reduceAdd, Nat.reduceMul, Nat.reduceLT, Int.reduceAdd, Int.reduceSub, Int.reduceToNat, ci, vi, getO_i, vt, b1, b2, hrs, hgi, List.set_set]
     exact ⟨fin, hsub⟩
   by_cases c2 : 97 <= x.toNat /\ x.toNat <= 102
   . obtain ⟨hd16, t, rfl, hx5⟩ := hstep (x.toNat - 87) (by rw [hexv, if_neg c1, if_pos c2])
     have hst := rs_step hq rfl
     have hbl := h.len
     have hle := hq.le
     obtain ⟨a, ha⟩ : ∃ a, b.length - (x :: t).length = a := ⟨_, rfl⟩
     rw [ha] at hst
     have hrs : rs b (x :: t) e = .cells 57 [.p (.string (ba b)), wint (a : Int), .p (.int .i64 e)] := by rw [rs, ha]
     have fin : ∃ s : Nat × Nat × B, ((s.1 <= 4 /\ s.2.1 < 16 ^ s.1 /\ Rst b s.2.2 /\ hxn (4 - s.1) s.2.1 s.2.2 = R) /\ 4 - s.1 < 4 - k) /\ (wint (16 * (n : Int) + (x.toNat : Int) - 97 + 10) = wint (s.2.1 : Int) /\ wint ((k : Int) + 1) = wint (s.1 : Int)) /\ T.set i (.cells 57 [.p (.string (ba b)), .p (.int .i64 ((a : Int) + 1)), .p (.int .i64 e)]) = T.set i (rs b s.2.2 e) :=
      ⟨(k + 1, 16 * n + (x.toNat - 87), t), ⟨⟨by dsimp only; omega, by dsimp only; omega, hq.tail, hx5⟩, by dsimp only; omega⟩, ⟨by dsimp only; congr 2; omega, rfl⟩, by dsimp only; rw [rs, <- hst]; rfl⟩
     have b1 : ((97 : Int) <= (x.toNat : Int)) = True := eq_true (by omega)
     have b2 : ((x.toNat : Int) <= 102) = True := eq_true (by omega)
     have b3 : ((48 : Int) <= (x.toNat : Int)) = True := eq_true (by omega)
     have b4 : ((x.toNat : Int) <= 57) = False := eq_false (by omega)
     simp -dsimp +decide (disch := omega) only [vy, vz, vze, vr, ty, en, ↓reduceIte, Nat.reduceSub, Nat.reduceAdd, Nat.reduceMul, Nat.reduceLT, Int.reduceAdd, Int.reduceSub, Int.reduceToNat, ci, vi, getO_i, vt, b1, b2, b3, b4, hrs, hgi, List.set_set]
     exact ⟨fin, hsub⟩
   by_cases c3 : 65 <= x.toNat /\ x.toNat <= 70
   . obtain ⟨hd16, t, rfl, hx5⟩ := hstep (x.toNat - 55) (by rw [hexv, if_neg c1, if_neg c2, if_pos c3])
     have hst := rs_step hq rfl
     have hbl := h.len
     have hle := hq.le
     obtain ⟨a, ha⟩ : ∃ a, b.length - (x :: t).length = a := ⟨_, rfl⟩
     rw [ha] at hst
     have hrs : rs b (x :: t) e = .cells 57 [.p (.string (ba b)), wint (a : Int), .p (.int .i64 e)] := by rw [rs, ha]
     have fin : ∃ s : Nat × Nat × B, ((s.1 <= 4 /\ s.2.1 < 16 ^ s.1 /\ Rst b s.2.2 /\ hxn (4 - s.1) s.2.1 s.2.2 = R) /\ 4 - s.1 < 4 - k) /\ (wint (16 * (n : Int) + (x.toNat : Int) - 65 + 10) = wint (s.2.1 : Int) /\ wint ((k : Int) + 1) = wint (s.1 : Int)) /\ T.set i (.cells 57 [.p (.string (ba b)), .p (.int .i64 ((a : Int) + 1)), .p (.int .i64 e)]) = T.set i (rs b s.2.2 e) :=
      ⟨(k + 1, 16 * n + (x.toNat - 55), t), ⟨⟨by dsimp only; omega, by dsimp only; omega, hq.tail, hx5⟩, by dsimp only; omega⟩, ⟨by dsimp only; congr 2; omega, rfl⟩, by dsimp only; rw [rs, <- hst]; rfl⟩
     have b1 : ((65 : Int) <= (x.toNat : Int)) = True := eq_true (by omega)
     have b2 : ((x.toNat : Int) <= 70) = True := eq_true (by omega)
     have b3 : ((48 : Int) <= (x.toNat : Int)) = True := eq_true (by omega)
     have b4 : ((x.toNat : Int) <= 57) = False := eq_false (by omega)
     have b5 : ((97 : Int) <= (x.toNat : Int)) = False := eq_false (by omega)
     simp -dsimp +decide (disch := omega) only [vy, vz, vze, vr, ty, en, ↓reduceIte, Nat.reduceSub, Nat.reduceAdd, Nat.reduceMul, Nat.reduceLT, Int.reduceAdd, Int.reduceSub, Int.reduceToNat, ci, vi, getO_i, vt, b1, b2, b3, b4, b5, hrs, hgi, List.set_set]
     exact ⟨fin, hsub⟩
   have hno : hxn (4 - k) n q = none := by
    rw [show 4 - k = (4 - (k + 1)) + 1 by omega]
    cases q with
    | nil => rfl
    | cons y t =>
      have hyx : y = x := hx
      subst hyx
      rw [hxn, hexv, if_neg c1, if_neg c2, if_neg c3]
   have hRn : R = none := by rw [<- hno, show 4 - k = (4 - (k + 1)) + 1 by omega]; exact hx4.symm
   subst hRn
   have hcl : (x.toNat < 48) ∨ (57 < x.toNat /\ x.toNat < 65) ∨ (70 < x.toNat /\ x.toNat < 97) ∨ (102 < x.toNat) := by omega
   rcases hcl with hr | hr | hr | hr
   . have b0 : ((48 : Int) <= (x.toNat : Int)) = False := eq_false (by omega)
     have b1 : ((97 : Int) <= (x.toNat : Int)) = False := eq_false (by omega)
     have b2 : ((65 : Int) <= (x.toNat : Int)) = False := eq_false (by omega)
     simp -dsimp +decide (disch := omega) only [vy, vz, vze, vr, ty, en, ↓reduceIte, Nat.reduceSub, Nat.reduceAdd, Nat.reduceMul, Nat.reduceLT, Int.reduceAdd, Int.reduceSub, Int.reduceToNat, ci, vi, getO_i, vt, b0, b1, b2]
     refine (wrong06_ok (hgi _)).det' ?_
     simp -dsimp +decide (disch := omega) only [vy, vz, vze, vr, ty, en, ↓reduceIte, Nat.reduceSub, Nat.reduceAdd, Nat.reduceMul, Nat.reduceLT, Int.reduceAdd, Int.reduceSub, Int.reduceToNat, ci, vi, getO_i, vt, List.set_set]
     exact Vw.eff (E' := [(i, false)]) (by simp [rec1_in hil]) (Vw.done ⟨⟨rfl, q, hq, rfl⟩, rfl⟩)
   . have b0 : ((48 : Int) <= (x.toNat : Int)) = True := eq_true (by omega)
     have b1 : ((x.toNat : Int) <= 57) = False := eq_false (by omega)
     have b2 : ((97 : Int) <= (x.toNat : Int)) = False := eq_false (by omega)
     have b3 : ((65 : Int) <= (x.toNat : Int)) = False := eq_false (by omega)
     simp -dsimp +decide (disch := omega) only [vy, vz, vze, vr, ty, en, ↓reduceIte, Nat.reduceSub, Nat.reduceAdd, Nat.reduceMul, Nat.reduceLT, Int.reduceAdd, Int.reduceSub, Int.reduceToNat, ci, vi, getO_i, vt, b0, b1, b2, b3]
     refine (wrong06_ok (hgi _)).det' ?_
     simp -dsimp +decide (disch := omega) only [vy, vz, vze, vr, ty, en, ↓reduceIte, Nat.reduceSub, Nat.reduceAdd, Nat.reduceMul, Nat.reduceLT, Int.reduceAdd, Int.reduceSub, Int.reduceToNat, ci, vi, getO_i, vt, List.set_set]
     exact Vw.eff (E' := [(i, false)]) (by simp [rec1_in hil]) (Vw.done ⟨⟨rfl, q, hq, rfl⟩, rfl⟩)
   . have b0 : ((48 : Int) <= (x.toNat : Int)) = True := eq_true (by omega)
     have b1 : ((x.toNat : Int) <= 57) = False := eq_false (by omega)
     have b2 : ((97 : Int) <= (x.toNat : Int)) = False := eq_false (by omega)
     have b3 : ((65 : Int) <= (x.toNat : Int)) = True := eq_true (by omega)
     have b4 : ((x.toNat : Int) <= 70) = False := eq_false (by omega)
     simp -dsimp +decide (disch := omega) only [vy, vz, vze, vr, ty, en, ↓reduceIte, Nat.reduceSub, Nat.reduceAdd, Nat.reduceMul, Nat.reduceLT, Int.reduceAdd, Int.reduceSub, Int.reduceToNat, ci, vi, getO_i, vt, b0, b1, b2, b3, b4]
     refine (wrong06_ok (hgi _)).det' ?_
     simp -dsimp +decide (disch := omega) only [vy, vz, vze, vr, ty, en, ↓reduceIte, Nat.reduceSub, Nat.reduceAdd, Nat.reduceMul, Nat.reduceLT, Int.reduceAdd, Int.reduceSub, Int.reduceToNat, ci, vi, getO_i, vt, List.set_set]
     exact Vw.eff (E' := [(i, false)]) (by simp [rec1_in hil]) (Vw.done ⟨⟨rfl, q, hq, rfl⟩, rfl⟩)
   . have b0 : ((48 : Int) <= (x.toNat : Int)) = True := eq_true (by omega)
     have b1 : ((x.toNat : Int) <= 57) = False := eq_false (by omega)
     have b2 : ((97 : Int) <= (x.toNat : Int)) = True := eq_true (by omega)
     have b3 : ((x.toNat : Int) <= 102) = False := eq_false (by omega)
     have b4 : ((65 : Int) <= (x.toNat : Int)) = True := eq_true (by omega)
     have b5 : ((x.toNat : Int) <= 70) = False := eq_false (by omega)
     simp -dsimp +decide (disch := omega) only [vy, vz, vze, vr, ty, en, ↓reduceIte, Nat.reduceSub, Nat.reduceAdd, Nat.reduceMul, Nat.reduceLT, Int.reduceAdd, Int.reduceSub, Int.reduceToNat, ci, vi, getO_i, vt, b0, b1, b2, b3, b4, b5]
     refine (wrong06_ok (hgi _)).det' ?_
     simp -dsimp +decide (disch := omega) only [vy, vz, vze, vr, ty, en, ↓reduceIte, Nat.reduceSub, Nat.reduceAdd, Nat.reduceMul, Nat.reduceLT, Int.reduceAdd, Int.reduceSub, Int.reduceToNat, ci, vi, getO_i, vt, List.set_set]
     exact Vw.eff (E' := [(i, false)]) (by simp [rec1_in hil]) (Vw.done ⟨⟨rfl, q, hq, rfl⟩, rfl⟩)
 . rintro ⟨n, q⟩ g tmp ⟨hq, hRq⟩
   dsimp only at hq hRq
   subst hRq
   simp -dsimp +decide (disch := omega) only [vy, vz, vze, vr, ty, en, ↓reduceIte, Nat.reduceSub, Nat.reduceAdd, Nat.reduceMul, Nat.reduceLT, Int.reduceAdd, Int.reduceSub, Int.reduceToNat, ci, vi, getO_i, vt]
   exact Vw.done ⟨⟨rfl, hq, rfl⟩, rfl⟩
def SlashV (b r : B) (i : Nat) (T : Tbl) (v : AV) (T' : Tbl) (es : Eff) : Prop := ∃ (c : Nat) (q : B) (e' : Int), v = wint (c : Int) /\ c < 2147483648 /\ Rst b q /\ T' = T.set i (rs b q e') /\ es = [(i, false)] /\ ((e' = 0 /\ match esc r with
 | some (c0, r0) => c = c0 /\ q = r0
 | none => ¬ okC c) ∨ (e' = 5 /\ esc r = none))
theorem slash06_ok {T : Tbl} {i : Nat} {b r : B} (hi : T[i]? = some (rs b r 0)) (h : Rst b r) : CallA prog G 77 [.ptr i 0] T fun v T' es => SlashV b r i T v T' es := by
 refine CallA.wfs fun wf => ?_
 have wt := wf.t
 have hil := (List.getElem?_eq_some_iff.1 hi).1
 have hgi : ∀ o, (T.set i o)[i]? = some o := fun o => List.getElem?_set_self hil
 have hsb := ba_size b
 have hle := h.le
 have hbl := h.len
 obtain ⟨x, hx⟩ : ∃ x, r.headD 0 = x := ⟨_, rfl⟩
 have hx8 := x.toNat_lt
 have hmn : min (((b.length - r.length : Nat) : Int) + 1) (b.length : Int) = ((b.length - r.tail.length : Nat) : Int) := by
  cases r with
  | nil => simp only [List.tail_nil, List.length_nil]; omega
  | cons y t => simp only [List.tail_cons, List.length_cons] at hle ⊢; omega
 have hesc : esc r = (match esc1 x with
  | some n => some (n, r.tail)
  | none => if x = 117 then uni r.tail else none) := by
  cases r with
  | nil => subst hx; rfl
  | cons y t => have : y = x := hx
                subst this; exact esc_cons y t
 have hi' := hi
 rw [rs] at hi'
 have hset : ∀ o, (T.set i o).length = T.length := fun o => List.length_set
 have fin : ∀ (c : Nat) (q : B) (e' : Int) (E : Eff), c < 2147483648 -> Rst b q -> (∀ y ∈ E, y ∈ [(i, false)]) -> ((e' = 0 /\ match esc r with
  | some (c0, r0) => c = c0 /\ q = r0
  | none => ¬ okC c) ∨ (e' = 5 /\ esc r = none)) -> Vw G T (fun v T' es => SlashV b r i T v T' es) (.p (.int .i64 (c : Int))) (T.set i (rs b q e')) E := fun c q e' E h1 h2 h3 h4 => Vw.eff (E' := [(i, false)]) h3 (Vw.done ⟨c, q, e', rfl, h1, h2, rfl, rfl, h4⟩)
 have tc : ∀ n : Nat, n < 256 -> ((x.toNat : Int) = (n : Int)) = (x = u8 n) := fun n h => propext (u8_num h)
 have t34 : ((x.toNat : Int) = 34) = (x = 34) := tc 34 (by decide)
 have t92 : ((x.toNat : Int) = 92) = (x = 92) := tc 92 (by decide)
 have t47 : ((x.toNat : Int) = 47) = (x = 47) := tc 47 (by decide)
 have t98 : ((x.toNat : Int) = 98) = (x = 98) := tc 98 (by decide)
 have t102 : ((x.toNat : Int) = 102) = (x = 102) := tc 102 (by decide)
 have t110 : ((x.toNat : Int) = 110) = (x = 110) := tc 110 (by decide)
 have t114 : ((x.toNat : Int) = 114) = (x = 114) := tc 114 (by decide)
 have t116 : ((x.toNat : Int) = 116) = (x = 116) := tc 116 (by decide)
 have t117 : ((x.toNat : Int) = 117) = (x = 117) := tc 117 (by decide)
 have hrE : ∀ y ∈ rec1 T.length i false [], y ∈ [(i, false)] := by rw [rec1_in hil]; intro y hy; exact hy
 refine CallA.eV 40 func77 ntmps77 results77 ?_
 simp -dsimp +decide only [vy, vz, vze, vr, ty, en, ↓reduceIte, Nat.reduceSub, Nat.reduceAdd, Nat.reduceMul, Nat.reduceLT, Int.reduceAdd, Int.reduceSub, Int.reduceToNat, ci]
 refine (next06_ok hi h).det' ?_
 rw [hx]
 simp -dsimp +decide (disch := omega) only [vy, vz, vze, vr, ty, en, ↓reduceIte, Nat.reduceSub, Nat.reduceAdd, Nat.reduceMul, Nat.reduceLT, Int.reduceAdd, Int.reduceSub, Int.reduceToNat, ci, vi, getO_i, vt]
 refine SemA.drawS (.fl 0 (.fl 1 (.fl 2 (.fl 3 (.fl 4 (.fl 5 (.fl 6 (.fl 7 (.fl 8 (.fl 9 (.fl 10 (.fl 11 (.fl 12 (.fl 13 (.sq 14 .nil))))))))))))))) mixed (by kernel_rfl) ?_
 simp -dsimp +decide (disch := omega) only [vy, vz, vze, vr, ty, en, ↓reduceIte, Nat.reduceSub, Nat.reduceAdd, Nat.reduceMul, Nat.reduceLT, Int.reduceAdd, Int.reduceSub, Int.reduceToNat, ci, vi, getO_i, vt, hi', minV, hsb, hmn]
 rw [show AObj.cells 57 [AV.p (.string (ba b)), AV.p (.int .i64 ((b.length - r.tail.length : Nat) : Int)), AV.p (.int .i64 0)] = rs b r.tail 0 from rfl]
 rcases Classical.propComplete (x = 34) with e34 | e34
 . have he : esc r = some (34, r.tail) := by rw [hesc, of_eq_true e34]; rfl
   have hxn : (x.toNat : Int) = ((34 : Nat) : Int) := by rw [of_eq_true e34]; rfl
   simp -dsimp +decide (disch := omega) only [vy, vz, vze, vr, ty, en, ↓reduceIte, Nat.reduceSub, Nat.reduceAdd, Nat.reduceMul, Nat.reduceLT, Int.reduceAdd, Int.reduceSub, Int.reduceToNat, ci, vi, getO_i, vt, t34, e34]
   rw [hxn]
   exact fin 34 r.tail 0 _ (by decide) h.tail hrE (.inl ⟨rfl, by rw [he]; exact ⟨rfl, rfl⟩⟩)
 rcases Classical.propComplete (x = 92) with e92 | e92
 . have he : esc r = some (92, r.tail) := by rw [hesc, of_eq_true e92]; rfl
   have hxn : (x.toNat : Int) = ((92 : Nat) : Int) := by rw [of_eq_true e92]; rfl
   simp -dsimp +decide (disch := omega) only [vy, vz, vze, vr, ty, en, ↓reduceIte, Nat.reduceSub, Nat.reduceAdd, Nat.reduceMul, Nat.reduceLT, Int.reduceAdd, Int.reduceSub, Int.reduceToNat, ci, vi, getO_i, vt, t34, e34, t92, e92]
   rw [hxn]
   exact fin 92 r.tail 0 _ (by decide) h.tail hrE (.inl ⟨rfl, by rw [he]; exact ⟨rfl, rfl⟩⟩)
 rcases Classical.propComplete (x = 47) with e47 | e47
 . have he : esc r = some (47, r.tail) := by rw [hesc, of_eq_true e47]; rfl
   have hxn : (x.toNat : Int) = ((47 : Nat) : Int) := by rw [of_eq_true e47]; rfl
   simp -dsimp +decide (disch := omega) only [vy, vz, vze, vr, ty, en, ↓reduceIte, Nat.reduceSub, Nat.reduceAdd, Nat.reduceMul, Nat.reduceLT, Int.reduceAdd, Int.reduceSub, Int.reduceToNat, ci, vi, getO_i, vt, t34, e34, t92, e92, t47, e47]
   rw [hxn]
   exact fin 47 r.tail 0 _ (by decide) h.tail hrE (.inl ⟨rfl, by rw [he]; exact ⟨rfl, rfl⟩⟩)
 rcases Classical.propComplete (x = 98) with e98 | e98
 . have he : esc r = some (8, r.tail) := by rw [hesc, of_eq_true e98]; rfl
   simp -dsimp +decide (disch := omega) only [vy, vz, vze, vr, ty, en, ↓reduceIte, Nat.reduceSub, Nat.reduceAdd, Nat.reduceMul, Nat.reduceLT, Int.reduceAdd, Int.reduceSub, Int.reduceToNat, ci, vi, getO_i, vt, t34, e34, t92, e92, t47, e47, t98, e98]
   exact fin 8 r.tail 0 _ (by decide) h.tail hrE (.inl ⟨rfl, by rw [he]; exact ⟨rfl, rfl⟩⟩)
 rcases Classical.propComplete (x = 102) with e102 | e102
 . have he : esc r = some (12, r.tail) := by rw [hesc, of_eq_true e102]; rfl
   simp -dsimp +decide (disch := omega) only [vy, vz, vze, vr, ty, en, ↓reduceIte, Nat.reduceSub, Nat.reduceAdd, Nat.reduceMul, Nat.reduceLT, Int.reduceAdd, Int.reduceSub, Int.reduceToNat, ci, vi, getO_i, vt, t34, e34, t92, e92, t47, e47, t98, e98, t102, e102]
   exact fin 12 r.tail 0 _ (by decide) h.tail hrE (.inl ⟨rfl, by rw [he]; exact ⟨rfl, rfl⟩⟩)
 rcases Classical.propComplete (x = 110) with e110 | e110
 . have he : esc r = some (10, r.tail) := by rw [hesc, of_eq_true e110]; rfl
   simp -dsimp +decide (disch := omega) only [vy, vz, vze, vr, ty, en, ↓reduceIte, Nat.reduceSub, Nat.reduceAdd, Nat.reduceMul, Nat.reduceLT, Int.reduceAdd, Int.reduceSub, Int.reduceToNat, ci, vi, getO_i, vt, t34, e34, t92, e92, t47, e47, t98, e98, t102, e102, t110, e110]
   exact fin 10 r.tail 0 _ (by decide) h.tail hrE (.inl ⟨rfl, by rw [he]; exact ⟨rfl, rfl⟩⟩)
 rcases Classical.propComplete (x = 114) with e114 | e114
 . have he : esc r = some (13, r.tail) := by rw [hesc, of_eq_true e114]; rfl
   simp -dsimp +decide (disch := omega) only [vy, vz, vze, vr, ty, en, ↓reduceIte, Nat.reduceSub, Nat.reduceAdd, Nat.reduceMul, Nat.reduceLT, Int.reduceAdd, Int.reduceSub, Int.reduceToNat, ci, vi, getO_i, vt, t34, e34, t92, e92, t47, e47, t98, e98, t102, e102, t110, e110, t114, e114]
   exact fin 13 r.tail 0 _ (by decide) h.tail hrE (.inl ⟨rfl, by rw [he]; exact ⟨rfl, rfl⟩⟩)
 rcases Classical.propComplete (x = 116) with e116 | e116
 . have he : esc r = some (9, r.tail) := by rw [hesc, of_eq_true e116]; rfl
   simp -dsimp +decide (disch := omega) only [vy, vz, vze, vr, ty, en, ↓reduceIte, Nat.reduceSub, Nat.reduceAdd, Nat.reduceMul, Nat.reduceLT, Int.reduceAdd, Int.reduceSub, Int.reduceToNat, ci, vi, getO_i, vt, t34, e34, t92, e92, t47, e47, t98, e98, t102, e102, t110, e110, t114, e114, t116, e116]
   exact fin 9 r.tail 0 _ (by decide) h.tail hrE (.inl ⟨rfl, by rw [he]; exact ⟨rfl, rfl⟩⟩)
 have he1 : esc1 x = none := by
  unfold esc1
  rw [if_neg (fun h => h.elim (of_eq_false e34) fun h => h.elim (of_eq_false e92) (of_eq_false e47)), if_neg (of_eq_false e98), if_neg (of_eq_false e102), if_neg (of_eq_false e110), if_neg (of_eq_false e114), if_neg (of_eq_false e116)]
 rw [he1] at hesc
 have hrE2 : ∀ b1 b2 : Bool, ∀ y ∈ rec1 T.length i b1 (rec1 T.length i b2 []), y.1 = i := by intro b1 b2; rw [rec1_in hil, rec1_in hil]; intro y hy; simp at hy; rcases hy with rfl | rfl <;> rfl
 rcases Classical.propComplete (x = 117) with e117 | e117
 rotate_left
 . have he : esc r = none := hesc.trans (if_neg (of_eq_false e117))
   simp -dsimp +decide (disch := omega) only [vy, vz, vze, vr, ty, en, ↓reduceIte, Nat.reduceSub, Nat.reduceAdd, Nat.reduceMul, Nat.reduceLT, Int.reduceAdd, Int.reduceSub, Int.reduceToNat, ci, vi, getO_i, vt, t34, e34, t92, e92, t47, e47, t98, e98, t102, e102, t110, e110, t114, e114, t116, e116, t117, e117]
   refine (wrong06_ok (hgi _)).det' ?_
   simp -dsimp +decide (disch := omega) only [vy, vz, vze, vr, ty, en, ↓reduceIte, Nat.reduceSub, Nat.reduceAdd, Nat.reduceMul, Nat.reduceLT, Int.reduceAdd, Int.reduceSub, Int.reduceToNat, ci, vi, getO_i, vt, List.set_set]
   exact fin 0 r.tail 5 _ (by decide) h.tail (by simp [rec1_in hil]) (.inr ⟨rfl, he⟩)
 have hu : esc r = uni r.tail := hesc.trans (if_pos (of_eq_true e117))
 rw [hu] at fin
 simp -dsimp +decide (disch := omega) only [vy, vz, vze, vr, ty, en, ↓reduceIte, Nat.reduceSub, Nat.reduceAdd, Nat.reduceMul, Nat.reduceLT, Int.reduceAdd, Int.reduceSub, Int.reduceToNat, ci, vi, getO_i, vt, t34, e34, t92, e92, t47, e47, t98, e98, t102, e102, t110, e110, t114, e114, t116, e116, t117, e117]
 refine (four06_ok (hgi _) h.tail).mono ?_
 unfold uni at fin
 cases h4 : hex4 r.tail with
 | none =>
   rw [h4] at fin
   rintro v T' es ⟨⟨rfl, q, hq, rfl⟩, rfl⟩
   simp -dsimp +decide (disch := omega) only [vy, vz, vze, vr, ty, en, ↓reduceIte, Nat.reduceSub, Nat.reduceAdd, Nat.reduceMul, Nat.reduceLT, Int.reduceAdd, Int.reduceSub, Int.reduceToNat, ci, vi, getO_i, vt, List.set_set]
   exact fin 0 q 5 _ (by decide) hq (by simp [rec1_in hil]) (.inr ⟨rfl, rfl⟩)
 | some nr =>
   obtain ⟨n, r'⟩ := nr
   rw [h4] at fin
   rintro v T' es ⟨⟨rfl, hr', rfl⟩, rfl⟩
   obtain ⟨hn, -⟩ := hex4_spec h4
   dsimp only at fin
   rw [List.set_set]
   by_cases c1 : 55296 <= n /\ n < 56320
   rotate_left
   . rw [if_neg c1] at fin
     have done : Vw G T (fun v T' es => SlashV b r i T v T' es) (.p (.int .i64 (n : Int))) (T.set i (rs b r' 0)) ([(i, false)] ++ rec1 T.length i false []) -> True := fun _ => trivial
     by_cases c2 : 55296 <= n
     . have b1 : ((55296 : Int) <= (n : Int)) = True := eq_true (by omega)
       have b2 : ((n : Int) < 56320) = False := eq_false (by omega)
       simp -dsimp +decide (disch := omega) only [vy, vz, vze, vr, ty, en, ↓reduceIte, Nat.reduceSub, Nat.reduceAdd, Nat.reduceMul, Nat.reduceLT, Int.reduceAdd, Int.reduceSub, Int.reduceToNat, ci, vi, getO_i, vt, b1, b2]
       refine fin n r' 0 _ (by omega) hr' (by simp [rec1_in hil]) (.inl ⟨rfl, ?_⟩)
       by_cases ho : okC n
       . rw [if_pos ho]; exact ⟨rfl, rfl⟩
       . rw [if_neg ho]; exact ho
     . have b1 : ((55296 : Int) <= (n : Int)) = False := eq_false (by omega)
       simp -dsimp +decide (disch := omega) only [vy, vz, vze, vr, ty, en, ↓reduceIte, Nat.reduceSub, Nat.reduceAdd, Nat.reduceMul, Nat.reduceLT, Int.reduceAdd, Int.reduceSub, Int.reduceToNat, ci, vi, getO_i, vt, b1]
       refine fin n r' 0 _ (by omega) hr' (by simp [rec1_in hil]) (.inl ⟨rfl, ?_⟩)
       by_cases ho : okC n
       . rw [if_pos ho]; exact ⟨rfl, rfl⟩
       . rw [if_neg ho]; exact ho
   rw [if_pos c1] at fin
   have b1 : ((55296 : Int) <= (n : Int)) = True := eq_true (by omega)
   have b2 : ((n : Int) < 56320) = True := eq_true (by omega)
   simp -dsimp +decide (disch := omega) only [vy, vz, vze, vr, ty, en, ↓reduceIte, Nat.reduceSub, Nat.reduceAdd, Nat.reduceMul, Nat.reduceLT, Int.reduceAdd, Int.reduceSub, Int.reduceToNat, ci, vi, getO_i, vt, b1, b2]
   refine (want06_ok (s := [92, 117]) (hgi _) hr' (by decide)).det' ?_
   rw [List.set_set]
   cases hp : List.isPrefixOf [92, 117] r' with
   | false =>
     rw [pair_not hp] at fin
     simp -dsimp +decide (disch := omega) only [vy, vz, vze, vr, ty, en, ↓reduceIte, Nat.reduceSub, Nat.reduceAdd, Nat.reduceMul, Nat.reduceLT, Int.reduceAdd, Int.reduceSub, Int.reduceToNat, ci, vi, getO_i, vt, hgi, rs, wrE]
     exact fin 0 r' 5 _ (by decide) hr' (by simp [rec1_in hil]) (.inr ⟨rfl, rfl⟩)
   | true =>
     rw [pair_is hp, low] at fin
     have hq := hr'.drop 2
     have hlen2 : ([92, 117] : List UInt8).length = 2 := rfl
     simp -dsimp +decide (disch := omega) only [vy, vz, vze, vr, ty, en, ↓reduceIte, Nat.reduceSub, Nat.reduceAdd, Nat.reduceMul, Nat.reduceLT, Int.reduceAdd, Int.reduceSub, Int.reduceToNat, ci, vi, getO_i, vt, hgi, rs, hlen2]
     refine (four06_ok (b := b) (r := r'.drop 2) (e := 0) (hgi _) hq).mono ?_
     cases h5 : hex4 (r'.drop 2) with
     | none =>
       rw [h5] at fin
       rintro v T' es ⟨⟨rfl, q, hq, rfl⟩, rfl⟩
       have hw : wrE (wrE 0 5) 5 = 5 := rfl
       have hval : (65536 : Int) + ((n : Int) - 55296) * 1024 + 0 - 56320 = ((65536 + (n - 55296) * 1024 - 56320 : Nat) : Int) := by omega
       simp -dsimp +decide (disch := omega) only [vy, vz, vze, vr, ty, en, ↓reduceIte, Nat.reduceSub, Nat.reduceAdd, Nat.reduceMul, Nat.reduceLT, Int.reduceAdd, Int.reduceSub, Int.reduceToNat, ci, vi, getO_i, vt, List.set_set]
       refine (wrong06_ok (hgi _)).det' ?_
       rw [hw]
       simp -dsimp +decide (disch := omega) only [vy, vz, vze, vr, ty, en, ↓reduceIte, Nat.reduceSub, Nat.reduceAdd, Nat.reduceMul, Nat.reduceLT, Int.reduceAdd, Int.reduceSub, Int.reduceToNat, ci, vi, getO_i, vt, List.set_set, hval]
       trace_state
       exact fin _ q 5 _ (by omega) hq (by simp [rec1_in hil]) (.inr ⟨rfl, rfl⟩)
     | some mr =>
       obtain ⟨m, r3⟩ := mr
       rw [h5] at fin
       rintro v T' es ⟨⟨rfl, hr3, rfl⟩, rfl⟩
       obtain ⟨hm, -⟩ := hex4_spec h5
       dsimp only at fin
       have hval : (65536 : Int) + ((n : Int) - 55296) * 1024 + (m : Int) - 56320 = ((65536 + (n - 55296) * 1024 + m - 56320 : Nat) : Int) := by omega
       by_cases d1 : 56320 <= m /\ m < 57344
       . rw [if_pos d1] at fin
         have b3 : ((m : Int) < 56320) = False := eq_false (by omega)
         have b4 : ((57344 : Int) <= (m : Int)) = False := eq_false (by omega)
         simp -dsimp +decide (disch := omega) only [vy, vz, vze, vr, ty, en, ↓reduceIte, Nat.reduceSub, Nat.reduceAdd, Nat.reduceMul, Nat.reduceLT, Int.reduceAdd, Int.reduceSub, Int.reduceToNat, ci, vi, getO_i, vt, List.set_set, b3, b4, hval]
         exact fin _ r3 0 _ (by omega) hr3 (by simp [rec1_in hil]) (.inl ⟨rfl, by omega, rfl⟩)
       . rw [if_neg d1] at fin
         by_cases d2 : m < 56320
         . have b3 : ((m : Int) < 56320) = True := eq_true (by omega)
           simp -dsimp +decide (disch := omega) only [vy, vz, vze, vr, ty, en, ↓reduceIte, Nat.reduceSub, Nat.reduceAdd, Nat.reduceMul, Nat.reduceLT, Int.reduceAdd, Int.reduceSub, Int.reduceToNat, ci, vi, getO_i, vt, List.set_set, b3]
           refine (wrong06_ok (hgi _)).det' ?_
           simp -dsimp +decide (disch := omega) only [vy, vz, vze, vr, ty, en, ↓reduceIte, Nat.reduceSub, Nat.reduceAdd, Nat.reduceMul, Nat.reduceLT, Int.reduceAdd, Int.reduceSub, Int.reduceToNat, ci, vi, getO_i, vt, List.set_set, hval]
           exact fin _ r3 5 _ (by omega) hr3 (by simp [rec1_in hil]) (.inr ⟨rfl, rfl⟩)
         . have b3 : ((m : Int) < 56320) = False := eq_false (by omega)
           have b4 : ((57344 : Int) <= (m : Int)) = True := eq_true (by omega)
           simp -dsimp +decide (disch := omega) only [vy, vz, vze, vr, ty, en, ↓reduceIte, Nat.reduceSub, Nat.reduceAdd, Nat.reduceMul, Nat.reduceLT, Int.reduceAdd, Int.reduceSub, Int.reduceToNat, ci, vi, getO_i, vt, List.set_set, b3, b4]
           refine (wrong06_ok (hgi _)).det' ?_
           simp -dsimp +decide (disch := omega) only [vy, vz, vze, vr, ty, en, ↓reduceIte, Nat.reduceSub, Nat.reduceAdd, Nat.reduceMul, Nat.reduceLT, Int.reduceAdd, Int.reduceSub, Int.reduceToNat, ci, vi, getO_i, vt, List.set_set, hval]
           exact fin _ r3 5 _ (by omega) hr3 (by simp [rec1_in hil]) (.inr ⟨rfl, rfl⟩)
end Go.Proofs.YtglpcedoongagaaGreatDoor
namespace Go.J
theorem dec_head {q : B} {c n : Nat} (h : dec q = (c, n)) (hn : 0 < n) : (c < 128 -> q.head? = some (u8 c) /\ n = 1) /\ (128 <= c -> ∀ a, q.head? = some a -> 128 <= a.toNat) := by
 obtain ⟨hc, hl, r, rfl⟩ := dec_spec h hn
 refine ⟨fun h1 => ?_, fun h1 a ha => ?_⟩
 . rw [enc_len1 h1] at hl ⊢; exact ⟨rfl, hl⟩
 . have := enc_cases hc
   have hne : enc c ≠ [] := fun e => by rw [e] at hl; simp at hl; omega
   rw [head_app hne] at ha
   exact enc_hi h1 a (List.mem_of_mem_head? ha)
theorem dec_low {q : B} {a : UInt8} (h : q.head? = some a) (ha : a.toNat < 128) : dec q = (a.toNat, 1) := by
 cases q with
 | nil => cases h
 | cons x r => cases h; exact dec_one r ha
end Go.J
namespace Go.Proofs.YtglpcedoongagaaGreatDoor
open Go.E Go.Proofs.YtglpcedoongagaaGreatDoor.Tryz Go.Proofs.Tryz Go.J Go.Proofs
theorem rs_wo (q : Nat -> Bool) (b r : B) (e : Int) : (rs b r e).wo q = rs b r e := by simp only [rs, wint, AObj.wo, List.map_cons, List.map_nil, AV.wo]
theorem ts_rules {T : Tbl} {i : Nat} (hil : i < T.length) (wt : (∀ k : Nat, List.map (AObj.wo fun i => decide (List.length T + k <= i)) T = T) /\ List.map (AObj.wo fun i => decide (List.length T <= i)) T = T /\ (∀ k : Nat, List.map (AObj.wo fun i => i == List.length T + k) T = T) /\ List.map (AObj.wo fun i => i == List.length T) T = T) (b : B) :
 (∀ o, (T.set i o).length = T.length) /\ (∀ o, (T.set i o)[i]? = some o) /\ (∀ o l, (T.set i o ++ l)[i]? = some o) /\ (∀ o o' l, (T.set i o ++ l).set i o' = T.set i o' ++ l) /\
 (∀ o l, (T.set i o ++ l)[T.length]? = l[0]?) /\ (∀ o l k, (T.set i o ++ l)[T.length + k]? = l[k]?) /\ (∀ o l o', (T.set i o ++ l).set T.length o' = T.set i o ++ l.set 0 o') /\ (∀ o l o' k, (T.set i o ++ l).set (T.length + k) o' = T.set i o ++ l.set k o') /\
 (∀ o l, (T.set i o ++ l).take T.length = T.set i o) /\ (∀ o l k, (T.set i o ++ l).take (T.length + k) = T.set i o ++ l.take k) /\
 (∀ (a e : Int), (T.set i (.cells 57 [.p (.string (ba b)), .p (.int .i64 a), .p (.int .i64 e)])).map (AObj.wo fun x => x == T.length) = T.set i (.cells 57 [.p (.string (ba b)), .p (.int .i64 a), .p (.int .i64 e)])) /\ (∀ (a e : Int) k, (T.set i (.cells 57 [.p (.string (ba b)), .p (.int .i64 a), .p (.int .i64 e)])).map (AObj.wo fun x => x == T.length + k) = T.set i (.cells 57 [.p (.string (ba b)), .p (.int .i64 a), .p (.int .i64 e)])) /\
 (∀ (a e : Int), (T.set i (.cells 57 [.p (.string (ba b)), .p (.int .i64 a), .p (.int .i64 e)])).map (AObj.wo fun x => decide (T.length <= x)) = T.set i (.cells 57 [.p (.string (ba b)), .p (.int .i64 a), .p (.int .i64 e)])) /\ (∀ (a e : Int) k, (T.set i (.cells 57 [.p (.string (ba b)), .p (.int .i64 a), .p (.int .i64 e)])).map (AObj.wo fun x => decide (T.length + k <= x)) = T.set i (.cells 57 [.p (.string (ba b)), .p (.int .i64 a), .p (.int .i64 e)])) := by
 have hl : ∀ o, (T.set i o).length = T.length := fun o => List.length_set
 have hw : ∀ (f : Nat -> Bool) (a e : Int), T.map (AObj.wo f) = T -> (T.set i (.cells 57 [.p (.string (ba b)), .p (.int .i64 a), .p (.int .i64 e)])).map (AObj.wo f) = T.set i (.cells 57 [.p (.string (ba b)), .p (.int .i64 a), .p (.int .i64 e)]) := fun f a e h => by rw [List.map_set, h]; simp only [AObj.wo, List.map_cons, List.map_nil, AV.wo]
 refine ⟨hl, fun o => List.getElem?_set_self hil, fun o l => ?_, fun o o' l => ?_, fun o l => ?_, fun o l k => ?_, fun o l o' => ?_, fun o l o' k => ?_, fun o l => List.take_left' (hl o), fun o l k => ?_, fun r e => hw _ r e wt.2.2.2, fun r e k => hw _ r e (wt.2.2.1 k), fun r e => hw _ r e wt.2.1, fun r e k => hw _ r e (wt.1 k)⟩
 . rw [List.getElem?_append_left (by rw [hl]; exact hil)]; exact List.getElem?_set_self hil
 . rw [List.set_append_left _ _ (by rw [hl]; exact hil)]; congr 1; exact List.set_set ..
 . rw [List.getElem?_append_right (by rw [hl]; omega), hl, Nat.sub_self]
 . rw [List.getElem?_append_right (by rw [hl]; omega), hl, Nat.add_sub_cancel_left]
 . rw [List.set_append_right _ _ (by rw [hl]; omega), hl, Nat.sub_self]
 . rw [List.set_append_right _ _ (by rw [hl]; omega), hl, Nat.add_sub_cancel_left]
 . rw [<- hl o, List.take_length_add_append]
theorem Vw.ts {G : Nat -> AV} {K : AV -> Tbl -> Eff -> Prop} {T l : Tbl} {i : Nat} {b r : B} {e : Int} {v : AV} {E : Eff} (wt : T.map (AObj.wo fun i => decide (T.length <= i)) = T) (h : K (v.wo fun i => decide (T.length <= i)) (T.set i (rs b r e)) E) : Vw G T K v (T.set i (rs b r e) ++ l) E := by
 refine Vw.cutN T.length (Nat.le_refl _) ?_
 rw [List.take_left' (by simp), List.map_set, wt, rs_wo]
 exact Vw.done h
def txtO (r : B) : Option (B × B) := if r.head? = some 34 then txtF r.tail [] else none
theorem text06_ok {T : Tbl} {i : Nat} {b r : B} (hi : T[i]? = some (rs b r 0)) (h : Rst b r) : CallA prog G 54 [.ptr i 0] T fun v T' es => (match txtO r with
 | some (s, r') => v = str s /\ Rst b r' /\ T' = T.set i (rs b r' 0)
 | none => v = str [] /\ ∃ q, Rst b q /\ T' = T.set i (rs b q 5)) /\ es = [(i, false)] := by
 refine CallA.wfs fun wf => ?_
 have wt := wf.t
 have hil := (List.getElem?_eq_some_iff.1 hi).1
 have hts := ts_rules hil wt b
 have hsb := ba_size b
 have hbl := h.len
 obtain ⟨X, hX⟩ : ∃ X, txtO r = X := ⟨_, rfl⟩
 rw [hX]
 have hstart : ∃ (q0 : B) (e0 : Int), (if List.isPrefixOf ([34] : B) r then rs b (r.drop ([34] : B).length) 0 else rs b r (wrE 0 5)) = rs b q0 e0 /\ Rst b q0 /\ ((e0 = 0 /\ txtF q0 [] = X) ∨ (e0 = 5 /\ X = none)) := by
  cases r with
  | nil => exact ⟨[], 5, rfl, h, .inr ⟨rfl, hX.symm⟩⟩
  | cons x t =>
    by_cases e : x = 34
    . subst e; exact ⟨t, 0, rfl, h.tail, .inl ⟨rfl, hX⟩⟩
    . have hp : List.isPrefixOf [34] (x :: t) = false := by simp [List.isPrefixOf, Ne.symm e]
      rw [hp]
      exact ⟨x :: t, 5, rfl, h, .inr ⟨rfl, by rw [<- hX, txtO, if_neg (by simp [e])]⟩⟩
 obtain ⟨q0, e0, hq0, hr0, hst0⟩ := hstart
 refine CallA.eV 74 func54 ntmps54 results54 ?_
 simp -dsimp +decide only [vy, vz, vze, vr, ty, en, ↓reduceIte, Nat.reduceSub, Nat.reduceAdd, Nat.reduceMul, Nat.reduceLT, Int.reduceAdd, Int.reduceSub, Int.reduceToNat, ci]
 refine (want06_ok (s := [34]) hi h (by decide)).det' ?_
 rw [hq0]
 simp -dsimp +decide (disch := omega) only [vy, vz, vze, vr, ty, en, ↓reduceIte, Nat.reduceSub, Nat.reduceAdd, Nat.reduceMul, Nat.reduceLT, Int.reduceAdd, Int.reduceSub, Int.reduceToNat, ci, vi, getO_i, vt]
 refine SemA.adopt 3 5 1 (by decide) (by rfl) ?_
 rw [hts.1]
 have hrE : ∀ E : Eff, (∀ y ∈ E, y ∈ [(i, false)]) -> ∀ y ∈ rec1 T.length i false E, y ∈ [(i, false)] := fun E hE y hy => by
  rw [rec1_in hil] at hy
  rcases List.mem_cons.1 hy with h | h
  . rw [h]; simp
  . exact hE y h
 have hsub : ∀ E : Eff, (∀ y ∈ E, y ∈ [(i, false)]) -> subE E [(i, false)] := fun E h => h
 refine SemA.loopE (fun s : B × B × Int => [(0, .ptr i 0), (3, .sl T.length 0 s.2.1.length)]) (fun s => T.set i (rs b s.1 s.2.2) ++ [bf s.2.1])
  (fun s => Rst b s.1 /\ ((s.2.2 = 0 /\ txtF s.1 s.2.1 = X /\ s.2.1.length + 2 * s.1.length <= 2 * b.length) ∨ (s.2.2 = 5 /\ X = none))) (fun s => if s.2.2 = 0 then s.1.length + 1 else 0) (q0, [], e0) [(i, false)] 0
  (fun _ : B × B => []) (fun s => T.set i (rs b s.1 5) ++ [bf s.2]) (fun s => Rst b s.1 /\ X = none) ⟨hr0, by
   rcases hst0 with ⟨h1, h2⟩ | h1
   . exact .inl ⟨h1, h2, by have := hr0.le; simp; omega⟩
   . exact .inr h1⟩ (by (simp -dsimp +decide (disch := omega) only [vy, vz, vze, vr, ty, en, ↓reduceIte, Nat.reduceSub, Nat.reduceAdd, Nat.reduceMul, Nat.reduceLT, Int.reduceAdd, Int.reduceSub, Int.reduceToNat, ci, vi, getO_i]); first | rfl | done | exact ⟨rfl, rfl⟩) rfl (hrE _ (by simp)) ?_ ?_
 . rintro ⟨q, out, e⟩ g ⟨hq, hs⟩
   dsimp only at hq hs
   refine SemA.o ?_
   rcases hs with ⟨rfl, hX2, hol⟩ | ⟨rfl, rfl⟩
   rotate_left
   . simp -dsimp +decide (disch := omega) only [vy, vz, vze, vr, ty, en, ↓reduceIte, Nat.reduceSub, Nat.reduceAdd, Nat.reduceMul, Nat.reduceLT, Int.reduceAdd, Int.reduceSub, Int.reduceToNat, ci, vi, getO_i, vt, rs, hts]
     exact ⟨(q, out), hq, rfl⟩
   rw [show bf out = .buf 5 1 (out.map by8) from rfl]
   simp -dsimp +decide (disch := omega) only [vy, vz, vze, vr, ty, en, ↓reduceIte, Nat.reduceSub, Nat.reduceAdd, Nat.reduceMul, Nat.reduceLT, Int.reduceAdd, Int.reduceSub, Int.reduceToNat, ci, vi, getO_i, vt, hts, rs]
   refine SemA.drawS (.fl 0 (.fl 1 (.fl 2 (.fl 3 (.fl 4 (.fl 5 (.fl 6 (.fl 7 (.sq 8 (.fl 9 (.fl 10 (.fl 11 (.fl 12 (.fl 13 .nil)))))))))))))) mixed (by kernel_rfl) ?_
   simp -dsimp +decide (disch := omega) only [vy, vz, vze, vr, ty, en, ↓reduceIte, Nat.reduceSub, Nat.reduceAdd, Nat.reduceMul, Nat.reduceLT, Int.reduceAdd, Int.reduceSub, Int.reduceToNat, ci, vi, getO_i, vt, hts, rs]
   refine (rune06_ok (s := b) (at' := b.length - q.length) (by omega) (by omega)).det' ?_
   rw [hq.at]
   obtain ⟨c, n, hcn⟩ : ∃ c n, dec q = (c, n) := ⟨_, _, rfl⟩
   rw [hcn]
   have hnle := dec_le q
   rw [hcn] at hnle
   dsimp only at hnle
   have hsR : subE (rec1 T.length i false [(i, false)]) [(i, false)] := hrE _ fun y h => h
   have bad : X = none -> ∃ s : B × B × Int, ((Rst b s.1 /\ ((s.2.2 = 0 /\ txtF s.1 s.2.1 = X /\ s.2.1.length + 2 * s.1.length <= 2 * b.length) ∨ (s.2.2 = 5 /\ X = none))) /\ (if s.2.2 = 0 then s.1.length + 1 else 0) < q.length + 1) /\ AV.sl T.length 0 out.length = AV.sl T.length 0 s.2.1.length /\ T.set i (rs b q 5) ++ [AObj.buf 5 1 (out.map by8)] = T.set i (rs b s.1 s.2.2) ++ [bf s.2.1] := fun hn => ⟨(q, out, 5), ⟨⟨hq, .inr ⟨rfl, hn⟩⟩, by show (if (5 : Int) = 0 then _ else _) < _; rw [if_neg (by decide)]; omega⟩, rfl, rfl⟩
   have hfold : AObj.cells 57 [AV.p (.string (ba b)), AV.p (.int .i64 ((b.length - q.length : Nat) : Int)), AV.p (.int .i64 0)] = rs b q 0 := rfl
   rw [txtF_eq, hcn] at hX2
   dsimp only at hX2
   by_cases hbad : n = 0 ∨ c < 32
   . have hno : ∀ a : UInt8, q.head? = some a -> 32 <= a.toNat -> a.toNat < 128 -> False := fun a ha h1 h2 => by
      have := dec_low ha h2
      rw [hcn] at this
      simp only [Prod.mk.injEq] at this
      omega
     rw [if_neg (fun h => hno 34 h (by decide) (by decide)), if_neg (fun h => hno 92 h (by decide) (by decide)), if_pos hbad] at hX2
     rcases Classical.propComplete ((n : Int) = 0) with n0 | n0
     . simp -dsimp +decide (disch := omega) only [vy, vz, vze, vr, ty, en, ↓reduceIte, Nat.reduceSub, Nat.reduceAdd, Nat.reduceMul, Nat.reduceLT, Int.reduceAdd, Int.reduceSub, Int.reduceToNat, ci, vi, getO_i, vt, n0, hfold]
       refine (wrong06_ok (b := b) (r := q) (e := 0) (hts.2.2.1 _ _)).det' ?_
       simp -dsimp +decide (disch := omega) only [vy, vz, vze, vr, ty, en, ↓reduceIte, Nat.reduceSub, Nat.reduceAdd, Nat.reduceMul, Nat.reduceLT, Int.reduceAdd, Int.reduceSub, Int.reduceToNat, ci, vi, getO_i, vt, hts]
       exact ⟨bad hX2.symm, hsR⟩
     . have c32 : ((c : Int) < 32) = True := eq_true (by have := of_eq_false n0; omega)
       simp -dsimp +decide (disch := omega) only [vy, vz, vze, vr, ty, en, ↓reduceIte, Nat.reduceSub, Nat.reduceAdd, Nat.reduceMul, Nat.reduceLT, Int.reduceAdd, Int.reduceSub, Int.reduceToNat, ci, vi, getO_i, vt, n0, c32, hfold]
       refine (wrong06_ok (b := b) (r := q) (e := 0) (hts.2.2.1 _ _)).det' ?_
       simp -dsimp +decide (disch := omega) only [vy, vz, vze, vr, ty, en, ↓reduceIte, Nat.reduceSub, Nat.reduceAdd, Nat.reduceMul, Nat.reduceLT, Int.reduceAdd, Int.reduceSub, Int.reduceToNat, ci, vi, getO_i, vt, hts]
       exact ⟨bad hX2.symm, hsR⟩
   have n0 : ((n : Int) = 0) = False := eq_false (by omega)
   have c32 : ((c : Int) < 32) = False := eq_false (by omega)
   obtain ⟨hd1, hd2⟩ := dec_head hcn (by omega)
   have hq1 : q ≠ [] := fun e => by subst e; simp [dec_nil] at hcn; omega
   have hqp : 0 < q.length := by cases q with
    | nil => exact absurd rfl hq1
    | cons => simp
   have hle := hq.le
   have htl : b.length - q.length + 1 = b.length - q.tail.length := by rw [List.length_tail]; omega
   by_cases h34 : c = 34
   . subst h34
     obtain ⟨hh, rfl⟩ := hd1 (by decide)
     have hh : q.head? = some 34 := hh
     rw [if_pos hh] at hX2
     subst hX2
     have htl' : ((b.length - q.length : Nat) : Int) + 1 = ((b.length - q.tail.length : Nat) : Int) := by omega
     simp -dsimp +decide (disch := omega) only [vy, vz, vze, vr, ty, en, ↓reduceIte, Nat.reduceSub, Nat.reduceAdd, Nat.reduceMul, Nat.reduceLT, Int.reduceAdd, Int.reduceSub, Int.reduceToNat, ci, vi, getO_i, vt, hts, rs, bytes8, htl', List.set_set]
     refine ⟨Nat.le_refl _, ?_⟩
     rw [List.drop_zero, List.take_length]
     exact Vw.eff (E' := [(i, false)]) (hrE _ fun y h => h) (Vw.ts (e := 0) (r := q.tail) wt.2.1 ⟨⟨rfl, hq.tail, rfl⟩, rfl⟩)
   have c34 : ((c : Int) = 34) = False := eq_false (by omega)
   have hn34 : ¬ q.head? = some 34 := fun hh => by
    have := dec_low hh (by decide)
    rw [hcn] at this
    simp only [Prod.mk.injEq] at this
    exact h34 this.1
   rw [if_neg hn34] at hX2
   by_cases h92 : c = 92
   . subst h92
     obtain ⟨hh, rfl⟩ := hd1 (by decide)
     have hh : q.head? = some 92 := hh
     rw [if_pos hh] at hX2
     have htl' : ((b.length - q.length : Nat) : Int) + 1 = ((b.length - q.tail.length : Nat) : Int) := by omega
     simp -dsimp +decide (disch := omega) only [vy, vz, vze, vr, ty, en, ↓reduceIte, Nat.reduceSub, Nat.reduceAdd, Nat.reduceMul, Nat.reduceLT, Int.reduceAdd, Int.reduceSub, Int.reduceToNat, ci, vi, getO_i, vt, hts, rs, htl', List.set_set]
     refine (slash06_ok (b := b) (r := q.tail) (hts.2.2.1 _ _) hq.tail).mono ?_
     rintro v T' es ⟨c, q2, e', rfl, hc, hq2, rfl, rfl, hcase⟩
     rw [hts.2.2.2.1]
     simp -dsimp +decide (disch := omega) only [vy, vz, vze, vr, ty, en, ↓reduceIte, Nat.reduceSub, Nat.reduceAdd, Nat.reduceMul, Nat.reduceLT, Int.reduceAdd, Int.reduceSub, Int.reduceToNat, ci, vi, getO_i, vt, hts]
     refine (bytes06_ok (by omega)).det' ?_
     have henl : (enc c).length <= 4 := by
      by_cases ho : okC c
      . rcases enc_cases ho with h | h | h | h <;> omega
      . rw [enc_nil ho]; simp
     have hij : (i == T.length) = false := by simp; omega
     have hz : ((enc c).length = 0) ↔ ¬ okC c := by rw [List.length_eq_zero_iff]; exact ⟨fun e ho => (enc_ok.2 ho) e, enc_nil⟩
     have hXn : esc q.tail = none -> X = none := fun h => by rw [h] at hX2; exact hX2.symm
     have hfin : ∀ e2 : Int, (e2 = 0 /\ txtF q2 (out ++ enc c) = X /\ (out ++ enc c).length + 2 * q2.length <= 2 * b.length) ∨ (e2 = 5 /\ X = none) -> (e2 = 0 -> q2.length < q.length) -> ∃ s : B × B × Int, ((Rst b s.1 /\ ((s.2.2 = 0 /\ txtF s.1 s.2.1 = X /\ s.2.1.length + 2 * s.1.length <= 2 * b.length) ∨ (s.2.2 = 5 /\ X = none))) /\ (if s.2.2 = 0 then s.1.length + 1 else 0) < q.length + 1) /\ AV.sl T.length 0 (out.length + (enc c).length) = AV.sl T.length 0 s.2.1.length /\ T.set i (rs b q2 e2) ++ [AObj.buf 5 1 ((out ++ enc c).map by8)] = T.set i (rs b s.1 s.2.2) ++ [bf s.2.1] := fun e2 h1 h2 => ⟨(q2, out ++ enc c, e2), ⟨⟨hq2, h1⟩, by
      show (if e2 = 0 then q2.length + 1 else 0) < q.length + 1
      split
      . have := h2 (by assumption); omega
      . omega⟩, by dsimp only; rw [List.length_append], rfl⟩
     rcases Classical.propComplete (((enc c).length : Int) = 0) with z0 | z0
     . have hnok := hz.1 (by have := of_eq_true z0; omega)
       have he5 : wrE e' 5 = 5 := by
        rcases hcase with ⟨rfl, -⟩ | ⟨rfl, -⟩ <;> rfl
       have hXX : X = none := by
        rcases hcase with ⟨-, hm⟩ | ⟨-, hm⟩
        . cases he : esc q.tail with
          | none => exact hXn he
          | some cr =>
            obtain ⟨c0, r0⟩ := cr
            rw [he] at hm
            exact absurd (by rw [hm.1]; exact (esc_spec he).1) hnok
        . exact hXn hm
       have hf := hfin 5 (.inr ⟨rfl, hXX⟩) (fun h => by cases h)
       simp -dsimp +decide (disch := omega) only [vy, vz, vze, vr, ty, en, ↓reduceIte, Nat.reduceSub, Nat.reduceAdd, Nat.reduceMul, Nat.reduceLT, Int.reduceAdd, Int.reduceSub, Int.reduceToNat, ci, vi, getO_i, vt, vbl, z0]
       refine (wrong06_ok (b := b) (r := q2) (e := e') (hts.2.2.1 _ _)).det' ?_
       rw [he5]
       simp -dsimp +decide (disch := omega) only [vy, vz, vze, vr, ty, en, ↓reduceIte, Nat.reduceSub, Nat.reduceAdd, Nat.reduceMul, Nat.reduceLT, Int.reduceAdd, Int.reduceSub, Int.reduceToNat, ci, vi, getO_i, vt, hts, rs, vbl, hij]
       exact ⟨⟨by omega, by omega⟩, hf, hrE _ (hrE _ (hrE _ fun y h => h))⟩
     . have hok : okC c := Classical.byContradiction fun h => of_eq_false z0 (by have := hz.2 h; omega)
       have hf := hfin e' (by
        rcases hcase with ⟨rfl, hm⟩ | ⟨rfl, hm⟩
        . cases he : esc q.tail with
          | none => rw [he] at hm; exact absurd hok hm
          | some cr =>
            obtain ⟨c0, r0⟩ := cr
            have hsp := (esc_spec he).2
            rw [he] at hm hX2
            obtain ⟨rfl, rfl⟩ := hm
            refine .inl ⟨rfl, hX2, ?_⟩
            rw [List.length_append]
            rw [List.length_tail] at hsp
            omega
        . exact .inr ⟨rfl, hXn hm⟩) (fun h0 => by
        rcases hcase with ⟨-, hm⟩ | ⟨h5, -⟩
        . cases he : esc q.tail with
          | none => rw [he] at hm; exact absurd hok hm
          | some cr =>
            obtain ⟨c0, r0⟩ := cr
            have hsp := (esc_spec he).2
            rw [he] at hm
            obtain ⟨rfl, rfl⟩ := hm
            rw [List.length_tail] at hsp
            omega
        . rw [h0] at h5; cases h5)
       simp -dsimp +decide (disch := omega) only [vy, vz, vze, vr, ty, en, ↓reduceIte, Nat.reduceSub, Nat.reduceAdd, Nat.reduceMul, Nat.reduceLT, Int.reduceAdd, Int.reduceSub, Int.reduceToNat, ci, vi, getO_i, vt, hts, rs, vbl, z0, hij]
       exact ⟨⟨by omega, by omega⟩, hf, hrE _ (hrE _ fun y h => h)⟩
   have c92 : ((c : Int) = 92) = False := eq_false (by omega)
   have hn92 : ¬ q.head? = some 92 := fun hh => by
    have := dec_low hh (by decide)
    rw [hcn] at this
    simp only [Prod.mk.injEq] at this
    exact h92 this.1
   rw [if_neg hn92, if_neg hbad] at hX2
   have hdr := rs_drop hq hnle
   have hex : (ba b).extract (b.length - q.length) (b.length - (q.drop n).length) = ba (q.take n) := by rw [<- hdr, ba_ext, hq.at, Nat.add_sub_cancel_left]
   have htl : (q.take n).length = n := by rw [List.length_take]; omega
   have hsz := ba_size (q.take n)
   have hdt := ba_data (q.take n)
   have hto : (((b.length - q.length : Nat) : Int) + (n : Int)).toNat = b.length - q.length + n := by omega
   have hij : (i == T.length) = false := by simp; omega
   have hcast : ((b.length - q.length : Nat) : Int) + (n : Int) = ((b.length - (q.drop n).length : Nat) : Int) := by omega
   simp -dsimp +decide (disch := omega) only [vy, vz, vze, vr, ty, en, ↓reduceIte, Nat.reduceSub, Nat.reduceAdd, Nat.reduceMul, Nat.reduceLT, Int.reduceAdd, Int.reduceSub, Int.reduceToNat, ci, vi, getO_i, vt, hts, rs, n0, c32, c34, c92]
   refine SemA.drawS (.fl 0 (.fl 1 (.fl 2 (.fl 3 (.fl 4 (.fl 5 (.fl 6 (.fl 7 (.fl 8 (.fl 9 (.fl 10 (.fl 11 (.fl 12 (.fl 13 (.fl 14 (.fl 15 (.sq 16 (.fl 17 .nil)))))))))))))))))) mixed (by kernel_rfl) ?_
   simp -dsimp +decide (disch := omega) only [vy, vz, vze, vr, ty, en, ↓reduceIte, Nat.reduceSub, Nat.reduceAdd, Nat.reduceMul, Nat.reduceLT, Int.reduceAdd, Int.reduceSub, Int.reduceToNat, ci, vi, getO_i, vt, hts, rs, hex, hto, hsz, hdt, htl, hij, hsb, hcast, List.set_set, Int.toNat_natCast]
   refine ⟨by omega, by omega, ⟨by omega, by omega⟩, ⟨by omega, by omega⟩, ⟨(q.drop n, out ++ q.take n, 0), ⟨⟨hq.drop n, .inl ⟨rfl, hX2, ?_⟩⟩, ?_⟩, ?_, ?_⟩, hsR⟩
   . show (out ++ q.take n).length + 2 * (q.drop n).length <= _
     rw [List.length_append, htl, List.length_drop]; omega
   . show (if (0 : Int) = 0 then (q.drop n).length + 1 else 0) < _
     rw [if_pos rfl, List.length_drop]; omega
   . dsimp only; rw [List.length_append, htl]
   . show _ = T.set i (rs b (q.drop n) 0) ++ [bf (out ++ q.take n)]
     rw [bf, List.map_append, List.map_map]; rfl
 . rintro ⟨q, out⟩ g tmp ⟨hq, hXn⟩
   dsimp only at hq hXn
   subst hXn
   simp -dsimp +decide (disch := omega) only [vy, vz, vze, vr, ty, en, ↓reduceIte, Nat.reduceSub, Nat.reduceAdd, Nat.reduceMul, Nat.reduceLT, Int.reduceAdd, Int.reduceSub, Int.reduceToNat, ci, vi, getO_i, vt]
   exact Vw.ts wt.2.1 ⟨⟨rfl, q, hq, rfl⟩, rfl⟩
end Go.Proofs.YtglpcedoongagaaGreatDoor
namespace Go.Proofs.YtglpcedoongagaaGreatDoor
open Go.E Go.Proofs.YtglpcedoongagaaGreatDoor.Tryz Go.Proofs.Tryz Go.J Go.Proofs
theorem number06_ok {T : Tbl} {i : Nat} {b r : B} (hi : T[i]? = some (rs b r 0)) (h : Rst b r) : CallA prog G 55 [.ptr i 0] T fun v T' es => (match num r with
 | some (z, r') => v = .p (.int .i64 z) /\ Rst b r' /\ T' = T.set i (rs b r' 0)
 | none => v = .p (.int .i64 0) /\ ∃ q, Rst b q /\ T' = T.set i (rs b q 5)) /\ es = [(i, false)] := by
 refine CallA.wfs fun wf => ?_
 have wt := wf.t
 have hil := (List.getElem?_eq_some_iff.1 hi).1
 have hts := ts_rules hil wt b
 have hsb := ba_size b
 have hbl := h.len
 have hle := h.le
 have hi' := hi
 rw [rs] at hi'
 refine CallA.enterZ 8 func55 ntmps55 (congrArg Array.toList results55) rfl ⟨by simp, by simp⟩ (by kernel_rfl) ?_
 refine SemA.cutAt [] (fun s : Bool × B => [(0, .ptr i 0), (3, wint ((b.length - r.length : Nat) : Int)), (4, wint ((b.length - s.2.length : Nat) : Int)), (5, .p (.int .i64 0)), (6, .p (.bool true))]) (fun s => T.set i (rs b s.2 0)) (fun s => Rst b s.2 /\ ((s.1 = true /\ r.head? = some 45 /\ s.2 = r.tail) ∨ (s.1 = false /\ r.head? ≠ some 45 /\ s.2 = r))) [(i, false)] 6 rfl (by kernel_rfl) ?_ ?_
 . obtain ⟨x, hx⟩ : ∃ x, r.headD 0 = x := ⟨_, rfl⟩
   have t45 : ((x.toNat : Int) = 45) = (x = 45) := propext (u8_num (n := 45) (by decide))
   have hhd : r.head? = some 45 ↔ x = 45 := by
    cases r with
    | nil => subst hx; exact ⟨fun h => (by cases h), fun h => (by cases h)⟩
    | cons y t => have : y = x := hx
                  subst this; simp
   rcases Classical.propComplete (x = 45) with e | e
   . have h45 := hhd.2 (of_eq_true e)
     have hr1 : 0 < r.length := by cases r with
      | nil => cases h45
      | cons => simp
     have hat : ((b.length - r.length : Nat) : Int) + 1 = ((b.length - r.tail.length : Nat) : Int) := by rw [List.length_tail]; omega
     simp -dsimp +decide (disch := omega) only [vy, vz, vze, vr, ty, en, ↓reduceIte, Nat.reduceSub, Nat.reduceAdd, Nat.reduceMul, Nat.reduceLT, Int.reduceAdd, Int.reduceSub, Int.reduceToNat, ci, vi, getO_i, vt, hi']
     refine (next06_ok hi h).det' ?_
     rw [hx]
     simp -dsimp +decide (disch := omega) only [vy, vz, vze, vr, ty, en, ↓reduceIte, Nat.reduceSub, Nat.reduceAdd, Nat.reduceMul, Nat.reduceLT, Int.reduceAdd, Int.reduceSub, Int.reduceToNat, ci, vi, getO_i, vt, t45, e, hi', hts, hat]
     exact ⟨⟨(true, r.tail), ⟨h.tail, .inl ⟨rfl, h45, rfl⟩⟩, rfl, rfl⟩, by rw [rec1_in hil]; exact fun y hy => hy⟩
   . have h45 : ¬ r.head? = some 45 := fun hh => of_eq_false e (hhd.1 hh)
     simp -dsimp +decide (disch := omega) only [vy, vz, vze, vr, ty, en, ↓reduceIte, Nat.reduceSub, Nat.reduceAdd, Nat.reduceMul, Nat.reduceLT, Int.reduceAdd, Int.reduceSub, Int.reduceToNat, ci, vi, getO_i, vt, hi']
     refine (next06_ok hi h).det' ?_
     rw [hx]
     simp -dsimp +decide (disch := omega) only [vy, vz, vze, vr, ty, en, ↓reduceIte, Nat.reduceSub, Nat.reduceAdd, Nat.reduceMul, Nat.reduceLT, Int.reduceAdd, Int.reduceSub, Int.reduceToNat, ci, vi, getO_i, vt, t45, e, hi', hts]
     exact ⟨(false, r), ⟨h, .inr ⟨rfl, h45, rfl⟩⟩, rfl, (set_self hi).symm⟩
 . rintro ⟨neg, d⟩ g tmp ⟨hd, hneg⟩
   dsimp only at hd hneg
   have hno := num_of hneg
   obtain ⟨L, hL⟩ : ∃ L, dlen d = L := ⟨_, rfl⟩
   rw [hL] at hno
   rw [hno]
   have hLd : L <= d.length := by rw [<- hL]; exact dlen_le d
   have hdl := hd.le
   refine SemA.o ?_
   simp -dsimp +decide (disch := omega) only [vy, vz, vze, vr, ty, en, ↓reduceIte, Nat.reduceSub, Nat.reduceAdd, Nat.reduceMul, Nat.reduceLT, Int.reduceAdd, Int.reduceSub, Int.reduceToNat, ci, vi, getO_i, vt]
   refine SemA.loopE (fun s : Nat × Int => [(0, .ptr i 0), (3, wint ((b.length - r.length : Nat) : Int)), (4, wint ((b.length - d.length : Nat) : Int)), (5, .p (.int .i64 s.2)), (6, .p (.bool (fitN (dval (d.take s.1)))))]) (fun s => T.set i (rs b (d.drop s.1) 0))
    (fun s => s.1 <= L /\ (fitN (dval (d.take s.1)) = true -> s.2 = -(dval (d.take s.1) : Int)) /\ -9223372036854775808 <= s.2 /\ s.2 <= 0) (fun s => L - s.1) (0, 0) [(i, false)] 0
    (fun s : Int => [(0, .ptr i 0), (3, wint ((b.length - r.length : Nat) : Int)), (4, wint ((b.length - d.length : Nat) : Int)), (5, .p (.int .i64 s)), (6, .p (.bool (fitN (dval (d.take L)))))]) (fun s => T.set i (rs b (d.drop L) 0))
    (fun s => (fitN (dval (d.take L)) = true -> s = -(dval (d.take L) : Int)) /\ -9223372036854775808 <= s /\ s <= 0) ⟨by dsimp only; omega, fun _ => rfl, by decide, by decide⟩ (by (simp -dsimp +decide (disch := omega) only [vy, vz, vze, vr, ty, en, ↓reduceIte, Nat.reduceSub, Nat.reduceAdd, Nat.reduceMul, Nat.reduceLT, Int.reduceAdd, Int.reduceSub, Int.reduceToNat, ci, vi, getO_i]); first | rfl | done | exact ⟨rfl, rfl⟩) rfl (by simp) ?_ ?_
   . rintro ⟨k, n⟩ g ⟨hk, hfn, hn1, hn2⟩
     dsimp only at hk hfn hn1 hn2
     have hsR : subE (rec1 T.length i false [(i, false)]) [(i, false)] := by rw [rec1_in hil]; intro y hy; simpa using hy
     have hq := hd.drop k
     obtain ⟨x, hx⟩ : ∃ x, (d.drop k).headD 0 = x := ⟨_, rfl⟩
     have hx8 := x.toNat_lt
     have hlt := dlen_lt (d := d) (k := k) (by rw [hL]; exact hk)
     rw [hL] at hlt
     have hxk : ∀ y, d[k]? = some y -> y = x := fun y hy => by
      obtain ⟨hkl, rfl⟩ := List.getElem?_eq_some_iff.1 hy
      rw [<- hx, List.drop_eq_getElem_cons hkl]; rfl
     have hkx : x ≠ 0 -> d[k]? = some x := fun h0 => by
      by_cases hkl : k < d.length
      . rw [List.drop_eq_getElem_cons hkl] at hx
        rw [List.getElem?_eq_getElem hkl]; exact congrArg some hx
      . rw [List.drop_eq_nil_of_le (by omega)] at hx; exact absurd hx.symm h0
     have out : ¬ k < L -> ∃ s : Int, ((fitN (dval (d.take L)) = true -> s = -(dval (d.take L) : Int)) /\ -9223372036854775808 <= s /\ s <= 0) /\ (AV.p (.int .i64 n) = AV.p (.int .i64 s) /\ AV.p (.bool (fitN (dval (d.take k)))) = AV.p (.bool (fitN (dval (d.take L))))) /\ T.set i (rs b (d.drop k) 0) = T.set i (rs b (d.drop L) 0) := fun hkL => by
      have : k = L := by omega
      subst this
      exact ⟨n, ⟨hfn, hn1, hn2⟩, ⟨rfl, rfl⟩, rfl⟩
     refine SemA.o ?_
     by_cases hdig : 48 <= x.toNat /\ x.toNat <= 57
     rotate_left
     . have hkL : ¬ k < L := fun h => by
        obtain ⟨⟨y, hy, hyd⟩, -⟩ := hlt.1 h
        rw [hxk y hy] at hyd
        exact hdig (of_decide_eq_true hyd)
       have ho := out hkL
       by_cases h48 : 48 <= x.toNat
       . have b1 : ((48 : Int) <= (x.toNat : Int)) = True := eq_true (by omega)
         have b2 : ((x.toNat : Int) <= 57) = False := eq_false (by omega)
         simp -dsimp +decide (disch := omega) only [vy, vz, vze, vr, ty, en, ↓reduceIte, Nat.reduceSub, Nat.reduceAdd, Nat.reduceMul, Nat.reduceLT, Int.reduceAdd, Int.reduceSub, Int.reduceToNat, ci, vi, getO_i, vt]
         refine (next06_ok (hts.2.1 _) hq).det' ?_
         rw [hx]
         simp -dsimp +decide (disch := omega) only [vy, vz, vze, vr, ty, en, ↓reduceIte, Nat.reduceSub, Nat.reduceAdd, Nat.reduceMul, Nat.reduceLT, Int.reduceAdd, Int.reduceSub, Int.reduceToNat, ci, vi, getO_i, vt, b1]
         refine (next06_ok (hts.2.1 _) hq).det' ?_
         rw [hx]
         simp -dsimp +decide (disch := omega) only [vy, vz, vze, vr, ty, en, ↓reduceIte, Nat.reduceSub, Nat.reduceAdd, Nat.reduceMul, Nat.reduceLT, Int.reduceAdd, Int.reduceSub, Int.reduceToNat, ci, vi, getO_i, vt, b2]
         exact ho
       . have b1 : ((48 : Int) <= (x.toNat : Int)) = False := eq_false (by omega)
         simp -dsimp +decide (disch := omega) only [vy, vz, vze, vr, ty, en, ↓reduceIte, Nat.reduceSub, Nat.reduceAdd, Nat.reduceMul, Nat.reduceLT, Int.reduceAdd, Int.reduceSub, Int.reduceToNat, ci, vi, getO_i, vt]
         refine (next06_ok (hts.2.1 _) hq).det' ?_
         rw [hx]
         simp -dsimp +decide (disch := omega) only [vy, vz, vze, vr, ty, en, ↓reduceIte, Nat.reduceSub, Nat.reduceAdd, Nat.reduceMul, Nat.reduceLT, Int.reduceAdd, Int.reduceSub, Int.reduceToNat, ci, vi, getO_i, vt, b1]
         exact ho
     have b1 : ((48 : Int) <= (x.toNat : Int)) = True := eq_true (by omega)
     have b2 : ((x.toNat : Int) <= 57) = True := eq_true (by omega)
     have hdk := hkx (fun h => by rw [h] at hdig; exact absurd hdig.1 (by decide))
     have hkl : k < d.length := (List.getElem?_eq_some_iff.1 hdk).1
     have heq : (((b.length - (d.drop k).length : Nat) : Int) = ((b.length - d.length : Nat) : Int)) = (k = 0) := propext (by rw [List.length_drop]; omega)
     have hge := hd.get0
     obtain ⟨y, hy⟩ : ∃ y, d.head? = some y := by cases d with
      | nil => simp at hkl
      | cons y t => exact ⟨y, rfl⟩
     rw [hy] at hge
     have ty48 : ((y.toNat : Int) = 48) = (y = 48) := propext (u8_num (n := 48) (by decide))
     by_cases hex : k ≠ 0 /\ y = 48
     . have hkL : ¬ k < L := fun h => by
        rcases (hlt.1 h).2 with h | h
        . exact hex.1 h
        . rw [hy, hex.2] at h; exact h rfl
       have ho := out hkL
       have k0 : (k = 0) = False := eq_false hex.1
       have y0 : (y = 48) = True := eq_true hex.2
       simp -dsimp +decide (disch := omega) only [vy, vz, vze, vr, ty, en, ↓reduceIte, Nat.reduceSub, Nat.reduceAdd, Nat.reduceMul, Nat.reduceLT, Int.reduceAdd, Int.reduceSub, Int.reduceToNat, ci, vi, getO_i, vt]
       refine (next06_ok (hts.2.1 _) hq).det' ?_
       rw [hx]
       simp -dsimp +decide (disch := omega) only [vy, vz, vze, vr, ty, en, ↓reduceIte, Nat.reduceSub, Nat.reduceAdd, Nat.reduceMul, Nat.reduceLT, Int.reduceAdd, Int.reduceSub, Int.reduceToNat, ci, vi, getO_i, vt, b1]
       refine (next06_ok (hts.2.1 _) hq).det' ?_
       rw [hx]
       simp -dsimp +decide (disch := omega) only [vy, vz, vze, vr, ty, en, ↓reduceIte, Nat.reduceSub, Nat.reduceAdd, Nat.reduceMul, Nat.reduceLT, Int.reduceAdd, Int.reduceSub, Int.reduceToNat, ci, vi, getO_i, vt, b2, rs, hts, heq, k0, hge, ty48, y0]
       exact ⟨by omega, ho⟩
     have hkL : k < L := hlt.2 ⟨⟨x, hdk, decide_eq_true hdig⟩, by
      by_cases k0 : k = 0
      . exact .inl k0
      . exact .inr (by rw [hy]; intro h; exact hex ⟨k0, Option.some.inj h⟩)⟩
     obtain ⟨e, he⟩ : ∃ e, x.toNat - 48 = e := ⟨_, rfl⟩
     have he10 : e < 10 := by omega
     have hD := dval_take hdk
     rw [he] at hD
     have hfs := fitN_step (D := dval (d.take k)) he10
     rw [<- hD] at hfs
     have hxe : ((x - UInt8.ofInt 48).toNat : Int) = (e : Int) := by
      rw [UInt8.toNat_sub_of_le _ _ (show 48 <= x.toNat from hdig.1)]
      show ((x.toNat - 48 : Nat) : Int) = e
      rw [he]
     have hat : ((b.length - (d.drop k).length : Nat) : Int) + 1 = ((b.length - (d.drop (k + 1)).length : Nat) : Int) := by rw [List.length_drop, List.length_drop]; omega
     have fin : ∀ (n' : Int) (f : Bool), f = fitN (dval (d.take (k + 1))) -> (f = true -> n' = -(dval (d.take (k + 1)) : Int)) -> -9223372036854775808 <= n' -> n' <= 0 -> ∃ s : Nat × Int, ((s.1 <= L /\ (fitN (dval (d.take s.1)) = true -> s.2 = -(dval (d.take s.1) : Int)) /\ -9223372036854775808 <= s.2 /\ s.2 <= 0) /\ L - s.1 < L - k) /\ (AV.p (.int .i64 n') = AV.p (.int .i64 s.2) /\ AV.p (.bool f) = AV.p (.bool (fitN (dval (d.take s.1))))) /\ T.set i (.cells 57 [.p (.string (ba b)), .p (.int .i64 ((b.length - (d.drop (k + 1)).length : Nat) : Int)), .p (.int .i64 0)]) = T.set i (rs b (d.drop s.1) 0) := fun n' f h1 h2 h3 h4 =>
      ⟨(k + 1, n'), ⟨⟨by dsimp only; omega, fun h => h2 (h1.trans h), h3, h4⟩, by dsimp only; omega⟩, ⟨rfl, by rw [h1]⟩, rfl⟩
     have hcond : (k = 0) = True ∨ ((k = 0) = False /\ (y = 48) = False) := by
      by_cases k0 : k = 0
      . exact .inl (eq_true k0)
      . exact .inr ⟨eq_false k0, eq_false fun h => hex ⟨k0, h⟩⟩
     rcases hcond with k0 | ⟨k0, y0⟩
     all_goals
      simp -dsimp +decide (disch := omega) only [vy, vz, vze, vr, ty, en, ↓reduceIte, Nat.reduceSub, Nat.reduceAdd, Nat.reduceMul, Nat.reduceLT, Int.reduceAdd, Int.reduceSub, Int.reduceToNat, ci, vi, getO_i, vt]
      refine (next06_ok (hts.2.1 _) hq).det' ?_
      rw [hx]
      simp -dsimp +decide (disch := omega) only [vy, vz, vze, vr, ty, en, ↓reduceIte, Nat.reduceSub, Nat.reduceAdd, Nat.reduceMul, Nat.reduceLT, Int.reduceAdd, Int.reduceSub, Int.reduceToNat, ci, vi, getO_i, vt, b1]
      refine (next06_ok (hts.2.1 _) hq).det' ?_
      rw [hx]
      first
       | ((simp -dsimp +decide (disch := omega) only [vy, vz, vze, vr, ty, en, ↓reduceIte, Nat.reduceSub, Nat.reduceAdd, Nat.reduceMul, Nat.reduceLT, Int.reduceAdd, Int.reduceSub, Int.reduceToNat, ci, vi, getO_i, vt, b2, rs, hts, heq, k0, hge, ty48, y0])
          refine ⟨by omega, ?_⟩)
       | (simp -dsimp +decide (disch := omega) only [vy, vz, vze, vr, ty, en, ↓reduceIte, Nat.reduceSub, Nat.reduceAdd, Nat.reduceMul, Nat.reduceLT, Int.reduceAdd, Int.reduceSub, Int.reduceToNat, ci, vi, getO_i, vt, b2, rs, hts, heq, k0])
      refine (next06_ok (b := b) (r := d.drop k) (e := 0) (hts.2.1 _) hq).det' ?_
      rw [hx]
      have hQ : IntKind.i64.wrap ((-9223372036854775808 + (e : Int)).tdiv 10) = (-9223372036854775808 + (e : Int)).tdiv 10 := by
       have h1 : (-9223372036854775808 + (e : Int)) = -((9223372036854775808 - e : Nat) : Int) := by omega
       have h2 : Int.tdiv (-((9223372036854775808 - e : Nat) : Int)) 10 = -(((9223372036854775808 - e) / 10 : Nat) : Int) := by rw [Int.neg_tdiv]; congr 1
       rw [h1, h2]
       exact IntWalk.i64_in _ (by omega)
      have hQ2 : (-9223372036854775808 + (e : Int)).tdiv 10 <= 0 := by
       have h1 : (-9223372036854775808 + (e : Int)) = -((9223372036854775808 - e : Nat) : Int) := by omega
       have h2 : Int.tdiv (-((9223372036854775808 - e : Nat) : Int)) 10 = -(((9223372036854775808 - e) / 10 : Nat) : Int) := by rw [Int.neg_tdiv]; congr 1
       rw [h1, h2]; omega
      obtain ⟨Q, hQQ⟩ : ∃ Q, (-9223372036854775808 + (e : Int)).tdiv 10 = Q := ⟨_, rfl⟩
      have hQ := hQ.trans hQQ
      rw [hQQ] at hQ2 hfs
      obtain ⟨D, hDD⟩ : ∃ D, dval (d.take k) = D := ⟨_, rfl⟩
      rw [hDD] at hD hfs hfn
      cases hf : fitN D with
      | true =>
        have hnD := hfn hf
        subst hnD
        rw [hf, Bool.true_and] at hfs
        rcases Classical.propComplete (-(D : Int) < Q) with hc | hc
        . rw [decide_eq_true (of_eq_true hc)] at hfs
          have hff := fin (-(D : Int)) false (by rw [hfs]; rfl) (fun h => by cases h) hn1 hn2
          simp -dsimp +decide (disch := omega) only [vy, vz, vze, vr, ty, en, ↓reduceIte, Nat.reduceSub, Nat.reduceAdd, Nat.reduceMul, Nat.reduceLT, Int.reduceAdd, Int.reduceSub, Int.reduceToNat, ci, vi, getO_i, vt, hxe, hQ, hc, rs, hts, hat, List.set_set]
          exact ⟨hff, hsR⟩
        . rw [decide_eq_false (of_eq_false hc)] at hfs
          have hff := fin (10 * -(D : Int) - (e : Int)) true (by rw [hfs]; rfl) (fun _ => by rw [hD]; omega) (by have := of_decide_eq_true (show decide (dval (d.take (k + 1)) <= 9223372036854775808) = true from hfs.trans rfl); omega) (by omega)
          have hbd : dval (d.take (k + 1)) <= 9223372036854775808 := of_decide_eq_true (show decide (dval (d.take (k + 1)) <= 9223372036854775808) = true from hfs.trans rfl)
          simp -dsimp +decide (disch := omega) only [vy, vz, vze, vr, ty, en, ↓reduceIte, Nat.reduceSub, Nat.reduceAdd, Nat.reduceMul, Nat.reduceLT, Int.reduceAdd, Int.reduceSub, Int.reduceToNat, ci, vi, getO_i, vt, hxe, hQ, hc, hDD, hf, rs, hts, hat, List.set_set]
          exact ⟨hff, hsR⟩
      | false =>
        rw [hf, Bool.false_and] at hfs
        have hff := fin n false hfs.symm (fun h => by cases h) hn1 hn2
        rcases Classical.propComplete (n < Q) with hc | hc
        . simp -dsimp +decide (disch := omega) only [vy, vz, vze, vr, ty, en, ↓reduceIte, Nat.reduceSub, Nat.reduceAdd, Nat.reduceMul, Nat.reduceLT, Int.reduceAdd, Int.reduceSub, Int.reduceToNat, ci, vi, getO_i, vt, hxe, hQ, hc, hDD, hf, rs, hts, hat, List.set_set]
          exact ⟨hff, hsR⟩
        . simp -dsimp +decide (disch := omega) only [vy, vz, vze, vr, ty, en, ↓reduceIte, Nat.reduceSub, Nat.reduceAdd, Nat.reduceMul, Nat.reduceLT, Int.reduceAdd, Int.reduceSub, Int.reduceToNat, ci, vi, getO_i, vt, hxe, hQ, hc, hDD, hf, rs, hts, hat, List.set_set]
          exact ⟨hff, hsR⟩
   . rintro n g tmp ⟨hfn, hn1, hn2⟩
     have hqL := hd.drop L
     have heqL : (((b.length - (d.drop L).length : Nat) : Int) = ((b.length - d.length : Nat) : Int)) = (L = 0) := propext (by rw [List.length_drop]; omega)
     have hdr : (((b.length - d.length : Nat) : Int) = ((b.length - r.length : Nat) : Int)) = (neg = false) := by
      rcases hneg with ⟨rfl, h45, rfl⟩ | ⟨rfl, -, rfl⟩
      . refine propext ⟨fun h2 => ?_, fun h2 => (by cases h2)⟩
        have : 0 < r.length := by cases r with
         | nil => cases h45
         | cons => simp
        rw [List.length_tail] at h2; omega
      . exact propext ⟨fun _ => rfl, fun _ => rfl⟩
     have hE : ∀ y ∈ rec1 T.length i false [(i, false)], y ∈ [(i, false)] := by rw [rec1_in hil]; intro y hy; simpa using hy
     obtain ⟨D, hDD⟩ : ∃ D, dval (d.take L) = D := ⟨_, rfl⟩
     rw [hDD] at hfn ⊢
     by_cases hbad : L = 0 ∨ fitN D = false ∨ (neg = false /\ D = 9223372036854775808)
     . rw [if_pos hbad]
       have hfin : ∀ E : Eff, (∀ y ∈ E, y ∈ [(i, false)]) -> Vw G T (fun v T' es => (v = AV.p (.int .i64 0) /\ ∃ q, Rst b q /\ T' = T.set i (rs b q 5)) /\ es = [(i, false)]) (.p (.int .i64 0)) (T.set i (rs b (d.drop L) (wrE 0 5))) E := fun E hE => Vw.eff (E' := [(i, false)]) hE (Vw.done ⟨⟨rfl, d.drop L, hqL, rfl⟩, rfl⟩)
       by_cases hL0 : L = 0
       . have l0 : (L = 0) = True := eq_true hL0
         simp -dsimp +decide (disch := omega) only [vy, vz, vze, vr, ty, en, ↓reduceIte, Nat.reduceSub, Nat.reduceAdd, Nat.reduceMul, Nat.reduceLT, Int.reduceAdd, Int.reduceSub, Int.reduceToNat, ci, vi, getO_i, vt, rs, hts, heqL, l0]
         refine (wrong06_ok (b := b) (r := d.drop L) (e := 0) (hts.2.1 _)).det' ?_
         simp -dsimp +decide (disch := omega) only [vy, vz, vze, vr, ty, en, ↓reduceIte, Nat.reduceSub, Nat.reduceAdd, Nat.reduceMul, Nat.reduceLT, Int.reduceAdd, Int.reduceSub, Int.reduceToNat, ci, vi, getO_i, vt, List.set_set]
         exact hfin _ hE
       have l0 : (L = 0) = False := eq_false hL0
       cases hf : fitN D with
       | false =>
         simp -dsimp +decide (disch := omega) only [vy, vz, vze, vr, ty, en, ↓reduceIte, Nat.reduceSub, Nat.reduceAdd, Nat.reduceMul, Nat.reduceLT, Int.reduceAdd, Int.reduceSub, Int.reduceToNat, ci, vi, getO_i, vt, rs, hts, heqL, l0, hDD, hf]
         refine (wrong06_ok (b := b) (r := d.drop L) (e := 0) (hts.2.1 _)).det' ?_
         simp -dsimp +decide (disch := omega) only [vy, vz, vze, vr, ty, en, ↓reduceIte, Nat.reduceSub, Nat.reduceAdd, Nat.reduceMul, Nat.reduceLT, Int.reduceAdd, Int.reduceSub, Int.reduceToNat, ci, vi, getO_i, vt, List.set_set]
         exact hfin _ hE
       | true =>
         have hnD := hfn hf
         rcases hbad with h | h | ⟨hn0, hD0⟩
         . exact absurd h hL0
         . rw [hf] at h; cases h
         have e0 : (neg = false) = True := eq_true hn0
         have e1 : (n = -9223372036854775808) = True := eq_true (by omega)
         simp -dsimp +decide (disch := omega) only [vy, vz, vze, vr, ty, en, ↓reduceIte, Nat.reduceSub, Nat.reduceAdd, Nat.reduceMul, Nat.reduceLT, Int.reduceAdd, Int.reduceSub, Int.reduceToNat, ci, vi, getO_i, vt, rs, hts, heqL, l0, hDD, hf, hdr, e0, e1]
         refine (wrong06_ok (b := b) (r := d.drop L) (e := 0) (hts.2.1 _)).det' ?_
         simp -dsimp +decide (disch := omega) only [vy, vz, vze, vr, ty, en, ↓reduceIte, Nat.reduceSub, Nat.reduceAdd, Nat.reduceMul, Nat.reduceLT, Int.reduceAdd, Int.reduceSub, Int.reduceToNat, ci, vi, getO_i, vt, List.set_set]
         exact hfin _ hE
     . rw [if_neg hbad]
       have l0 : (L = 0) = False := eq_false fun h => hbad (.inl h)
       have hf : fitN D = true := by cases hf : fitN D with
        | true => rfl
        | false => exact absurd (.inr (.inl hf)) hbad
       have hD : D <= 9223372036854775808 := of_decide_eq_true hf
       have hnD := hfn hf
       subst hnD
       cases neg with
       | true =>
         have e0 : (true = false) = False := eq_false (by decide)
         simp -dsimp +decide (disch := omega) only [vy, vz, vze, vr, ty, en, ↓reduceIte, Nat.reduceSub, Nat.reduceAdd, Nat.reduceMul, Nat.reduceLT, Int.reduceAdd, Int.reduceSub, Int.reduceToNat, ci, vi, getO_i, vt, rs, hts, heqL, l0, hDD, hf, hdr]
         exact Vw.done ⟨⟨rfl, hqL, rfl⟩, rfl⟩
       | false =>
         have e1 : (-(D : Int) = -9223372036854775808) = False := eq_false fun h => hbad (.inr (.inr ⟨rfl, by omega⟩))
         have hw : IntKind.i64.wrap (0 - -(D : Int)) = (D : Int) := by rw [Int.zero_sub, Int.neg_neg]; exact IntWalk.i64_in _ (by have := of_eq_false e1; omega)
         simp -dsimp +decide (disch := omega) only [vy, vz, vze, vr, ty, en, ↓reduceIte, Nat.reduceSub, Nat.reduceAdd, Nat.reduceMul, Nat.reduceLT, Int.reduceAdd, Int.reduceSub, Int.reduceToNat, ci, vi, getO_i, vt, rs, hts, heqL, l0, hDD, hf, hdr, e1, hw]
         exact Vw.done ⟨⟨rfl, hqL, rfl⟩, rfl⟩
end Go.Proofs.YtglpcedoongagaaGreatDoor
namespace Go.J
theorem num_none {c : UInt8} {t : B} (h1 : c ≠ 45) (h2 : isD c = false) : num (c :: t) = none := by
 unfold num
 rw [if_neg (by intro h; exact h1 (Option.some.inj h))]
 unfold numD
 rw [if_pos]
 unfold dlen
 rw [if_neg (by intro h; have : c = 48 := Option.some.inj h; subst this; cases h2), dspan, h2]; rfl
end Go.J
namespace Go.Proofs.YtglpcedoongagaaGreatDoor
open Go.E Go.Proofs.YtglpcedoongagaaGreatDoor.Tryz Go.Proofs.Tryz Go.J Go.Proofs
def Val06Ok (n : Nat) : Prop := ∀ (T : Tbl) (i : Nat) (b r : B), T[i]? = some (rs b r 0) -> Rst b r -> CallA prog G 32 [.ptr i 0, wint (8 - (n : Int))] T fun v T' es => (match val n r with
 | .ok (u, r') => v = .ag (vcs u) /\ Rst b r' /\ T' = T.set i (rs b r' 0)
 | .error e => e ≠ 0 /\ ∃ u q, v = .ag (vcs u) /\ Rst b q /\ T' = T.set i (rs b q e)) /\ es = [(i, false)]
def Many06Ok (n : Nat) : Prop := ∀ (T : Tbl) (i : Nat) (b : B) (c : UInt8) (t : B), (c = 91 ∨ c = 123) -> T[i]? = some (rs b (c :: t) 0) -> Rst b (c :: t) -> CallA prog G 57 [.ptr i 0, wint (7 - (n : Int))] T fun v T' es => (match if c = 91 then lst (val n) t else obj (val n) t with
 | .ok (u, r') => v = .ag (vcs u) /\ Rst b r' /\ T' = T.set i (rs b r' 0)
 | .error e => e ≠ 0 /\ ∃ u q, v = .ag (vcs u) /\ Rst b q /\ T' = T.set i (rs b q e)) /\ es = [(i, false)]
theorem Vw.tsw {G : Nat -> AV} {K : AV -> Tbl -> Eff -> Prop} {T l : Tbl} {i : Nat} {b r : B} {e : Int} {u v : AV} {E : Eff} (wt : T.map (AObj.wo fun i => decide (T.length <= i)) = T) (hw : ∀ (Z : Heap) (ρ : List BI) (x : Value), Rel Z ρ v x -> Rel Z ρ u x) (hE : ∀ y ∈ E, y ∈ [(i, false)]) (h : K (u.wo fun i => decide (T.length <= i)) (T.set i (rs b r e)) [(i, false)]) : Vw G T K v (T.set i (rs b r e) ++ l) E :=
 Vw.weak hw (Vw.eff hE (Vw.ts wt h))
theorem vcw (q : Nat -> Bool) (u : JV) : (AV.ag (vcs u)).wo q = .ag (vcs u) := by rw [AV.wo, AV.woL_eq, vcs_wo]
theorem leaf_weak (k : UInt8) (z : Int) (s : B) : ∀ (Z : Heap) (ρ : List BI) (x : Value), Rel Z ρ (.ag [by8 k, .p (.int .i64 z), str s, .p (.slice none 0 0), .p (.slice none 0 0)]) x -> Rel Z ρ (.ag (vcs (.mk k z s [] []))) x := by
 rw [vcs, vcsL]; exact ag5_weak nil_vs nil_vs
theorem lit_pre {w l : B} {v : JV} : lit w v l = if w.isPrefixOf l then .ok (v, l.drop w.length) else .error 5 := rfl
theorem value06_step (n : Nat) (hn : n <= 8) (hmany : ∀ m, n = m + 1 -> Many06Ok m) : Val06Ok n := by
 intro T i b r hi h
 refine CallA.wfs fun wf => ?_
 have wt := wf.t
 have hil := (List.getElem?_eq_some_iff.1 hi).1
 have hts := ts_rules hil wt b
 have hbk := h.bk
 have hN : ∀ U : Tbl, (T ++ U)[i]? = some (rs b r 0) := fun U => by rw [List.getElem?_append_left hil]; exact hi
 have hST : ∀ (o : AObj) (U : Tbl), (T ++ U).set i o = T.set i o ++ U := fun o U => List.set_append_left _ _ hil
 obtain ⟨wi, hwi⟩ : ∃ wi : Int, 8 - (n : Int) = wi := ⟨_, rfl⟩
 rw [hwi]
 have hrE : ∀ E : Eff, (∀ y ∈ E, y ∈ [(i, false)]) -> ∀ y ∈ rec1 T.length i false E, y ∈ [(i, false)] := fun E hE y hy => by
  rw [rec1_in hil] at hy
  rcases List.mem_cons.1 hy with h | h
  . rw [h]; simp
  . exact hE y h
 have hstr : ∀ l, str l = .p (.string (ba l)) := fun _ => rfl
 have hE0 : ∀ y ∈ ([] : Eff), y ∈ [(i, false)] := fun y h => (nomatch h)
 refine CallA.eV 49 func32 ntmps32 results32 ?_
 simp -dsimp +decide only [vr, ty, en, ↓reduceIte, Nat.reduceSub, Nat.reduceAdd, Nat.reduceMul, Nat.reduceLT, Int.reduceAdd, Int.reduceSub, Int.reduceToNat, ci]
 refine (blanks06_ok (b := b) (r := r) (e := 0) (hN _) h).det' ?_
 rw [hST]
 simp -dsimp +decide (disch := omega) only [vr, ty, en, ↓reduceIte, Nat.reduceSub, Nat.reduceAdd, Nat.reduceMul, Nat.reduceLT, Int.reduceAdd, Int.reduceSub, Int.reduceToNat, ci, vi, getO_i, vt]
 refine (next06_ok (b := b) (r := Go.J.blk r) (e := 0) (hts.2.2.1 _ _) hbk).det' ?_
 obtain ⟨m, hm⟩ : ∃ m, Go.J.blk r = m := ⟨_, rfl⟩
 rw [hm] at hbk ⊢
 obtain ⟨c, hc⟩ : ∃ c, m.headD 0 = c := ⟨_, rfl⟩
 rw [hc]
 have tc : ∀ k : Nat, k < 256 -> ((c.toNat : Int) = (k : Int)) = (c = u8 k) := fun k h => propext (u8_num h)
 have t110 : ((c.toNat : Int) = 110) = (c = 110) := tc 110 (by decide)
 have t116 : ((c.toNat : Int) = 116) = (c = 116) := tc 116 (by decide)
 have t102 : ((c.toNat : Int) = 102) = (c = 102) := tc 102 (by decide)
 have t34 : ((c.toNat : Int) = 34) = (c = 34) := tc 34 (by decide)
 have t45 : ((c.toNat : Int) = 45) = (c = 45) := tc 45 (by decide)
 have t91 : ((c.toNat : Int) = 91) = (c = 91) := tc 91 (by decide)
 have t123 : ((c.toNat : Int) = 123) = (c = 123) := tc 123 (by decide)
 have hhd : ∀ x : UInt8, x ≠ 0 -> c = x -> ∃ t, m = x :: t := fun x hx he => by
  cases m with
  | nil => exact absurd (he.symm.trans (show c = 0 from hc.symm)) hx
  | cons y t => exact ⟨t, by have : y = c := hc
                             rw [this, he]⟩
 have hleaf : c ≠ 91 -> c ≠ 123 -> val n r = valL m := fun h1 h2 => by
  rw [val_leaf, hm]
  . rw [hm]; intro he; cases m with
    | nil => cases he
    | cons y t => cases he; exact h1 hc.symm
  . rw [hm]; intro he; cases m with
    | nil => cases he
    | cons y t => cases he; exact h2 hc.symm
 have hok : ∀ (k : UInt8) (z : Int) (s : B) (q : B) (l : Tbl) (E : Eff) (X : R), X = .ok (.mk k z s [] [], q) -> Rst b q -> (∀ y ∈ E, y ∈ [(i, false)]) -> Vw G T (fun v T' es => (match X with
  | .ok (u, r') => v = .ag (vcs u) /\ Rst b r' /\ T' = T.set i (rs b r' 0)
  | .error e => e ≠ 0 /\ ∃ u q, v = .ag (vcs u) /\ Rst b q /\ T' = T.set i (rs b q e)) /\ es = [(i, false)]) (.ag [by8 k, .p (.int .i64 z), str s, .p (.slice none 0 0), .p (.slice none 0 0)]) (T.set i (rs b q 0) ++ l) E := fun k z s q l E X hX hq hE => by
  subst hX
  exact Vw.tsw wt.2.1 (leaf_weak k z s) hE ⟨⟨vcw _ _, hq, rfl⟩, rfl⟩
 have hbad : ∀ (k : UInt8) (z : Int) (s : B) (q : B) (l : Tbl) (E : Eff) (X : R) (e : Int), e ≠ 0 -> X = .error e -> Rst b q -> (∀ y ∈ E, y ∈ [(i, false)]) -> Vw G T (fun v T' es => (match X with
  | .ok (u, r') => v = .ag (vcs u) /\ Rst b r' /\ T' = T.set i (rs b r' 0)
  | .error e => e ≠ 0 /\ ∃ u q, v = .ag (vcs u) /\ Rst b q /\ T' = T.set i (rs b q e)) /\ es = [(i, false)]) (.ag [by8 k, .p (.int .i64 z), str s, .p (.slice none 0 0), .p (.slice none 0 0)]) (T.set i (rs b q e) ++ l) E := fun k z s q l E X e he hX hq hE => by
  subst hX
  exact Vw.tsw wt.2.1 (leaf_weak k z s) hE ⟨⟨he, _, q, vcw _ _, hq, rfl⟩, rfl⟩
 rcases Classical.propComplete (c = 110) with e1 | e1
 . obtain ⟨t, ht⟩ := hhd 110 (by decide) (of_eq_true e1)
   have hv : val n r = lit [110, 117, 108, 108] vNull m := by rw [hleaf (by rw [of_eq_true e1]; decide) (by rw [of_eq_true e1]; decide), ht]; rfl
   rw [hv, lit_pre]
   simp -dsimp +decide (disch := omega) only [vr, ty, en, ↓reduceIte, Nat.reduceSub, Nat.reduceAdd, Nat.reduceMul, Nat.reduceLT, Int.reduceAdd, Int.reduceSub, Int.reduceToNat, ci, vi, getO_i, vt, t110, e1]
   refine (want06_ok (s := [110, 117, 108, 108]) (b := b) (r := m) (e := 0) (hts.2.2.1 _ _) hbk (by decide)).det' ?_
   rw [hts.2.2.2.1]
   cases hp : List.isPrefixOf [110, 117, 108, 108] m with
   | true =>
     simp -dsimp +decide (disch := omega) only [vr, ty, en, ↓reduceIte, Nat.reduceSub, Nat.reduceAdd, Nat.reduceMul, Nat.reduceLT, Int.reduceAdd, Int.reduceSub, Int.reduceToNat, ci, vi, getO_i, vt, hts, zc, wr5, tk5]
     exact hok 0 0 [] (m.drop 4) _ _ _ rfl (hbk.drop _) (hrE _ (hrE _ hE0))
   | false =>
     simp -dsimp +decide (disch := omega) only [vr, ty, en, ↓reduceIte, Nat.reduceSub, Nat.reduceAdd, Nat.reduceMul, Nat.reduceLT, Int.reduceAdd, Int.reduceSub, Int.reduceToNat, ci, vi, getO_i, vt, hts, zc, wr5, tk5]
     exact hbad 0 0 [] m _ _ _ 5 (by decide) rfl hbk (hrE _ (hrE _ hE0))
 rcases Classical.propComplete (c = 116) with e2 | e2
 . obtain ⟨t, ht⟩ := hhd 116 (by decide) (of_eq_true e2)
   have hv : val n r = lit [116, 114, 117, 101] (vBool 1) m := by rw [hleaf (by rw [of_eq_true e2]; decide) (by rw [of_eq_true e2]; decide), ht]; rfl
   rw [hv, lit_pre]
   simp -dsimp +decide (disch := omega) only [vr, ty, en, ↓reduceIte, Nat.reduceSub, Nat.reduceAdd, Nat.reduceMul, Nat.reduceLT, Int.reduceAdd, Int.reduceSub, Int.reduceToNat, ci, vi, getO_i, vt, t110, e1, t116, e2]
   refine (want06_ok (s := [116, 114, 117, 101]) (b := b) (r := m) (e := 0) (hts.2.2.1 _ _) hbk (by decide)).det' ?_
   rw [hts.2.2.2.1]
   cases hp : List.isPrefixOf [116, 114, 117, 101] m with
   | true =>
     simp -dsimp +decide (disch := omega) only [vr, ty, en, ↓reduceIte, Nat.reduceSub, Nat.reduceAdd, Nat.reduceMul, Nat.reduceLT, Int.reduceAdd, Int.reduceSub, Int.reduceToNat, ci, vi, getO_i, vt, hts, zc, wr5, tk5]
     exact hok 1 1 [] (m.drop 4) _ _ _ rfl (hbk.drop _) (hrE _ (hrE _ hE0))
   | false =>
     simp -dsimp +decide (disch := omega) only [vr, ty, en, ↓reduceIte, Nat.reduceSub, Nat.reduceAdd, Nat.reduceMul, Nat.reduceLT, Int.reduceAdd, Int.reduceSub, Int.reduceToNat, ci, vi, getO_i, vt, hts, zc, wr5, tk5]
     exact hbad 1 1 [] m _ _ _ 5 (by decide) rfl hbk (hrE _ (hrE _ hE0))
 rcases Classical.propComplete (c = 102) with e3 | e3
 . obtain ⟨t, ht⟩ := hhd 102 (by decide) (of_eq_true e3)
   have hv : val n r = lit [102, 97, 108, 115, 101] (vBool 0) m := by rw [hleaf (by rw [of_eq_true e3]; decide) (by rw [of_eq_true e3]; decide), ht]; rfl
   rw [hv, lit_pre]
   simp -dsimp +decide (disch := omega) only [vr, ty, en, ↓reduceIte, Nat.reduceSub, Nat.reduceAdd, Nat.reduceMul, Nat.reduceLT, Int.reduceAdd, Int.reduceSub, Int.reduceToNat, ci, vi, getO_i, vt, t110, e1, t116, e2, t102, e3]
   refine (want06_ok (s := [102, 97, 108, 115, 101]) (b := b) (r := m) (e := 0) (hts.2.2.1 _ _) hbk (by decide)).det' ?_
   rw [hts.2.2.2.1]
   cases hp : List.isPrefixOf [102, 97, 108, 115, 101] m with
   | true =>
     simp -dsimp +decide (disch := omega) only [vr, ty, en, ↓reduceIte, Nat.reduceSub, Nat.reduceAdd, Nat.reduceMul, Nat.reduceLT, Int.reduceAdd, Int.reduceSub, Int.reduceToNat, ci, vi, getO_i, vt, hts, zc, wr5, tk5]
     exact hok 1 0 [] (m.drop 5) _ _ _ rfl (hbk.drop _) (hrE _ (hrE _ hE0))
   | false =>
     simp -dsimp +decide (disch := omega) only [vr, ty, en, ↓reduceIte, Nat.reduceSub, Nat.reduceAdd, Nat.reduceMul, Nat.reduceLT, Int.reduceAdd, Int.reduceSub, Int.reduceToNat, ci, vi, getO_i, vt, hts, zc, wr5, tk5]
     exact hbad 1 0 [] m _ _ _ 5 (by decide) rfl hbk (hrE _ (hrE _ hE0))
 rcases Classical.propComplete (c = 34) with e4 | e4
 . obtain ⟨t, ht⟩ := hhd 34 (by decide) (of_eq_true e4)
   have hv : val n r = (match txtF t [] with
    | some (s, r) => .ok (vText s, r)
    | none => .error 5) := by rw [hleaf (by rw [of_eq_true e4]; decide) (by rw [of_eq_true e4]; decide), ht]; rfl
   have hto : txtO m = txtF t [] := by rw [ht]; rfl
   rw [hv, <- hto]
   simp -dsimp +decide (disch := omega) only [vr, ty, en, ↓reduceIte, Nat.reduceSub, Nat.reduceAdd, Nat.reduceMul, Nat.reduceLT, Int.reduceAdd, Int.reduceSub, Int.reduceToNat, ci, vi, getO_i, vt, t110, e1, t116, e2, t102, e3, t34, e4]
   refine (text06_ok (b := b) (r := m) (hts.2.2.1 _ _) hbk).mono ?_
   cases hx : txtO m with
   | none =>
     rintro v T' es ⟨⟨rfl, q, hq, rfl⟩, rfl⟩
     rw [hts.2.2.2.1]
     simp -dsimp +decide (disch := omega) only [vr, ty, en, ↓reduceIte, Nat.reduceSub, Nat.reduceAdd, Nat.reduceMul, Nat.reduceLT, Int.reduceAdd, Int.reduceSub, Int.reduceToNat, ci, vi, getO_i, vt, hts, zc, wr5, tk5, hstr]
     exact hbad 3 0 [] q _ _ _ 5 (by decide) rfl hq (hrE _ (hrE _ hE0))
   | some sr =>
     obtain ⟨s, r'⟩ := sr
     rintro v T' es ⟨⟨rfl, hr', rfl⟩, rfl⟩
     rw [hts.2.2.2.1]
     simp -dsimp +decide (disch := omega) only [vr, ty, en, ↓reduceIte, Nat.reduceSub, Nat.reduceAdd, Nat.reduceMul, Nat.reduceLT, Int.reduceAdd, Int.reduceSub, Int.reduceToNat, ci, vi, getO_i, vt, hts, zc, wr5, tk5, hstr]
     exact hok 3 0 s r' _ _ _ rfl hr' (hrE _ (hrE _ hE0))
 have hm0 : ∀ P : Prop, (c ≠ 0 -> (∃ t, m = c :: t) -> P) -> (m = [] ∨ c = 0 -> P) -> P := fun P h1 h2 => by
  by_cases h0 : c = 0
  . exact h2 (.inr h0)
  . exact h1 h0 (hhd c h0 rfl)
 by_cases hnum : c = 45 ∨ isD c = true
 . have hc0 : c ≠ 0 := by rintro rfl; rcases hnum with h | h <;> cases h
   obtain ⟨t, ht⟩ := hhd c hc0 rfl
   have n91 : c ≠ 91 := by rintro rfl; rcases hnum with h | h <;> cases h
   have n123 : c ≠ 123 := by rintro rfl; rcases hnum with h | h <;> cases h
   have hv : val n r = (match num m with
    | some (z, r) => .ok (vNum z, r)
    | none => .error 5) := by rw [hleaf n91 n123, ht, valL, if_neg (of_eq_false e1), if_neg (of_eq_false e2), if_neg (of_eq_false e3), if_neg (of_eq_false e4)]; rfl
   rw [hv]
   have hcond : ((c = 45) = True) ∨ ((c = 45) = False /\ ((48 : Int) <= (c.toNat : Int)) = True /\ ((c.toNat : Int) <= 57) = True) := by
    by_cases h45 : c = 45
    . exact .inl (eq_true h45)
    . have := of_decide_eq_true (hnum.resolve_left h45)
      exact .inr ⟨eq_false h45, eq_true (by omega), eq_true (by omega)⟩
   rcases hcond with e5 | ⟨e5, e6, e7⟩
   all_goals
    first
     | (simp -dsimp +decide (disch := omega) only [vr, ty, en, ↓reduceIte, Nat.reduceSub, Nat.reduceAdd, Nat.reduceMul, Nat.reduceLT, Int.reduceAdd, Int.reduceSub, Int.reduceToNat, ci, vi, getO_i, vt, t110, e1, t116, e2, t102, e3, t34, e4, t45, e5, e6, e7])
     | (simp -dsimp +decide (disch := omega) only [vr, ty, en, ↓reduceIte, Nat.reduceSub, Nat.reduceAdd, Nat.reduceMul, Nat.reduceLT, Int.reduceAdd, Int.reduceSub, Int.reduceToNat, ci, vi, getO_i, vt, t110, e1, t116, e2, t102, e3, t34, e4, t45, e5])
    refine (number06_ok (b := b) (r := m) (hts.2.2.1 _ _) hbk).mono ?_
    cases hx : num m with
    | none =>
      rintro v T' es ⟨⟨rfl, q, hq, rfl⟩, rfl⟩
      rw [hts.2.2.2.1]
      simp -dsimp +decide (disch := omega) only [vr, ty, en, ↓reduceIte, Nat.reduceSub, Nat.reduceAdd, Nat.reduceMul, Nat.reduceLT, Int.reduceAdd, Int.reduceSub, Int.reduceToNat, ci, vi, getO_i, vt, hts, zc, wr5, tk5]
      exact hbad 2 0 [] q _ _ _ 5 (by decide) rfl hq (hrE _ (hrE _ hE0))
    | some sr =>
      obtain ⟨z, r'⟩ := sr
      rintro v T' es ⟨⟨rfl, hr', rfl⟩, rfl⟩
      rw [hts.2.2.2.1]
      simp -dsimp +decide (disch := omega) only [vr, ty, en, ↓reduceIte, Nat.reduceSub, Nat.reduceAdd, Nat.reduceMul, Nat.reduceLT, Int.reduceAdd, Int.reduceSub, Int.reduceToNat, ci, vi, getO_i, vt, hts, zc, wr5, tk5]
      exact hok 2 z [] r' _ _ _ rfl hr' (hrE _ (hrE _ hE0))
 have n45 : (c = 45) = False := eq_false fun h => hnum (.inl h)
 by_cases hb : c = 91 ∨ c = 123
 . have hc0 : c ≠ 0 := by rintro rfl; rcases hb with h | h <;> cases h
   obtain ⟨t, ht⟩ := hhd c hc0 rfl
   have c48 : ((48 : Int) <= (c.toNat : Int)) = True := by rcases hb with rfl | rfl <;> decide
   have c57 : ((c.toNat : Int) <= 57) = False := by rcases hb with rfl | rfl <;> decide
   have hdb : ((c = 91) = True) ∨ ((c = 91) = False /\ (c = 123) = True) := by rcases hb with rfl | rfl <;> decide
   cases n with
   | zero =>
     have hv : val 0 r = .error 6 := by rw [val, hm, ht, if_pos]; rcases hb with h | h <;> rw [h] <;> simp
     rw [hv]
     have hw8 : ((8 : Int) <= wi) = True := eq_true (by omega)
     rcases hdb with e8 | ⟨e8, e9⟩
     . simp -dsimp +decide (disch := omega) only [vr, ty, en, ↓reduceIte, Nat.reduceSub, Nat.reduceAdd, Nat.reduceMul, Nat.reduceLT, Int.reduceAdd, Int.reduceSub, Int.reduceToNat, ci, vi, getO_i, vt, t110, e1, t116, e2, t102, e3, t34, e4, t45, n45, c48, c57, t91, e8, hw8]
       refine (wrong06_ok (b := b) (r := m) (e := 0) (x := 6) (hts.2.2.1 _ _)).det' ?_
       rw [hts.2.2.2.1]
       simp -dsimp +decide (disch := omega) only [vr, ty, en, ↓reduceIte, Nat.reduceSub, Nat.reduceAdd, Nat.reduceMul, Nat.reduceLT, Int.reduceAdd, Int.reduceSub, Int.reduceToNat, ci, vi, getO_i, vt, hts, zc, wr5, tk5]
       exact hbad 0 0 [] m _ _ _ 6 (by decide) rfl hbk (hrE _ (hrE _ hE0))
     . simp -dsimp +decide (disch := omega) only [vr, ty, en, ↓reduceIte, Nat.reduceSub, Nat.reduceAdd, Nat.reduceMul, Nat.reduceLT, Int.reduceAdd, Int.reduceSub, Int.reduceToNat, ci, vi, getO_i, vt, t110, e1, t116, e2, t102, e3, t34, e4, t45, n45, c48, c57, t91, e8, t123, e9, hw8]
       refine (wrong06_ok (b := b) (r := m) (e := 0) (x := 6) (hts.2.2.1 _ _)).det' ?_
       rw [hts.2.2.2.1]
       simp -dsimp +decide (disch := omega) only [vr, ty, en, ↓reduceIte, Nat.reduceSub, Nat.reduceAdd, Nat.reduceMul, Nat.reduceLT, Int.reduceAdd, Int.reduceSub, Int.reduceToNat, ci, vi, getO_i, vt, hts, zc, wr5, tk5]
       exact hbad 0 0 [] m _ _ _ 6 (by decide) rfl hbk (hrE _ (hrE _ hE0))
   | succ k =>
     have hv : val (k + 1) r = (if c = 91 then lst (val k) t else obj (val k) t) := by
      rw [val, hm, ht]
      rcases hb with h | h
      . rw [h]; rfl
      . rw [h]; rfl
     rw [hv]
     have hw8 : ((8 : Int) <= wi) = False := eq_false (by omega)
     have hwk : wi = 7 - (k : Int) := by omega
     rw [ht] at hbk ⊢
     rcases hdb with e8 | ⟨e8, e9⟩
     . simp -dsimp +decide (disch := omega) only [vr, ty, en, ↓reduceIte, Nat.reduceSub, Nat.reduceAdd, Nat.reduceMul, Nat.reduceLT, Int.reduceAdd, Int.reduceSub, Int.reduceToNat, ci, vi, getO_i, vt, t110, e1, t116, e2, t102, e3, t34, e4, t45, n45, c48, c57, t91, e8, hw8]
       rw [hwk]
       refine (hmany k rfl _ i b c t hb (hts.2.2.1 _ _) hbk).mono ?_
       cases hX : (if c = 91 then lst (val k) t else obj (val k) t) with
       | error e =>
         rintro v T' es ⟨⟨he, u, q, rfl, hq, rfl⟩, rfl⟩
         have hcu := vcr u
         rw [hts.2.2.2.1]
         simp -dsimp +decide (disch := omega) only [vr, ty, en, ↓reduceIte, Nat.reduceSub, Nat.reduceAdd, Nat.reduceMul, Nat.reduceLT, Int.reduceAdd, Int.reduceSub, Int.reduceToNat, ci, vi, getO_i, vt, hts, hcu, tk5]
         exact Vw.tsw wt.2.1 (fun _ _ _ h => h) (hrE _ (hrE _ hE0)) ⟨⟨he, u, q, vcw _ _, hq, rfl⟩, rfl⟩
       | ok ur =>
         obtain ⟨u, r'⟩ := ur
         rintro v T' es ⟨⟨rfl, hr', rfl⟩, rfl⟩
         have hcu := vcr u
         rw [hts.2.2.2.1]
         simp -dsimp +decide (disch := omega) only [vr, ty, en, ↓reduceIte, Nat.reduceSub, Nat.reduceAdd, Nat.reduceMul, Nat.reduceLT, Int.reduceAdd, Int.reduceSub, Int.reduceToNat, ci, vi, getO_i, vt, hts, hcu, tk5]
         exact Vw.tsw wt.2.1 (fun _ _ _ h => h) (hrE _ (hrE _ hE0)) ⟨⟨vcw _ _, hr', rfl⟩, rfl⟩
     . simp -dsimp +decide (disch := omega) only [vr, ty, en, ↓reduceIte, Nat.reduceSub, Nat.reduceAdd, Nat.reduceMul, Nat.reduceLT, Int.reduceAdd, Int.reduceSub, Int.reduceToNat, ci, vi, getO_i, vt, t110, e1, t116, e2, t102, e3, t34, e4, t45, n45, c48, c57, t91, e8, t123, e9, hw8]
       rw [hwk]
       refine (hmany k rfl _ i b c t hb (hts.2.2.1 _ _) hbk).mono ?_
       cases hX : (if c = 91 then lst (val k) t else obj (val k) t) with
       | error e =>
         rintro v T' es ⟨⟨he, u, q, rfl, hq, rfl⟩, rfl⟩
         have hcu := vcr u
         rw [hts.2.2.2.1]
         simp -dsimp +decide (disch := omega) only [vr, ty, en, ↓reduceIte, Nat.reduceSub, Nat.reduceAdd, Nat.reduceMul, Nat.reduceLT, Int.reduceAdd, Int.reduceSub, Int.reduceToNat, ci, vi, getO_i, vt, hts, hcu, tk5]
         exact Vw.tsw wt.2.1 (fun _ _ _ h => h) (hrE _ (hrE _ hE0)) ⟨⟨he, u, q, vcw _ _, hq, rfl⟩, rfl⟩
       | ok ur =>
         obtain ⟨u, r'⟩ := ur
         rintro v T' es ⟨⟨rfl, hr', rfl⟩, rfl⟩
         have hcu := vcr u
         rw [hts.2.2.2.1]
         simp -dsimp +decide (disch := omega) only [vr, ty, en, ↓reduceIte, Nat.reduceSub, Nat.reduceAdd, Nat.reduceMul, Nat.reduceLT, Int.reduceAdd, Int.reduceSub, Int.reduceToNat, ci, vi, getO_i, vt, hts, hcu, tk5]
         exact Vw.tsw wt.2.1 (fun _ _ _ h => h) (hrE _ (hrE _ hE0)) ⟨⟨vcw _ _, hr', rfl⟩, rfl⟩
 . have n91 : (c = 91) = False := eq_false fun h => hb (.inl h)
   have n123 : (c = 123) = False := eq_false fun h => hb (.inr h)
   have hv : val n r = .error 5 := by
    rw [hleaf (of_eq_false n91) (of_eq_false n123)]
    cases m with
    | nil => rfl
    | cons y t =>
      obtain rfl : y = c := hc
      rw [valL, if_neg (of_eq_false e1), if_neg (of_eq_false e2), if_neg (of_eq_false e3), if_neg (of_eq_false e4), num_none (of_eq_false n45) (Bool.eq_false_iff.2 fun h => hnum (.inr h))]
   rw [hv]
   have hcond : ((48 : Int) <= (c.toNat : Int)) = False ∨ (((48 : Int) <= (c.toNat : Int)) = True /\ ((c.toNat : Int) <= 57) = False) := by
    by_cases h48 : (48 : Int) <= (c.toNat : Int)
    . refine .inr ⟨eq_true h48, eq_false fun h => hnum (.inr ?_)⟩
      exact decide_eq_true ⟨by omega, by omega⟩
    . exact .inl (eq_false h48)
   rcases hcond with e6 | ⟨e6, e7⟩
   . simp -dsimp +decide (disch := omega) only [vr, ty, en, ↓reduceIte, Nat.reduceSub, Nat.reduceAdd, Nat.reduceMul, Nat.reduceLT, Int.reduceAdd, Int.reduceSub, Int.reduceToNat, ci, vi, getO_i, vt, t110, e1, t116, e2, t102, e3, t34, e4, t45, n45, e6, t91, n91, t123, n123]
     refine (wrong06_ok (b := b) (r := m) (e := 0) (x := 5) (hts.2.2.1 _ _)).det' ?_
     rw [hts.2.2.2.1]
     simp -dsimp +decide (disch := omega) only [vr, ty, en, ↓reduceIte, Nat.reduceSub, Nat.reduceAdd, Nat.reduceMul, Nat.reduceLT, Int.reduceAdd, Int.reduceSub, Int.reduceToNat, ci, vi, getO_i, vt, hts, zc, wr5, tk5]
     exact hbad 0 0 [] m _ _ _ 5 (by decide) rfl hbk (hrE _ (hrE _ hE0))
   . simp -dsimp +decide (disch := omega) only [vr, ty, en, ↓reduceIte, Nat.reduceSub, Nat.reduceAdd, Nat.reduceMul, Nat.reduceLT, Int.reduceAdd, Int.reduceSub, Int.reduceToNat, ci, vi, getO_i, vt, t110, e1, t116, e2, t102, e3, t34, e4, t45, n45, e6, e7, t91, n91, t123, n123]
     refine (wrong06_ok (b := b) (r := m) (e := 0) (x := 5) (hts.2.2.1 _ _)).det' ?_
     rw [hts.2.2.2.1]
     simp -dsimp +decide (disch := omega) only [vr, ty, en, ↓reduceIte, Nat.reduceSub, Nat.reduceAdd, Nat.reduceMul, Nat.reduceLT, Int.reduceAdd, Int.reduceSub, Int.reduceToNat, ci, vi, getO_i, vt, hts, zc, wr5, tk5]
     exact hbad 0 0 [] m _ _ _ 5 (by decide) rfl hbk (hrE _ (hrE _ hE0))
end Go.Proofs.YtglpcedoongagaaGreatDoor
namespace Go.Proofs.YtglpcedoongagaaGreatDoor
open Go.E Go.Proofs.YtglpcedoongagaaGreatDoor.Tryz Go.Proofs.Tryz Go.J Go.Proofs
theorem headD_eq {m : B} {x : UInt8} (hx : x ≠ 0) : (((m.headD 0).toNat : Int) = (x.toNat : Int)) = (m.head? = some x) := by
 refine propext ?_
 cases m with
 | nil => exact ⟨fun h => absurd (UInt8.toNat_inj.1 (by have : ((0 : UInt8).toNat : Int) = x.toNat := h; omega) : (0 : UInt8) = x).symm hx, fun h => (nomatch h)⟩
 | cons y t => exact ⟨fun h => congrArg some (UInt8.toNat_inj.1 (by have : (y.toNat : Int) = x.toNat := h; omega)), fun h => by cases h; rfl⟩
theorem rs_tail {b r : B} (h : Rst b r) (hr : 0 < r.length) : ((b.length - r.length : Nat) : Int) + 1 = ((b.length - r.tail.length : Nat) : Int) := by
 have := h.le
 rw [List.length_tail]; omega
theorem Val06Ok.m {n : Nat} (hv : Val06Ok n) {T : Tbl} {i : Nat} {b r : B} (hi : T[i]? = some (rs b r 0)) (h : Rst b r) : CallA prog G 32 [.ptr i 0, wint (8 - (n : Int))] T fun v T' es => ∃ u q e, v = .ag (vcs u) /\ Rst b q /\ T' = T.set i (rs b q e) /\ es = [(i, false)] /\ ((e = 0 /\ val n r = .ok (u, q)) ∨ (e ≠ 0 /\ val n r = .error e)) := by
 refine (hv T i b r hi h).mono ?_
 rintro v T' es ⟨hres, rfl⟩
 cases hval : val n r with
 | error e =>
   rw [hval] at hres
   obtain ⟨he, u, q, h1, h2, h3⟩ := hres
   exact ⟨u, q, e, h1, h2, h3, rfl, .inr ⟨he, rfl⟩⟩
 | ok ur =>
   obtain ⟨u, q⟩ := ur
   rw [hval] at hres
   obtain ⟨h1, h2, h3⟩ := hres
   exact ⟨u, q, 0, h1, h2, h3, rfl, .inl ⟨rfl, rfl⟩⟩
theorem many06_list {n : Nat} (hn : n <= 7) (hv : Val06Ok n) {T : Tbl} {i : Nat} {b t : B} (hi : T[i]? = some (rs b (91 :: t) 0)) (h : Rst b (91 :: t)) : CallA prog G 57 [.ptr i 0, wint (7 - (n : Int))] T fun v T' es => (match lst (val n) t with
 | .ok (u, r') => v = .ag (vcs u) /\ Rst b r' /\ T' = T.set i (rs b r' 0)
 | .error e => e ≠ 0 /\ ∃ u q, v = .ag (vcs u) /\ Rst b q /\ T' = T.set i (rs b q e)) /\ es = [(i, false)] := by
 refine CallA.wfs fun wf => ?_
 have wt := wf.t
 have hil := (List.getElem?_eq_some_iff.1 hi).1
 have hts := ts_rules hil wt b
 have hbl := h.len
 have hN : ∀ U : Tbl, (T ++ U)[i]? = some (rs b (91 :: t) 0) := fun U => by rw [List.getElem?_append_left hil]; exact hi
 have hN' : ∀ U : Tbl, (T ++ U)[i]? = some (.cells 57 [.p (.string (ba b)), .p (.int .i64 ((b.length - (91 :: t).length : Nat) : Int)), .p (.int .i64 0)]) := hN
 have hST : ∀ (o : AObj) (U : Tbl), (T ++ U).set i o = T.set i o ++ U := fun o U => List.set_append_left _ _ hil
 have hat := rs_tail h (by simp)
 have ht1 : Rst b t := h.tail
 have hrE : ∀ E : Eff, (∀ y ∈ E, y ∈ [(i, false)]) -> ∀ y ∈ rec1 T.length i false E, y ∈ [(i, false)] := fun E hE y hy => by
  rw [rec1_in hil] at hy
  rcases List.mem_cons.1 hy with h | h
  . rw [h]; simp
  . exact hE y h
 have hE0 : ∀ y ∈ ([] : Eff), y ∈ [(i, false)] := fun y h => (nomatch h)
 have hE1 : ∀ y ∈ [(i, false)], y ∈ [(i, false)] := fun y h => h
 have hwr : ∀ (r : B) (e : Int), (∀ k, (T.set i (rs b r e)).map (AObj.wo fun x => x == T.length + k) = T.set i (rs b r e)) /\ (∀ k, (T.set i (rs b r e)).map (AObj.wo fun x => decide (T.length + k <= x)) = T.set i (rs b r e)) := fun r e => ⟨fun k => by rw [List.map_set, wt.2.2.1, rs_wo], fun k => by rw [List.map_set, wt.1, rs_wo]⟩
 have hwf : ∀ (r : B) (e : Int) (q : Nat -> Bool), (∀ j, j < T.length -> q j = false) -> (T.set i (rs b r e)).map (AObj.wo q) = T.set i (rs b r e) := fun r e q hq => by rw [List.map_set, (wf.wf q hq).1, rs_wo]
 obtain ⟨wi, hwi⟩ : ∃ wi : Int, 7 - (n : Int) = wi := ⟨_, rfl⟩
 have hw1 : wi + 1 = 8 - (n : Int) := by omega
 rw [hwi]
 refine CallA.eV 8 func57 ntmps57 results57 ?_
 simp -dsimp +decide only [vsk, vr, ty, en, ↓reduceIte, Nat.reduceSub, Nat.reduceAdd, Nat.reduceMul, Nat.reduceLT, Int.reduceAdd, Int.reduceSub, Int.reduceToNat, ci]
 refine (next06_ok (b := b) (r := 91 :: t) (e := 0) (hN _) h).det' ?_
 rw [show by8 (List.headD (91 :: t) 0) = .p (.int .u8 91) from rfl]
 simp -dsimp +decide (disch := omega) only [vsk, vr, ty, en, ↓reduceIte, Nat.reduceSub, Nat.reduceAdd, Nat.reduceMul, Nat.reduceLT, Int.reduceAdd, Int.reduceSub, Int.reduceToNat, ci, vi, getO_i, vt, hN', hST, hat, wr5, tk5]
 refine (blanks06_ok (b := b) (r := t) (e := 0) (hts.2.2.1 _ _) ht1).det' ?_
 rw [hts.2.2.2.1]
 have htk := ht1.bk
 have hblen := blk_len t
 have htle := h.le
 simp only [List.length_cons] at htle
 obtain ⟨m, hm⟩ : ∃ m, Go.J.blk t = m := ⟨_, rfl⟩
 have hX : lst (val n) t = if m.head? = some 93 then .ok (vList [], m.tail) else lstL (val n) (m.length + 1) m [] := by rw [<- hm]; rfl
 rw [hX]
 rw [hm] at htk hblen ⊢
 have h93 : (((m.headD 0).toNat : Int) = 93) = (m.head? = some 93) := headD_eq (x := 93) (by decide)
 simp -dsimp +decide (disch := omega) only [vsk, vr, ty, en, ↓reduceIte, Nat.reduceSub, Nat.reduceAdd, Nat.reduceMul, Nat.reduceLT, Int.reduceAdd, Int.reduceSub, Int.reduceToNat, ci, vi, getO_i, vt]
 refine (next06_ok (b := b) (r := m) (e := 0) (hts.2.2.1 _ _) htk).det' ?_
 rcases Classical.propComplete (m.head? = some 93) with e93 | e93
 . have hml : 0 < m.length := by cases m with
    | nil => exact absurd (of_eq_true e93) (by simp)
    | cons => simp
   have hat2 := rs_tail htk hml
   rw [if_pos (of_eq_true e93)]
   simp -dsimp +decide (disch := omega) only [vsk, vr, ty, en, ↓reduceIte, Nat.reduceSub, Nat.reduceAdd, Nat.reduceMul, Nat.reduceLT, Int.reduceAdd, Int.reduceSub, Int.reduceToNat, ci, vi, getO_i, vt, hts, h93, e93, rs, hat2, wr5, tk5, List.set_set]
   exact Vw.tsw wt.2.1 (leaf_weak 4 0 []) (by simp [rec1_in hil]) ⟨⟨vcw _ _, htk.tail, rfl⟩, rfl⟩
 rw [if_neg (of_eq_false e93)]
 simp -dsimp +decide (disch := omega) only [vsk, vr, ty, en, ↓reduceIte, Nat.reduceSub, Nat.reduceAdd, Nat.reduceMul, Nat.reduceLT, Int.reduceAdd, Int.reduceSub, Int.reduceToNat, ci, vi, getO_i, vt, hts, h93, e93]
 refine SemA.adoptC (i := T.length + 1) (k := 3) 25 5 (by decide) (Nat.le_add_right _ _) (hts.2.2.2.2.2.1 _ _ 1) rfl ?_
 simp only [hts, List.length_append, List.length_cons, List.length_nil, List.set_cons_succ, List.set_cons_zero, List.append_assoc, List.cons_append, List.nil_append, Nat.zero_add, Nat.reduceAdd]
 obtain ⟨X, hX2⟩ : ∃ X, lstL (val n) (m.length + 1) m [] = X := ⟨_, rfl⟩
 rw [hX2]
 refine SemA.loopS (fun s : B × List JV × Int => [(0, .ptr i 0), (1, .p (.int .i64 wi)), (4, .ptr T.length 0), (5, .ptr (T.length + 1) 0), (6, .p (.int .u8 93))])
  (fun s => T.set i (rs b s.1 s.2.2) ++ [.cells 25 zc, .cells 25 [.p (.int .u8 4), .p (.int .i64 0), .p (.string ByteArray.empty), .sl (T.length + 2) 0 s.2.1.length, .p (.slice none 0 0)], .buf 25 5 (s.2.1.flatMap vcs)])
  (fun s => Rst b s.1 /\ s.2.1.length <= b.length + 1 /\ ((s.2.2 = 0 /\ s.2.1.length + s.1.length <= b.length /\ ∃ k, lstL (val n) k s.1 s.2.1 = X /\ s.1.length < k) ∨ (s.2.2 ≠ 0 /\ X = .error s.2.2))) (fun s => if s.2.2 = 0 then s.1.length + 1 else 0) (m, [], 0) [(i, false)] 0
  (fun s : B × List JV × Int => [(4, .ptr T.length 0), (5, .ptr (T.length + 1) 0)])
  (fun s => T.set i (rs b s.1 s.2.2) ++ [.cells 25 zc, .cells 25 [.p (.int .u8 4), .p (.int .i64 0), .p (.string ByteArray.empty), .sl (T.length + 2) 0 s.2.1.length, .p (.slice none 0 0)], .buf 25 5 (s.2.1.flatMap vcs)])
  (fun s => Rst b s.1 /\ s.2.2 ≠ 0 /\ X = .error s.2.2) ⟨htk, by simp, .inl ⟨rfl, by have := htk.le; simpa using this, m.length + 1, hX2, by simp⟩⟩ ⟨rfl, rfl, rfl, rfl, rfl, rfl⟩ rfl (by simp [rec1_in hil]) ?_ ?_
 . rintro ⟨q, acc, e⟩ g ⟨hq, hal, hs⟩
   dsimp only at hq hal hs
   refine SemA.o ?_
   rcases hs with ⟨rfl, hall, k, hk, hkq⟩ | ⟨he, hXe⟩
   rotate_left
   . have he' : (e = 0) = False := eq_false he
     simp -dsimp +decide (disch := omega) only [vsk, vr, ty, en, ↓reduceIte, Nat.reduceSub, Nat.reduceAdd, Nat.reduceMul, Nat.reduceLT, Int.reduceAdd, Int.reduceSub, Int.reduceToNat, ci, vi, getO_i, vt, hts, rs, he']
     exact ⟨(q, acc, e), ⟨hq, he, hXe⟩, SeeL.done ⟨rfl, ⟨rfl, rfl, rfl⟩, rfl, by simp⟩⟩
   simp -dsimp +decide (disch := omega) only [vsk, vr, ty, en, ↓reduceIte, Nat.reduceSub, Nat.reduceAdd, Nat.reduceMul, Nat.reduceLT, Int.reduceAdd, Int.reduceSub, Int.reduceToNat, ci, vi, getO_i, vt, hts, rs]
   refine SemA.draw (fun i => i == T.length + 1) [(0, true), (1, true), (2, true), (3, true), (4, true), (5, false), (6, false), (7, false), (8, true), (9, false)] mixed (by kernel_rfl) ?_
   have hi1 : (i == T.length + 1) = false := by simp; omega
   have hi2 : (i == T.length + 2) = false := by simp; omega
   have kN1 : (∀ a c : Nat, (T.length + a == T.length + c) = (a == c)) /\ (∀ c : Nat, (T.length == T.length + c) = (0 == c)) := ⟨fun a c => by rw [Bool.eq_iff_iff, beq_iff_eq, beq_iff_eq]; omega, fun c => by rw [Bool.eq_iff_iff, beq_iff_eq, beq_iff_eq]; omega⟩
   have hbb : ((0 : Nat) == 1) = false /\ ((1 : Nat) == 1) = true /\ ((2 : Nat) == 1) = false /\ ((3 : Nat) == 1) = false := by decide
   simp -dsimp +decide (disch := omega) only [vsk, vr, ty, en, ↓reduceIte, Nat.reduceSub, Nat.reduceAdd, Nat.reduceMul, Nat.reduceLT, Int.reduceAdd, Int.reduceSub, Int.reduceToNat, ci, vi, getO_i, vt, hts, keepT_get, keepO, kN1, hbb, hi1, hi2, hw1]
   refine (hv.m (b := b) (r := q) (hts.2.2.1 _ _) hq).mono ?_
   rintro v T' es ⟨u, q', e', rfl, hq', rfl, rfl, hcase⟩
   rw [hts.2.2.2.1]
   have hcu := vcr u
   have hz : ∀ f, List.map (AV.wo f) zc = zc := fun f => by simp only [zc, List.map_cons, List.map_nil, AV.wo]
   have hi3 : decide (T.length + 3 <= i) = false := decide_eq_false (by omega)
   simp -dsimp +decide (disch := omega) only [vsk, vr, ty, en, ↓reduceIte, Nat.reduceSub, Nat.reduceAdd, Nat.reduceMul, Nat.reduceLT, Int.reduceAdd, Int.reduceSub, Int.reduceToNat, ci, vi, getO_i, vt, hts, rs, hcu, vcf, rep1, keepT_get, keepO, kN1, hbb, hi1, hi2, hz]
   have hle2 := hq.le
   have hle3 := hq'.le
   refine ⟨⟨by omega, by omega⟩, ?_⟩
   refine (blanks06_ok (b := b) (r := q') (e := e') (hts.2.2.1 _ _) hq').det' ?_
   rw [hts.2.2.2.1]
   have hqb := hq'.bk
   have hbq := blk_len q'
   obtain ⟨d, hd⟩ : ∃ d, Go.J.blk q' = d := ⟨_, rfl⟩
   rw [hd] at hqb hbq ⊢
   have hp44 : List.isPrefixOf [44] d = true ↔ d.head? = some 44 := by
    cases d with
    | nil => exact ⟨fun h => (nomatch h), fun h => (nomatch h)⟩
    | cons y r =>
      simp only [List.isPrefixOf, Bool.and_true, beq_iff_eq, List.head?_cons, Option.some.injEq]
      exact eq_comm
   obtain ⟨k, rfl⟩ : ∃ k', k = k' + 1 := ⟨k - 1, by omega⟩
   rcases hcase with ⟨rfl, hval⟩ | ⟨he, hval⟩
   . rw [lstL, hval] at hk
     dsimp only at hk
     rw [hd] at hk
     have hgood := val_good n q u q' hval
     simp -dsimp +decide (disch := omega) only [vsk, vr, ty, en, ↓reduceIte, Nat.reduceSub, Nat.reduceAdd, Nat.reduceMul, Nat.reduceLT, Int.reduceAdd, Int.reduceSub, Int.reduceToNat, ci, vi, getO_i, vt, hts, rs]
     refine (next06_ok (b := b) (r := d) (e := 0) (hts.2.2.1 _ _) hqb).det' ?_
     have g93 : (((d.headD 0).toNat : Int) = 93) = (d.head? = some 93) := headD_eq (x := 93) (by decide)
     rcases Classical.propComplete (d.head? = some 93) with d93 | d93
     . have hdl : 0 < d.length := by cases d with
        | nil => exact absurd (of_eq_true d93) (by simp)
        | cons => simp
       have hat3 := rs_tail hqb hdl
       rw [if_pos (of_eq_true d93)] at hk
       simp -dsimp +decide (disch := omega) only [vsk, vr, ty, en, ↓reduceIte, Nat.reduceSub, Nat.reduceAdd, Nat.reduceMul, Nat.reduceLT, Int.reduceAdd, Int.reduceSub, Int.reduceToNat, ci, vi, getO_i, vt, hts, g93, d93, rs, hat3, zc, wr5, tk5, List.set_set]
       refine Vw.weak (ag5_weak (fun _ _ _ h => h) nil_vs) ?_
       refine Vw.eff (E' := [(i, false)]) (by simp [rec1_in hil]) ?_
       subst hk
       refine Vw.pubDrop (T.length + 2) List.length_set (hwf d.tail 0) (by omega) (hts.2.2.2.2.2.1 _ _ 2) rfl (vcsf_clean _) ?_
       refine ⟨⟨?_, hqb.tail, rfl⟩, rfl⟩
       rw [vList, vcs_eq]
       simp only [AV.pub, AV.pubL, AV.wo, AV.woL, if_true, by8, JV.kind, JV.num, JV.text, JV.kids, JV.names, List.length_append, List.length_cons, List.length_nil, List.map_nil]
       rfl
     rw [if_neg (of_eq_false d93)] at hk
     simp -dsimp +decide (disch := omega) only [vsk, vr, ty, en, ↓reduceIte, Nat.reduceSub, Nat.reduceAdd, Nat.reduceMul, Nat.reduceLT, Int.reduceAdd, Int.reduceSub, Int.reduceToNat, ci, vi, getO_i, vt, hts, g93, d93]
     refine (want06_ok (s := [44]) (b := b) (r := d) (e := 0) (hts.2.2.1 _ _) hqb (by decide)).det' ?_
     rw [hts.2.2.2.1]
     by_cases h44 : d.head? = some 44
     . rw [if_pos h44] at hk
       rw [if_pos (hp44.2 h44), show d.drop ([44] : B).length = d.tail from List.drop_one]
       have htl := tail_len h44
       simp -dsimp +decide (disch := omega) only [vsk, vr, ty, en, ↓reduceIte, Nat.reduceSub, Nat.reduceAdd, Nat.reduceMul, Nat.reduceLT, Int.reduceAdd, Int.reduceSub, Int.reduceToNat, ci, vi, getO_i, vt, hts, rs]
       refine ⟨(d.tail, acc ++ [u], 0), ⟨⟨hqb.tail, by dsimp only; rw [List.length_append, List.length_cons, List.length_nil]; omega, .inl ⟨rfl, by dsimp only; rw [List.length_append, List.length_cons, List.length_nil]; omega, k, hk, by dsimp only; omega⟩⟩, by dsimp only; rw [if_pos rfl]; omega⟩, ?_⟩
       refine SeeL.cut (T.length + 3) (by omega) ?_
       simp -dsimp +decide (disch := omega) only [vsk, vr, ty, en, ↓reduceIte, Nat.reduceSub, Nat.reduceAdd, Nat.reduceMul, Nat.reduceLT, Int.reduceAdd, Int.reduceSub, Int.reduceToNat, ci, vi, getO_i, vt, hts, rs, vcf, hz, hi3]
       exact SeeL.done ⟨rfl, ⟨rfl, rfl, rfl, rfl, rfl, rfl⟩, by simp only [List.length_append, List.length_cons, List.length_nil, vcf], by simp [rec1_in hil]⟩
     . rw [if_neg h44] at hk
       rw [if_neg (fun h => h44 (hp44.1 h)), show wrE 0 5 = 5 from rfl]
       simp -dsimp +decide (disch := omega) only [vsk, vr, ty, en, ↓reduceIte, Nat.reduceSub, Nat.reduceAdd, Nat.reduceMul, Nat.reduceLT, Int.reduceAdd, Int.reduceSub, Int.reduceToNat, ci, vi, getO_i, vt, hts, rs]
       refine ⟨(d, acc ++ [u], 5), ⟨⟨hqb, by dsimp only; rw [List.length_append, List.length_cons, List.length_nil]; omega, .inr ⟨(by decide : (5 : Int) ≠ 0), hk.symm⟩⟩, by dsimp only; rw [if_neg (by decide)]; omega⟩, ?_⟩
       refine SeeL.cut (T.length + 3) (by omega) ?_
       simp -dsimp +decide (disch := omega) only [vsk, vr, ty, en, ↓reduceIte, Nat.reduceSub, Nat.reduceAdd, Nat.reduceMul, Nat.reduceLT, Int.reduceAdd, Int.reduceSub, Int.reduceToNat, ci, vi, getO_i, vt, hts, rs, vcf, hz, hi3]
       exact SeeL.done ⟨rfl, ⟨rfl, rfl, rfl, rfl, rfl, rfl⟩, by simp only [List.length_append, List.length_cons, List.length_nil, vcf], by simp [rec1_in hil]⟩
   . rw [lstL, hval] at hk
     have he' : (e' = 0) = False := eq_false he
     simp -dsimp +decide (disch := omega) only [vsk, vr, ty, en, ↓reduceIte, Nat.reduceSub, Nat.reduceAdd, Nat.reduceMul, Nat.reduceLT, Int.reduceAdd, Int.reduceSub, Int.reduceToNat, ci, vi, getO_i, vt, hts, rs, he']
     refine (want06_ok (s := [44]) (b := b) (r := d) (e := e') (hts.2.2.1 _ _) hqb (by decide)).det' ?_
     rw [hts.2.2.2.1, show wrE e' 5 = e' from if_neg he]
     cases hpp : List.isPrefixOf [44] d with
     | true =>
       rw [if_pos rfl, show d.drop ([44] : B).length = d.tail from List.drop_one]
       simp -dsimp +decide (disch := omega) only [vsk, vr, ty, en, ↓reduceIte, Nat.reduceSub, Nat.reduceAdd, Nat.reduceMul, Nat.reduceLT, Int.reduceAdd, Int.reduceSub, Int.reduceToNat, ci, vi, getO_i, vt, hts, rs]
       refine ⟨(d.tail, acc ++ [u], e'), ⟨⟨hqb.tail, by dsimp only; rw [List.length_append, List.length_cons, List.length_nil]; omega, .inr ⟨he, hk.symm⟩⟩, by dsimp only; rw [if_neg he]; omega⟩, ?_⟩
       refine SeeL.cut (T.length + 3) (by omega) ?_
       simp -dsimp +decide (disch := omega) only [vsk, vr, ty, en, ↓reduceIte, Nat.reduceSub, Nat.reduceAdd, Nat.reduceMul, Nat.reduceLT, Int.reduceAdd, Int.reduceSub, Int.reduceToNat, ci, vi, getO_i, vt, hts, rs, vcf, hz, hi3]
       exact SeeL.done ⟨rfl, ⟨rfl, rfl, rfl, rfl, rfl, rfl⟩, by simp only [List.length_append, List.length_cons, List.length_nil, vcf], by simp [rec1_in hil]⟩
     | false =>
       rw [if_neg (by decide)]
       simp -dsimp +decide (disch := omega) only [vsk, vr, ty, en, ↓reduceIte, Nat.reduceSub, Nat.reduceAdd, Nat.reduceMul, Nat.reduceLT, Int.reduceAdd, Int.reduceSub, Int.reduceToNat, ci, vi, getO_i, vt, hts, rs]
       refine ⟨(d, acc ++ [u], e'), ⟨⟨hqb, by dsimp only; rw [List.length_append, List.length_cons, List.length_nil]; omega, .inr ⟨he, hk.symm⟩⟩, by dsimp only; rw [if_neg he]; omega⟩, ?_⟩
       refine SeeL.cut (T.length + 3) (by omega) ?_
       simp -dsimp +decide (disch := omega) only [vsk, vr, ty, en, ↓reduceIte, Nat.reduceSub, Nat.reduceAdd, Nat.reduceMul, Nat.reduceLT, Int.reduceAdd, Int.reduceSub, Int.reduceToNat, ci, vi, getO_i, vt, hts, rs, vcf, hz, hi3]
       exact SeeL.done ⟨rfl, ⟨rfl, rfl, rfl, rfl, rfl, rfl⟩, by simp only [List.length_append, List.length_cons, List.length_nil, vcf], by simp [rec1_in hil]⟩
 . rintro ⟨q, acc, e⟩ g tmp ⟨hq, he, hXe⟩
   dsimp only at hq he hXe
   have hle2 := hq.le
   simp -dsimp +decide (disch := omega) only [vsk, vr, ty, en, ↓reduceIte, Nat.reduceSub, Nat.reduceAdd, Nat.reduceMul, Nat.reduceLT, Int.reduceAdd, Int.reduceSub, Int.reduceToNat, ci, vi, getO_i, vt, hts, zc, wr5, tk5]
   refine Vw.weak (ag5_weak (fun _ _ _ h => h) nil_vs) ?_
   refine Vw.eff (E' := [(i, false)]) (by simp) ?_
   subst hXe
   refine Vw.pubDrop (T.length + 2) List.length_set (hwf q e) (by omega) (hts.2.2.2.2.2.1 _ _ 2) rfl (vcsf_clean _) ?_
   refine ⟨⟨he, vList acc, q, ?_, hq, rfl⟩, rfl⟩
   rw [vList, vcs_eq]
   simp only [AV.pub, AV.pubL, AV.wo, AV.woL, if_true, by8, JV.kind, JV.num, JV.text, JV.kids, JV.names, List.length_nil, List.map_nil]
   rfl
end Go.Proofs.YtglpcedoongagaaGreatDoor
namespace Go.Proofs.YtglpcedoongagaaGreatDoor
open Go.E Go.Proofs.YtglpcedoongagaaGreatDoor.Tryz Go.Proofs.Tryz Go.J Go.Proofs
theorem wr5_0 (a b c d e x : AV) : wrA [a, b, c, d, e] 0 [x] = [x, b, c, d, e] := rfl
theorem want06_any {T : Tbl} {i : Nat} {b r s : B} {e : Int} (he : e ≠ 0) (hi : T[i]? = some (rs b r e)) (h : Rst b r) (hs : s.length <= 1000) : CallA prog G 53 [.ptr i 0, str s] T fun v T' es => v = .tu [] /\ ∃ q, Rst b q /\ T' = T.set i (rs b q e) /\ es = [(i, false)] := by
 refine (want06_ok hi h hs).mono ?_
 rintro v T' es ⟨rfl, rfl, rfl⟩
 refine ⟨rfl, ?_⟩
 split
 . exact ⟨_, h.drop _, rfl, rfl⟩
 . exact ⟨r, h, by rw [show wrE e 5 = e from if_neg he], rfl⟩
theorem pre1 (x : UInt8) (d : B) : List.isPrefixOf [x] d = true ↔ d.head? = some x := by
 cases d with
 | nil => exact ⟨fun h => (nomatch h), fun h => (nomatch h)⟩
 | cons y r =>
   simp only [List.isPrefixOf, Bool.and_true, beq_iff_eq, List.head?_cons, Option.some.injEq]
   exact eq_comm
theorem many06_obj {n : Nat} (hn : n <= 7) (hv : Val06Ok n) {T : Tbl} {i : Nat} {b t : B} (hi : T[i]? = some (rs b (123 :: t) 0)) (h : Rst b (123 :: t)) : CallA prog G 57 [.ptr i 0, wint (7 - (n : Int))] T fun v T' es => (match obj (val n) t with
 | .ok (u, r') => v = .ag (vcs u) /\ Rst b r' /\ T' = T.set i (rs b r' 0)
 | .error e => e ≠ 0 /\ ∃ u q, v = .ag (vcs u) /\ Rst b q /\ T' = T.set i (rs b q e)) /\ es = [(i, false)] := by
 refine CallA.wfs fun wf => ?_
 have wt := wf.t
 have hil := (List.getElem?_eq_some_iff.1 hi).1
 have hts := ts_rules hil wt b
 have hbl := h.len
 have hN : ∀ U : Tbl, (T ++ U)[i]? = some (rs b (123 :: t) 0) := fun U => by rw [List.getElem?_append_left hil]; exact hi
 have hN' : ∀ U : Tbl, (T ++ U)[i]? = some (.cells 57 [.p (.string (ba b)), .p (.int .i64 ((b.length - (123 :: t).length : Nat) : Int)), .p (.int .i64 0)]) := hN
 have hST : ∀ (o : AObj) (U : Tbl), (T ++ U).set i o = T.set i o ++ U := fun o U => List.set_append_left _ _ hil
 have hat := rs_tail h (by simp)
 have ht1 : Rst b t := h.tail
 have hrE : ∀ E : Eff, (∀ y ∈ E, y ∈ [(i, false)]) -> ∀ y ∈ rec1 T.length i false E, y ∈ [(i, false)] := fun E hE y hy => by
  rw [rec1_in hil] at hy
  rcases List.mem_cons.1 hy with h | h
  . rw [h]; simp
  . exact hE y h
 have hE0 : ∀ y ∈ ([] : Eff), y ∈ [(i, false)] := fun y h => (nomatch h)
 have hE1 : ∀ y ∈ [(i, false)], y ∈ [(i, false)] := fun y h => h
 have hwr : ∀ (r : B) (e : Int), (∀ k, (T.set i (rs b r e)).map (AObj.wo fun x => x == T.length + k) = T.set i (rs b r e)) /\ (∀ k, (T.set i (rs b r e)).map (AObj.wo fun x => decide (T.length + k <= x)) = T.set i (rs b r e)) := fun r e => ⟨fun k => by rw [List.map_set, wt.2.2.1, rs_wo], fun k => by rw [List.map_set, wt.1, rs_wo]⟩
 have hwf : ∀ (r : B) (e : Int) (q : Nat -> Bool), (∀ j, j < T.length -> q j = false) -> (T.set i (rs b r e)).map (AObj.wo q) = T.set i (rs b r e) := fun r e q hq => by rw [List.map_set, (wf.wf q hq).1, rs_wo]
 obtain ⟨wi, hwi⟩ : ∃ wi : Int, 7 - (n : Int) = wi := ⟨_, rfl⟩
 have hw1 : wi + 1 = 8 - (n : Int) := by omega
 rw [hwi]
 refine CallA.eV 8 func57 ntmps57 results57 ?_
 simp -dsimp +decide only [vsk, vr, ty, en, ↓reduceIte, Nat.reduceSub, Nat.reduceAdd, Nat.reduceMul, Nat.reduceLT, Int.reduceAdd, Int.reduceSub, Int.reduceToNat, ci]
 refine (next06_ok (b := b) (r := 123 :: t) (e := 0) (hN _) h).det' ?_
 rw [show by8 (List.headD (123 :: t) 0) = .p (.int .u8 123) from rfl]
 simp -dsimp +decide (disch := omega) only [vsk, vr, ty, en, ↓reduceIte, Nat.reduceSub, Nat.reduceAdd, Nat.reduceMul, Nat.reduceLT, Int.reduceAdd, Int.reduceSub, Int.reduceToNat, ci, vi, getO_i, vt, hN', hST, hat, gn0, gn1, wr5, wr5_0, tk5]
 refine (blanks06_ok (b := b) (r := t) (e := 0) (hts.2.2.1 _ _) ht1).det' ?_
 rw [hts.2.2.2.1]
 have htk := ht1.bk
 have hblen := blk_len t
 have htle := h.le
 simp only [List.length_cons] at htle
 obtain ⟨m, hm⟩ : ∃ m, Go.J.blk t = m := ⟨_, rfl⟩
 have hX : obj (val n) t = if m.head? = some 125 then .ok (vObj [] [], m.tail) else objL (val n) (m.length + 1) m [] [] := by rw [<- hm]; rfl
 rw [hX]
 rw [hm] at htk hblen ⊢
 have h125 : (((m.headD 0).toNat : Int) = 125) = (m.head? = some 125) := headD_eq (x := 125) (by decide)
 simp -dsimp +decide (disch := omega) only [vsk, vr, ty, en, ↓reduceIte, Nat.reduceSub, Nat.reduceAdd, Nat.reduceMul, Nat.reduceLT, Int.reduceAdd, Int.reduceSub, Int.reduceToNat, ci, vi, getO_i, vt]
 refine (next06_ok (b := b) (r := m) (e := 0) (hts.2.2.1 _ _) htk).det' ?_
 rcases Classical.propComplete (m.head? = some 125) with e125 | e125
 . have hml : 0 < m.length := by cases m with
    | nil => exact absurd (of_eq_true e125) (by simp)
    | cons => simp
   have hat2 := rs_tail htk hml
   rw [if_pos (of_eq_true e125)]
   simp -dsimp +decide (disch := omega) only [vsk, vr, ty, en, ↓reduceIte, Nat.reduceSub, Nat.reduceAdd, Nat.reduceMul, Nat.reduceLT, Int.reduceAdd, Int.reduceSub, Int.reduceToNat, ci, vi, getO_i, vt, hts, h125, e125, rs, hat2, wr5, tk5, List.set_set]
   exact Vw.tsw wt.2.1 (leaf_weak 5 0 []) (by simp [rec1_in hil]) ⟨⟨vcw _ _, htk.tail, rfl⟩, rfl⟩
 rw [if_neg (of_eq_false e125)]
 simp -dsimp +decide (disch := omega) only [vsk, vr, ty, en, ↓reduceIte, Nat.reduceSub, Nat.reduceAdd, Nat.reduceMul, Nat.reduceLT, Int.reduceAdd, Int.reduceSub, Int.reduceToNat, ci, vi, getO_i, vt, hts, h125, e125]
 refine SemA.adoptC (i := T.length + 1) (k := 3) 25 5 (by decide) (Nat.le_add_right _ _) (hts.2.2.2.2.2.1 _ _ 1) rfl ?_
 simp only [hts, List.length_append, List.length_cons, List.length_nil, List.set_cons_succ, List.set_cons_zero, List.append_assoc, List.cons_append, List.nil_append, Nat.zero_add, Nat.reduceAdd]
 refine SemA.adoptC (i := T.length + 1) (k := 4) 9 1 (by decide) (Nat.le_add_right _ _) (hts.2.2.2.2.2.1 _ _ 1) rfl ?_
 simp only [hts, List.length_append, List.length_cons, List.length_nil, List.set_cons_succ, List.set_cons_zero, List.append_assoc, List.cons_append, List.nil_append, Nat.zero_add, Nat.reduceAdd]
 obtain ⟨X, hX2⟩ : ∃ X, objL (val n) (m.length + 1) m [] [] = X := ⟨_, rfl⟩
 rw [hX2]
 refine SemA.loopS (fun s : B × List B × List JV × Int => [(0, .ptr i 0), (1, .p (.int .i64 wi)), (4, .ptr T.length 0), (5, .ptr (T.length + 1) 0), (6, .p (.int .u8 125))])
  (fun s => T.set i (rs b s.1 s.2.2.2) ++ [.cells 25 zc, .cells 25 [.p (.int .u8 5), .p (.int .i64 0), .p (.string ByteArray.empty), .sl (T.length + 2) 0 s.2.2.1.length, .sl (T.length + 3) 0 s.2.1.length], .buf 25 5 (s.2.2.1.flatMap vcs), .buf 9 1 (s.2.1.map str)])
  (fun s => Rst b s.1 /\ s.2.1.length <= b.length + 1 /\ s.2.2.1.length <= b.length + 1 /\ ((s.2.2.2 = 0 /\ s.2.1.length = s.2.2.1.length /\ s.2.2.1.length + s.1.length <= b.length /\ ∃ k, objL (val n) k s.1 s.2.1 s.2.2.1 = X /\ s.1.length < k) ∨ (s.2.2.2 ≠ 0 /\ X = .error s.2.2.2))) (fun s => if s.2.2.2 = 0 then s.1.length + 1 else 0) (m, [], [], 0) [(i, false)] 0
  (fun s : B × List B × List JV × Int => [(4, .ptr T.length 0), (5, .ptr (T.length + 1) 0)])
  (fun s => T.set i (rs b s.1 s.2.2.2) ++ [.cells 25 zc, .cells 25 [.p (.int .u8 5), .p (.int .i64 0), .p (.string ByteArray.empty), .sl (T.length + 2) 0 s.2.2.1.length, .sl (T.length + 3) 0 s.2.1.length], .buf 25 5 (s.2.2.1.flatMap vcs), .buf 9 1 (s.2.1.map str)])
  (fun s => Rst b s.1 /\ s.2.2.2 ≠ 0 /\ X = .error s.2.2.2) ⟨htk, by simp, by simp, .inl ⟨rfl, rfl, by have := htk.le; simpa using this, m.length + 1, hX2, by simp⟩⟩ ⟨rfl, rfl, rfl, rfl, rfl, rfl⟩ rfl (by simp [rec1_in hil]) ?_ ?_
 . rintro ⟨q, ns, acc, e⟩ g ⟨hq, hnl, hal, hs⟩
   dsimp only at hq hnl hal hs
   refine SemA.o ?_
   rcases hs with ⟨rfl, hna, hall, k, hk, hkq⟩ | ⟨he, hXe⟩
   rotate_left
   . have he' : (e = 0) = False := eq_false he
     simp -dsimp +decide (disch := omega) only [vsk, vr, ty, en, ↓reduceIte, Nat.reduceSub, Nat.reduceAdd, Nat.reduceMul, Nat.reduceLT, Int.reduceAdd, Int.reduceSub, Int.reduceToNat, ci, vi, getO_i, vt, hts, rs, he']
     exact ⟨(q, ns, acc, e), ⟨hq, he, hXe⟩, SeeL.done ⟨rfl, ⟨rfl, rfl, rfl⟩, rfl, by simp⟩⟩
   have hi1 : (i == T.length + 1) = false := by simp; omega
   have hi2 : (i == T.length + 2) = false := by simp; omega
   have hi3 : (i == T.length + 3) = false := by simp; omega
   have hi4 : decide (T.length + 4 <= i) = false := decide_eq_false (by omega)
   have kN1 : (∀ a c : Nat, (T.length + a == T.length + c) = (a == c)) /\ (∀ c : Nat, (T.length == T.length + c) = (0 == c)) := ⟨fun a c => by rw [Bool.eq_iff_iff, beq_iff_eq, beq_iff_eq]; omega, fun c => by rw [Bool.eq_iff_iff, beq_iff_eq, beq_iff_eq]; omega⟩
   have hbb : ((0 : Nat) == 1) = false /\ ((1 : Nat) == 1) = true /\ ((2 : Nat) == 1) = false /\ ((3 : Nat) == 1) = false /\ ((4 : Nat) == 1) = false /\ ((5 : Nat) == 1) = false := by decide
   have hz : ∀ f, List.map (AV.wo f) zc = zc := fun f => by simp only [zc, List.map_cons, List.map_nil, AV.wo]
   have hstr : ∀ l, str l = .p (.string (ba l)) := fun _ => rfl
   have hcu : True := trivial
   obtain ⟨k, rfl⟩ : ∃ k', k = k' + 1 := ⟨k - 1, by omega⟩
   have hle2 := hq.le
   rw [objL, nam] at hk
   simp -dsimp +decide (disch := omega) only [vsk, vr, ty, en, ↓reduceIte, Nat.reduceSub, Nat.reduceAdd, Nat.reduceMul, Nat.reduceLT, Int.reduceAdd, Int.reduceSub, Int.reduceToNat, ci, vi, getO_i, vt, hts, rs]
   refine (blanks06_ok (b := b) (r := q) (e := 0) (hts.2.2.1 _ _) hq).det' ?_
   rw [hts.2.2.2.1]
   have hqb := hq.bk
   have hbq := blk_len q
   obtain ⟨d, hd⟩ : ∃ d, Go.J.blk q = d := ⟨_, rfl⟩
   rw [hd] at hqb hbq hk ⊢
   have hto : txtO d = if d.head? = some 34 then txtF d.tail [] else none := rfl
   simp -dsimp +decide (disch := omega) only [vsk, vr, ty, en, ↓reduceIte, Nat.reduceSub, Nat.reduceAdd, Nat.reduceMul, Nat.reduceLT, Int.reduceAdd, Int.reduceSub, Int.reduceToNat, ci, vi, getO_i, vt]
   refine (text06_ok (b := b) (r := d) (hts.2.2.1 _ _) hqb).mono ?_
   cases hx : txtO d with
   | none =>
     have hk : Except.error 5 = X := by
      rw [<- hk]
      rw [hx] at hto
      split at hto
      . rename_i h34
        rw [if_pos h34, <- hto]
      . rename_i h34
        rw [if_neg h34]
     rintro v T' es ⟨⟨rfl, q1, hq1, rfl⟩, rfl⟩
     rw [hts.2.2.2.1]
     simp -dsimp +decide (disch := omega) only [vsk, vr, ty, en, ↓reduceIte, Nat.reduceSub, Nat.reduceAdd, Nat.reduceMul, Nat.reduceLT, Int.reduceAdd, Int.reduceSub, Int.reduceToNat, ci, vi, getO_i, vt, hts, rs, hcu, vcf, strf, hstr, rep1, keepT_get, keepO, kN1, hbb, hi1, hi2, hi3, hz]
     refine ⟨⟨by omega, by omega⟩, ?_⟩
     refine (blanks06_ok (b := b) (r := q1) (e := 5) (hts.2.2.1 _ _) hq1).det' ?_
     rw [hts.2.2.2.1]
     simp -dsimp +decide (disch := omega) only [vsk, vr, ty, en, ↓reduceIte, Nat.reduceSub, Nat.reduceAdd, Nat.reduceMul, Nat.reduceLT, Int.reduceAdd, Int.reduceSub, Int.reduceToNat, ci, vi, getO_i, vt, hts, rs, hcu, vcf, strf, hstr, rep1, keepT_get, keepO, kN1, hbb, hi1, hi2, hi3, hz]
     refine (want06_any (s := [58]) (b := b) (r := Go.J.blk q1) (e := 5) (by decide) (hts.2.2.1 _ _) hq1.bk (by decide)).mono ?_
     rintro v T' es ⟨rfl, q2, hq2, rfl, rfl⟩
     rw [hts.2.2.2.1]
     simp -dsimp +decide (disch := omega) only [vsk, vr, ty, en, ↓reduceIte, Nat.reduceSub, Nat.reduceAdd, Nat.reduceMul, Nat.reduceLT, Int.reduceAdd, Int.reduceSub, Int.reduceToNat, ci, vi, getO_i, vt, hts, rs, hcu, vcf, strf, hstr, rep1, keepT_get, keepO, kN1, hbb, hi1, hi2, hi3, hz]
     refine (blanks06_ok (b := b) (r := q2) (e := 5) (hts.2.2.1 _ _) hq2).det' ?_
     rw [hts.2.2.2.1]
     simp -dsimp +decide (disch := omega) only [vsk, vr, ty, en, ↓reduceIte, Nat.reduceSub, Nat.reduceAdd, Nat.reduceMul, Nat.reduceLT, Int.reduceAdd, Int.reduceSub, Int.reduceToNat, ci, vi, getO_i, vt, hts, rs, hcu, vcf, strf, hstr, rep1, keepT_get, keepO, kN1, hbb, hi1, hi2, hi3, hz]
     refine (want06_any (s := [44]) (b := b) (r := Go.J.blk q2) (e := 5) (by decide) (hts.2.2.1 _ _) (Rst.bk hq2) (by decide)).mono ?_
     rintro v T' es ⟨rfl, q9, hq9, rfl, rfl⟩
     rw [hts.2.2.2.1]
     simp -dsimp +decide (disch := omega) only [vsk, vr, ty, en, ↓reduceIte, Nat.reduceSub, Nat.reduceAdd, Nat.reduceMul, Nat.reduceLT, Int.reduceAdd, Int.reduceSub, Int.reduceToNat, ci, vi, getO_i, vt, hts, rs, hcu, vcf, strf, hstr, rep1, keepT_get, keepO, kN1, hbb, hi1, hi2, hi3, hz]
     refine ⟨(q9, ns ++ [[]], acc, 5), ⟨⟨hq9, by dsimp only; simp only [List.length_append, List.length_cons, List.length_nil]; omega, by dsimp only; omega, .inr ⟨(by decide : (5 : Int) ≠ 0), hk.symm⟩⟩, by dsimp only; rw [if_neg (by decide)]; omega⟩, ?_⟩
     refine SeeL.cut (T.length + 4) (by omega) ?_
     simp -dsimp +decide (disch := omega) only [vsk, vr, ty, en, ↓reduceIte, Nat.reduceSub, Nat.reduceAdd, Nat.reduceMul, Nat.reduceLT, Int.reduceAdd, Int.reduceSub, Int.reduceToNat, ci, vi, getO_i, vt, hts, rs, vcf, strf, hz, hi4]
     exact SeeL.done ⟨rfl, ⟨rfl, rfl, rfl, rfl, rfl, rfl⟩, by simp only [List.length_append, List.length_cons, List.length_nil, vcf, strf], by simp [rec1_in hil]⟩
   | some sr =>
     obtain ⟨s, r⟩ := sr
     have h34 : d.head? = some 34 := by
      rw [hx] at hto
      split at hto
      . assumption
      . cases hto
     rw [if_pos h34] at hto hk
     rw [hx] at hto
     rw [<- hto] at hk
     dsimp only at hk
     rintro v T' es ⟨⟨rfl, hr, rfl⟩, rfl⟩
     rw [hts.2.2.2.1]
     simp -dsimp +decide (disch := omega) only [vsk, vr, ty, en, ↓reduceIte, Nat.reduceSub, Nat.reduceAdd, Nat.reduceMul, Nat.reduceLT, Int.reduceAdd, Int.reduceSub, Int.reduceToNat, ci, vi, getO_i, vt, hts, rs, hcu, vcf, strf, hstr, rep1, keepT_get, keepO, kN1, hbb, hi1, hi2, hi3, hz]
     have hrl := txtQ_len (show txtQ d = some (s, r) from hx)
     refine (has06_ok (ns := ns) (s := s) (by omega) (Sl.obj (hts.2.2.2.2.2.1 _ _ 3) rfl (by rw [List.length_map, Nat.mul_one]))).mono ?_
     rintro v T' es ⟨⟨bb, rfl, hbs⟩, rfl, rfl⟩
     cases bb with
     | true =>
       rw [if_pos (hbs.1 rfl)] at hk
       dsimp only at hk
       simp -dsimp +decide (disch := omega) only [vsk, vr, ty, en, ↓reduceIte, Nat.reduceSub, Nat.reduceAdd, Nat.reduceMul, Nat.reduceLT, Int.reduceAdd, Int.reduceSub, Int.reduceToNat, ci, vi, getO_i, vt, hts, rs, hcu, vcf, strf, hstr, rep1, keepT_get, keepO, kN1, hbb, hi1, hi2, hi3, hz]
       refine (wrong06_ok (b := b) (r := r) (e := 0) (x := 5) (hts.2.2.1 _ _)).det' ?_
       rw [hts.2.2.2.1, show wrE 0 5 = 5 from rfl]
       simp -dsimp +decide (disch := omega) only [vsk, vr, ty, en, ↓reduceIte, Nat.reduceSub, Nat.reduceAdd, Nat.reduceMul, Nat.reduceLT, Int.reduceAdd, Int.reduceSub, Int.reduceToNat, ci, vi, getO_i, vt, hts, rs, hcu, vcf, strf, hstr, rep1, keepT_get, keepO, kN1, hbb, hi1, hi2, hi3, hz]
       refine ⟨⟨by omega, by omega⟩, ?_⟩
       refine (blanks06_ok (b := b) (r := r) (e := 5) (hts.2.2.1 _ _) hr).det' ?_
       rw [hts.2.2.2.1]
       simp -dsimp +decide (disch := omega) only [vsk, vr, ty, en, ↓reduceIte, Nat.reduceSub, Nat.reduceAdd, Nat.reduceMul, Nat.reduceLT, Int.reduceAdd, Int.reduceSub, Int.reduceToNat, ci, vi, getO_i, vt, hts, rs, hcu, vcf, strf, hstr, rep1, keepT_get, keepO, kN1, hbb, hi1, hi2, hi3, hz]
       refine (want06_any (s := [58]) (b := b) (r := Go.J.blk r) (e := 5) (by decide) (hts.2.2.1 _ _) hr.bk (by decide)).mono ?_
       rintro v T' es ⟨rfl, q2, hq2, rfl, rfl⟩
       rw [hts.2.2.2.1]
       simp -dsimp +decide (disch := omega) only [vsk, vr, ty, en, ↓reduceIte, Nat.reduceSub, Nat.reduceAdd, Nat.reduceMul, Nat.reduceLT, Int.reduceAdd, Int.reduceSub, Int.reduceToNat, ci, vi, getO_i, vt, hts, rs, hcu, vcf, strf, hstr, rep1, keepT_get, keepO, kN1, hbb, hi1, hi2, hi3, hz]
       refine (blanks06_ok (b := b) (r := q2) (e := 5) (hts.2.2.1 _ _) hq2).det' ?_
       rw [hts.2.2.2.1]
       simp -dsimp +decide (disch := omega) only [vsk, vr, ty, en, ↓reduceIte, Nat.reduceSub, Nat.reduceAdd, Nat.reduceMul, Nat.reduceLT, Int.reduceAdd, Int.reduceSub, Int.reduceToNat, ci, vi, getO_i, vt, hts, rs, hcu, vcf, strf, hstr, rep1, keepT_get, keepO, kN1, hbb, hi1, hi2, hi3, hz]
       refine (want06_any (s := [44]) (b := b) (r := Go.J.blk q2) (e := 5) (by decide) (hts.2.2.1 _ _) (Rst.bk hq2) (by decide)).mono ?_
       rintro v T' es ⟨rfl, q9, hq9, rfl, rfl⟩
       rw [hts.2.2.2.1]
       simp -dsimp +decide (disch := omega) only [vsk, vr, ty, en, ↓reduceIte, Nat.reduceSub, Nat.reduceAdd, Nat.reduceMul, Nat.reduceLT, Int.reduceAdd, Int.reduceSub, Int.reduceToNat, ci, vi, getO_i, vt, hts, rs, hcu, vcf, strf, hstr, rep1, keepT_get, keepO, kN1, hbb, hi1, hi2, hi3, hz]
       refine ⟨(q9, ns ++ [s], acc, 5), ⟨⟨hq9, by dsimp only; simp only [List.length_append, List.length_cons, List.length_nil]; omega, by dsimp only; omega, .inr ⟨(by decide : (5 : Int) ≠ 0), hk.symm⟩⟩, by dsimp only; rw [if_neg (by decide)]; omega⟩, ?_⟩
       refine SeeL.cut (T.length + 4) (by omega) ?_
       simp -dsimp +decide (disch := omega) only [vsk, vr, ty, en, ↓reduceIte, Nat.reduceSub, Nat.reduceAdd, Nat.reduceMul, Nat.reduceLT, Int.reduceAdd, Int.reduceSub, Int.reduceToNat, ci, vi, getO_i, vt, hts, rs, vcf, strf, hz, hi4]
       exact SeeL.done ⟨rfl, ⟨rfl, rfl, rfl, rfl, rfl, rfl⟩, by simp only [List.length_append, List.length_cons, List.length_nil, vcf, strf], by simp [rec1_in hil]⟩
     | false =>
       rw [if_neg (fun h => by have := hbs.2 h; cases this)] at hk
       simp -dsimp +decide (disch := omega) only [vsk, vr, ty, en, ↓reduceIte, Nat.reduceSub, Nat.reduceAdd, Nat.reduceMul, Nat.reduceLT, Int.reduceAdd, Int.reduceSub, Int.reduceToNat, ci, vi, getO_i, vt, hts, rs, hcu, vcf, strf, hstr, rep1, keepT_get, keepO, kN1, hbb, hi1, hi2, hi3, hz]
       refine ⟨⟨by omega, by omega⟩, ?_⟩
       refine (blanks06_ok (b := b) (r := r) (e := 0) (hts.2.2.1 _ _) hr).det' ?_
       rw [hts.2.2.2.1]
       simp -dsimp +decide (disch := omega) only [vsk, vr, ty, en, ↓reduceIte, Nat.reduceSub, Nat.reduceAdd, Nat.reduceMul, Nat.reduceLT, Int.reduceAdd, Int.reduceSub, Int.reduceToNat, ci, vi, getO_i, vt, hts, rs, hcu, vcf, strf, hstr, rep1, keepT_get, keepO, kN1, hbb, hi1, hi2, hi3, hz]
       have hrb := hr.bk
       have hbr := blk_len r
       refine (want06_ok (s := [58]) (b := b) (r := Go.J.blk r) (e := 0) (hts.2.2.1 _ _) hrb (by decide)).det' ?_
       rw [hts.2.2.2.1]
       have hp58 := pre1 58 (Go.J.blk r)
       by_cases h58 : (Go.J.blk r).head? = some 58
       rotate_left
       . rw [if_neg h58] at hk
         dsimp only at hk
         rw [if_neg (fun h => h58 (hp58.1 h)), show wrE 0 5 = 5 from rfl]
         simp -dsimp +decide (disch := omega) only [vsk, vr, ty, en, ↓reduceIte, Nat.reduceSub, Nat.reduceAdd, Nat.reduceMul, Nat.reduceLT, Int.reduceAdd, Int.reduceSub, Int.reduceToNat, ci, vi, getO_i, vt, hts, rs, hcu, vcf, strf, hstr, rep1, keepT_get, keepO, kN1, hbb, hi1, hi2, hi3, hz]
         refine (blanks06_ok (b := b) (r := (Go.J.blk r)) (e := 5) (hts.2.2.1 _ _) hrb).det' ?_
         rw [hts.2.2.2.1]
         simp -dsimp +decide (disch := omega) only [vsk, vr, ty, en, ↓reduceIte, Nat.reduceSub, Nat.reduceAdd, Nat.reduceMul, Nat.reduceLT, Int.reduceAdd, Int.reduceSub, Int.reduceToNat, ci, vi, getO_i, vt, hts, rs, hcu, vcf, strf, hstr, rep1, keepT_get, keepO, kN1, hbb, hi1, hi2, hi3, hz]
         refine (want06_any (s := [44]) (b := b) (r := Go.J.blk (Go.J.blk r)) (e := 5) (by decide) (hts.2.2.1 _ _) (Rst.bk hrb) (by decide)).mono ?_
         rintro v T' es ⟨rfl, q9, hq9, rfl, rfl⟩
         rw [hts.2.2.2.1]
         simp -dsimp +decide (disch := omega) only [vsk, vr, ty, en, ↓reduceIte, Nat.reduceSub, Nat.reduceAdd, Nat.reduceMul, Nat.reduceLT, Int.reduceAdd, Int.reduceSub, Int.reduceToNat, ci, vi, getO_i, vt, hts, rs, hcu, vcf, strf, hstr, rep1, keepT_get, keepO, kN1, hbb, hi1, hi2, hi3, hz]
         refine ⟨(q9, ns ++ [s], acc, 5), ⟨⟨hq9, by dsimp only; simp only [List.length_append, List.length_cons, List.length_nil]; omega, by dsimp only; omega, .inr ⟨(by decide : (5 : Int) ≠ 0), hk.symm⟩⟩, by dsimp only; rw [if_neg (by decide)]; omega⟩, ?_⟩
         refine SeeL.cut (T.length + 4) (by omega) ?_
         simp -dsimp +decide (disch := omega) only [vsk, vr, ty, en, ↓reduceIte, Nat.reduceSub, Nat.reduceAdd, Nat.reduceMul, Nat.reduceLT, Int.reduceAdd, Int.reduceSub, Int.reduceToNat, ci, vi, getO_i, vt, hts, rs, vcf, strf, hz, hi4]
         exact SeeL.done ⟨rfl, ⟨rfl, rfl, rfl, rfl, rfl, rfl⟩, by simp only [List.length_append, List.length_cons, List.length_nil, vcf, strf], by simp [rec1_in hil]⟩
       rw [if_pos h58] at hk
       dsimp only at hk
       rw [if_pos (hp58.2 h58), show (Go.J.blk r).drop ([58] : B).length = (Go.J.blk r).tail from List.drop_one]
       have htl := tail_len h58
       simp -dsimp +decide (disch := omega) only [vsk, vr, ty, en, ↓reduceIte, Nat.reduceSub, Nat.reduceAdd, Nat.reduceMul, Nat.reduceLT, Int.reduceAdd, Int.reduceSub, Int.reduceToNat, ci, vi, getO_i, vt, hts, rs, hcu, vcf, strf, hstr, rep1, keepT_get, keepO, kN1, hbb, hi1, hi2, hi3, hz]
       refine SemA.draw (fun i => i == T.length + 1) [(0, true), (1, true), (2, true), (3, true), (4, true), (5, false), (6, false), (7, false), (8, true), (9, false)] mixed (by kernel_rfl) ?_
       simp -dsimp +decide (disch := omega) only [vsk, vr, ty, en, ↓reduceIte, Nat.reduceSub, Nat.reduceAdd, Nat.reduceMul, Nat.reduceLT, Int.reduceAdd, Int.reduceSub, Int.reduceToNat, ci, vi, getO_i, vt, hts, strf, vcf, keepT_get, keepO, kN1, hbb, hi1, hi2, hi3, hz, hw1]
       refine (hv.m (b := b) (r := (Go.J.blk r).tail) (hts.2.2.1 _ _) hrb.tail).mono ?_
       rintro v T' es ⟨u, q', e', rfl, hq', rfl, rfl, hcase⟩
       rw [hts.2.2.2.1]
       have hcu := vcr u
       simp -dsimp +decide (disch := omega) only [vsk, vr, ty, en, ↓reduceIte, Nat.reduceSub, Nat.reduceAdd, Nat.reduceMul, Nat.reduceLT, Int.reduceAdd, Int.reduceSub, Int.reduceToNat, ci, vi, getO_i, vt, hts, rs, hcu, vcf, strf, hstr, rep1, keepT_get, keepO, kN1, hbb, hi1, hi2, hi3, hz]
       have hle4 := hq'.le
       refine ⟨⟨by omega, by omega⟩, ?_⟩
       refine (blanks06_ok (b := b) (r := q') (e := e') (hts.2.2.1 _ _) hq').det' ?_
       rw [hts.2.2.2.1]
       have hq2b := hq'.bk
       have hbq2 := blk_len q'
       obtain ⟨f, hfb⟩ : ∃ f, Go.J.blk q' = f := ⟨_, rfl⟩
       rw [hfb] at hq2b hbq2 ⊢
       have hp44 := pre1 44 f
       rcases hcase with ⟨rfl, hval⟩ | ⟨he, hval⟩
       . rw [hval] at hk
         dsimp only at hk
         rw [hfb] at hk
         have hgood := val_good n (Go.J.blk r).tail u q' hval
         simp -dsimp +decide (disch := omega) only [vsk, vr, ty, en, ↓reduceIte, Nat.reduceSub, Nat.reduceAdd, Nat.reduceMul, Nat.reduceLT, Int.reduceAdd, Int.reduceSub, Int.reduceToNat, ci, vi, getO_i, vt, hts, rs]
         refine (next06_ok (b := b) (r := f) (e := 0) (hts.2.2.1 _ _) hq2b).det' ?_
         have g125 : (((f.headD 0).toNat : Int) = 125) = (f.head? = some 125) := headD_eq (x := 125) (by decide)
         rcases Classical.propComplete (f.head? = some 125) with d125 | d125
         . have hdl : 0 < f.length := by cases f with
            | nil => exact absurd (of_eq_true d125) (by simp)
            | cons => simp
           have hat3 := rs_tail hq2b hdl
           rw [if_pos (of_eq_true d125)] at hk
           simp -dsimp +decide (disch := omega) only [vsk, vr, ty, en, ↓reduceIte, Nat.reduceSub, Nat.reduceAdd, Nat.reduceMul, Nat.reduceLT, Int.reduceAdd, Int.reduceSub, Int.reduceToNat, ci, vi, getO_i, vt, hts, g125, d125, rs, hat3, zc, wr5, tk5, List.set_set]
           refine Vw.eff (E' := [(i, false)]) (by simp [rec1_in hil]) ?_
           subst hk
           refine Vw.pubU (T.length + 2) List.length_set (hwf f.tail 0) (by omega) (hts.2.2.2.2.2.1 _ _ 2) rfl (vcsf_clean _) ?_
           rw [List.length_set, Nat.add_sub_cancel_left]
           simp only [List.map_cons, List.map_nil, List.set_cons_succ, List.set_cons_zero]
           refine Vw.pubDrop (cs := (ns ++ [s]).map str) (T.length + 3) List.length_set (hwf f.tail 0) (by omega) (hts.2.2.2.2.2.1 _ _ 3) (by simp only [AObj.pub, AObj.cs, str_pub]) (str_clean _) ?_
           refine ⟨⟨?_, hq2b.tail, rfl⟩, rfl⟩
           have h32 : ¬ (T.length + 3 = T.length + 2) := by omega
           rw [vObj, vcs_eq]
           simp only [AV.pub, AV.pubL, AV.wo, AV.woL, if_true, h32, if_false, by8, JV.kind, JV.num, JV.text, JV.kids, JV.names, List.length_append, List.length_cons, List.length_nil]
           rfl
         rw [if_neg (of_eq_false d125)] at hk
         simp -dsimp +decide (disch := omega) only [vsk, vr, ty, en, ↓reduceIte, Nat.reduceSub, Nat.reduceAdd, Nat.reduceMul, Nat.reduceLT, Int.reduceAdd, Int.reduceSub, Int.reduceToNat, ci, vi, getO_i, vt, hts, g125, d125]
         refine (want06_ok (s := [44]) (b := b) (r := f) (e := 0) (hts.2.2.1 _ _) hq2b (by decide)).det' ?_
         rw [hts.2.2.2.1]
         by_cases h44 : f.head? = some 44
         . rw [if_pos h44] at hk
           rw [if_pos (hp44.2 h44), show f.drop ([44] : B).length = f.tail from List.drop_one]
           have htl2 := tail_len h44
           simp -dsimp +decide (disch := omega) only [vsk, vr, ty, en, ↓reduceIte, Nat.reduceSub, Nat.reduceAdd, Nat.reduceMul, Nat.reduceLT, Int.reduceAdd, Int.reduceSub, Int.reduceToNat, ci, vi, getO_i, vt, hts, rs]
           refine ⟨(f.tail, ns ++ [s], acc ++ [u], 0), ⟨⟨hq2b.tail, by dsimp only; simp only [List.length_append, List.length_cons, List.length_nil]; omega, by dsimp only; simp only [List.length_append, List.length_cons, List.length_nil]; omega, .inl ⟨rfl, by dsimp only; simp only [List.length_append, List.length_cons, List.length_nil]; omega, by dsimp only; simp only [List.length_append, List.length_cons, List.length_nil]; omega, k, hk, by dsimp only; omega⟩⟩, by dsimp only; rw [if_pos rfl]; omega⟩, ?_⟩
           refine SeeL.cut (T.length + 4) (by omega) ?_
           simp -dsimp +decide (disch := omega) only [vsk, vr, ty, en, ↓reduceIte, Nat.reduceSub, Nat.reduceAdd, Nat.reduceMul, Nat.reduceLT, Int.reduceAdd, Int.reduceSub, Int.reduceToNat, ci, vi, getO_i, vt, hts, rs, vcf, strf, hz, hi4]
           exact SeeL.done ⟨rfl, ⟨rfl, rfl, rfl, rfl, rfl, rfl⟩, by simp only [List.length_append, List.length_cons, List.length_nil, vcf, strf], by simp [rec1_in hil]⟩
         . rw [if_neg h44] at hk
           rw [if_neg (fun h => h44 (hp44.1 h)), show wrE 0 5 = 5 from rfl]
           simp -dsimp +decide (disch := omega) only [vsk, vr, ty, en, ↓reduceIte, Nat.reduceSub, Nat.reduceAdd, Nat.reduceMul, Nat.reduceLT, Int.reduceAdd, Int.reduceSub, Int.reduceToNat, ci, vi, getO_i, vt, hts, rs]
           refine ⟨(f, ns ++ [s], acc ++ [u], 5), ⟨⟨hq2b, by dsimp only; simp only [List.length_append, List.length_cons, List.length_nil]; omega, by dsimp only; simp only [List.length_append, List.length_cons, List.length_nil]; omega, .inr ⟨(by decide : (5 : Int) ≠ 0), hk.symm⟩⟩, by dsimp only; rw [if_neg (by decide)]; omega⟩, ?_⟩
           refine SeeL.cut (T.length + 4) (by omega) ?_
           simp -dsimp +decide (disch := omega) only [vsk, vr, ty, en, ↓reduceIte, Nat.reduceSub, Nat.reduceAdd, Nat.reduceMul, Nat.reduceLT, Int.reduceAdd, Int.reduceSub, Int.reduceToNat, ci, vi, getO_i, vt, hts, rs, vcf, strf, hz, hi4]
           exact SeeL.done ⟨rfl, ⟨rfl, rfl, rfl, rfl, rfl, rfl⟩, by simp only [List.length_append, List.length_cons, List.length_nil, vcf, strf], by simp [rec1_in hil]⟩
       . rw [hval] at hk
         have he' : (e' = 0) = False := eq_false he
         simp -dsimp +decide (disch := omega) only [vsk, vr, ty, en, ↓reduceIte, Nat.reduceSub, Nat.reduceAdd, Nat.reduceMul, Nat.reduceLT, Int.reduceAdd, Int.reduceSub, Int.reduceToNat, ci, vi, getO_i, vt, hts, rs, he']
         refine (want06_any (s := [44]) (b := b) (r := f) (e := e') he (hts.2.2.1 _ _) hq2b (by decide)).mono ?_
         rintro v T' es ⟨rfl, q9, hq9, rfl, rfl⟩
         rw [hts.2.2.2.1]
         simp -dsimp +decide (disch := omega) only [vsk, vr, ty, en, ↓reduceIte, Nat.reduceSub, Nat.reduceAdd, Nat.reduceMul, Nat.reduceLT, Int.reduceAdd, Int.reduceSub, Int.reduceToNat, ci, vi, getO_i, vt, hts, rs]
         refine ⟨(q9, ns ++ [s], acc ++ [u], e'), ⟨⟨hq9, by dsimp only; simp only [List.length_append, List.length_cons, List.length_nil]; omega, by dsimp only; simp only [List.length_append, List.length_cons, List.length_nil]; omega, .inr ⟨he, hk.symm⟩⟩, by dsimp only; rw [if_neg he]; omega⟩, ?_⟩
         refine SeeL.cut (T.length + 4) (by omega) ?_
         simp -dsimp +decide (disch := omega) only [vsk, vr, ty, en, ↓reduceIte, Nat.reduceSub, Nat.reduceAdd, Nat.reduceMul, Nat.reduceLT, Int.reduceAdd, Int.reduceSub, Int.reduceToNat, ci, vi, getO_i, vt, hts, rs, vcf, strf, hz, hi4]
         exact SeeL.done ⟨rfl, ⟨rfl, rfl, rfl, rfl, rfl, rfl⟩, by simp only [List.length_append, List.length_cons, List.length_nil, vcf, strf], by simp [rec1_in hil]⟩
 . rintro ⟨q, ns, acc, e⟩ g tmp ⟨hq, he, hXe⟩
   dsimp only at hq he hXe
   simp -dsimp +decide (disch := omega) only [vsk, vr, ty, en, ↓reduceIte, Nat.reduceSub, Nat.reduceAdd, Nat.reduceMul, Nat.reduceLT, Int.reduceAdd, Int.reduceSub, Int.reduceToNat, ci, vi, getO_i, vt, hts, zc, wr5, tk5]
   refine Vw.eff (E' := [(i, false)]) (by simp) ?_
   subst hXe
   refine Vw.pubU (T.length + 2) List.length_set (hwf q e) (by omega) (hts.2.2.2.2.2.1 _ _ 2) rfl (vcsf_clean _) ?_
   rw [List.length_set, Nat.add_sub_cancel_left]
   simp only [List.map_cons, List.map_nil, List.set_cons_succ, List.set_cons_zero]
   refine Vw.pubDrop (cs := ns.map str) (T.length + 3) List.length_set (hwf q e) (by omega) (hts.2.2.2.2.2.1 _ _ 3) (by simp only [AObj.pub, AObj.cs, str_pub]) (str_clean _) ?_
   refine ⟨⟨he, vObj ns acc, q, ?_, hq, rfl⟩, rfl⟩
   have h32 : ¬ (T.length + 3 = T.length + 2) := by omega
   rw [vObj, vcs_eq]
   simp only [AV.pub, AV.pubL, AV.wo, AV.woL, if_true, h32, if_false, by8, JV.kind, JV.num, JV.text, JV.kids, JV.names, List.length_append, List.length_cons, List.length_nil]
   rfl
end Go.Proofs.YtglpcedoongagaaGreatDoor
