/-
  'scantlinglaw06.JsonBlanks' returns true whatever comes, and leaves what came as it was; its row's listed variables are tied to the program's text. No condition.
-/
import Derived.Test.YtglpcedoongagaaDoorQl4
import Derived.RecoverIn
import Derived.Test.YtglpcedoongagaaDoorRows
import Derived.LaidMore
import Derived.Lay
import Derived.Stop.LaidErr
import Derived.OpenShut
import Derived.Stop.Joined
import Derived.KernelRfl
import Derived.Test.YtglpcedoongagaaDoorCards
import Derived.Test.YtglpcedoongagaaDoorTie
import Derived.SevenTiedAt
import Derived.ChangeCalls
set_option linter.unusedSimpArgs false
set_option linter.unusedVariables false
set_option linter.unusedSectionVars false
set_option maxRecDepth 8000
set_option maxHeartbeats 4000000
namespace Go.Proofs.YtglpcedoongagaaDoor
open Go.E Go.Proofs.YtglpcedoongagaaDoor.Tryd Go.Proofs.Tryd Go.J Go.Proofs
theorem bsame_ok {T : Tbl} {a b : AV} {l m : List UInt8} (ha : Sl T 1 a (l.map by8) l.length) (hb : Sl T 1 b (m.map by8) m.length) (hl : l.length <= 1099511627776) :
 CallA prog G 11 [a, b] T fun v T' es => v = .p (.bool (decide (l = m))) /\ T' = T /\ es = [] := by
 have hra := Sl.rules ha (by decide)
 have hrb := Sl.rules hb (by decide)
 have hla := Sl.loads ha (P := prog) (t := 5) (by (simp -dsimp +decide only [vt2, vy, vz, vze, vy, vz, vze, vr, ty, en, ↓reduceIte, Nat.reduceSub, Nat.reduceAdd, Nat.reduceMul, Nat.reduceLT, Int.reduceAdd, Int.reduceSub, Int.reduceToNat, ci]))
 have hlb := Sl.loads hb (P := prog) (t := 5) (by (simp -dsimp +decide only [vt2, vy, vz, vze, vy, vz, vze, vr, ty, en, ↓reduceIte, Nat.reduceSub, Nat.reduceAdd, Nat.reduceMul, Nat.reduceLT, Int.reduceAdd, Int.reduceSub, Int.reduceToNat, ci]))
 refine CallA.eV 6 func11 ntmps11 results11 ?_
 simp -dsimp +decide only [vt2, vy, vz, vze, vy, vz, vze, vr, ty, en, ↓reduceIte, Nat.reduceSub, Nat.reduceAdd, Nat.reduceMul, Nat.reduceLT, Int.reduceAdd, Int.reduceSub, Int.reduceToNat, ci]
 simp -dsimp +decide (disch := omega) only [vt2, vy, vz, vze, vy, vz, vze, vr, ty, en, ↓reduceIte, Nat.reduceSub, Nat.reduceAdd, Nat.reduceMul, Nat.reduceLT, Int.reduceAdd, Int.reduceSub, Int.reduceToNat, ci, vi, getO_i, hra, hrb]
 refine CondP.split (fun h => ?_) (fun h => ?_)
 . simp -dsimp +decide (disch := omega) only [vt2, vy, vz, vze, vy, vz, vze, vr, ty, en, ↓reduceIte, Nat.reduceSub, Nat.reduceAdd, Nat.reduceMul, Nat.reduceLT, Int.reduceAdd, Int.reduceSub, Int.reduceToNat, ci, vi, getO_i]
   refine Vw.done ⟨?_, rfl, rfl⟩
   rw [decide_eq_false]
   rintro rfl; simp at h
 . have hlen : l.length = m.length := by simp at h; omega
   simp -dsimp +decide (disch := omega) only [vt2, vy, vz, vze, vy, vz, vze, vr, ty, en, ↓reduceIte, Nat.reduceSub, Nat.reduceAdd, Nat.reduceMul, Nat.reduceLT, Int.reduceAdd, Int.reduceSub, Int.reduceToNat, ci, vi, getO_i]
   refine SemA.loopL (fun i : Nat => [(0, a), (1, b), (5, wint (i : Int))]) (fun _ => T) (fun i => i <= l.length /\ l.take i = m.take i) (fun i => l.length - i) 0 [] (by kernel_rfl) ⟨by omega, by simp⟩ (by (simp -dsimp +decide only [vt2, vy, vz, vze, vy, vz, vze, vr, ty, en, ↓reduceIte, Nat.reduceSub, Nat.reduceAdd, Nat.reduceMul, Nat.reduceLT, Int.reduceAdd, Int.reduceSub, Int.reduceToNat, ci])) rfl (by simp) ?_
   rintro i g ⟨hi, he⟩
   simp -dsimp +decide only [vt2, vy, vz, vze, vy, vz, vze, vr, ty, en, ↓reduceIte, Nat.reduceSub, Nat.reduceAdd, Nat.reduceMul, Nat.reduceLT, Int.reduceAdd, Int.reduceSub, Int.reduceToNat, ci, hra]
   refine CondP.dec (fun h => ?_) (fun h => ?_)
   . obtain ⟨x, hx⟩ : ∃ x, l[i]? = some x := ⟨l[i]'(by omega), by simp⟩
     obtain ⟨y, hy⟩ : ∃ y, m[i]? = some y := ⟨m[i]'(by omega), by simp⟩
     have hgx : (l.map by8)[i]? = some (by8 x) := by rw [List.getElem?_map, hx]; rfl
     have hgy : (m.map by8)[i]? = some (by8 y) := by rw [List.getElem?_map, hy]; rfl
     simp -dsimp +decide only [vt2, vy, vz, vze, vy, vz, vze, vr, ty, en, ↓reduceIte, Nat.reduceSub, Nat.reduceAdd, Nat.reduceMul, Nat.reduceLT, Int.reduceAdd, Int.reduceSub, Int.reduceToNat, ci]
     refine SemA.drawS (.fl 0 (.fl 1 (.fl 2 (.fl 3 (.fl 4 (.fl 5 (.fl 6 (.fl 7 (.fl 8 .nil))))))))) mixed (by kernel_rfl) ?_
     simp -dsimp +decide (disch := omega) only [vt2, vy, vz, vze, vy, vz, vze, vr, ty, en, ↓reduceIte, Nat.reduceSub, Nat.reduceAdd, Nat.reduceMul, Nat.reduceLT, Int.reduceAdd, Int.reduceSub, Int.reduceToNat, ci, vi, getO_i, hra, hrb, hla, hlb, hgx, hgy]
     refine ⟨⟨by omega, by omega⟩, ⟨by omega, by omega⟩, CondP.ndec (fun h => ?_) (fun h => ?_)⟩
     . simp -dsimp +decide (disch := omega) only [vt2, vy, vz, vze, vy, vz, vze, vr, ty, en, ↓reduceIte, Nat.reduceSub, Nat.reduceAdd, Nat.reduceMul, Nat.reduceLT, Int.reduceAdd, Int.reduceSub, Int.reduceToNat, ci, vi, getO_i]
       refine Vw.done ⟨?_, rfl, rfl⟩
       rw [decide_eq_false]
       rintro rfl
       rw [hx] at hy; cases hy; exact h rfl
     . have : x = y := UInt8.toNat_inj.1 (by omega)
       simp -dsimp +decide (disch := omega) only [vt2, vy, vz, vze, vy, vz, vze, vr, ty, en, ↓reduceIte, Nat.reduceSub, Nat.reduceAdd, Nat.reduceMul, Nat.reduceLT, Int.reduceAdd, Int.reduceSub, Int.reduceToNat, ci, vi, getO_i]
       refine ⟨i + 1, ⟨by omega, ?_⟩, by omega, rfl⟩
       rw [List.take_add_one, List.take_add_one, hx, hy, he, this]
   . simp -dsimp +decide (disch := omega) only [vt2, vy, vz, vze, vy, vz, vze, vr, ty, en, ↓reduceIte, Nat.reduceSub, Nat.reduceAdd, Nat.reduceMul, Nat.reduceLT, Int.reduceAdd, Int.reduceSub, Int.reduceToNat, ci, vi, getO_i]
     refine Vw.done ⟨?_, rfl, rfl⟩
     rw [List.take_of_length_le (by omega), List.take_of_length_le (by omega)] at he
     rw [decide_eq_true he]
theorem eqs_ok {T : Tbl} {l m : List B} (hl : l.length <= 1099511627776) :
 CallA prog G 21 [.vs (l.map str) l.length, .vs (m.map str) m.length] T fun v T' es => v = .p (.bool (decide (l = m))) /\ T' = T /\ es = [] := by
 have ha : Sl T 1 (.vs (l.map str) l.length) (l.map str) l.length := Sl.vs _ _ (by simp)
 have hb : Sl T 1 (.vs (m.map str) m.length) (m.map str) m.length := Sl.vs _ _ (by simp)
 have hra := Sl.rules ha (by decide)
 have hrb := Sl.rules hb (by decide)
 have hla := Sl.loads ha (P := prog) (t := 9) (by (simp -dsimp +decide only [vt2, vy, vz, vze, vy, vz, vze, vr, ty, en, ↓reduceIte, Nat.reduceSub, Nat.reduceAdd, Nat.reduceMul, Nat.reduceLT, Int.reduceAdd, Int.reduceSub, Int.reduceToNat, ci]))
 have hlb := Sl.loads hb (P := prog) (t := 9) (by (simp -dsimp +decide only [vt2, vy, vz, vze, vy, vz, vze, vr, ty, en, ↓reduceIte, Nat.reduceSub, Nat.reduceAdd, Nat.reduceMul, Nat.reduceLT, Int.reduceAdd, Int.reduceSub, Int.reduceToNat, ci]))
 refine CallA.eV 14 func21 ntmps21 results21 ?_
 simp -dsimp +decide only [vt2, vy, vz, vze, vy, vz, vze, vr, ty, en, ↓reduceIte, Nat.reduceSub, Nat.reduceAdd, Nat.reduceMul, Nat.reduceLT, Int.reduceAdd, Int.reduceSub, Int.reduceToNat, ci]
 refine CondP.split (fun h => ?_) (fun h => ?_)
 . simp -dsimp +decide (disch := omega) only [vt2, vy, vz, vze, vy, vz, vze, vr, ty, en, ↓reduceIte, Nat.reduceSub, Nat.reduceAdd, Nat.reduceMul, Nat.reduceLT, Int.reduceAdd, Int.reduceSub, Int.reduceToNat, ci, vi, getO_i]
   refine Vw.done ⟨?_, rfl, rfl⟩
   rw [decide_eq_false]
   rintro rfl; simp at h
 . have hlen : l.length = m.length := by simp at h; omega
   simp -dsimp +decide (disch := omega) only [vt2, vy, vz, vze, vy, vz, vze, vr, ty, en, ↓reduceIte, Nat.reduceSub, Nat.reduceAdd, Nat.reduceMul, Nat.reduceLT, Int.reduceAdd, Int.reduceSub, Int.reduceToNat, ci, vi, getO_i]
   refine SemA.loopL (fun i : Nat => [(0, .vs (l.map str) l.length), (1, .vs (m.map str) m.length), (12, wint (l.length : Int)), (13, wint (i : Int))]) (fun _ => T) (fun i => i <= l.length /\ l.take i = m.take i) (fun i => l.length - i) 0 [] (by kernel_rfl) ⟨by omega, by simp⟩ (by (simp -dsimp +decide only [vt2, vy, vz, vze, vy, vz, vze, vr, ty, en, ↓reduceIte, Nat.reduceSub, Nat.reduceAdd, Nat.reduceMul, Nat.reduceLT, Int.reduceAdd, Int.reduceSub, Int.reduceToNat, ci])) rfl (by simp) ?_
   rintro i g ⟨hi, he⟩
   simp -dsimp +decide only [vt2, vy, vz, vze, vy, vz, vze, vr, ty, en, ↓reduceIte, Nat.reduceSub, Nat.reduceAdd, Nat.reduceMul, Nat.reduceLT, Int.reduceAdd, Int.reduceSub, Int.reduceToNat, ci, hra]
   refine CondP.dec (fun h => ?_) (fun h => ?_)
   . obtain ⟨x, hx⟩ : ∃ x, l[i]? = some x := ⟨l[i]'(by omega), by simp⟩
     obtain ⟨y, hy⟩ : ∃ y, m[i]? = some y := ⟨m[i]'(by omega), by simp⟩
     have hgx : (l.map str)[i]? = some (.p (.string (ba x))) := by rw [List.getElem?_map, hx]; rfl
     have hgy : (m.map str)[i]? = some (.p (.string (ba y))) := by rw [List.getElem?_map, hy]; rfl
     simp -dsimp +decide only [vt2, vy, vz, vze, vy, vz, vze, vr, ty, en, ↓reduceIte, Nat.reduceSub, Nat.reduceAdd, Nat.reduceMul, Nat.reduceLT, Int.reduceAdd, Int.reduceSub, Int.reduceToNat, ci]
     refine SemA.drawS (.fl 0 (.fl 1 (.fl 2 (.fl 3 (.fl 4 (.fl 5 (.fl 6 (.fl 7 (.fl 8 .nil))))))))) mixed (by kernel_rfl) ?_
     by_cases hxy : x = y
     . have hxy' : (ba x = ba y) = True := eq_true (by rw [hxy])
       simp -dsimp +decide (disch := omega) only [vt2, vy, vz, vze, vy, vz, vze, vr, ty, en, ↓reduceIte, Nat.reduceSub, Nat.reduceAdd, Nat.reduceMul, Nat.reduceLT, Int.reduceAdd, Int.reduceSub, Int.reduceToNat, ci, vi, getO_i, hra, hrb, hla, hlb, hgx, hgy, vstr, hxy']
       refine ⟨⟨by omega, by omega⟩, ⟨by omega, by omega⟩, i + 1, ⟨by omega, ?_⟩, by omega, rfl⟩
       rw [List.take_add_one, List.take_add_one, hx, hy, he, hxy]
     . have hxy' : (ba x = ba y) = False := eq_false (fun h => hxy (ba_inj.1 h))
       simp -dsimp +decide (disch := omega) only [vt2, vy, vz, vze, vy, vz, vze, vr, ty, en, ↓reduceIte, Nat.reduceSub, Nat.reduceAdd, Nat.reduceMul, Nat.reduceLT, Int.reduceAdd, Int.reduceSub, Int.reduceToNat, ci, vi, getO_i, hra, hrb, hla, hlb, hgx, hgy, vstr, hxy']
       refine ⟨⟨by omega, by omega⟩, ⟨by omega, by omega⟩, ?_⟩
       refine Vw.done ⟨?_, rfl, rfl⟩
       rw [decide_eq_false]
       rintro rfl
       rw [hx] at hy; cases hy; exact hxy rfl
   . simp -dsimp +decide (disch := omega) only [vt2, vy, vz, vze, vy, vz, vze, vr, ty, en, ↓reduceIte, Nat.reduceSub, Nat.reduceAdd, Nat.reduceMul, Nat.reduceLT, Int.reduceAdd, Int.reduceSub, Int.reduceToNat, ci, vi, getO_i]
     refine Vw.done ⟨?_, rfl, rfl⟩
     rw [List.take_of_length_le (by omega), List.take_of_length_le (by omega)] at he
     rw [decide_eq_true he]
def SameOk (x : JV) : Prop := ∀ (T : Tbl) (y : JV), CallA prog G 10 [.ag (vcs x), .ag (vcs y)] T fun r T' es => (∃ b : Bool, r = .p (.bool b) /\ (b = true ↔ x = y)) /\ T' = T /\ es = []
theorem eqf_ok {T : Tbl} {l m : List JV} (hl : l.length <= 1099511627776) (hs : ∀ x ∈ l, SameOk x) :
 CallA prog G 22 [.vs (vcsL l) l.length, .vs (vcsL m) m.length, .p (.func (.func 10) #[] #[])] T fun r T' es => (∃ b : Bool, r = .p (.bool b) /\ (b = true ↔ l = m)) /\ T' = T /\ es = [] := by
 refine CallA.wfs fun wf => ?_
 have wt := wf.t
 have ha := Es_vcs T l
 have hb := Es_vcs T m
 have hra := Sl.rules ha.sl (by decide)
 have hrb := Sl.rules hb.sl (by decide)
 have hla := ha.ld (P := prog) (t := 27) (by (simp -dsimp +decide only [vt2, vy, vz, vze, vy, vz, vze, vr, ty, en, ↓reduceIte, Nat.reduceSub, Nat.reduceAdd, Nat.reduceMul, Nat.reduceLT, Int.reduceAdd, Int.reduceSub, Int.reduceToNat, ci])) (by (simp -dsimp +decide only [vt2, vy, vz, vze, vy, vz, vze, vr, ty, en, ↓reduceIte, Nat.reduceSub, Nat.reduceAdd, Nat.reduceMul, Nat.reduceLT, Int.reduceAdd, Int.reduceSub, Int.reduceToNat, ci])) (by decide)
 have hlb := hb.ld (P := prog) (t := 27) (by (simp -dsimp +decide only [vt2, vy, vz, vze, vy, vz, vze, vr, ty, en, ↓reduceIte, Nat.reduceSub, Nat.reduceAdd, Nat.reduceMul, Nat.reduceLT, Int.reduceAdd, Int.reduceSub, Int.reduceToNat, ci])) (by (simp -dsimp +decide only [vt2, vy, vz, vze, vy, vz, vze, vr, ty, en, ↓reduceIte, Nat.reduceSub, Nat.reduceAdd, Nat.reduceMul, Nat.reduceLT, Int.reduceAdd, Int.reduceSub, Int.reduceToNat, ci])) (by decide)
 by_cases hlen : l.length = m.length
 . have hlen' : ((l.length : Int) = (m.length : Int)) = True := eq_true (by omega)
   refine CallA.eV 18 func22 ntmps22 results22 ?_
   simp -dsimp +decide only [vt2, vy, vz, vze, vy, vz, vze, vr, ty, en, ↓reduceIte, Nat.reduceSub, Nat.reduceAdd, Nat.reduceMul, Nat.reduceLT, Int.reduceAdd, Int.reduceSub, Int.reduceToNat, ci]
   simp -dsimp +decide (disch := omega) only [vt2, vy, vz, vze, vy, vz, vze, vr, ty, en, ↓reduceIte, Nat.reduceSub, Nat.reduceAdd, Nat.reduceMul, Nat.reduceLT, Int.reduceAdd, Int.reduceSub, Int.reduceToNat, ci, vi, getO_i, hlen']
   refine SemA.loopK T.length (fun i : Nat => [(0, .vs (vcsL l) l.length), (1, .vs (vcsL m) m.length), (2, .p (.func (.func 10) #[] #[])), (15, .vs (vcsL l) l.length), (16, wint (l.length : Int)), (17, wint (i : Int))]) (fun _ => T) (fun i => i <= l.length /\ l.take i = m.take i) (fun i => l.length - i) 0 [] 0 (fun _ : Unit => []) (fun _ => T) (fun _ => l = m) (by omega) ⟨by omega, by simp⟩ (by (simp -dsimp +decide (disch := omega) only [vt2, vy, vz, vze, vy, vz, vze, vr, ty, en, ↓reduceIte, Nat.reduceSub, Nat.reduceAdd, Nat.reduceMul, Nat.reduceLT, Int.reduceAdd, Int.reduceSub, Int.reduceToNat, ci, vi, getO_i]); first | rfl | done) rfl (by simp) ?_ ?_
   . rintro i g ⟨hi, he⟩
     refine SemA.o ?_
     by_cases hlt : i < l.length
     . have hlt' : ((i : Int) < (l.length : Int)) = True := eq_true (by omega)
       obtain ⟨x, hx⟩ : ∃ x, l[i]? = some x := ⟨l[i]'(by omega), by simp⟩
       obtain ⟨y, hy⟩ : ∃ y, m[i]? = some y := ⟨m[i]'(by omega), by simp⟩
       have hatx : List.take 5 (List.drop (i * 5) (vcsL l)) = vcs x := by rw [vcsL_eq]; exact flat_at (fun x _ => vcs_len x) hx
       have haty : List.take 5 (List.drop (i * 5) (vcsL m)) = vcs y := by rw [vcsL_eq]; exact flat_at (fun x _ => vcs_len x) hy
       have hfl : (vcsL l).length = l.length * 5 := by rw [vcsL_eq]; exact flat_len fun x _ => vcs_len x
       have hfm : (vcsL m).length = m.length * 5 := by rw [vcsL_eq]; exact flat_len fun x _ => vcs_len x
       have hc := fun U => hs x (List.mem_of_getElem? hx) U y
       obtain ⟨k1, z1, s1, ks1, ns1⟩ := x
       obtain ⟨k2, z2, s2, ks2, ns2⟩ := y
       simp only [vcs, str] at hatx haty hc
       have hv1 : vcs (.mk k1 z1 s1 ks1 ns1) = [by8 k1, .p (.int .i64 z1), .p (.string (ba s1)), .vs (vcsL ks1) ks1.length, .vs (ns1.map str) ns1.length] := by rw [vcs]; rfl
       have hv2 : vcs (.mk k2 z2 s2 ks2 ns2) = [by8 k2, .p (.int .i64 z2), .p (.string (ba s2)), .vs (vcsL ks2) ks2.length, .vs (ns2.map str) ns2.length] := by rw [vcs]; rfl
       simp -dsimp +decide (disch := omega) only [vt2, vy, vz, vze, vy, vz, vze, vr, ty, en, ↓reduceIte, Nat.reduceSub, Nat.reduceAdd, Nat.reduceMul, Nat.reduceLT, Int.reduceAdd, Int.reduceSub, Int.reduceToNat, ci, vi, getO_i, vt, hra, hrb, hla, hlb, hx, hy, hlt', hv1, hv2, wr5, tk5]
       refine ⟨by omega, ⟨by omega, by omega⟩, ?_⟩
       refine (hc _).mono ?_
       rintro r T' es ⟨⟨b, rfl, hbb⟩, rfl, rfl⟩
       cases b with
       | false =>
         simp -dsimp +decide (disch := omega) only [vt2, vy, vz, vze, vy, vz, vze, vr, ty, en, ↓reduceIte, Nat.reduceSub, Nat.reduceAdd, Nat.reduceMul, Nat.reduceLT, Int.reduceAdd, Int.reduceSub, Int.reduceToNat, ci, vi, getO_i, vt]
         refine Vw.cut ⟨⟨false, rfl, ⟨fun h => (by cases h), fun h => ?_⟩⟩, rfl, rfl⟩
         subst h
         rw [hx] at hy
         have := hbb.2 (Option.some.inj hy)
         cases this
       | true =>
         have hxy := hbb.1 rfl
         simp -dsimp +decide (disch := omega) only [vt2, vy, vz, vze, vy, vz, vze, vr, ty, en, ↓reduceIte, Nat.reduceSub, Nat.reduceAdd, Nat.reduceMul, Nat.reduceLT, Int.reduceAdd, Int.reduceSub, Int.reduceToNat, ci, vi, getO_i, vt]
         exact ⟨i + 1, ⟨⟨by omega, by rw [List.take_add_one, List.take_add_one, hx, hy, he, hxy]⟩, by omega⟩, rfl, wt.2.1⟩
     . have hlt' : ((i : Int) < (l.length : Int)) = False := eq_false (by omega)
       rw [List.take_of_length_le (by omega), List.take_of_length_le (by omega)] at he
       simp -dsimp +decide (disch := omega) only [vt2, vy, vz, vze, vy, vz, vze, vr, ty, en, ↓reduceIte, Nat.reduceSub, Nat.reduceAdd, Nat.reduceMul, Nat.reduceLT, Int.reduceAdd, Int.reduceSub, Int.reduceToNat, ci, vi, getO_i, vt, hlt']
       exact ⟨(), he, wt.2.1⟩
   . rintro _ g tmp he
     simp -dsimp +decide (disch := omega) only [vt2, vy, vz, vze, vy, vz, vze, vr, ty, en, ↓reduceIte, Nat.reduceSub, Nat.reduceAdd, Nat.reduceMul, Nat.reduceLT, Int.reduceAdd, Int.reduceSub, Int.reduceToNat, ci, vi, getO_i, vt]
     exact Vw.done ⟨⟨true, rfl, ⟨fun _ => he, fun _ => rfl⟩⟩, rfl, rfl⟩
 . have hlen' : ((l.length : Int) = (m.length : Int)) = False := eq_false (by omega)
   refine CallA.eV 18 func22 ntmps22 results22 ?_
   simp -dsimp +decide only [vt2, vy, vz, vze, vy, vz, vze, vr, ty, en, ↓reduceIte, Nat.reduceSub, Nat.reduceAdd, Nat.reduceMul, Nat.reduceLT, Int.reduceAdd, Int.reduceSub, Int.reduceToNat, ci]
   simp -dsimp +decide (disch := omega) only [vt2, vy, vz, vze, vy, vz, vze, vr, ty, en, ↓reduceIte, Nat.reduceSub, Nat.reduceAdd, Nat.reduceMul, Nat.reduceLT, Int.reduceAdd, Int.reduceSub, Int.reduceToNat, ci, vi, getO_i, hlen']
   exact Vw.done ⟨⟨false, rfl, ⟨fun h => (by cases h), fun h => absurd (by rw [h]) hlen⟩⟩, rfl, rfl⟩
theorem same_step (a : JV) (ha : vsz a <= 1099511627776) (hs : ∀ x ∈ a.kids, SameOk x) : SameOk a := by
 intro T c
 obtain ⟨k1, z1, s1, ks1, ns1⟩ := a
 obtain ⟨k2, z2, s2, ks2, ns2⟩ := c
 have hv : vsz (.mk k1 z1 s1 ks1 ns1) = 1 + s1.length + (ns1.map fun x => 1 + x.length).sum + vszL ks1 := by rw [vsz]
 have hkl := vszL_len ks1
 have hnl := nsz_len ns1
 have hE := fun U => eqf_ok (T := U) (l := ks1) (m := ks2) (by omega) hs
 have hN := fun U => eqs_ok (T := U) (l := ns1) (m := ns2) (by omega)
 simp only [vcs, show ∀ l, str l = .p (.string (ba l)) from fun _ => rfl]
 have t1 : ((k1.toNat : Int) = (k2.toNat : Int)) = (k1 = k2) := propext ⟨fun h => UInt8.toNat_inj.1 (by omega), fun h => by rw [h]⟩
 have t3 : (ba s1 = ba s2) = (s1 = s2) := propext ba_inj
 by_cases e1 : k1 = k2
 . have e1' : (k1 = k2) = True := eq_true e1
   by_cases e2 : z1 = z2
   . have e2' : (z1 = z2) = True := eq_true e2
     by_cases e3 : s1 = s2
     . have e3' : (s1 = s2) = True := eq_true e3
       by_cases e4 : ns1 = ns2
       . have e4' : (ns1 = ns2) = True := eq_true e4
         refine CallA.eV 5 func10 ntmps10 results10 ?_
         simp -dsimp +decide only [vt2, vy, vz, vze, vy, vz, vze, vr, ty, en, ↓reduceIte, Nat.reduceSub, Nat.reduceAdd, Nat.reduceMul, Nat.reduceLT, Int.reduceAdd, Int.reduceSub, Int.reduceToNat, ci]
         simp -dsimp +decide (disch := omega) only [vt2, vy, vz, vze, vy, vz, vze, vr, ty, en, ↓reduceIte, Nat.reduceSub, Nat.reduceAdd, Nat.reduceMul, Nat.reduceLT, Int.reduceAdd, Int.reduceSub, Int.reduceToNat, ci, vi, getO_i, vt, t1, t3, e1', e2', e3', gn0, gn1, vstr]
         refine (hN _).det' ?_
         simp -dsimp +decide (disch := omega) only [vt2, vy, vz, vze, vy, vz, vze, vr, ty, en, ↓reduceIte, Nat.reduceSub, Nat.reduceAdd, Nat.reduceMul, Nat.reduceLT, Int.reduceAdd, Int.reduceSub, Int.reduceToNat, ci, vi, getO_i, vt, e4', gn0, gn1, vstr]
         refine (hE _).mono ?_
         rintro r T' es ⟨⟨b, rfl, hb⟩, rfl, rfl⟩
         simp -dsimp +decide (disch := omega) only [vt2, vy, vz, vze, vy, vz, vze, vr, ty, en, ↓reduceIte, Nat.reduceSub, Nat.reduceAdd, Nat.reduceMul, Nat.reduceLT, Int.reduceAdd, Int.reduceSub, Int.reduceToNat, ci, vi, getO_i, vt, gn0, gn1]
         refine Vw.cut ⟨⟨b, rfl, ?_⟩, rfl, rfl⟩
         rw [hb, e1, e2, e3, e4]
         exact ⟨fun h => by rw [h], fun h => by injection h⟩
       . have e4' : (ns1 = ns2) = False := eq_false e4
         refine CallA.eV 5 func10 ntmps10 results10 ?_
         simp -dsimp +decide only [vt2, vy, vz, vze, vy, vz, vze, vr, ty, en, ↓reduceIte, Nat.reduceSub, Nat.reduceAdd, Nat.reduceMul, Nat.reduceLT, Int.reduceAdd, Int.reduceSub, Int.reduceToNat, ci]
         simp -dsimp +decide (disch := omega) only [vt2, vy, vz, vze, vy, vz, vze, vr, ty, en, ↓reduceIte, Nat.reduceSub, Nat.reduceAdd, Nat.reduceMul, Nat.reduceLT, Int.reduceAdd, Int.reduceSub, Int.reduceToNat, ci, vi, getO_i, vt, t1, t3, e1', e2', e3', gn0, gn1, vstr]
         refine (hN _).det' ?_
         simp -dsimp +decide (disch := omega) only [vt2, vy, vz, vze, vy, vz, vze, vr, ty, en, ↓reduceIte, Nat.reduceSub, Nat.reduceAdd, Nat.reduceMul, Nat.reduceLT, Int.reduceAdd, Int.reduceSub, Int.reduceToNat, ci, vi, getO_i, vt, e4', gn0, gn1, vstr]
         exact Vw.cut ⟨⟨false, rfl, ⟨fun h => (by cases h), fun h => absurd (by injection h) e4⟩⟩, rfl, rfl⟩
     . have e3' : (s1 = s2) = False := eq_false e3
       refine CallA.eV 5 func10 ntmps10 results10 ?_
       simp -dsimp +decide only [vt2, vy, vz, vze, vy, vz, vze, vr, ty, en, ↓reduceIte, Nat.reduceSub, Nat.reduceAdd, Nat.reduceMul, Nat.reduceLT, Int.reduceAdd, Int.reduceSub, Int.reduceToNat, ci]
       simp -dsimp +decide (disch := omega) only [vt2, vy, vz, vze, vy, vz, vze, vr, ty, en, ↓reduceIte, Nat.reduceSub, Nat.reduceAdd, Nat.reduceMul, Nat.reduceLT, Int.reduceAdd, Int.reduceSub, Int.reduceToNat, ci, vi, getO_i, vt, t1, t3, e1', e2', e3', gn0, gn1, vstr]
       exact Vw.cut ⟨⟨false, rfl, ⟨fun h => (by cases h), fun h => absurd (by injection h) e3⟩⟩, rfl, rfl⟩
   . have e2' : (z1 = z2) = False := eq_false e2
     refine CallA.eV 5 func10 ntmps10 results10 ?_
     simp -dsimp +decide only [vt2, vy, vz, vze, vy, vz, vze, vr, ty, en, ↓reduceIte, Nat.reduceSub, Nat.reduceAdd, Nat.reduceMul, Nat.reduceLT, Int.reduceAdd, Int.reduceSub, Int.reduceToNat, ci]
     simp -dsimp +decide (disch := omega) only [vt2, vy, vz, vze, vy, vz, vze, vr, ty, en, ↓reduceIte, Nat.reduceSub, Nat.reduceAdd, Nat.reduceMul, Nat.reduceLT, Int.reduceAdd, Int.reduceSub, Int.reduceToNat, ci, vi, getO_i, vt, t1, t3, e1', e2', gn0, gn1, vstr]
     exact Vw.cut ⟨⟨false, rfl, ⟨fun h => (by cases h), fun h => absurd (by injection h) e2⟩⟩, rfl, rfl⟩
 . have e1' : (k1 = k2) = False := eq_false e1
   refine CallA.eV 5 func10 ntmps10 results10 ?_
   simp -dsimp +decide only [vt2, vy, vz, vze, vy, vz, vze, vr, ty, en, ↓reduceIte, Nat.reduceSub, Nat.reduceAdd, Nat.reduceMul, Nat.reduceLT, Int.reduceAdd, Int.reduceSub, Int.reduceToNat, ci]
   simp -dsimp +decide (disch := omega) only [vt2, vy, vz, vze, vy, vz, vze, vr, ty, en, ↓reduceIte, Nat.reduceSub, Nat.reduceAdd, Nat.reduceMul, Nat.reduceLT, Int.reduceAdd, Int.reduceSub, Int.reduceToNat, ci, vi, getO_i, vt, t1, t3, e1', gn0, gn1, vstr]
   exact Vw.cut ⟨⟨false, rfl, ⟨fun h => (by cases h), fun h => absurd (by injection h) e1⟩⟩, rfl, rfl⟩
theorem same_all : ∀ (N : Nat) (a : JV), vsz a <= N -> N <= 1099511627776 -> SameOk a
 | 0, a, h, _ => absurd h (by rw [vsz_eq]; omega)
 | N + 1, a, h, hN => same_step a (by omega) fun x hx => same_all N x (by have := vszL_mem hx; rw [vsz_eq] at h; omega) (by omega)
theorem same_ok {T : Tbl} {a c : JV} (h : vsz a <= 1099511627776) : CallA prog G 10 [.ag (vcs a), .ag (vcs c)] T fun r T' es => (∃ b : Bool, r = .p (.bool b) /\ (b = true ↔ a = c)) /\ T' = T /\ es = [] := same_all _ a h (Nat.le_refl _) T c
end Go.Proofs.YtglpcedoongagaaDoor
namespace Go.E
def keepsE (cs : List AV) (E : Eff) : Prop := ∀ a ∈ cs, ∀ j o, a = AV.ptr j o -> (j, true) ∉ E
theorem keep_rel {Z Z' : Heap} {ρ ρ' : List BI} {T T' : Tbl} {w w' : World} {E : Eff} {cs : List AV} {vs : List Value} (hp : ∀ a ∈ cs, ∃ j o, a = AV.ptr j o) (h : RelL Z ρ cs vs) (hx : Ext Z ρ T w Z' ρ' T' w' E) (hk : keepsE cs E) : RelL Z' ρ' cs vs := by
 refine ⟨h.1, fun k a v ha hv => ?_⟩
 have hm := List.mem_of_getElem? ha
 obtain ⟨j, o, rfl⟩ := hp a hm
 have hr := h.2 k _ v ha hv
 cases hr with
 | ptr h1 h2 => exact .ptr (hx.place _ _ h1 (hk _ hm _ _ rfl)) h2
section
variable {P : Program} {G : Nat -> AV} {T : Tbl} {K : AV -> Tbl -> Eff -> Prop}
theorem CallA.enterD (mp : Nat -> Bool) {f g : FuncId} {fn : Func} {c0 x c2 : Code} {id td : Nat} {ops : Array Oper} {o1 o2 : Oper} {capo : Array Operand} {ts : Array TypeId} {args : List AV} {m : Nat} {rs : List ResultVar} (C : List AV -> AV -> Tbl -> Tbl -> Eff -> Prop) (n : Nat)
 (hf : P.funcs[f]? = some fn) (hm : fn.ntmps = m) (hrs : fn.results.toList = rs) (hb : fn.body = some (.seq c0 (.seq x (.seq (.region id ops false) c2)))) (hn : args.length <= n /\ n <= m) (hok0 : codeOK m c0 = true) (hokx : codeOK m x = true) (hok2 : codeOK m c2 = true) (hr : rsLt n rs = true)
 (hops : ops = #[o1, o2]) (h1 : o1.op = .makeFunc (.func g) #[] capo) (h1g : o1.guard = none) (h1d : o1.dst = some td) (h2 : o2.op = .defer ⟨.value (.tmp td), #[], ts⟩) (h2g : o2.guard = none) (h2d : o2.dst = none) (htd : n <= td /\ td < m) (hent : entered P g = true)
 (hret : ∀ (vs : List Value) (w : World), vs.length = capo.size -> CallsDIn Fence.wide 0 P g vs.toArray .returning w fun e u' w' => (∃ r, e = .returned r) /\ u' = .returning /\ w' = w)
 (hpan : ∀ (Z : Heap) (ρ : List BI) (T T3 : Tbl) (w : World) (vs : List Value) (cs : List AV) (a : AV) (v : Value) (ES : Eff), GOK G Z -> St Z ρ T w -> RelL Z ρ cs vs -> Rel Z ρ a v -> C cs a T T3 ES ->
  CallsDIn Fence.wide 0 P g vs.toArray (.panicking [pe v]) w fun e u' w' => (∃ r, e = .returned r) /\ u' = .panicking [{ v := v, recovered := true }] /\ ∃ Z' ρ', St Z' ρ' T3 w' /\ Ext Z ρ T w Z' ρ' T3 w' ES)
 (h : codeB P ⟨G, mp, fun _ _ _ _ => False, []⟩ T.length none n m c0 [] (args ++ List.replicate (n - args.length) (.p undef)) [] T [] (fun ds loc tmp Tx Ex => codeB P ⟨G, mp, fun _ _ _ _ => False, []⟩ T.length none n m x ds loc tmp Tx Ex
  (fun ds loc tmp T1 E1 => ds = [] /\ (∀ a ∈ capo.toList.map (evA G n loc tmp), ∃ j o, a = AV.ptr j o) /\ ∀ d, codeB P ⟨G, mp, fun loc' a T2 E2 => keepsE (capo.toList.map (evA G n loc tmp)) E2 /\ ∃ T3 ES, C (capo.toList.map (evA G n loc tmp)) a T2 T3 ES /\ retA P rs (Vw G T K) [] (slots ES loc') [] T3 (recE T.length ES (recE T.length E2 E1)), [d]⟩ T1.length none n m c2 [] loc [] T1 []
   (fun ds' loc' tmp' T2 E2 => ds' = [] /\ keepsE (capo.toList.map (evA G n loc tmp)) E2 /\ retA P rs (Vw G T K) [] loc' tmp' T2 (recE T.length E2 E1)) (fun _ _ _ _ _ _ => False)
   (fun ds' loc' tmp' T2 E2 => ds' = [] /\ keepsE (capo.toList.map (evA G n loc tmp)) E2 /\ retA P rs (Vw G T K) [] loc' tmp' T2 (recE T.length E2 E1))) (fun _ _ _ _ _ _ => False) (retA P rs (Vw G T K))) (fun _ _ _ _ _ _ => False) (retA P rs (Vw G T K))) : CallA P G f args T K := by
 subst hm; subst hrs; subst hops
 intro Z ρ w vs hG hs ha
 have hl := ha.1
 refine callsIn_wide (n := 0).1 (callsIn_of_wp_marks hf hb trivial ?_)
 have seen : ∀ {x : Value} {w' : World}, Post Z ρ T w (fun v T' E' => Vw G T K v T' E') x w' -> Post Z ρ T w K x w' := by
  rintro x w' ⟨Z', ρ', T', es, a, h1, h2, h3, h4⟩
  exact h4 Z ρ w Z' ρ' w' _ hs ⟨hG.mono h2.le, h1, h2⟩ h3
 have fin : ∀ {Z1 : Heap} {ρ1 : List BI} {T1 : Tbl} {w1 : World} {E1 : Eff} {loc : List AV} {tmp : List (Nat × AV)} {lv : List Value}, Frm G Z ρ T w Z1 ρ1 T1 w1 E1 -> RelL Z1 ρ1 loc lv -> retA P fn.results.toList (Vw G T K) [] loc tmp T1 E1 -> ResP P fn n (Post Z ρ T w K) [] lv w1 := by
  intro Z1 ρ1 T1 w1 E1 loc tmp lv g1 g2 g3
  exact ResP.mono (fun _ _ h => seen h) _ _ _ (retA_sound (dv := []) g1 .nil g2 hr g3)
 have early : ∀ {dv : List Nat} {lv : List Value} {tv : List (Nat × Value)} {w' : World} {a : Act}, FitsD [] n fn.ntmps dv lv tv a -> LK G Z ρ T w (retA P fn.results.toList (Vw G T K)) dv lv tv w' -> LeavesInM Fence.wide 0 P fn a.tmps (fun e w' => ∃ v, e = .returned v /\ Post Z ρ T w K v w') a.defers .returning w' := by
  rintro dv lv tv w' a hfa ⟨Z1, ρ1, T1, E1, ds1, loc1, tmp1, g1, g2, g3, g4, g5⟩
  obtain ⟨base, _, _, h3, _⟩ := hfa.base
  rw [hfa.defers, List.append_nil]
  exact (ResP.mono (fun _ _ h => seen h) _ _ _ (retA_sound g1 g2 g3 hr g5)).leaves _ _ _ h3
 have hsz : vs.toArray.size <= n := by simp; omega
 have hfit0 : FitsD [] n fn.ntmps [] (vs ++ List.replicate (n - vs.length) undef) [] { tmps := vs.toArray ++ Array.replicate (fn.ntmps - vs.toArray.size) undef, defers := [] } := by
  refine ⟨⟨fun _ => undef, by simp; omega, by simp; omega, fun t ht => ?_, fun t ht => ?_⟩, by simp; omega, rfl⟩
  . simp only [Array.getD_eq_getD_getElem?, List.getD_eq_getElem?_getD]
    by_cases h1 : t < vs.length
    . rw [Array.getElem?_append_left (by simpa using h1), List.getElem?_append_left h1]; simp
    . rw [Array.getElem?_append_right (by simp; omega), List.getElem?_append_right (by omega)]
      simp only [Array.getElem?_replicate, List.getElem?_replicate, List.size_toArray]
      rw [if_pos (by omega), if_pos (by omega)]
  . simp only [Array.getD_eq_getD_getElem?, lk]
    rw [Array.getElem?_append_right (by simp; omega), Array.getElem?_replicate]
    split <;> rfl
 have hrep : RelL Z ρ (args ++ List.replicate (n - args.length) (.p undef)) (vs ++ List.replicate (n - vs.length) undef) :=
  ha.append (by rw [hl]; have := RelL.ps (Z := Z) (ρ := ρ) (List.replicate (n - vs.length) undef); rwa [List.map_replicate] at this)
 have hsem0 := codeB_sound c0 _ _ _ _ _ _ _ _ h hok0 Z ρ T w Z ρ w [] _ [] hs.len ⟨hG, hs, Ext.refl rfl⟩ ⟨.nil, hrep, .nil⟩
 refine wpIn_seq (hsem0 _ hfit0 _ fun e dv lv tv w1 a1 hfa hq => ?_)
 cases e with
 | exit i => obtain ⟨_, _, _, _, _, _, _, _, _, _, _, g5⟩ := hq; exact g5.elim
 | ret => exact early hfa hq
 | panic c => obtain ⟨_, _, _, _, _, _, _, _, _, _, _, _, g5⟩ := hq; exact g5.elim
 | normal =>
   obtain ⟨Z1, ρ1, T1, E1, ds1, loc1, tmp1, g1, g2, g3, g4, hx⟩ := hq
   have hsemx := codeB_sound x _ _ _ _ _ _ _ _ hx hokx Z ρ T w Z1 ρ1 w1 dv lv tv hs.len g1 ⟨g2, g3, g4⟩
   refine wpIn_seq (hsemx _ hfa _ fun e dv lv tv w2 a2 hfa hq => ?_)
   cases e with
   | exit i => obtain ⟨_, _, _, _, _, _, _, _, _, _, _, g5⟩ := hq; exact g5.elim
   | ret => exact early hfa hq
   | panic c => obtain ⟨_, _, _, _, _, _, _, _, _, _, _, _, g5⟩ := hq; exact g5.elim
   | normal =>
     obtain ⟨Z2, ρ2, T2, E2, ds2, loc2, tmp2, g1, g2, g3, g4, rfl, hptr, hall⟩ := hq
     have hdv : dv = [] := by have := g2.unnil; simpa using this
     subst hdv
     obtain ⟨base, hag⟩ := hfa.base
     have hcaps : RelL Z2 ρ2 (capo.toList.map (evA G n loc2 tmp2)) (capo.toList.map a2.eval) := by
      rw [hag.ev]
      exact ⟨by simp, fun k y z hy hz => by
       rw [List.getElem?_map] at hy hz
       cases hk : capo.toList[k]? with
       | none => rw [hk] at hy; cases hy
       | some o => rw [hk] at hy hz; cases hy; cases hz; exact evA_rel g1.g g3 g4 o⟩
     generalize hcs : capo.toList.map (evA G n loc2 tmp2) = cs at hall hcaps hptr
     generalize hcv : capo.toList.map a2.eval = cv at hcaps
     have hcv' : capo.map a2.eval = cv.toArray := by rw [<- hcv, <- Array.toList_map]
     have hdd : a2.defers = [] := by rw [hfa.defers]; rfl
     obtain ⟨d, hd⟩ : ∃ d : Deferred, d = { target := .fn (.func g) cv.toArray, args := #[] } := ⟨_, rfl⟩
     refine wpIn_seq (wpIn_region_list ?_)
     have w1 : ∀ (o : Oper) (a : Act), o.guard = none -> Region.wanted o (yielded #[o1, o2] a.tmps) = true := fun o a h => by simp [Region.wanted, h]
     show wpListIn _ 0 P #[o1, o2] _ [o1, o2] a2 w2
     unfold wpListIn
     rw [if_pos (w1 o1 a2 h1g)]
     refine ⟨fun _ _ => trivial, ?_⟩
     have e1 : (Oper.semAt Fence.wide.round a2.eval o1).run P w2 = .ok (.value (.func (.func g) #[] cv.toArray)) w2 := by
      show (execOp a2.eval o1).run P w2 = _
      simp [execOp, h1, Instr.makeFunc, hcv']
     rw [e1, Oper.uponIn_value]
     obtain ⟨l3, t3, hag3, rfl, hlk⟩ := hag.put (d := o1.dst) (fun t ht => by rw [h1d] at ht; cases ht; rw [hfa.size]; exact htd.2) (.func (.func g) #[] cv.toArray) (K := fun l t => l = lv /\ lk base t td = .func (.func g) #[] cv.toArray) (by rw [h1d]; unfold putK; show (if td < n then _ else _); rw [if_neg (by omega)]; exact ⟨rfl, by simp [lk]⟩)
     unfold wpListIn
     rw [if_pos (w1 o2 _ h2g)]
     refine ⟨fun _ _ => trivial, ?_⟩
     have e2 : (a2.put o1.dst (.func (.func g) #[] cv.toArray)).eval (.tmp td) = .func (.func g) #[] cv.toArray := by
      rw [hag3.ev]
      show (if td < n then _ else _) = _
      rw [if_neg (by omega)]
      exact hlk
     have e3 : (Oper.semAt Fence.wide.round (a2.put o1.dst (.func (.func g) #[] cv.toArray)).eval o2).run P w2 = .ok (.defer d) w2 := by
      show (execOp _ o2).run P w2 = _
      simp [execOp, h2, resolve, e2, Deferred.ofValue, hd]
     rw [e3, Oper.uponIn_defer]
     rw [h2d]
     have hfit3 : FitsD [d] n fn.ntmps [] l3 t3 ({ (a2.put o1.dst (.func (.func g) #[] cv.toArray)) with defers := d :: (a2.put o1.dst (.func (.func g) #[] cv.toArray)).defers }.put none undef) := by
      refine ⟨⟨base, hag3⟩, ?_, ?_⟩
      . rw [h1d]; simp [Act.put, hfa.size]
      . rw [h1d]; simp [Act.put, hdd]
     show (Code.wpIn Fence.wide 0 P c2 (bodyPostM Fence.wide 0 P fn fun e w' => ∃ v, e = Ending.returned v /\ Post Z ρ T w K v w')) _ w2
     have hc2 := hall d
     have hsem2 := codeB_sound c2 _ _ _ _ _ _ _ _ hc2 hok2 Z2 ρ2 T2 w2 Z2 ρ2 w2 [] l3 [] g1.st.len ⟨g1.g, g1.st, Ext.refl rfl⟩ ⟨.nil, g3, .nil⟩
     have hinv : ∀ wX : World, (invoke d.target d.args).run P wX = .ok (.enter g cv.toArray) wX := by
      intro wX
      have hcall : (callFunc g cv.toArray).run P wX = .ok (.enter g cv.toArray) wX := by
       have he := hent
       unfold entered at he
       cases hf : P.funcs[g]? with
       | none => rw [hf] at he; cases he
       | some fn =>
         rw [hf] at he
         simp only [Bool.and_eq_true, bne_iff_ne, ne_eq] at he
         obtain ⟨h1, h2⟩ := he
         have h3 : ¬ fn.body = none := by intro hb; rw [hb] at h2; cases h2
         simp [callFunc, hf, h1, h3]
      rw [hd]
      have e : invoke (.fn (.func g) cv.toArray) #[] = callFunc g (#[] ++ cv.toArray) := rfl
      rw [e]
      simpa using hcall
     refine (SemZ.cleared hsem2) _ hfit3 _ fun e dv lv tv w3 a3 hfa3 hq => ?_
     have done : ∀ {Z3 : Heap} {ρ3 : List BI} {T3 : Tbl} {w3 : World} {E3 : Eff} {loc : List AV} {tmp : List (Nat × AV)} {lv : List Value} {tmps : Array Value}, (∀ t, t < n -> tmps.getD t undef = lv.getD t undef) -> Frm G Z ρ T w Z3 ρ3 T3 w3 E3 -> RelL Z3 ρ3 loc lv -> retA P fn.results.toList (Vw G T K) [] loc tmp T3 E3 -> LeavesInM Fence.wide 0 P fn tmps (fun e w' => ∃ v, e = .returned v /\ Post Z ρ T w K v w') [] .returning w3 := by
      intro Z3 ρ3 T3 w3 E3 loc tmp lv tmps ht k1 k2 k3
      exact (fin k1 k2 k3).leaves [] lv w3 ht
     have hrt : ∀ {dv : List Nat} {lv : List Value} {tv : List (Nat × Value)} {w3 : World} {a3 : Act}, FitsD [d] n fn.ntmps dv lv tv a3 -> LK G Z2 ρ2 T2 w2 (fun ds' loc' tmp' T2 E2' => ds' = [] /\ keepsE cs E2' /\ retA P fn.results.toList (Vw G T K) [] loc' tmp' T2 (recE T.length E2' E2)) dv lv tv w3 -> LeavesInM Fence.wide 0 P fn a3.tmps (fun e w' => ∃ v, e = .returned v /\ Post Z ρ T w K v w') a3.defers .returning w3 := by
      rintro dv lv tv w3 a3 hfa3 ⟨Z3, ρ3, T3, E3, ds3, loc3, tmp3, k1, k2, k3, k4, rfl, hkp, hrA⟩
      have hdv : dv = [] := by have := k2.unnil; simpa using this
      subst hdv
      obtain ⟨_, _, _, ht, _⟩ := hfa3.base
      rw [hfa3.defers]
      refine ⟨by simp, .inr ⟨(fun h => by cases h), .func g, cv.toArray, g, cv.toArray, by rw [hd], hinv _, fun _ _ => trivial, ?_⟩⟩
      refine (hret cv w3 (by rw [<- hcv, List.length_map]; rfl)).mono ?_
      rintro e u' w' ⟨⟨r, rfl⟩, rfl, rfl⟩
      have hf3 := g1.step k1.st k1.ext
      rw [hs.len] at hf3
      exact done ht hf3 k3 hrA
     cases e with
     | normal => exact hrt hfa3 hq
     | ret => exact hrt hfa3 hq
     | exit i => obtain ⟨_, _, _, _, _, _, _, _, _, _, _, g5⟩ := hq; exact g5.elim
     | panic c =>
       obtain ⟨v, rfl, rfl, Z3, ρ3, T3, E3, loc3, a, k1, k3, k4, hkp, T4, ES, hC, hrA⟩ := hq
       obtain ⟨_, _, _, ht, _⟩ := hfa3.base
       show LeavesInM _ _ _ _ _ _ a3.defers (.panicking [pe v]) w3
       rw [hfa3.defers]
       refine ⟨by simp, .inr ⟨(fun h => by cases h), .func g, cv.toArray, g, cv.toArray, by rw [hd], hinv _, fun _ _ => trivial, ?_⟩⟩
       refine (hpan Z3 ρ3 T3 T4 w3 cv cs a v ES k1.g k1.st (keep_rel hptr hcaps k1.ext hkp) k4 hC).mono ?_
       rintro e u' w' ⟨⟨r, rfl⟩, rfl, Z4, ρ4, hst, hext⟩
       have hf3 := (g1.step k1.st k1.ext).step hst hext
       rw [hs.len] at hf3
       have hat : At Z3 ρ3 [] loc3 [] [] lv [] := ⟨.nil, k3, .nil⟩
       exact done ht hf3 (hat.step hext).loc hrA
     | _ => exact hq.elim
   | _ => exact hq.elim
 | _ => exact hq.elim
end
end Go.E
namespace Go.Proofs.YtglpcedoongagaaDoor
open Go.E Go.Proofs.YtglpcedoongagaaDoor.Tryd Go.Proofs.Tryd Go.J
theorem as_nil (w : World) : (Instr.typeAssert .nilIface 20 28 true).run prog w = .ok (.tuple #[.int .i64 0, .bool false]) w := by kernel_rfl
theorem as_eno (x : Value) (w : World) : (Instr.typeAssert (.iface 28 x) 20 28 true).run prog w = .ok (.tuple #[x, .bool true]) w := by kernel_rfl
theorem ex0 (P : Program) (a b : Value) (w : World) : (Instr.extract (.tuple #[a, b]) 0).run P w = .ok a w := rfl
theorem ex1 (P : Program) (a b : Value) (w : World) : (Instr.extract (.tuple #[a, b]) 1).run P w = .ok b w := rfl
theorem clo_ret (vs : List Value) (w : World) (h : vs.length = 2) : CallsDIn Fence.wide 0 prog 15 vs.toArray .returning w fun e u' w' => (∃ r, e = .returned r) /\ u' = .returning /\ w' = w := by
 obtain ⟨x, y, rfl⟩ : ∃ x y, vs = [x, y] := by
  match vs, h with
  | [x, y], _ => exact ⟨x, y, rfl⟩
 refine callsDIn_of_wpSIn func15 rfl trivial fun c₀ cs hu => ?_
 refine wpSIn_seq (wpSIn_region ?_)
 have hrec : recoverD (c₀ :: cs) = none := by simp [recoverD, hu]
 simp [wpOpsSIn, List.range_succ, execOp, resolve, invoke, builtin, hrec, Region.wanted, as_nil, ex0, ex1, Act.put, Act.eval, Oper.about]
 refine ⟨fun _ _ => trivial, ?_⟩
 show Code.wpSIn _ 0 _ _ _ _ _ _
 refine wpSIn_seq (wpSIn_region ?_)
 simp [wpOpsSIn, List.range_succ, execOp, Region.wanted, Act.put, Act.eval, Oper.about]
 show Code.wpSIn _ 0 _ _ _ _ _ _
 refine wpSIn_cond (t := false) (by simp [Act.eval]) ?_
 refine wpSIn_of_wpIn rfl (wpIn_skip ?_)
 refine ⟨rfl, .returning, ?_, .tuple #[], ?_, ⟨_, rfl⟩, rfl, rfl⟩
 . rw [<- hu]
 . simp [results, results15]
def zc : List AV := [.p (.int .u8 0), .p (.int .i64 0), .p (.string ByteArray.empty), .p (.slice none 0 0), .p (.slice none 0 0)]
def CloP (cs : List AV) (a : AV) (T T3 : Tbl) (ES : Eff) : Prop := ∃ (j1 j2 : Nat) (c1 : List AV) (x : AV) (e : Int), cs = [.ptr j1 0, .ptr j2 0] /\ a = eno e /\ T[j1]? = some (.cells 27 c1) /\ c1.length = 5 /\ T[j2]? = some (.cells 28 [x]) /\ j1 ≠ j2 /\
 T3 = (T.set j1 (.cells 27 zc)).set j2 (.cells 28 [.p (.int .i64 e)]) /\ ES = [(j1, false), (j2, false)]
theorem clo_pan (Z : Heap) (ρ : List BI) (T T3 : Tbl) (w : World) (vs : List Value) (cs : List AV) (a : AV) (v : Value) (ES : Eff) (hG : GOK G Z) (hs : St Z ρ T w) (hc : RelL Z ρ cs vs) (ha : Rel Z ρ a v) (hC : CloP cs a T T3 ES) :
 CallsDIn Fence.wide 0 prog 15 vs.toArray (.panicking [pe v]) w fun e u' w' => (∃ r, e = .returned r) /\ u' = .panicking [{ v := v, recovered := true }] /\ ∃ Z' ρ', St Z' ρ' T3 w' /\ Ext Z ρ T w Z' ρ' T3 w' ES := by
 obtain ⟨j1, j2, c1, x, e, rfl, rfl, hj1, hc1, hj2, hne, rfl, rfl⟩ := hC
 obtain ⟨x1, us, rfl, r1, hc⟩ := hc.uncons
 obtain ⟨x2, us, rfl, r2, hc⟩ := hc.uncons
 obtain rfl := hc.unnil
 obtain ⟨y, rfl⟩ : ∃ y, v = .iface 28 y := by cases ha with | ic h => exact ⟨_, rfl⟩
 obtain rfl : y = .int .i64 e := by cases ha with | ic h => exact h.p_inv
 refine callsDIn_of_wpSIn func15 rfl trivial fun c₀ cs hu => ?_
 refine wpSIn_seq (wpSIn_region ?_)
 have hrec : recoverD (c₀ :: cs) = some (.iface 28 (.int .i64 e), { c₀ with mode := .panicking [{ v := .iface 28 (.int .i64 e), recovered := true }] } :: cs) := by simp [recoverD, hu, pe]
 simp [wpOpsSIn, List.range_succ, execOp, resolve, invoke, builtin, hrec, Region.wanted, as_eno, ex0, ex1, Act.put, Act.eval, Oper.about]
 refine ⟨fun _ _ => trivial, ?_⟩
 show Code.wpSIn _ 0 _ _ _ _ _ _
 refine wpSIn_seq (wpSIn_region ?_)
 simp [wpOpsSIn, List.range_succ, execOp, Region.wanted, Act.put, Act.eval, Oper.about]
 show Code.wpSIn _ 0 _ _ _ _ _ _
 refine wpSIn_cond (t := true) (by simp [Act.eval]) ?_
 refine wpSIn_of_wpIn rfl ?_
 rw [if_pos rfl]
 have key : ∀ (c : Code) (Q : Exit -> Act -> World -> Prop) (a0 : Act) (z4 z5 z6 z7 z8 z9 z10 z11 : Value), Fits' 12 12 [] [x1, x2, .int .i64 e, .bool true, z4, z5, z6, z7, z8, z9, z10, z11] [] a0 -> (∀ a' w', a'.defers = [] -> (∃ Z' ρ', St Z' ρ' ((T.set j1 (.cells 27 zc)).set j2 (.cells 28 [.p (.int .i64 e)])) w' /\ Ext Z ρ T w Z' ρ' ((T.set j1 (.cells 27 zc)).set j2 (.cells 28 [.p (.int .i64 e)])) w' [(j1, false), (j2, false)]) -> Q .normal a' w') ->
  SemA prog G T.length none 12 12 c [] [.ptr j1 0, .ptr j2 0, .p (.int .i64 e), .p (.bool true), .any, .any, .any, .any, .any, .any, .any, .any] [] T [] (fun ds _ _ T' E' => ds = [] /\ T' = (T.set j1 (.cells 27 zc)).set j2 (.cells 28 [.p (.int .i64 e)]) /\ ∀ x ∈ E', x ∈ [(j1, false), (j2, false)]) (fun _ _ _ _ _ _ => False) (fun _ _ _ _ _ => False) ->
  c.wpIn Fence.wide 0 prog Q a0 w := by
  intro c Q a0 z4 z5 z6 z7 z8 z9 z10 z11 hfit hQ hc
  have hloc : RelL Z ρ [.ptr j1 0, .ptr j2 0, .p (.int .i64 e), .p (.bool true), .any, .any, .any, .any, .any, .any, .any, .any] [x1, x2, .int .i64 e, .bool true, z4, z5, z6, z7, z8, z9, z10, z11] := by
   refine ⟨rfl, fun k y z hy hz => ?_⟩
   match k with
   | 0 => cases hy; cases hz; exact r1
   | 1 => cases hy; cases hz; exact r2
   | 2 => cases hy; cases hz; exact .p _
   | 3 => cases hy; cases hz; exact .p _
   | 4 => cases hy; cases hz; exact .any _
   | 5 => cases hy; cases hz; exact .any _
   | 6 => cases hy; cases hz; exact .any _
   | 7 => cases hy; cases hz; exact .any _
   | 8 => cases hy; cases hz; exact .any _
   | 9 => cases hy; cases hz; exact .any _
   | 10 => cases hy; cases hz; exact .any _
   | 11 => cases hy; cases hz; exact .any _
   | k + 12 => cases hy
  refine hc Z ρ T w Z ρ w [] _ [] hs.len ⟨hG, hs, Ext.refl rfl⟩ ⟨.nil, hloc, .nil⟩ a0 hfit _ fun e' dv lv tv w' a' hfa hq => ?_
  cases e' with
  | normal =>
    obtain ⟨Z3, ρ3, T3, E3, ds3, loc3, tmp3, k1, k2, k3, k4, rfl, rfl, hE⟩ := hq
    have hdv : dv = [] := by have := k2.unnil; simpa using this
    subst hdv
    exact hQ _ _ hfa.defers ⟨Z3, ρ3, k1.st, k1.ext.more fun x hx _ => hE x hx⟩
  | ret => obtain ⟨_, _, _, _, _, _, _, _, _, _, _, g5⟩ := hq; exact g5.elim
  | exit i => obtain ⟨_, _, _, _, _, _, _, _, _, _, _, g5⟩ := hq; exact g5.elim
  | _ => exact hq.elim
 refine key _ _ _ (.tuple #[.int .i64 e, .bool true]) (.iface 28 (.int .i64 e)) (.tuple #[.int .i64 e, .bool true]) (.int .i64 e) (.bool true) (.bool true) undef undef ?_ ?_ (SemA.o ?_)
 . refine ⟨⟨fun _ => undef, rfl, by simp, fun t ht => ?_, fun t ht => ?_⟩, by simp, rfl⟩
   . rcases (show t = 0 ∨ t = 1 ∨ t = 2 ∨ t = 3 ∨ t = 4 ∨ t = 5 ∨ t = 6 ∨ t = 7 ∨ t = 8 ∨ t = 9 ∨ t = 10 ∨ t = 11 by omega) with rfl | rfl | rfl | rfl | rfl | rfl | rfl | rfl | rfl | rfl | rfl | rfl <;>
      simp [Array.getD_eq_getD_getElem?, Array.getElem?_append, Array.getElem?_setIfInBounds]
   . simp only [Array.getD_eq_getD_getElem?, lk]
     rw [Array.getElem?_eq_none (by simp; omega)]
     rfl
 . intro a' w' hd hx
   refine ⟨hd, _, rfl, .tuple #[], ?_, ⟨_, rfl⟩, rfl, hx⟩
   simp [results, results15]
 . have hj1l := (List.getElem?_eq_some_iff.1 hj1).1
   have hj2l := (List.getElem?_eq_some_iff.1 hj2).1
   obtain ⟨b0, b1, b2, b3, b4, rfl⟩ : ∃ b0 b1 b2 b3 b4, c1 = [b0, b1, b2, b3, b4] := by
    match c1, hc1 with
    | [b0, b1, b2, b3, b4], _ => exact ⟨b0, b1, b2, b3, b4, rfl⟩
   have hj2' : ∀ o : AObj, (T.set j1 o)[j2]? = some (.cells 28 [x]) := fun o => by rw [List.getElem?_set_ne hne]; exact hj2
   simp -dsimp +decide (disch := omega) only [vr, ty, en, ↓reduceIte, Nat.reduceSub, Nat.reduceAdd, Nat.reduceMul, Nat.reduceLT, Int.reduceAdd, Int.reduceSub, Int.reduceToNat, ci, vi, getO_i, vt, hj1, hj2', wr5]
   refine ⟨rfl, fun z hz => ?_⟩
   unfold rec1 at hz
   simp only [hj1l, hj2l, if_true, List.mem_cons, List.not_mem_nil, or_false] at hz ⊢
   rcases hz with h | h <;> simp [h]
end Go.Proofs.YtglpcedoongagaaDoor
namespace Go.Proofs.YtglpcedoongagaaDoor
open Go.E Go.Proofs.YtglpcedoongagaaDoor.Tryd Go.Proofs.Tryd Go.J
def parsV (l : B) (r : Except Int JV) : AV := match r with
 | .ok u => .tu [.ag (vcs u), .p (.int .i64 0)]
 | .error e => .tu [.ag (vcs vNull), .p (.int .i64 e)]
theorem sn0 (T : Tbl) (A o : AObj) (l : Tbl) : (T ++ A :: l).set T.length o = T ++ o :: l := by simp
theorem sn1 (T : Tbl) (A B o : AObj) (l : Tbl) : (T ++ A :: B :: l).set (T.length + 1) o = T ++ A :: o :: l := by simp
theorem sn2 (T : Tbl) (A B C o : AObj) (l : Tbl) : (T ++ A :: B :: C :: l).set (T.length + 2) o = T ++ A :: B :: o :: l := by simp
theorem tu2_weak {a a' b : AV} (h : ∀ Z ρ x, Rel Z ρ a x -> Rel Z ρ a' x) : ∀ (Z : Heap) (ρ : List BI) (x : Value), Rel Z ρ (.tu [a, b]) x -> Rel Z ρ (.tu [a', b]) x := by
 intro Z ρ x hr
 cases hr with
 | @tu _ _ vs hl hr =>
   refine .tu hl fun k h1 h2 => ?_
   match k, h1 with
   | 0, _ => exact h _ _ _ (hr 0 (by simp) h2)
   | 1, _ => exact hr 1 (by simp) h2
theorem keeps_nil (cs : List AV) : keepsE cs [] := fun _ _ _ _ _ h => by cases h
theorem null_weak {e : Int} : ∀ (Z : Heap) (ρ : List BI) (x : Value), Rel Z ρ (.tu [.ag zc, .p (.int .i64 e)]) x -> Rel Z ρ (.tu [.ag (vcs vNull), .p (.int .i64 e)]) x :=
 tu2_weak (by rw [vNull, vcs_nil]; exact ag5_weak nil_vs nil_vs)
theorem parse_ok {T : Tbl} {l : B} (hl : l.length <= 1099511627776) : CallA prog G 7 [bl l] T fun v T' es => v = parsV l (parse l) /\ T' = T /\ es = [] := by
 refine CallA.wf fun wf => ?_
 refine CallA.enterD Tryd.mp CloP 5 func7 ntmps7 (congrArg Array.toList results7) rfl ⟨by simp, by simp⟩ (by kernel_rfl) (by kernel_rfl) (by kernel_rfl) (by kernel_rfl) rfl rfl rfl rfl rfl rfl rfl ⟨by decide, by decide⟩ (by kernel_rfl) clo_ret clo_pan ?_
 simp -dsimp +decide (disch := omega) only [vr, ty, en, ↓reduceIte, Nat.reduceSub, Nat.reduceAdd, Nat.reduceMul, Nat.reduceLT, Int.reduceAdd, Int.reduceSub, Int.reduceToNat, ci, vi, getO_i, vb, Tryd.mpf, vt, vbl]
 refine CondP.dec (fun hc => ?_) (fun hc => ?_)
 . simp -dsimp +decide (disch := omega) only [vr, ty, en, ↓reduceIte, Nat.reduceSub, Nat.reduceAdd, Nat.reduceMul, Nat.reduceLT, Int.reduceAdd, Int.reduceSub, Int.reduceToNat, ci, vi, getO_i, vb, Tryd.mpf, vt, vbl, gn0, gn1, tk5, wr5, vres, vone]
   rw [parse, if_pos (by omega)]
   refine Vw.weak (fun Z ρ x h => null_weak (e := 6) Z ρ x h) ?_
   exact Vw.cut ⟨by simp only [parsV, AV.wo, AV.woL, AV.woL_eq, vcr], rfl, rfl⟩
 simp -dsimp +decide (disch := omega) only [vr, ty, en, ↓reduceIte, Nat.reduceSub, Nat.reduceAdd, Nat.reduceMul, Nat.reduceLT, Int.reduceAdd, Int.reduceSub, Int.reduceToNat, ci, vi, getO_i, vb, Tryd.mpf, vt, vbl, gn0, gn1, tk5, wr5, vres, vone]
 refine ⟨fun a ha => by simp only [List.mem_cons, List.not_mem_nil, or_false] at ha; rcases ha with rfl | rfl <;> exact ⟨_, _, rfl⟩, fun d => ?_⟩
 have hpe : ∀ e, val 8 l = .error e -> parse l = .error e := fun e h => by rw [parse, if_neg (by omega), h]
 have hpo : ∀ v r, val 8 l = .ok (v, r) -> parse l = if blk r = [] then .ok v else .error 5 := fun v r h => by rw [parse, if_neg (by omega), h]
 have hpan : ∀ (e : Int) (c1 : List AV) (U : Tbl) (E2 : Eff) (loc' : List AV), parse l = .error e -> c1.length = 5 -> keepsE [AV.ptr T.length 0, AV.ptr (T.length + 1) 0] E2 -> recE T.length E2 [] = [] -> loc'.getD 2 .any = .ptr T.length 0 -> loc'.getD 3 .any = .ptr (T.length + 1) 0 ->
  keepsE [AV.ptr T.length 0, AV.ptr (T.length + 1) 0] E2 /\ ∃ T3 ES, CloP [AV.ptr T.length 0, AV.ptr (T.length + 1) 0] (eno e) (T ++ AObj.cells 27 c1 :: AObj.cells 28 [.p (.int .i64 0)] :: U) T3 ES /\
   loadA prog 27 ((slots ES loc').getD 2 AV.any) T3 fun v => rsA prog (slots ES loc') T3 [ResultVar.cell 3 28] fun l_1 => oneA (v :: l_1) fun v => Vw G T (fun v T' es => v = parsV l (parse l) /\ T' = T /\ es = []) v T3 (recE T.length ES (recE T.length E2 [])) := by
  intro e c1 U E2 loc' hpe h5 hk hE h2 h3
  refine ⟨hk, _, _, ⟨T.length, T.length + 1, c1, .p (.int .i64 0), e, rfl, rfl, gn0 _ _ _, h5, gn1 _ _ _ _, by omega, rfl, rfl⟩, ?_⟩
  rw [sn0, sn1]
  have hsl : slots [(T.length, false), (T.length + 1, false)] loc' = loc' := rfl
  rw [hsl, h2, hE]
  simp -dsimp +decide (disch := omega) only [vr, ty, en, ↓reduceIte, Nat.reduceSub, Nat.reduceAdd, Nat.reduceMul, Nat.reduceLT, Int.reduceAdd, Int.reduceSub, Int.reduceToNat, ci, vi, getO_i, vb, Tryd.mpf, vt, vbl, gn0, gn1, tk5, wr5, vres, vone, h2, h3, zc]
  rw [hpe]
  refine Vw.weak (fun Z ρ x h => null_weak (e := e) Z ρ x h) ?_
  exact Vw.cut ⟨by simp only [parsV, AV.wo, AV.woL, AV.woL_eq, vcr], rfl, rfl⟩
 refine (val_all 8 (Nat.le_refl 8) _ (T.length + 2) l hl (gn2 _ _ _ _ _)).mono ?_ ?_
 . rintro v T' es ⟨u, r, hv, rfl, rfl, rfl⟩
   rw [sn2]
   have hvr := vcr u
   have hww : wrA (vcs u) 0 (vcs u) = vcs u := wrA_all rfl
   have k1 : ∀ E : Eff, keepsE [AV.ptr T.length 0, AV.ptr (T.length + 1) 0] E -> ∀ j, keepsE [AV.ptr T.length 0, AV.ptr (T.length + 1) 0] (rec1 (T.length + 2) j false E) := fun E hE j a ha j' o e hm => by
    unfold rec1 at hm
    split at hm
    . rcases List.mem_cons.1 hm with h | h
      . cases h
      . exact hE a ha j' o e h
    . exact hE a ha j' o e hm
   have k2 : ∀ (E : Eff), recE T.length E [] = [] -> ∀ j, T.length <= j -> recE T.length (rec1 (T.length + 2) j false E) [] = [] := fun E hE j hj => by
    unfold rec1
    split
    . rw [recE, hE]; exact if_neg (by omega)
    . exact hE
   have hgood := val_good 8 l u r hv
   simp -dsimp +decide (disch := omega) only [vr, ty, en, ↓reduceIte, Nat.reduceSub, Nat.reduceAdd, Nat.reduceMul, Nat.reduceLT, Int.reduceAdd, Int.reduceSub, Int.reduceToNat, ci, vi, getO_i, vb, Tryd.mpf, vt, vbl, gn0, gn1, gn2, sn0, sn1, sn2, tk5, wr5, hvr, vres, vone]
   refine (blanks_ok' (by omega) (gn2 _ _ _ _ _)).det' ?_
   rw [sn2, rdr]
   simp -dsimp +decide (disch := omega) only [vr, ty, en, ↓reduceIte, Nat.reduceSub, Nat.reduceAdd, Nat.reduceMul, Nat.reduceLT, Int.reduceAdd, Int.reduceSub, Int.reduceToNat, ci, vi, getO_i, vb, Tryd.mpf, vt, vbl, gn0, gn1, gn2, sn0, sn1, sn2, tk5, wr5, hvr, vres, vone]
   have hbl : decide ((blk r).length = (0 : Int)) = decide (blk r = []) := decide_eq_decide.2 (by rw [<- List.length_eq_zero_iff]; omega)
   refine (need_ok _).mono ?_ ?_
   . rintro v T' es ⟨hb, rfl, rfl, rfl⟩
     have hbn : blk r = [] := by have := of_decide_eq_true hb; exact List.length_eq_zero_iff.1 (by omega)
     rw [hpo u r hv, if_pos hbn]
     simp -dsimp +decide (disch := omega) only [vr, ty, en, ↓reduceIte, Nat.reduceSub, Nat.reduceAdd, Nat.reduceMul, Nat.reduceLT, Int.reduceAdd, Int.reduceSub, Int.reduceToNat, ci, vi, getO_i, vb, Tryd.mpf, vt, vbl, gn0, gn1, gn2, sn0, sn1, sn2, tk5, wr5, hvr, hww, vres, vone]
     refine ⟨k1 _ (k1 _ (k1 _ (keeps_nil _) _) _) _, ?_⟩
     rw [k2 _ (k2 _ (k2 _ rfl _ (by omega)) _ (by omega)) _ (by omega)]
     exact Vw.cut ⟨by simp only [parsV, AV.wo, AV.woL, AV.woL_eq, vcr], rfl, rfl⟩
   . rintro v T' es ⟨hb, rfl, rfl, rfl⟩
     have hbn : ¬ blk r = [] := fun e => by have := of_decide_eq_false hb; rw [e] at this; simp at this
     refine ⟨rfl, ?_⟩
     simp -dsimp +decide (disch := omega) only [vr, ty, en, ↓reduceIte, Nat.reduceSub, Nat.reduceAdd, Nat.reduceMul, Nat.reduceLT, Int.reduceAdd, Int.reduceSub, Int.reduceToNat, ci, vi, getO_i, vb, Tryd.mpf, vt, vbl, gn0, gn1, gn2, sn0, sn1, sn2, tk5, wr5, hvr, hww, vres, vone]
     exact hpan 5 (vcs u) [rdr (blk r)] (rec1 (T.length + 2) T.length false []) [bl l, .p (.tuple #[]), .ptr T.length 0, .ptr (T.length + 1) 0, .ptr (T.length + 2) 0] (by rw [hpo u r hv, if_neg hbn]) (vcs_len u) (k1 _ (keeps_nil _) _) (k2 _ rfl _ (Nat.le_refl _)) rfl rfl
 . rintro v T' es ⟨e, r, hv, rfl, rfl, rfl⟩
   rw [sn2]
   simp -dsimp +decide (disch := omega) only [vr, ty, en, ↓reduceIte, Nat.reduceSub, Nat.reduceAdd, Nat.reduceMul, Nat.reduceLT, Int.reduceAdd, Int.reduceSub, Int.reduceToNat, ci, vi, getO_i, vb, Tryd.mpf, vt, vbl, gn0, gn1, gn2, sn0, sn1, sn2]
   have e0 : recE (T.length + 2) [(T.length + 2, false)] [] = [] := if_neg (by omega)
   rw [e0]
   exact hpan e zc [rdr r] [] [bl l, .p (.tuple #[]), .ptr T.length 0, .ptr (T.length + 1) 0, .ptr (T.length + 2) 0] (hpe e hv) rfl (keeps_nil _) rfl rfl rfl
end Go.Proofs.YtglpcedoongagaaDoor
namespace Go.Proofs.YtglpcedoongagaaDoor
open Go.E Go.Proofs.YtglpcedoongagaaDoor.Tryd Go.Proofs.Tryd Go.J Go.Proofs
def fldV (v : JV) (s : B) : Option JV := if v.kind = 5 /\ 0 <= idxS v.names s then v.kids[(idxS v.names s).toNat]? else none
theorem field_ok {T : Tbl} {v : JV} {s : B} (hv : vsz v <= 1099511627776) : CallA prog G 14 [.ag (vcs v), str s] T fun r T' es => (match fldV v s with
 | some x => r = .tu [.ag (vcs x), .p (.bool true)]
 | none => r = .tu [.ag zc, .p (.bool false)]) /\ T' = T /\ es = [] := by
 refine CallA.wfs fun wf => ?_
 have wt := wf.t
 obtain ⟨k, z, t, ks, ns⟩ := v
 have hvz : vsz (.mk k z t ks ns) = 1 + t.length + (ns.map fun x => 1 + x.length).sum + vszL ks := by rw [vsz]
 have hkl := vszL_len ks
 have hnl := nsz_len ns
 have hI := fun U => index_ok (T := U) (a := .vs (ns.map str) ns.length) (ns := ns) (s := s) (by omega) (Sl.vs _ _ (by simp))
 have hr := Sl.rules (Es_vcs T ks).sl (by decide)
 have hld := (Es_vcs T ks).ld (P := prog) (t := 27) (by (simp -dsimp +decide only [vy, vz, vze, vr, ty, en, ↓reduceIte, Nat.reduceSub, Nat.reduceAdd, Nat.reduceMul, Nat.reduceLT, Int.reduceAdd, Int.reduceSub, Int.reduceToNat, ci])) (by (simp -dsimp +decide only [vy, vz, vze, vr, ty, en, ↓reduceIte, Nat.reduceSub, Nat.reduceAdd, Nat.reduceMul, Nat.reduceLT, Int.reduceAdd, Int.reduceSub, Int.reduceToNat, ci])) (by decide)
 have hf : fldV (.mk k z t ks ns) s = if k = 5 /\ 0 <= idxS ns s then ks[(idxS ns s).toNat]? else none := rfl
 rw [hf]
 simp only [vcs, show ∀ l, str l = .p (.string (ba l)) from fun _ => rfl]
 obtain ⟨m, hm⟩ : ∃ m, idxS ns s = m := ⟨_, rfl⟩
 rw [hm] at hI ⊢
 simp only [show ∀ l, str l = .p (.string (ba l)) from fun _ => rfl] at hI
 have t5 : ((k.toNat : Int) = 5) = (k = 5) := propext (u8_num (n := 5) (by decide))
 refine CallA.eV 7 func14 ntmps14 results14 ?_
 simp -dsimp +decide only [vy, vz, vze, vr, ty, en, ↓reduceIte, Nat.reduceSub, Nat.reduceAdd, Nat.reduceMul, Nat.reduceLT, Int.reduceAdd, Int.reduceSub, Int.reduceToNat, ci]
 refine (hI _).det' ?_
 by_cases e5 : k = 5
 . have e5' : (k = 5) = True := eq_true e5
   by_cases h0 : 0 <= m
   . have h0' : (m < 0) = False := eq_false (by omega)
     rw [if_pos ⟨e5, h0⟩]
     by_cases hk : m.toNat < ks.length
     . have hk' : ((ks.length : Int) <= m) = False := eq_false (by omega)
       obtain ⟨x, hx⟩ : ∃ x, ks[m.toNat]? = some x := ⟨_, List.getElem?_eq_getElem hk⟩
       rw [hx]
       obtain ⟨k2, z2, s2, ks2, ns2⟩ := x
       have hv2 : vcs (.mk k2 z2 s2 ks2 ns2) = [by8 k2, .p (.int .i64 z2), .p (.string (ba s2)), .vs (vcsL ks2) ks2.length, .vs (ns2.map str) ns2.length] := by rw [vcs]; rfl
       have hat : List.take 5 (List.drop (m.toNat * 5) (vcsL ks)) = vcs (.mk k2 z2 s2 ks2 ns2) := by rw [vcsL_eq]; exact flat_at (fun x _ => vcs_len x) hx
       have hfl : (vcsL ks).length = ks.length * 5 := by rw [vcsL_eq]; exact flat_len fun x _ => vcs_len x
       simp -dsimp +decide (disch := omega) only [vy, vz, vze, vr, ty, en, ↓reduceIte, Nat.reduceSub, Nat.reduceAdd, Nat.reduceMul, Nat.reduceLT, Int.reduceAdd, Int.reduceSub, Int.reduceToNat, ci, vi, getO_i, vt, t5, e5', h0', hk', gn0, gn1, hr, hld, hx, hat, hv2, wr5, tk5, vres, vone]
       exact ⟨⟨by omega, by omega⟩, Vw.cut ⟨by show _ = _; rw [hv2]; rfl, rfl, rfl⟩⟩
     . have hk' : ((ks.length : Int) <= m) = True := eq_true (by omega)
       have hx : ks[m.toNat]? = none := List.getElem?_eq_none (by omega)
       rw [hx]
       simp -dsimp +decide (disch := omega) only [vy, vz, vze, vr, ty, en, ↓reduceIte, Nat.reduceSub, Nat.reduceAdd, Nat.reduceMul, Nat.reduceLT, Int.reduceAdd, Int.reduceSub, Int.reduceToNat, ci, vi, getO_i, vt, t5, e5', h0', hk', gn0, gn1, wr5, tk5, vres, vone]
       exact Vw.cut ⟨rfl, rfl, rfl⟩
   . have h0' : (m < 0) = True := eq_true (by omega)
     rw [if_neg (fun h => h0 h.2)]
     simp -dsimp +decide (disch := omega) only [vy, vz, vze, vr, ty, en, ↓reduceIte, Nat.reduceSub, Nat.reduceAdd, Nat.reduceMul, Nat.reduceLT, Int.reduceAdd, Int.reduceSub, Int.reduceToNat, ci, vi, getO_i, vt, t5, e5', h0', gn0, gn1, wr5, tk5, vres, vone]
     exact Vw.cut ⟨rfl, rfl, rfl⟩
 . have e5' : (k = 5) = False := eq_false e5
   rw [if_neg (fun h => e5 h.1)]
   simp -dsimp +decide (disch := omega) only [vy, vz, vze, vr, ty, en, ↓reduceIte, Nat.reduceSub, Nat.reduceAdd, Nat.reduceMul, Nat.reduceLT, Int.reduceAdd, Int.reduceSub, Int.reduceToNat, ci, vi, getO_i, vt, t5, e5', gn0, gn1, wr5, tk5, vres, vone]
   exact Vw.cut ⟨rfl, rfl, rfl⟩
mutual
def LOk : JV -> Prop
 | .mk _ _ s ks ns => s.length <= 140737488355328 /\ ks.length <= 140737488355328 /\ ns.length <= 140737488355328 /\ (∀ x ∈ ns, x.length <= 140737488355328) /\ LOkL ks
def LOkL : List JV -> Prop
 | [] => True
 | v :: r => LOk v /\ LOkL r
end
theorem LOkL_mem : ∀ {l : List JV} {x : JV}, LOkL l -> x ∈ l -> LOk x
 | y :: r, x, h, hx => by
   rw [LOkL] at h
   rcases List.mem_cons.1 hx with rfl | hx
   . exact h.1
   . exact LOkL_mem h.2 hx
def nsum (l : List B) : Nat := (l.map fun x => 1 + x.length).sum
theorem nsum_snoc (l : List B) (x : B) : nsum (l ++ [x]) = nsum l + (1 + x.length) := by simp [nsum]
theorem vszL_snoc (x : JV) : ∀ l : List JV, vszL (l ++ [x]) = vszL l + vsz x
 | [] => by rw [List.nil_append, vszL, vszL, vszL]; omega
 | y :: r => by rw [List.cons_append, vszL, vszL, vszL_snoc x r]; omega
def SizeOk (deep : Nat) : Prop := ∀ (T : Tbl) (v : JV), LOk v -> CallA prog G 23 [.ag (vcs v), wint 2000, wint (deep : Int)] T fun r T' es => (∃ n : Nat, r = wint (n : Int) /\ n <= 140737488359329 + 2001 * deep /\ (n <= 2000 -> vsz v <= n)) /\ T' = T /\ es = []
theorem size_step (deep : Nat) (hd : deep <= 1000) (hrec : ∀ m, deep = m + 1 -> SizeOk m) : SizeOk deep := by
 intro T v hv
 refine CallA.wfs fun wf => ?_
 have wt := wf.t
 obtain ⟨k, z, t, ks, ns⟩ := v
 have hvz : vsz (.mk k z t ks ns) = 1 + t.length + nsum ns + vszL ks := by rw [vsz]; rfl
 rw [LOk] at hv
 obtain ⟨h1, h2, h3, h4, h5⟩ := hv
 have hr := Sl.rules (Es_vcs T ks).sl (by decide)
 have hld := (Es_vcs T ks).ld (P := prog) (t := 27) (by (simp -dsimp +decide only [vy, vz, vze, vr, ty, en, ↓reduceIte, Nat.reduceSub, Nat.reduceAdd, Nat.reduceMul, Nat.reduceLT, Int.reduceAdd, Int.reduceSub, Int.reduceToNat, ci])) (by (simp -dsimp +decide only [vy, vz, vze, vr, ty, en, ↓reduceIte, Nat.reduceSub, Nat.reduceAdd, Nat.reduceMul, Nat.reduceLT, Int.reduceAdd, Int.reduceSub, Int.reduceToNat, ci])) (by decide)
 have hldn := Sl.loads (Sl.vs (ns.map str) ns.length (by simp) : Sl T 1 _ _ _) (P := prog) (t := 9) (by (simp -dsimp +decide only [vy, vz, vze, vr, ty, en, ↓reduceIte, Nat.reduceSub, Nat.reduceAdd, Nat.reduceMul, Nat.reduceLT, Int.reduceAdd, Int.reduceSub, Int.reduceToNat, ci]))
 simp only [vcs, show ∀ l, str l = .p (.string (ba l)) from fun _ => rfl]
 have hbs := ba_size t
 by_cases hd0 : deep = 0
 . subst hd0
   refine CallA.eV 10 func23 ntmps23 results23 ?_
   simp -dsimp +decide only [vy, vz, vze, vr, ty, en, ↓reduceIte, Nat.reduceSub, Nat.reduceAdd, Nat.reduceMul, Nat.reduceLT, Int.reduceAdd, Int.reduceSub, Int.reduceToNat, ci]
   simp -dsimp +decide (disch := omega) only [vy, vz, vze, vr, ty, en, ↓reduceIte, Nat.reduceSub, Nat.reduceAdd, Nat.reduceMul, Nat.reduceLT, Int.reduceAdd, Int.reduceSub, Int.reduceToNat, ci, vi, getO_i, vt, gn0, gn1, hbs]
   exact Vw.cut ⟨⟨2001, rfl, by omega, fun h => absurd h (by decide)⟩, rfl, rfl⟩
 obtain ⟨m, rfl⟩ : ∃ m, deep = m + 1 := ⟨deep - 1, by omega⟩
 have hd0' : (((m + 1 : Nat) : Int) = 0) = False := eq_false (by omega)
 refine CallA.eV 10 func23 ntmps23 results23 ?_
 simp -dsimp +decide only [vy, vz, vze, vr, ty, en, ↓reduceIte, Nat.reduceSub, Nat.reduceAdd, Nat.reduceMul, Nat.reduceLT, Int.reduceAdd, Int.reduceSub, Int.reduceToNat, ci]
 simp -dsimp +decide (disch := omega) only [vy, vz, vze, vr, ty, en, ↓reduceIte, Nat.reduceSub, Nat.reduceAdd, Nat.reduceMul, Nat.reduceLT, Int.reduceAdd, Int.reduceSub, Int.reduceToNat, ci, vi, getO_i, vt, gn0, gn1, hbs, hd0']
 have hn0 : ((1 + t.length : Nat) : Int) = 1 + (t.length : Int) := by omega
 refine SemA.loopE (fun q : Nat × Nat => [(1, wint 2000), (2, wint ((m + 1 : Nat) : Int)), (3, .ptr T.length 0), (7, wint (q.2 : Int)), (8, wint (q.1 : Int))])
  (fun _ => T ++ [.cells 27 [.p (.int .u8 (k.toNat : Int)), .p (.int .i64 z), .p (.string (ba t)), .vs (vcsL ks) ks.length, .vs (ns.map str) ns.length]])
  (fun q => q.1 <= ns.length /\ q.2 <= 140737488359329 /\ q.2 = 1 + t.length + nsum (ns.take q.1)) (fun q => ns.length - q.1) (0, 1 + t.length) [] 0
  (fun n : Nat => [(1, wint 2000), (2, wint ((m + 1 : Nat) : Int)), (3, .ptr T.length 0), (7, wint (n : Int))])
  (fun _ => T ++ [.cells 27 [.p (.int .u8 (k.toNat : Int)), .p (.int .i64 z), .p (.string (ba t)), .vs (vcsL ks) ks.length, .vs (ns.map str) ns.length]])
  (fun n => n <= 140737488359329 /\ (n <= 2000 -> n = 1 + t.length + nsum ns)) ⟨by simp, by dsimp only; omega, by simp [nsum]⟩ ⟨rfl, rfl, rfl, by rw [hn0]; rfl, rfl, rfl⟩ rfl (by simp) ?_ ?_
 . rintro ⟨i, n⟩ g ⟨hi, hnb, hn⟩
   dsimp only at hi hnb hn
   refine SemA.o ?_
   by_cases hlt : i < ns.length
   . have hlt' : ((i : Int) < (ns.length : Int)) = True := eq_true (by omega)
     by_cases hn2 : n <= 2000
     . have hn2' : ((n : Int) <= 2000) = True := eq_true (by omega)
       obtain ⟨y, hy⟩ : ∃ y, ns[i]? = some y := ⟨ns[i], by simp⟩
       have hym : (ns.map str)[i]? = some (.p (.string (ba y))) := by rw [List.getElem?_map, hy]; rfl
       have hyl := h4 y (List.mem_of_getElem? hy)
       have hys := ba_size y
       have hns : nsum (ns.take (i + 1)) = nsum (ns.take i) + (1 + y.length) := by rw [List.take_add_one, hy]; exact nsum_snoc _ _
       simp -dsimp +decide (disch := omega) only [vy, vz, vze, vr, ty, en, ↓reduceIte, Nat.reduceSub, Nat.reduceAdd, Nat.reduceMul, Nat.reduceLT, Int.reduceAdd, Int.reduceSub, Int.reduceToNat, ci, vi, getO_i, vt, gn0, gn1, hlt', hn2', hldn, hym, hys]
       exact ⟨⟨by omega, by intro e; rw [e] at hym; cases hym⟩, (i + 1, n + 1 + y.length), ⟨⟨by dsimp only; omega, by dsimp only; omega, by dsimp only; omega⟩, by dsimp only; omega⟩, by dsimp only; rw [show ((n + 1 + y.length : Nat) : Int) = (n : Int) + 1 + (y.length : Int) by omega], rfl⟩
     . have hn2' : ((n : Int) <= 2000) = False := eq_false (by omega)
       simp -dsimp +decide (disch := omega) only [vy, vz, vze, vr, ty, en, ↓reduceIte, Nat.reduceSub, Nat.reduceAdd, Nat.reduceMul, Nat.reduceLT, Int.reduceAdd, Int.reduceSub, Int.reduceToNat, ci, vi, getO_i, vt, gn0, gn1, hlt', hn2']
       exact ⟨n, ⟨hnb, fun h => absurd h hn2⟩, rfl⟩
   . have hlt' : ((i : Int) < (ns.length : Int)) = False := eq_false (by omega)
     rw [List.take_of_length_le (by omega)] at hn
     simp -dsimp +decide (disch := omega) only [vy, vz, vze, vr, ty, en, ↓reduceIte, Nat.reduceSub, Nat.reduceAdd, Nat.reduceMul, Nat.reduceLT, Int.reduceAdd, Int.reduceSub, Int.reduceToNat, ci, vi, getO_i, vt, gn0, gn1, hlt']
     exact ⟨n, ⟨hnb, fun _ => by omega⟩, rfl⟩
 . rintro n0 g tmp ⟨hnb0, hn0'⟩
   simp -dsimp +decide (disch := omega) only [vy, vz, vze, vr, ty, en, ↓reduceIte, Nat.reduceSub, Nat.reduceAdd, Nat.reduceMul, Nat.reduceLT, Int.reduceAdd, Int.reduceSub, Int.reduceToNat, ci, vi, getO_i, vt]
   refine SemA.loopE (fun q : Nat × Nat => [(1, wint 2000), (2, wint ((m + 1 : Nat) : Int)), (3, .ptr T.length 0), (7, wint (q.2 : Int)), (9, wint (q.1 : Int))])
    (fun _ => T ++ [.cells 27 [.p (.int .u8 (k.toNat : Int)), .p (.int .i64 z), .p (.string (ba t)), .vs (vcsL ks) ks.length, .vs (ns.map str) ns.length]])
    (fun q => q.1 <= ks.length /\ q.2 <= 140737488359329 + 2001 * (m + 1) /\ (q.2 <= 2000 -> 1 + t.length + nsum ns + vszL (ks.take q.1) <= q.2)) (fun q => ks.length - q.1) (0, n0) [] 2
    (fun n : Nat => [(7, wint (n : Int))])
    (fun _ => T ++ [.cells 27 [.p (.int .u8 (k.toNat : Int)), .p (.int .i64 z), .p (.string (ba t)), .vs (vcsL ks) ks.length, .vs (ns.map str) ns.length]])
    (fun n => n <= 140737488359329 + 2001 * (m + 1) /\ (n <= 2000 -> vsz (.mk k z t ks ns) <= n)) ⟨by simp, by dsimp only; omega, fun h => by have := hn0' h; simp [vszL]; omega⟩ ⟨rfl, rfl, rfl, rfl, rfl, rfl⟩ rfl (by simp) ?_ ?_
   . rintro ⟨i, n⟩ g ⟨hi, hnb, hn⟩
     dsimp only at hi hnb hn
     refine SemA.o ?_
     by_cases hlt : i < ks.length
     . have hlt' : ((i : Int) < (ks.length : Int)) = True := eq_true (by omega)
       by_cases hn2 : n <= 2000
       . have hn2' : ((n : Int) <= 2000) = True := eq_true (by omega)
         obtain ⟨x, hx⟩ : ∃ x, ks[i]? = some x := ⟨ks[i], by simp⟩
         have hvs : vszL (ks.take (i + 1)) = vszL (ks.take i) + vsz x := by rw [List.take_add_one, hx]; exact vszL_snoc _ _
         have hm1 : ((m + 1 : Nat) : Int) - 1 = (m : Int) := by omega
         have hc := hrec m rfl (T ++ [.cells 27 [.p (.int .u8 (k.toNat : Int)), .p (.int .i64 z), .p (.string (ba t)), .vs (vcsL ks) ks.length, .vs (ns.map str) ns.length]]) x (LOkL_mem h5 (List.mem_of_getElem? hx))
         simp -dsimp +decide (disch := omega) only [vy, vz, vze, vr, ty, en, ↓reduceIte, Nat.reduceSub, Nat.reduceAdd, Nat.reduceMul, Nat.reduceLT, Int.reduceAdd, Int.reduceSub, Int.reduceToNat, ci, vi, getO_i, vt, gn0, gn1, hlt', hn2', hr, hld, hx, hm1]
         refine ⟨by omega, ?_⟩
         refine hc.mono ?_
         rintro r T' es ⟨⟨n1, rfl, hb1, hv1⟩, rfl, rfl⟩
         simp -dsimp +decide (disch := omega) only [vy, vz, vze, vr, ty, en, ↓reduceIte, Nat.reduceSub, Nat.reduceAdd, Nat.reduceMul, Nat.reduceLT, Int.reduceAdd, Int.reduceSub, Int.reduceToNat, ci, vi, getO_i, vt]
         exact ⟨(i + 1, n + n1), ⟨⟨by dsimp only; omega, by dsimp only; omega, fun h => by dsimp only at h ⊢; have := hv1 (by omega); have := hn hn2; omega⟩, by dsimp only; omega⟩, by dsimp only; rw [show ((n + n1 : Nat) : Int) = (n : Int) + (n1 : Int) by omega], rfl⟩
       . have hn2' : ((n : Int) <= 2000) = False := eq_false (by omega)
         simp -dsimp +decide (disch := omega) only [vy, vz, vze, vr, ty, en, ↓reduceIte, Nat.reduceSub, Nat.reduceAdd, Nat.reduceMul, Nat.reduceLT, Int.reduceAdd, Int.reduceSub, Int.reduceToNat, ci, vi, getO_i, vt, gn0, gn1, hlt', hn2']
         exact ⟨n, ⟨hnb, fun h => absurd h hn2⟩, rfl⟩
     . have hlt' : ((i : Int) < (ks.length : Int)) = False := eq_false (by omega)
       rw [List.take_of_length_le (by omega)] at hn
       simp -dsimp +decide (disch := omega) only [vy, vz, vze, vr, ty, en, ↓reduceIte, Nat.reduceSub, Nat.reduceAdd, Nat.reduceMul, Nat.reduceLT, Int.reduceAdd, Int.reduceSub, Int.reduceToNat, ci, vi, getO_i, vt, gn0, gn1, hlt']
       exact ⟨n, ⟨hnb, fun h => by rw [hvz]; exact hn h⟩, rfl⟩
   . rintro n g tmp ⟨hnb, hn⟩
     simp -dsimp +decide (disch := omega) only [vy, vz, vze, vr, ty, en, ↓reduceIte, Nat.reduceSub, Nat.reduceAdd, Nat.reduceMul, Nat.reduceLT, Int.reduceAdd, Int.reduceSub, Int.reduceToNat, ci, vi, getO_i, vt]
     exact Vw.cut ⟨⟨n, rfl, hnb, hn⟩, rfl, rfl⟩
theorem size_all : ∀ d, d <= 1000 -> SizeOk d
 | 0, h => size_step 0 h (fun _ e => nomatch e)
 | d + 1, h => size_step (d + 1) h (fun m e => by cases e; exact size_all d (by omega))
theorem vast_ok {T : Tbl} {v : JV} (hv : LOk v) : CallA prog G 12 [.ag (vcs v)] T fun r T' es => (∃ b : Bool, r = .p (.bool b) /\ (b = false -> vsz v <= 2000)) /\ T' = T /\ es = [] := by
 have hs := fun U => size_all 30 (by decide) U v hv
 obtain ⟨k, z, t, ks, ns⟩ := v
 simp only [vcs, show ∀ l, str l = .p (.string (ba l)) from fun _ => rfl] at hs ⊢
 refine CallA.eV 5 func12 ntmps12 results12 ?_
 simp -dsimp +decide only [vy, vz, vze, vr, ty, en, ↓reduceIte, Nat.reduceSub, Nat.reduceAdd, Nat.reduceMul, Nat.reduceLT, Int.reduceAdd, Int.reduceSub, Int.reduceToNat, ci]
 simp -dsimp +decide (disch := omega) only [vy, vz, vze, vr, ty, en, ↓reduceIte, Nat.reduceSub, Nat.reduceAdd, Nat.reduceMul, Nat.reduceLT, Int.reduceAdd, Int.reduceSub, Int.reduceToNat, ci, vi, getO_i, vt, tk5]
 refine (hs _).mono ?_
 rintro r T' es ⟨⟨n, rfl, hb, hn⟩, rfl, rfl⟩
 simp -dsimp +decide (disch := omega) only [vy, vz, vze, vr, ty, en, ↓reduceIte, Nat.reduceSub, Nat.reduceAdd, Nat.reduceMul, Nat.reduceLT, Int.reduceAdd, Int.reduceSub, Int.reduceToNat, ci, vi, getO_i, vt]
 refine Vw.cut ⟨⟨_, rfl, fun h => ?_⟩, rfl, rfl⟩
 have h := of_decide_eq_false h
 have := hn (by omega); omega
end Go.Proofs.YtglpcedoongagaaDoor
namespace Go.Proofs.YtglpcedoongagaaDoor
open Go.E Go.Proofs.YtglpcedoongagaaDoor.Tryd Go.Proofs.Tryd Go.J Go.Proofs
theorem CallA.weak1 {P : Program} {G : Nat -> AV} {f : FuncId} {a a' : AV} {T : Tbl} {K : AV -> Tbl -> Eff -> Prop} (h : ∀ (Z : Heap) (ρ : List BI) (x : Value), Rel Z ρ a x -> Rel Z ρ a' x) (hc : CallA P G f [a'] T K) : CallA P G f [a] T K := by
 intro Z ρ w vs hG hs ha
 obtain ⟨v1, us, rfl, r1, ha⟩ := ha.uncons
 obtain rfl := ha.unnil
 exact hc Z ρ w _ hG hs (.cons (h _ _ _ r1) .nil)
theorem CallA.weak2 {P : Program} {G : Nat -> AV} {f : FuncId} {a a' b b' : AV} {T : Tbl} {K : AV -> Tbl -> Eff -> Prop} (h : ∀ (Z : Heap) (ρ : List BI) (x : Value), Rel Z ρ a x -> Rel Z ρ a' x) (h2 : ∀ (Z : Heap) (ρ : List BI) (x : Value), Rel Z ρ b x -> Rel Z ρ b' x) (hc : CallA P G f [a', b'] T K) : CallA P G f [a, b] T K := by
 intro Z ρ w vs hG hs ha
 obtain ⟨v1, us, rfl, r1, ha⟩ := ha.uncons
 obtain ⟨v2, us, rfl, r2, ha⟩ := ha.uncons
 obtain rfl := ha.unnil
 exact hc Z ρ w _ hG hs (.cons (h _ _ _ r1) (.cons (h2 _ _ _ r2) .nil))
theorem vs_weak {cs ds : List AV} {n : Nat} (hl : cs.length = ds.length) (h : ∀ (Z : Heap) (k : Nat) (a b : AV) (x : Value), cs[k]? = some a -> ds[k]? = some b -> Rel Z [] a x -> Rel Z [] b x) : ∀ (Z : Heap) (ρ : List BI) (x : Value), Rel Z ρ (.vs cs n) x -> Rel Z ρ (.vs ds n) x := by
 intro Z ρ x hr
 cases hr with
 | vs0 h0 hc =>
   refine .vs0 ?_ hc
   rcases h0 with h0 | h0
   . subst h0
     exact .inl (List.eq_nil_of_length_eq_zero hl.symm)
   . exact .inr h0
 | @vs _ _ _ m b o c T fr f hm hb hc hr =>
   refine .vs (f := f) hm hb (fun k hk => hc k (by omega)) fun k hk => ?_
   exact h Z k cs[k] ds[k] _ (List.getElem?_eq_getElem (by omega)) (List.getElem?_eq_getElem hk) (hr k (by omega))
end Go.Proofs.YtglpcedoongagaaDoor
namespace Go.Proofs.YtglpcedoongagaaDoor
open Go.E Go.Proofs.YtglpcedoongagaaDoor.Tryd Go.Proofs.Tryd Go.J Go.Proofs
mutual
def dJ : JV -> Dat
 | .mk k z s ks ns => .ag [.i .u8 (k.toNat : Int), .i .i64 z, .s (ba s), .sl (dJs ks), .sl (ns.map fun x => .s (ba x))]
def dJs : List JV -> List Dat
 | [] => []
 | v :: r => dJ v :: dJs r
end
theorem dJs_eq : ∀ l : List JV, dJs l = l.map dJ
 | [] => by rw [dJs]; rfl
 | v :: r => by rw [dJs, dJs_eq r]; rfl
theorem names_avs : ∀ l : List B, Dat.avsL (l.map fun x => Dat.s (ba x)) = l.map str
 | [] => by rw [List.map_nil, Dat.avsL]; rfl
 | x :: r => by rw [List.map_cons, Dat.avsL, names_avs r, Dat.avs]; rfl
mutual
theorem dJ_avs : ∀ v : JV, (dJ v).avs = vcs v
 | .mk k z s ks ns => by
   have h := dJs_avs ks
   rw [dJ, Dat.avs, vcs]
   simp only [Dat.avsL, Dat.avs, List.append_nil, List.cons_append, List.nil_append]
   rw [h, names_avs, dJs_eq, List.length_map, List.length_map]; rfl
theorem dJs_avs : ∀ l : List JV, Dat.avsL (dJs l) = vcsL l
 | [] => by rw [dJs, Dat.avsL, vcsL]
 | v :: r => by rw [dJs, Dat.avsL, vcsL, dJ_avs v, dJs_avs r]
end
theorem open_alls {α : Type} {Q : Dat -> Prop} {f : α -> Dat} {R : α -> Prop} (h1 : ∀ d, Q d -> ∃ a, d = f a /\ R a) : ∀ {l : List Dat}, (∀ d ∈ l, Q d) -> ∃ zs : List α, l = zs.map f /\ ∀ z ∈ zs, R z
 | [], _ => ⟨[], rfl, fun _ h => nomatch h⟩
 | d :: l, h => by
   obtain ⟨a, rfl, hr⟩ := h1 d (h d (by simp))
   obtain ⟨zs, rfl, hz⟩ := open_alls h1 (l := l) fun x hx => h x (by simp [hx])
   exact ⟨a :: zs, rfl, fun z hzm => (List.mem_cons.1 hzm).elim (fun e => e ▸ hr) fun hzm => hz z hzm⟩
theorem LOkL_all : ∀ {l : List JV}, (∀ x ∈ l, LOk x) -> LOkL l
 | [], _ => by rw [LOkL]; trivial
 | y :: r, h => by rw [LOkL]; exact ⟨h y (by simp), LOkL_all fun x hx => h x (by simp [hx])⟩
theorem open_jv : ∀ (n : Nat) (d : Dat), SizeOf.sizeOf d < n -> HasT prog 27 d -> ∃ v : JV, d = dJ v /\ LOk v /\ ∀ m, fits m v
 | 0, d, h, _ => absurd h (Nat.not_lt_zero _)
 | n + 1, d, hn, h => by
   obtain ⟨l, rfl, hl, hf⟩ := h.struct Tryd.underlying27
   match l, hl with
   | [dd0, dd1, dd2, dd3, dd4], _ =>
     obtain ⟨k, rfl⟩ := open_u8 Tryd.underlying5 dd0 (hf 0 _ dd0 rfl rfl)
     obtain ⟨z, rfl, hz⟩ := (hf 1 _ dd1 rfl rfl).int Tryd.underlying2
     obtain ⟨s, rfl, hs⟩ := (hf 2 _ dd2 rfl rfl).str Tryd.underlying9
     obtain ⟨kl, rfl, hkl, hk⟩ := (hf 3 _ dd3 rfl rfl).slice Tryd.underlying24
     obtain ⟨nl, rfl, hnl, hn2⟩ := (hf 4 _ dd4 rfl rfl).slice Tryd.underlying25
     obtain ⟨ks, rfl, hks⟩ := open_alls (Q := fun x => HasT prog 27 x /\ SizeOf.sizeOf x < n) (f := dJ) (R := fun v => LOk v /\ ∀ m, fits m v) (fun d hd => open_jv n d hd.2 hd.1) (l := kl) (fun x hx => ⟨hk x hx, by
      have := List.sizeOf_lt_of_mem hx
      simp only [Dat.ag.sizeOf_spec, Dat.sl.sizeOf_spec, List.cons.sizeOf_spec, List.nil.sizeOf_spec] at hn
      omega⟩)
     obtain ⟨ns, rfl, hns⟩ := open_alls (Q := fun x => HasT prog 9 x) (f := fun x : B => Dat.s (ba x)) (R := fun x : B => x.length <= 140737488355328) (fun d hd => by
      obtain ⟨s, rfl, hs⟩ := hd.str Tryd.underlying9
      exact ⟨s.data.toList, rfl, by unfold reachBytes at hs; have : s.data.toList.length = s.size := Array.length_toList; omega⟩) (l := nl) hn2
     have b1 : prog.bytesOf 27 = 80 := by kernel_rfl
     have b2 : prog.bytesOf 9 = 16 := by kernel_rfl
     rw [b1, List.length_map] at hkl
     rw [b2, List.length_map] at hnl
     unfold reachBytes at hs hkl hnl
     have hz' : -9223372036854775808 <= z /\ z <= 9223372036854775807 := by simpa [Lit.wf, IntKind.min, IntKind.max, IntKind.signed, IntKind.bits] using hz
     have hsl : s.data.toList.length = s.size := Array.length_toList
     refine ⟨.mk k z s.data.toList ks ns, ?_, ?_, ?_⟩
     . rw [dJ, dJs_eq]; rfl
     . rw [LOk]
       exact ⟨by omega, by omega, by omega, hns, LOkL_all fun x hx => (hks x hx).1⟩
     . have hw : wide (.mk k z s.data.toList ks ns) := by
        show -2 ^ 63 <= z /\ z < 2 ^ 63
        have : (2 : Int) ^ 63 = 9223372036854775808 := rfl
        rw [this]; omega
       intro m
       cases m with
       | zero => exact hw
       | succ m => exact ⟨hw, fun x hx => (hks x hx).2 m⟩
theorem open_jvA {d : Dat} (h : HasT prog 27 d) : ∃ v : JV, d.arg = .ag (vcs v) /\ LOk v /\ ∀ m, fits m v := by
 obtain ⟨v, rfl, h1, h2⟩ := open_jv _ d (Nat.lt_succ_self _) h
 refine ⟨v, ?_, h1, h2⟩
 rw [<- dJ_avs]
 obtain ⟨k, z, s, ks, ns⟩ := v
 rw [dJ, Dat.arg, Dat.avs, Dat.avsL_eq]
end Go.Proofs.YtglpcedoongagaaDoor
namespace Go.Proofs.YtglpcedoongagaaDoor
open Go.ChangeShapes Go.WideShapes Go.ChangeAt Go.RowKit Go.E Go.Proofs.YtglpcedoongagaaDoor.Tryd Go.Proofs.Tryd
theorem own : ownKnob prog.godebug = none := by kernel_rfl
theorem laidOut : laidOutB prog = true := by kernel_rfl
theorem g64 : prog.globalNamed "math/bits.deBruijn64tab" = some 7 := by kernel_rfl
theorem gpw : prog.globalNamed "internal/strconv.uint64pow10" = some 4 := by kernel_rfl
theorem gac : prog.globalNamed "unicode/utf8.acceptRanges" = some 1 := by kernel_rfl
theorem ger : prog.globalNamed "strconv.ErrRange" = some 3 := by kernel_rfl
theorem gfi : prog.globalNamed "unicode/utf8.first" = some 0 := by kernel_rfl
theorem starE : "*" ++ "errors.errorString" = "*errors.errorString" := by decide
theorem only (u : TypeId) (h : prog.typeName? 3 u = some "*errors.errorString") : u = 121 :=
 typeName_ptr_named (nm := "errors.errorString") (by rw [starE]; kernel_rfl) (by kernel_rfl) (by decide) u (by rw [starE]; exact h)
theorem gdat {W : World} {n : String} {t0 : TypeId} {g : Nat} {cs : Array Value} {fuel : Nat} {d : DataW Unit} {p : List MemPlace} {ts : List TypeId} (hc : closedT prog ts = true) (hg : prog.globalNamed n = some g) (hv : W.var? prog n = some cs) (ht : t0 ∈ ts)
 (hd : DataW.trod (fun _ => ()) prog W 0 (fun _ => true) false fuel t0 cs.toList = some (d, p)) (hw : (d.weights prog t0).all (· <= reachBytes) = true) (hne : decide (0 < prog.cellsOf t0) = true) : Rel (wholeH W) [] (.vp (toD d).avs 0) (.pointer (some ⟨g, 0, none⟩)) := by
 obtain ⟨dd, -, h2, h3, rfl⟩ := trod_dat hc fuel t0 cs.toList (d, p) ht hd (fun n hn => by simpa using List.all_eq_true.1 hw n hn)
 have hrd : Rd W (some ⟨g, 0, none⟩) cs.toList := by
  refine .inr ⟨_, rfl, rfl, fun k v hk => ?_⟩
  have := World.var?_cell hg hv k
  rw [add_plain rfl]
  simp only [Nat.zero_add]
  rw [this]
  simpa using hk
 exact rel_vp0 h2 (by intro e; rw [e] at h3; have := of_decide_eq_true hne; simp at h3; omega) (arr_holds (wholeH_whole W) hrd)
theorem gok {W : World} (h : laidMetH prog [("math/bits.deBruijn32tab", Rows.laid_math_bits_deBruijn32tab), ("math/bits.deBruijn64tab", Rows.laid_math_bits_deBruijn64tab), ("internal/strconv.uint64pow10", Rows.laid_internal_strconv_uint64pow10), ("unicode/utf8.acceptRanges", Rows.laid_unicode_utf8_acceptRanges), ("strconv.ErrRange", Rows.laid_strconv_ErrRange), ("strconv.ErrSyntax", Rows.laid_strconv_ErrSyntax), ("unicode/utf8.first", Rows.laid_unicode_utf8_first)] W) : GOK G (wholeH W) := by
 rw [MakeChecks.laidMetH_plain _ _ _ (by kernel_rfl)] at h
 obtain ⟨ps, ⟨g0, t0, cs0, f0, p0, q0, hg0, ht0, hv0, hd0, ⟨g1, t1, cs1, f1, p1, q1, hg1, ht1, hv1, hd1, ⟨g2, t2, cs2, f2, p2, q2, hg2, ht2, hv2, hd2, ⟨g3, t3, cs3, f3, p3, q3, hg3, ht3, hv3, hd3, ⟨g4, t4, cs4, f4, p4, q4, hg4, ht4, hv4, hd4, ⟨g5, t5, cs5, f5, p5, q5, hg5, ht5, hv5, hd5, ⟨g6, t6, cs6, f6, p6, q6, hg6, ht6, hv6, hd6, _⟩, _⟩, _⟩, _⟩, _⟩, _⟩, _⟩, _, _⟩ := h
 obtain rfl := Option.some.inj (g64.symm.trans hg1)
 obtain rfl := Option.some.inj (gpw.symm.trans hg2)
 obtain rfl := Option.some.inj (gac.symm.trans hg3)
 obtain rfl := Option.some.inj (ger.symm.trans hg4)
 obtain rfl := Option.some.inj (gfi.symm.trans hg6)
 obtain rfl := Option.some.inj ((show (prog.globals[7]?).map (·.type) = some 127 by kernel_rfl).symm.trans ht1)
 obtain rfl := Option.some.inj ((show (prog.globals[4]?).map (·.type) = some 116 by kernel_rfl).symm.trans ht2)
 obtain rfl := Option.some.inj ((show (prog.globals[1]?).map (·.type) = some 91 by kernel_rfl).symm.trans ht3)
 obtain rfl := Option.some.inj ((show (prog.globals[3]?).map (·.type) = some 73 by kernel_rfl).symm.trans ht4)
 obtain rfl := Option.some.inj ((show (prog.globals[0]?).map (·.type) = some 88 by kernel_rfl).symm.trans ht6)
 have r1 := gdat (ts := [127, 5]) (by kernel_rfl) g64 hv1 (by simp) hd1 (by kernel_rfl) (by kernel_rfl)
 have r2 := gdat (ts := [116, 86]) (by kernel_rfl) gpw hv2 (by simp) hd2 (by kernel_rfl) (by kernel_rfl)
 have r3 := gdat (ts := [91, 90, 5]) (by kernel_rfl) gac hv3 (by simp) hd3 (by kernel_rfl) (by kernel_rfl)
 have r6 := gdat (ts := [88, 5]) (by kernel_rfl) gfi hv6 (by simp) hd6 (by kernel_rfl) (by kernel_rfl)
 rw [show (toD Rows.laid_math_bits_deBruijn64tab).avs = dbjL.map by8 by kernel_rfl] at r1
 rw [show (toD Rows.laid_internal_strconv_uint64pow10).avs = powL by kernel_rfl] at r2
 rw [show (toD Rows.laid_unicode_utf8_acceptRanges).avs = accL.map by8 by kernel_rfl] at r3
 rw [show (toD Rows.laid_unicode_utf8_first).avs = firL.map by8 by kernel_rfl] at r6
 have r4 : Rel (wholeH W) [] (.vp [.ic 121 .any] 0) (.pointer (some ⟨3, 0, none⟩)) := by
  have hu : ∃ ms, prog.underlying 73 = some (.interface ms) := by
   have : (match prog.underlying 73 with | some (.interface _) => true | _ => false) = true := by kernel_rfl
   split at this
   . rename_i ms h; exact ⟨ms, h⟩
   . cases this
  obtain ⟨ms, hu⟩ := hu
  obtain ⟨v, hcs⟩ : ∃ v, cs4.toList = [.iface 121 v] := by
   cases f4 with
   | zero => simp [DataW.trod] at hd4
   | succ f =>
     unfold DataW.trod at hd4
     rw [hu] at hd4
     dsimp only at hd4
     generalize cs4.toList = l at hd4 ⊢
     rcases l with _ | ⟨v, _ | ⟨y, r⟩⟩
     . simp at hd4
     . cases v with
       | iface u x =>
         dsimp only at hd4
         cases hn : prog.typeName? 3 u with
         | none => rw [hn] at hd4; cases hd4
         | some name =>
           rw [hn] at hd4
           dsimp only at hd4
           obtain ⟨z, -, he⟩ := Option.map_eq_some_iff.1 hd4
           have he := (Prod.mk.inj he).1
           have hname : name = "*errors.errorString" := (DataW.iface.inj he).1
           rw [hname] at hn
           exact ⟨x, by rw [only u hn]⟩
       | nilIface => exact absurd (Prod.mk.inj (Option.some.inj hd4)).1 (fun e => by cases e)
       | _ => simp at hd4
     . simp at hd4
  have hrd : Rd W (some ⟨3, 0, none⟩) cs4.toList := by
   refine .inr ⟨_, rfl, rfl, fun k v hk => ?_⟩
   have := World.var?_cell ger hv4 k
   rw [add_plain rfl]
   simp only [Nat.zero_add]
   rw [this]
   simpa using hk
  rw [hcs] at hrd
  exact rel_vp0 (.cons (.ic (.any v)) .nil) (by simp) (arr_holds (wholeH_whole W) hrd)
 intro g
 unfold G
 split
 . rename_i h0; subst h0; exact r6
 split
 . rename_i h0; subst h0; exact r3
 split
 . rename_i h0; subst h0; exact r2
 split
 . rename_i h0; subst h0; exact r1
 split
 . rename_i h0; subst h0; exact r4
 . exact .p _
theorem laid_met (os : Os) (args : Array Value) : laidMetH prog [("math/bits.deBruijn32tab", Rows.laid_math_bits_deBruijn32tab), ("math/bits.deBruijn64tab", Rows.laid_math_bits_deBruijn64tab), ("internal/strconv.uint64pow10", Rows.laid_internal_strconv_uint64pow10), ("unicode/utf8.acceptRanges", Rows.laid_unicode_utf8_acceptRanges), ("strconv.ErrRange", Rows.laid_strconv_ErrRange), ("strconv.ErrSyntax", Rows.laid_strconv_ErrSyntax), ("unicode/utf8.first", Rows.laid_unicode_utf8_first)] ((World.laidAll prog os [("math/bits.deBruijn32tab", Rows.laid_math_bits_deBruijn32tab), ("math/bits.deBruijn64tab", Rows.laid_math_bits_deBruijn64tab), ("internal/strconv.uint64pow10", Rows.laid_internal_strconv_uint64pow10), ("unicode/utf8.acceptRanges", Rows.laid_unicode_utf8_acceptRanges), ("strconv.ErrRange", Rows.laid_strconv_ErrRange), ("strconv.ErrSyntax", Rows.laid_strconv_ErrSyntax), ("unicode/utf8.first", Rows.laid_unicode_utf8_first)]).forCall (fun _ _ => 0) ⟨#[], args, []⟩).memory := by
 rw [MakeChecks.laidMetH_plain _ _ _ (by kernel_rfl)]; exact laidMet_laidAll _ (by kernel_rfl) (by kernel_rfl)
end Go.Proofs.YtglpcedoongagaaDoor
namespace Go.J
def exV : JV := vList [vNum 1, vText [97, 10], vNull]
theorem dn1 : dn 1 = [49] := by rw [dn]; rfl
theorem exV_prt : prt 8 exV = [91, 49, 44, 34, 97, 92, 110, 34, 44, 110, 117, 108, 108, 93] := by
 have h : prt 8 exV = 91 :: (joinC [numS 1, quote [97, 10], [110, 117, 108, 108]] ++ [93]) := by rfl
 rw [h, show numS 1 = dn 1 from rfl, dn1]
 rfl
theorem nam_nil (l : B) : nam [] l = if (blk l).head? = some 34 then (match txtF (blk l).tail [] with
 | some (s, r) => if (blk r).head? = some 58 then some (s, (blk r).tail) else none
 | none => none) else none := by
 unfold nam
 by_cases h : (blk l).head? = some 34
 . rw [if_pos h, if_pos h]
   cases txtF (blk l).tail [] with
   | none => rfl
   | some q => exact if_neg (by simp)
 . rw [if_neg h, if_neg h]
def exO : B := [32, 123, 32, 34, 97, 34, 32, 58, 32, 45, 48, 32, 125, 32]
theorem exO_nam : nam [] [34, 97, 34, 32, 58, 32, 45, 48, 32, 125, 32] = some ([97], [32, 45, 48, 32, 125, 32]) := (nam_nil _).trans (by kernel_rfl)
theorem exO_num : val 7 [32, 45, 48, 32, 125, 32] = .ok (vNum 0, [32, 125, 32]) := by kernel_rfl
theorem exO_obj : obj (val 7) [32, 34, 97, 34, 32, 58, 32, 45, 48, 32, 125, 32] = .ok (vObj [[97]] [vNum 0], [32]) := by
 have e : obj (val 7) [32, 34, 97, 34, 32, 58, 32, 45, 48, 32, 125, 32] = objL (val 7) 12 [34, 97, 34, 32, 58, 32, 45, 48, 32, 125, 32] [] [] := by kernel_rfl
 rw [e, objL, exO_nam]
 show (match val 7 [32, 45, 48, 32, 125, 32] with | .error e => (.error e : R) | .ok (v, r) => if (blk r).head? = some 125 then .ok (vObj ([] ++ [[97]]) ([] ++ [v]), (blk r).tail) else if (blk r).head? = some 44 then objL (val 7) 11 (blk r).tail ([] ++ [[97]]) ([] ++ [v]) else .error 5) = _
 rw [exO_num]
 rfl
theorem exO_parse : parse exO = .ok (vObj [[97]] [vNum 0]) := by
 have e : val 8 exO = obj (val 7) [32, 34, 97, 34, 32, 58, 32, 45, 48, 32, 125, 32] := by kernel_rfl
 rw [parse, if_neg (by decide), e, exO_obj]
 rfl
theorem exB_parse : parse [91, 49, 44, 93] = .error 5 := by kernel_rfl
theorem exM_parse : parse [91, 91, 91, 91, 91, 91, 91, 91, 91] = .error 6 := by kernel_rfl
theorem exV_may : may 8 exV := by
 have v1 : Valid [97, 10] := by
  have h1 : enc 97 = [97] := by decide
  have h2 : enc 10 = [10] := by decide
  have := (Valid.one (c := 97) (by unfold okC; decide)).app (Valid.one (c := 10) (by unfold okC; decide))
  rwa [h1, h2] at this
 refine .inr ⟨.inl rfl, ⟨.inl rfl, .inl rfl, .inr (.inl rfl), rfl⟩, ⟨fun s hs => (nomatch hs), List.nodup_nil⟩, fun k hk => ?_⟩
 have hk : k ∈ [vNum 1, vText [97, 10], vNull] := hk
 rcases List.mem_cons.1 hk with rfl | hk
 . exact may_leaf_num 1 7
 rcases List.mem_cons.1 hk with rfl | hk
 . exact may_leaf (v := vText [97, 10]) ⟨⟨.inl rfl, .inr rfl, .inl rfl, rfl⟩, .inr (.inr (.inr ⟨rfl, v1⟩))⟩ 7
 rcases List.mem_cons.1 hk with rfl | hk
 . exact may_leaf (v := vNull) ⟨⟨.inl rfl, .inl rfl, .inl rfl, rfl⟩, .inl rfl⟩ 7
 . cases hk
theorem exV_fits : fits 8 exV := by
 have w : ∀ v : JV, v = vNum 1 ∨ v = vText [97, 10] ∨ v = vNull -> fits 7 v := by
  rintro v (rfl | rfl | rfl)
  . exact fits_small (by decide) rfl 7
  . exact fits_small (by decide) rfl 7
  . exact fits_small (by decide) rfl 7
 refine ⟨by show _ /\ _; decide, fun k hk => w k ?_⟩
 have hk : k ∈ [vNum 1, vText [97, 10], vNull] := hk
 simpa using hk
end Go.J
namespace Go.Proofs.YtglpcedoongagaaDoor
open Go.E Go.Proofs.YtglpcedoongagaaDoor.Tryd Go.Proofs.Tryd Go.J Go.Proofs
def exK : List AV := [.p (.int .u8 2), .p (.int .i64 1), .p (.string ByteArray.empty), .p (.slice none 0 0), .p (.slice none 0 0), .p (.int .u8 3), .p (.int .i64 0), .p (.string (ByteArray.mk #[97, 10])), .p (.slice none 0 0), .p (.slice none 0 0), .p (.int .u8 0), .p (.int .i64 0), .p (.string ByteArray.empty), .p (.slice none 0 0), .p (.slice none 0 0)]
def exC : List AV := [.p (.int .u8 4), .p (.int .i64 0), .p (.string ByteArray.empty), .vs exK 3, .p (.slice none 0 0)]
theorem exK_weak : ∀ (Z : Heap) (k : Nat) (a b : AV) (x : Value), exK[k]? = some a -> (vcsL exV.kids)[k]? = some b -> Rel Z [] a x -> Rel Z [] b x := by
 intro Z k a b x ha hb hr
 have hd : vcsL exV.kids = [by8 2, .p (.int .i64 1), str [], .vs [] 0, .vs [] 0, by8 3, .p (.int .i64 0), str [97, 10], .vs [] 0, .vs [] 0, by8 0, .p (.int .i64 0), str [], .vs [] 0, .vs [] 0] := rfl
 rw [hd] at hb
 match k with
 | 0 => cases ha; cases hb; exact hr
 | 1 => cases ha; cases hb; exact hr
 | 2 => cases ha; cases hb; exact hr
 | 3 => cases ha; cases hb; exact nil_vs _ _ _ hr
 | 4 => cases ha; cases hb; exact nil_vs _ _ _ hr
 | 5 => cases ha; cases hb; exact hr
 | 6 => cases ha; cases hb; exact hr
 | 7 => cases ha; cases hb; exact hr
 | 8 => cases ha; cases hb; exact nil_vs _ _ _ hr
 | 9 => cases ha; cases hb; exact nil_vs _ _ _ hr
 | 10 => cases ha; cases hb; exact hr
 | 11 => cases ha; cases hb; exact hr
 | 12 => cases ha; cases hb; exact hr
 | 13 => cases ha; cases hb; exact nil_vs _ _ _ hr
 | 14 => cases ha; cases hb; exact nil_vs _ _ _ hr
 | k + 15 => cases ha
theorem exC_weak : ∀ (Z : Heap) (ρ : List BI) (x : Value), Rel Z ρ (.ag exC) x -> Rel Z ρ (.ag (vcs exV)) x := by
 have e : vcs exV = [.p (.int .u8 4), .p (.int .i64 0), .p (.string ByteArray.empty), .vs (vcsL exV.kids) 3, .vs [] 0] := rfl
 rw [e]
 exact ag5_weak (vs_weak rfl exK_weak) nil_vs
theorem exV_sz : vsz exV = 6 := rfl
theorem exK_clean : ∀ a ∈ exK, a.Clean := by
 intro a ha
 simp only [exK, List.mem_cons, List.not_mem_nil, or_false] at ha
 rcases ha with rfl | rfl | rfl | rfl | rfl | rfl | rfl | rfl | rfl | rfl | rfl | rfl | rfl | rfl | rfl <;> exact .p _
theorem works_ok {T : Tbl} : CallA prog G 6 [] T fun v T' es => v = .p (.bool true) /\ T' = T /\ es = [] := by
 refine CallA.wfs fun wf => ?_
 have wt := wf.t
 have wp := wf.p
 have hk0 : (wrA (wrA (wrA (List.replicate 3 [AV.p (.int .u8 0), AV.p (.int .i64 0), AV.p (.string ByteArray.empty), AV.p (.slice none 0 0), AV.p (.slice none 0 0)]).flatten 0 [AV.p (.int .u8 2), AV.p (.int .i64 1), AV.p (.string ByteArray.empty), AV.p (.slice none 0 0), AV.p (.slice none 0 0)]) 5 [AV.p (.int .u8 3), AV.p (.int .i64 0), AV.p (.string (ByteArray.mk #[97, 10])), AV.p (.slice none 0 0), AV.p (.slice none 0 0)]) 10 [AV.p (.int .u8 0), AV.p (.int .i64 0), AV.p (.string ByteArray.empty), AV.p (.slice none 0 0), AV.p (.slice none 0 0)]) = exK := rfl
 refine CallA.eV 12 func6 ntmps6 results6 ?_
 simp -dsimp +decide only [vr, ty, en, ↓reduceIte, Nat.reduceSub, Nat.reduceAdd, Nat.reduceMul, Nat.reduceLT, Int.reduceAdd, Int.reduceSub, Int.reduceToNat, ci]
 simp -dsimp +decide (disch := omega) only [vr, ty, en, ↓reduceIte, Nat.reduceSub, Nat.reduceAdd, Nat.reduceMul, Nat.reduceLT, Int.reduceAdd, Int.reduceSub, Int.reduceToNat, ci, vi, getO_i, vt, wr5, tk5, hk0]
 refine CallA.pub (i := T.length) (o := .buf 27 5 exK) (gn0 T _ _) rfl exK_clean ?_ (fun v T' es h => h)
 simp -dsimp +decide only [vr, ty, en, ↓reduceIte, Nat.reduceSub, Nat.reduceAdd, Nat.reduceMul, Nat.reduceLT, Int.reduceAdd, Int.reduceSub, Int.reduceToNat, ci, wp]
 refine CallA.weak1 exC_weak ?_
 refine (print_ok (v := exV) (by rw [exV_sz]; decide) exV_fits).mono ?_
 rintro v T' es ⟨⟨-, rfl⟩ | ⟨h, -⟩, rfl, rfl⟩
 rotate_left
 . exact absurd exV_may h
 rw [exV_prt]
 obtain ⟨P1, hP1⟩ : ∃ P1 : B, P1 = [91, 49, 44, 34, 97, 92, 110, 34, 44, 110, 117, 108, 108, 93] := ⟨_, rfl⟩
 rw [<- hP1]
 obtain ⟨C1, hC1⟩ : ∃ C1 : AObj, C1 = .cells 27 exC := ⟨_, rfl⟩
 have hk14 : (List.replicate 14 [AV.p (.int .u8 0)]).flatten = [.p (.int .u8 0), .p (.int .u8 0), .p (.int .u8 0), .p (.int .u8 0), .p (.int .u8 0), .p (.int .u8 0), .p (.int .u8 0), .p (.int .u8 0), .p (.int .u8 0), .p (.int .u8 0), .p (.int .u8 0), .p (.int .u8 0), .p (.int .u8 0), .p (.int .u8 0)] := rfl
 simp -dsimp +decide (disch := omega) only [vr, ty, en, ↓reduceIte, Nat.reduceSub, Nat.reduceAdd, Nat.reduceMul, Nat.reduceLT, Int.reduceAdd, Int.reduceSub, Int.reduceToNat, ci, vi, getO_i, vt, wp, wr5, tk5, gn0, gn1, gn2, List.nil_append, hk14, List.set_cons_zero, List.set_cons_succ]
 refine (parse_ok (l := exO) (by decide)).mono ?_
 rintro v T' es ⟨rfl, rfl, rfl⟩
 rw [exO_parse]
 obtain ⟨u1, hu1⟩ : ∃ u1, u1 = vObj [[97]] [vNum 0] := ⟨_, rfl⟩
 rw [<- hu1, show parsV exO (.ok u1) = .tu [.ag (vcs u1), .p (.int .i64 0)] from rfl]
 have hv1 := vcr u1
 have hf1 : fldV u1 [97] = some (vNum 0) := by rw [hu1]; rfl
 have hF := fun U => field_ok (T := U) (v := u1) (s := [97]) (by rw [hu1]; decide)
 rw [hf1] at hF
 have hw1 : wrA (vcs u1) 0 (vcs u1) = vcs u1 := wrA_all rfl
 simp -dsimp +decide (disch := omega) only [vr, ty, en, ↓reduceIte, Nat.reduceSub, Nat.reduceAdd, Nat.reduceMul, Nat.reduceLT, Int.reduceAdd, Int.reduceSub, Int.reduceToNat, ci, vi, getO_i, vt, wp, wr5, tk5, gn0, gn1, gn2, gn3, hv1, hw1]
 refine (hF _).mono ?_
 rintro v T' es ⟨rfl, rfl, rfl⟩
 obtain ⟨u2, hu2⟩ : ∃ u2, u2 = vNum 0 := ⟨_, rfl⟩
 rw [<- hu2]
 have hv2 := vcr u2
 have hw2 : wrA (vcs u2) 0 (vcs u2) = vcs u2 := wrA_all rfl
 have hk4 : (List.replicate 4 [AV.p (.int .u8 0)]).flatten = [.p (.int .u8 0), .p (.int .u8 0), .p (.int .u8 0), .p (.int .u8 0)] := rfl
 simp -dsimp +decide (disch := omega) only [vr, ty, en, ↓reduceIte, Nat.reduceSub, Nat.reduceAdd, Nat.reduceMul, Nat.reduceLT, Int.reduceAdd, Int.reduceSub, Int.reduceToNat, ci, vi, getO_i, vt, wp, wr5, tk5, gn0, gn1, gn2, gn3, gn4, gn5, hv1, hv2, hw1, hw2, hk4, List.set_cons_zero, List.set_cons_succ, vcs_pub]
 refine (parse_ok (l := [91, 49, 44, 93]) (by decide)).mono ?_
 rintro v T' es ⟨rfl, rfl, rfl⟩
 rw [exB_parse]
 obtain ⟨u3, hu3⟩ : ∃ u3, u3 = vNull := ⟨_, rfl⟩
 rw [show parsV [91, 49, 44, 93] (.error 5) = .tu [.ag (vcs u3), .p (.int .i64 5)] from by rw [hu3]; rfl]
 have hv3 := vcr u3
 have hw3 : wrA (vcs u3) 0 (vcs u3) = vcs u3 := wrA_all rfl
 have hk9 : (List.replicate 9 [AV.p (.int .u8 0)]).flatten = [.p (.int .u8 0), .p (.int .u8 0), .p (.int .u8 0), .p (.int .u8 0), .p (.int .u8 0), .p (.int .u8 0), .p (.int .u8 0), .p (.int .u8 0), .p (.int .u8 0)] := rfl
 simp -dsimp +decide (disch := omega) only [vr, ty, en, ↓reduceIte, Nat.reduceSub, Nat.reduceAdd, Nat.reduceMul, Nat.reduceLT, Int.reduceAdd, Int.reduceSub, Int.reduceToNat, ci, vi, getO_i, vt, wp, wr5, tk5, gn0, gn1, gn2, gn3, gn4, gn5, gn6, gn7, hv1, hv2, hv3, hw1, hw2, hw3, hk9, List.set_cons_zero, List.set_cons_succ, vcs_pub]
 refine (parse_ok (l := [91, 91, 91, 91, 91, 91, 91, 91, 91]) (by decide)).mono ?_
 rintro v T' es ⟨rfl, rfl, rfl⟩
 rw [exM_parse, show parsV [91, 91, 91, 91, 91, 91, 91, 91, 91] (.error 6) = .tu [.ag (vcs u3), .p (.int .i64 6)] from by rw [hu3]; rfl]
 have hby := bytes8 P1
 have hP2 : (ByteArray.mk P1.toArray = ByteArray.mk #[91, 49, 44, 34, 97, 92, 110, 34, 44, 110, 117, 108, 108, 93]) = True := eq_true (by rw [hP1])
 have h20 : (vcs u2)[0]! = .p (.int .u8 2) := by rw [hu2]; rfl
 simp -dsimp +decide (disch := omega) only [vr, ty, en, ↓reduceIte, Nat.reduceSub, Nat.reduceAdd, Nat.reduceMul, Nat.reduceLT, Int.reduceAdd, Int.reduceSub, Int.reduceToNat, ci, vi, getO_i, vt, wp, wr5, tk5, gn0, gn1, gn2, gn3, gn4, gn5, gn6, gn7, gn8, hv1, hv2, hv3, hw1, hw2, hw3, vstr, hP2, hby, h20]
 refine CallA.weak1 exC_weak ?_
 refine (May_ok (v := exV) (by rw [exV_sz]; decide) exV_fits).mono ?_
 rintro v T' es ⟨⟨b, rfl, hb⟩, rfl, rfl⟩
 have hb := hb.2 exV_may
 subst hb
 simp -dsimp +decide (disch := omega) only [vr, ty, en, ↓reduceIte, Nat.reduceSub, Nat.reduceAdd, Nat.reduceMul, Nat.reduceLT, Int.reduceAdd, Int.reduceSub, Int.reduceToNat, ci, vi, getO_i, vt, wr5, tk5, gn0, gn1, gn2, gn3, gn4, gn5, gn6, gn7, gn8]
 refine CallA.weak2 exC_weak exC_weak ?_
 refine (same_ok (a := exV) (c := exV) (by rw [exV_sz]; decide)).mono ?_
 rintro v T' es ⟨⟨b, rfl, hb⟩, rfl, rfl⟩
 have hb := hb.2 rfl
 subst hb
 simp -dsimp +decide (disch := omega) only [vr, ty, en, ↓reduceIte, Nat.reduceSub, Nat.reduceAdd, Nat.reduceMul, Nat.reduceLT, Int.reduceAdd, Int.reduceSub, Int.reduceToNat, ci, vi, getO_i, vt, wr5, tk5, gn0, gn1, gn2, gn3, gn4, gn5, gn6, gn7, gn8, hv1]
 refine CallA.weak2 (fun _ _ _ h => h) exC_weak ?_
 refine (same_ok (a := u1) (c := exV) (by rw [hu1]; decide)).mono ?_
 rintro v T' es ⟨⟨b, rfl, hb⟩, rfl, rfl⟩
 have hne : u1 ≠ exV := by rw [hu1]; intro e; injection e with e; cases e
 cases b with
 | true => exact absurd (hb.1 rfl) hne
 | false =>
   simp -dsimp +decide (disch := omega) only [vr, ty, en, ↓reduceIte, Nat.reduceSub, Nat.reduceAdd, Nat.reduceMul, Nat.reduceLT, Int.reduceAdd, Int.reduceSub, Int.reduceToNat, ci, vi, getO_i, vt]
   exact Vw.cut ⟨rfl, rfl, rfl⟩
end Go.Proofs.YtglpcedoongagaaDoor
namespace Go.E
inductive AV.Far : AV -> Prop
 | p (v : Value) : Far (.p v)
 | any : Far .any
 | vs0 (n : Nat) : Far (.vs [] n)
 | vs {cs : List AV} {n k : Nat} {a : AV} (hk : cs[k]? = some a) (hne : ∀ (Z : Heap) (z : Int), ¬ Rel Z [] a (.int .u8 z)) (h : ∀ a ∈ cs, Far a) : Far (.vs cs n)
 | ag {cs : List AV} (h : ∀ a ∈ cs, Far a) : Far (.ag cs)
 | tu {cs : List AV} (h : ∀ a ∈ cs, Far a) : Far (.tu cs)
def Heap.less (Z : Heap) (b : Nat) : Heap := ⟨fun b' => if b' = b then none else Z b', Z.os, Z.out, Z.cut⟩
theorem Rel.far {Z : Heap} {ρ : List BI} {a : AV} {v : Value} {b : Nat} {c : Array Value} {E : TypeId} {fr : Nat × Nat} (h : Rel Z ρ a v) (hf : a.Far) (hb : Z b = some (.cells c E fr)) (hc : ∀ (k : Nat) (x : Value), c[k]? = some x -> ∃ z, x = .int .u8 z) : Rel (Z.less b) ρ a v := by
 induction h with
 | p v => exact .p v
 | any v => exact .any v
 | ptr _ _ => cases hf
 | sl _ _ _ _ => cases hf
 | vp _ _ _ _ => cases hf
 | vs0 h hc => exact .vs0 h hc
 | @vs ρ cs n m b' o c' T' fr' f hm hb' hc' hr ih =>
   cases hf with
   | vs0 => exact .vs0 (.inl rfl) hm
   | @vs _ _ k a hk hne hall =>
     have hbb : b' ≠ b := by
      rintro rfl
      rw [hb] at hb'
      simp only [Option.some.injEq, Obj.cells.injEq] at hb'
      obtain ⟨rfl, -, -⟩ := hb'
      obtain ⟨hkl, rfl⟩ := List.getElem?_eq_some_iff.1 hk
      obtain ⟨z, hz⟩ := hc _ _ (hc' k hkl)
      have := hr k hkl
      rw [hz] at this
      exact hne _ _ this
     exact .vs hm (show (if b' = b then none else Z b') = _ by rw [if_neg hbb]; exact hb') hc' fun k hk => ih k hk (hall _ (List.getElem_mem hk))
 | ag hl _ ih => cases hf with | ag hall => exact .ag hl fun k h1 h2 => ih k h1 h2 (hall _ (List.getElem_mem h1))
 | tu hl _ ih => cases hf with | tu hall => exact .tu hl fun k h1 h2 => ih k h1 h2 (hall _ (List.getElem_mem h1))
 | fn _ _ _ => cases hf
 | ic _ _ => cases hf
 | mp _ _ => cases hf
 | yl _ _ => cases hf
section
variable {P : Program} {G : Nat -> AV} {T : Tbl} {f : FuncId} {j : Nat} {E : TypeId} {l : List UInt8} {K0 : AV -> Prop}
def vb8 (x : UInt8) : Value := .int .u8 (x.toNat : Int)
theorem by8_p (l : List UInt8) : l.map by8 = (l.map vb8).map AV.p := by rw [List.map_map]; rfl
theorem St.restore {Z Z1 Z' Z2 : Heap} {ρ : List BI} {w w' : World} {o0 : AObj} {x : BI} (hs : St Z ρ T w) (hT : T[j]? = some o0) (hl0 : o0.live = true) (hx : ρ[j]? = some x) (g1 : St Z' ρ (T.set j .gone) w') (g2 : Ext Z1 ρ (T.set j .gone) w Z' ρ (T.set j .gone) w' [])
 (hle : Heap.le Z Z2) (hof : Z2.ofc w') (hno : ∀ b, Z' b = none -> Z2 b = none) (hb : ∀ b, x.blk = some b -> Z2 b = none /\ w'.heap[b]? = w.heap[b]?) : St Z2 ρ T w' /\ Ext Z ρ T w Z2 ρ T w' [] := by
 have hjT := (List.getElem?_eq_some_iff.1 hT).1
 have hset : ∀ (i : Nat) (o : AObj), i ≠ j -> T[i]? = some o -> (T.set j .gone)[i]? = some o := fun i o hi h => by rw [List.getElem?_set_ne (Ne.symm hi)]; exact h
 have hheap : ∀ (i : Nat) (o : AObj) (y : BI) (b : Nat), T[i]? = some o -> o.live = true -> ρ[i]? = some y -> y.blk = some b -> w'.heap[b]? = w.heap[b]? := by
  intro i o y b hi hl hy hyb
  by_cases e : i = j
  . subst e
    rw [hx] at hy; cases hy
    exact (hb b hyb).2
  . exact (g2.same i y o b (hset i o e hi) hl hy hyb (by simp)).1
 refine ⟨⟨hof, hs.len, fun i o y hi hy => ?_, fun i o y b hi hl hy hyb => ?_⟩, ⟨hle, fun i y hy _ => hy, fun i y o b hi hl hy hyb _ => ⟨hheap i o y b hi hl hy hyb, o, hi, hl⟩⟩⟩
 . by_cases hl : o.live = true
   . exact ((hs.obj i o y hi hy).world fun b hyb => hheap i o y b hi hl hy hyb).mono hle fun _ _ h => h
   . cases o <;> first | exact (hl rfl).elim | trivial
 . obtain ⟨_, k2⟩ := hs.apart i o y b hi hl hy hyb
   refine ⟨?_, k2⟩
   by_cases e : i = j
   . subst e
     rw [hx] at hy; cases hy
     exact (hb b hyb).1
   . exact hno b (g1.apart i o y b (hset i o e hi) hl hy hyb).1
theorem CallA.thaw (hT : T[j]? = some (.buf E 1 (l.map by8))) (hfar : ∀ v, K0 v -> v.Far)
 (h : CallA P G f [.vs (l.map by8) l.length] (T.set j .gone) fun v T' es => K0 v /\ T' = T.set j .gone /\ es = []) :
 CallA P G f [.sl j 0 l.length] T fun v T' es => K0 v /\ T' = T /\ es = [] := by
 intro Z ρ w vs hG hs ha
 obtain ⟨s, us, rfl, r1, ha2⟩ := ha.uncons
 obtain rfl := ha2.unnil
 cases r1 with
 | @sl _ _ _ _ cp x a hx haa hcp h0 =>
 have hor := hs.obj j _ x hT hx
 have hjT := (List.getElem?_eq_some_iff.1 hT).1
 have hgone : ∀ (i : Nat) (o : AObj), (T.set j .gone)[i]? = some o -> o.live = true -> i ≠ j /\ T[i]? = some o := by
  intro i o hi hl
  by_cases e : i = j
  . subst e
    rw [List.getElem?_set_self hjT] at hi
    cases hi; cases hl
  . exact ⟨e, by rwa [List.getElem?_set_ne (Ne.symm e)] at hi⟩
 have hρ : ∀ {Z1 Z' : Heap} {ρ' : List BI} {w' : World}, St Z' ρ' (T.set j .gone) w' -> Ext Z1 ρ (T.set j .gone) w Z' ρ' (T.set j .gone) w' [] -> ρ' = ρ := by
  intro Z1 Z' ρ' w' g1 g2
  refine List.ext_getElem? fun i => ?_
  by_cases hi : i < ρ.length
  . obtain ⟨y, hy⟩ : ∃ y, ρ[i]? = some y := ⟨ρ[i], by simp [hi]⟩
    rw [hy]; exact g2.place i y hy (by simp)
  . have h1 : ρ.length <= i := Nat.le_of_not_lt hi
    have h2 : ρ'.length <= i := by rw [g1.len, List.length_set, <- hs.len]; exact h1
    rw [List.getElem?_eq_none h1, List.getElem?_eq_none h2]
 have hstart : ∀ (Z1 : Heap), Heap.le Z Z1 -> Z1.ofc w -> (∀ b, x.blk ≠ some b -> Z1 b = Z b) -> St Z1 ρ (T.set j .gone) w := by
  intro Z1 hle hof hdom
  refine ⟨hof, by rw [List.length_set]; exact hs.len, fun i o y hi hy => ?_, fun i o y b' hi hl hy hb' => ?_⟩
  . by_cases hl : o.live = true
    . obtain ⟨_, hi⟩ := hgone i o hi hl; exact (hs.obj i o y hi hy).mono hle fun _ _ h => h
    . cases o <;> first | exact (hl rfl).elim | trivial
  . obtain ⟨hij, hi'⟩ := hgone i o hi hl
    obtain ⟨g1, g2⟩ := hs.apart i o y b' hi' hl hy hb'
    exact ⟨by rw [hdom b' (g2 j _ x (Ne.symm hij) hT rfl hx)]; exact g1, fun k o' z hki hk hlk hz => g2 k o' z hki (hgone k o' hk hlk).2 hlk hz⟩
 obtain ⟨hg0, n, hn1, hn2, ⟨hbn, hcs, hcap⟩ | ⟨b, cur, hxb, hw, hmx, hcz, hrel⟩⟩ := hor
 . have hl0 : l = [] := List.map_eq_nil_iff.1 hcs
   subst hl0
   refine Calls.mono (h Z ρ w _ hG (hstart Z (Heap.le_refl _) hs.of fun _ _ => rfl) (.cons (.vs0 (.inl rfl) hcp) .nil)) ?_
   rintro e w' ⟨v, rfl, Z', ρ', T', es, a', g1, g2, g3, hk, rfl, rfl⟩
   obtain rfl := hρ g1 g2
   obtain ⟨k1, k2⟩ := hs.restore hT rfl hx g1 g2 g2.le g1.of (fun _ h => h) (fun b hb => by rw [hbn] at hb; cases hb)
   exact ⟨v, rfl, Z', ρ', T, [], a', k1, k2, g3, hk, rfl, rfl⟩
 . have hnone := (hs.apart j _ x b hT rfl hx hxb).1
   have hnl : n = l.length := by simpa using hn1.symm
   subst hnl
   have hcur : cur.toList.take l.length = l.map vb8 := by
    have := hrel
    rw [Nat.mul_one, by8_p] at this
    exact this.ps_inv
   let Z1 : Heap := ⟨fun b' => if b' = b then some (.cells (l.map vb8).toArray E (0, 0)) else Z b', Z.os, Z.out, fun b' => if b' = b then some (.cells cur E (0, 0)) else Z.cut b'⟩
   have hZb : Z1 b = some (.cells (l.map vb8).toArray E (0, 0)) := if_pos rfl
   have hcb : Z1.cut b = some (.cells cur E (0, 0)) := if_pos rfl
   have hne : ∀ b' o, Z b' = some o -> b' ≠ b := fun b' o h e => by subst e; rw [hnone] at h; cases h
   have hle1 : Heap.le Z Z1 := ⟨fun b' o h => (if_neg (hne b' o h)).trans h, rfl, rfl, fun b' o h => if_neg (hne b' o h)⟩
   have hof1 : Z1.ofc w := by
    refine ⟨fun b' o hb' => ?_, hs.of.2⟩
    by_cases e : b' = b
    . subst e
      rw [hZb] at hb'; cases hb'
      rw [hcb]
      refine ⟨hw, _, cur, E, (0, 0), rfl, rfl, fun k v hk => ?_⟩
      have hk : (l.map vb8)[k]? = some v := by simpa using hk
      rw [<- hcur, List.getElem?_take] at hk
      split at hk
      . simpa using hk
      . cases hk
    . have h1 : Z b' = some o := (if_neg e).symm.trans hb'
      have h2 : Z1.cut b' = Z.cut b' := if_neg e
      rw [h2]; exact hs.of.1 b' o h1
   have hst1 := hstart Z1 hle1 hof1 fun b' hb' => if_neg fun e => hb' (by rw [e]; exact hxb)
   have harg : Rel Z1 ρ (.vs (l.map by8) l.length) (.slice a l.length cp) := by
    by_cases hl0 : l = []
    . subst hl0; exact .vs0 (.inl rfl) hcp
    . have : a = some ⟨b, 0, none⟩ := by rw [haa (.inr rfl), hxb]; rfl
      subst this
      refine .vs (o := 0) (f := fun k => ((l.map vb8)[k]?).getD undef) hcp hZb (fun k hk => ?_) fun k hk => ?_
      . have hk' : k < l.length := by simpa using hk
        simp [hk']
      . have hk' : k < l.length := by simpa using hk
        simp only [List.getElem?_map, List.getElem?_eq_getElem hk', Option.map_some, Option.getD_some, List.getElem_map]
        exact .p _
   refine Calls.mono (h Z1 ρ w _ (hG.mono hle1) hst1 (.cons harg .nil)) ?_
   rintro e w' ⟨v, rfl, Z', ρ', T', es, a', g1, g2, g3, hk, rfl, rfl⟩
   obtain rfl := hρ g1 g2
   have hb' : Z' b = some (.cells (l.map vb8).toArray E (0, 0)) := g2.le.1 _ _ hZb
   have hcb' : Z'.cut b = some (.cells cur E (0, 0)) := (g2.le.2.2.2 _ _ hZb).trans hcb
   have hheap : w'.heap[b]? = w.heap[b]? := by
    have := g1.of.1 _ _ hb'
    rw [hcb'] at this
    rw [this.1, hw]
   have hle2 : Heap.le Z (Z'.less b) := by
    refine ⟨fun b' o h => (if_neg (hne b' o h)).trans (g2.le.1 _ _ (hle1.1 _ _ h)), g2.le.2.1.trans hle1.2.1, g2.le.2.2.1.trans hle1.2.2.1, fun b' o h => ?_⟩
    exact (g2.le.2.2.2 _ _ (hle1.1 _ _ h)).trans (hle1.2.2.2 _ _ h)
   obtain ⟨k1, k2⟩ := hs.restore (Z2 := Z'.less b) hT rfl hx g1 g2 hle2 ⟨fun b' o hb2 => by
    by_cases e : b' = b
    . subst e
      have : (Z'.less b') b' = none := if_pos rfl
      rw [this] at hb2; cases hb2
    . exact g1.of.1 b' o ((if_neg e).symm.trans hb2), g1.of.2⟩ (fun b' h => by
    show (if b' = b then none else Z' b') = none
    rw [h, ite_self]) (fun b' hb2 => by rw [hxb] at hb2; cases hb2; exact ⟨if_pos rfl, hheap⟩)
   exact ⟨v, rfl, Z'.less b, ρ', T, [], a', k1, k2, g3.far (hfar _ hk) hb' (fun k y hy => by
    have hy : (l.map vb8)[k]? = some y := by simpa using hy
    rw [List.getElem?_map] at hy
    cases hl : l[k]? with
    | none => rw [hl] at hy; cases hy
    | some u => rw [hl] at hy; cases hy; exact ⟨_, rfl⟩), hk, rfl, rfl⟩
end
end Go.E
namespace Go.Proofs.YtglpcedoongagaaDoor
open Go.E Go.Proofs.YtglpcedoongagaaDoor.Tryd Go.Proofs.Tryd Go.J Go.Proofs
mutual
theorem vcs_far : ∀ v : JV, ∀ a ∈ vcs v, a.Far
 | .mk k z s ks ns => by
   intro a ha
   rw [vcs] at ha
   simp only [List.mem_cons, List.not_mem_nil, or_false] at ha
   rcases ha with rfl | rfl | rfl | rfl | rfl
   . exact .p _
   . exact .p _
   . exact .p _
   . have hf := vcsL_far ks
     cases ks with
     | nil => exact .vs0 _
     | cons x r =>
       refine .vs (k := 1) (a := .p (.int .i64 x.num)) ?_ (fun Z z h => by cases h) hf
       rw [vcsL, vcs_eq]; rfl
   . cases ns with
     | nil => exact .vs0 _
     | cons x r =>
       refine .vs (k := 0) (a := str x) rfl (fun Z z h => by rw [str] at h; cases h) fun a ha => ?_
       obtain ⟨y, -, rfl⟩ := List.mem_map.1 ha
       exact .p _
theorem vcsL_far : ∀ l : List JV, ∀ a ∈ vcsL l, a.Far
 | [] => fun a ha => by rw [vcsL] at ha; cases ha
 | v :: r => fun a ha => by
   rw [vcsL] at ha
   rcases List.mem_append.1 ha with h | h
   . exact vcs_far v a h
   . exact vcsL_far r a h
end
theorem parsV_far (l : B) (r : Except Int JV) : (parsV l r).Far := by
 have h : ∀ u e, (AV.tu [.ag (vcs u), .p e]).Far := fun u e => .tu fun a ha => by
  simp only [List.mem_cons, List.not_mem_nil, or_false] at ha
  rcases ha with rfl | rfl
  . exact .ag (vcs_far u)
  . exact .p _
 cases r with
 | error e => exact h vNull _
 | ok u => exact h u _
theorem parse_own {T : Tbl} {j : Nat} {l : B} (hT : T[j]? = some (.buf 5 1 (l.map by8))) (hl : l.length <= 1099511627776) : CallA prog G 7 [.sl j 0 l.length] T fun v T' es => v = parsV l (parse l) /\ T' = T /\ es = [] :=
 CallA.thaw hT (fun v h => by rw [h]; exact parsV_far l _) (parse_ok hl)
theorem copied_own {T : Tbl} {a : AV} {l : B} (ha : Bs T a l) (hl : l.length <= 1099511627776) : CallA prog G 13 [a] T fun v T' es => v = .sl T.length 0 l.length /\ T' = T ++ [.buf 5 1 (l.map by8)] /\ es = [] := by
 refine CallA.wfs fun wf => ?_
 have wt := wf.t
 have wp := wf.p
 have hr := Sl.rules (ha : Sl T 1 a _ _) (by decide)
 refine CallA.eV 3 func13 ntmps13 results13 ?_
 simp -dsimp +decide only [vsk, vr, ty, en, ↓reduceIte, Nat.reduceSub, Nat.reduceAdd, Nat.reduceMul, Nat.reduceLT, Int.reduceAdd, Int.reduceSub, Int.reduceToNat, ci]
 simp -dsimp +decide (disch := omega) only [vsk, vr, ty, en, ↓reduceIte, Nat.reduceSub, Nat.reduceAdd, Nat.reduceMul, Nat.reduceLT, Int.reduceAdd, Int.reduceSub, Int.reduceToNat, ci, vi, getO_i, vt, wt, hr, sn0]
 refine ⟨⟨by omega, by omega⟩, ?_⟩
 exact Vw.done ⟨rfl, rfl, rfl⟩
def bk (x : UInt8) : UInt8 := if x.toNat % 4 = 0 then 32 else if x.toNat % 4 = 1 then 9 else if x.toNat % 4 = 2 then 10 else 13
theorem bk_isB (x : UInt8) : isB (bk x) = true := by
 unfold bk
 split
 . rfl
 split
 . rfl
 split <;> rfl
theorem bk_all (bs : B) : ∀ x ∈ bs.map bk, isB x = true := by
 intro x hx
 obtain ⟨y, -, rfl⟩ := List.mem_map.1 hx
 exact bk_isB y
theorem bk_get (x : UInt8) : ([.p (.int .u8 32), .p (.int .u8 9), .p (.int .u8 10), .p (.int .u8 13)] : List AV)[x.toNat % 4]! = .p (.int .u8 ((bk x).toNat : Int)) := by
 have h : x.toNat % 4 = 0 ∨ x.toNat % 4 = 1 ∨ x.toNat % 4 = 2 ∨ x.toNat % 4 = 3 := by omega
 unfold bk
 rcases h with h | h | h | h <;> rw [h] <;> rfl
theorem bk_mod (x : UInt8) : (x.toNat : Int).tmod 4 = ((x.toNat % 4 : Nat) : Int) := rfl
theorem bk_step (bs : B) (i : Nat) (x : UInt8) (h : bs[i]? = some x) : (bs.take (i + 1)).map bk = (bs.take i).map bk ++ [bk x] := by
 rw [List.take_add_one, h, List.map_append]; rfl
theorem jblanks_ok {T : Tbl} {v : JV} {bs : B} {m : UInt8} (hv : LOk v) (hf : fits 8 v) (hbl : bs.length <= 140737488355328) : CallA prog G 4 [.ag (vcs v), bl bs, by8 m] T fun r T' es => r = .p (.bool true) /\ T' = T /\ es = [] := by
 refine CallA.wfs fun wf => ?_
 have wt := wf.t
 have wp := wf.p
 have hVv := fun U => vast_ok (T := U) hv
 have hcv := vcr v
 have hwv : wrA (vcs v) 0 (vcs v) = vcs v := wrA_all rfl
 rw [bl]
 by_cases h3 : bs.length <= 300
 rotate_left
 . have h3' : ((300 : Int) < (bs.length : Int)) = True := eq_true (by omega)
   refine CallA.eV 17 func4 ntmps4 results4 ?_
   simp -dsimp +decide only [vsk, vr, ty, en, ↓reduceIte, Nat.reduceSub, Nat.reduceAdd, Nat.reduceMul, Nat.reduceLT, Int.reduceAdd, Int.reduceSub, Int.reduceToNat, ci]
   simp -dsimp +decide (disch := omega) only [vsk, vr, ty, en, ↓reduceIte, Nat.reduceSub, Nat.reduceAdd, Nat.reduceMul, Nat.reduceLT, Int.reduceAdd, Int.reduceSub, Int.reduceToNat, ci, vi, getO_i, vt, tk5, gn0, gn1, hcv]
   refine (hVv _).mono ?_
   rintro r T' es ⟨⟨b1, rfl, hb1⟩, rfl, rfl⟩
   cases b1
   all_goals
    simp -dsimp +decide (disch := omega) only [vsk, vr, ty, en, ↓reduceIte, Nat.reduceSub, Nat.reduceAdd, Nat.reduceMul, Nat.reduceLT, Int.reduceAdd, Int.reduceSub, Int.reduceToNat, ci, vi, getO_i, vt, gn0, gn1, hcv, h3']
    refine works_ok.det' ?_
    simp -dsimp +decide (disch := omega) only [vsk, vr, ty, en, ↓reduceIte, Nat.reduceSub, Nat.reduceAdd, Nat.reduceMul, Nat.reduceLT, Int.reduceAdd, Int.reduceSub, Int.reduceToNat, ci, vi, getO_i, vt]
    exact Vw.cut ⟨rfl, rfl, rfl⟩
 have h3' : ((300 : Int) < (bs.length : Int)) = False := eq_false (by omega)
 refine CallA.eV 17 func4 ntmps4 results4 ?_
 simp -dsimp +decide only [vsk, vr, ty, en, ↓reduceIte, Nat.reduceSub, Nat.reduceAdd, Nat.reduceMul, Nat.reduceLT, Int.reduceAdd, Int.reduceSub, Int.reduceToNat, ci]
 simp -dsimp +decide (disch := omega) only [vsk, vr, ty, en, ↓reduceIte, Nat.reduceSub, Nat.reduceAdd, Nat.reduceMul, Nat.reduceLT, Int.reduceAdd, Int.reduceSub, Int.reduceToNat, ci, vi, getO_i, vt, tk5, gn0, gn1, hcv]
 refine (hVv _).mono ?_
 rintro r T' es ⟨⟨b1, rfl, hb1⟩, rfl, rfl⟩
 cases b1 with
 | true =>
   simp -dsimp +decide (disch := omega) only [vsk, vr, ty, en, ↓reduceIte, Nat.reduceSub, Nat.reduceAdd, Nat.reduceMul, Nat.reduceLT, Int.reduceAdd, Int.reduceSub, Int.reduceToNat, ci, vi, getO_i, vt, gn0, gn1, hcv]
   refine works_ok.det' ?_
   simp -dsimp +decide (disch := omega) only [vsk, vr, ty, en, ↓reduceIte, Nat.reduceSub, Nat.reduceAdd, Nat.reduceMul, Nat.reduceLT, Int.reduceAdd, Int.reduceSub, Int.reduceToNat, ci, vi, getO_i, vt]
   exact Vw.cut ⟨rfl, rfl, rfl⟩
 | false =>
 have hvs := hb1 rfl
 simp -dsimp +decide (disch := omega) only [vsk, vr, ty, en, ↓reduceIte, Nat.reduceSub, Nat.reduceAdd, Nat.reduceMul, Nat.reduceLT, Int.reduceAdd, Int.reduceSub, Int.reduceToNat, ci, vi, getO_i, vt, gn0, gn1, hcv, h3']
 refine (print_ok (v := v) (by omega) hf).mono ?_
 rintro r T' es ⟨⟨hm, rfl⟩ | ⟨hm, rfl⟩, rfl, rfl⟩
 rotate_left
 . simp -dsimp +decide (disch := omega) only [vsk, vr, ty, en, ↓reduceIte, Nat.reduceSub, Nat.reduceAdd, Nat.reduceMul, Nat.reduceLT, Int.reduceAdd, Int.reduceSub, Int.reduceToNat, ci, vi, getO_i, vt, gn0, gn1, hcv]
   refine works_ok.det' ?_
   simp -dsimp +decide (disch := omega) only [vsk, vr, ty, en, ↓reduceIte, Nat.reduceSub, Nat.reduceAdd, Nat.reduceMul, Nat.reduceLT, Int.reduceAdd, Int.reduceSub, Int.reduceToNat, ci, vi, getO_i, vt]
   exact Vw.cut ⟨rfl, rfl, rfl⟩
 have hpp := fun w w' hw hw' => parse_prt hm hf (w := w) (w' := w') hw hw'
 have hpm := fun w w' x hw hw' hx hk => parse_more hm hf (w := w) (w' := w') (x := x) hw hw' hx hk
 obtain ⟨p, hp⟩ : ∃ p, prt 8 v = p := ⟨_, rfl⟩
 rw [hp] at hpp hpm ⊢
 by_cases hp1 : p.length <= 16384
 rotate_left
 . have hp1' : ((16384 : Int) < (p.length : Int)) = True := eq_true (by omega)
   simp -dsimp +decide (disch := omega) only [vsk, vr, ty, en, ↓reduceIte, Nat.reduceSub, Nat.reduceAdd, Nat.reduceMul, Nat.reduceLT, Int.reduceAdd, Int.reduceSub, Int.reduceToNat, ci, vi, getO_i, vt, gn0, gn1, hcv, hp1']
   refine works_ok.det' ?_
   simp -dsimp +decide (disch := omega) only [vsk, vr, ty, en, ↓reduceIte, Nat.reduceSub, Nat.reduceAdd, Nat.reduceMul, Nat.reduceLT, Int.reduceAdd, Int.reduceSub, Int.reduceToNat, ci, vi, getO_i, vt]
   exact Vw.cut ⟨rfl, rfl, rfl⟩
 have hp1' : ((16384 : Int) < (p.length : Int)) = False := eq_false (by omega)
 simp -dsimp +decide (disch := omega) only [vsk, vr, ty, en, ↓reduceIte, Nat.reduceSub, Nat.reduceAdd, Nat.reduceMul, Nat.reduceLT, Int.reduceAdd, Int.reduceSub, Int.reduceToNat, ci, vi, getO_i, vt, gn0, gn1, hcv, hp1']
 refine SemA.adopt 10 5 1 (by decide) rfl ?_
 rw [List.append_assoc]
 refine SemA.loopS (fun i : Nat => [(1, .vs (bs.map by8) bs.length), (2, by8 m), (3, .ptr T.length 0), (7, .vs (p.map by8) p.length), (9, .sl (T.length + 1) 0 4), (10, .sl (T.length + 2) 0 i), (11, wint (i : Int))])
  (fun i => T ++ [.cells 27 (vcs v), .buf 5 1 [.p (.int .u8 32), .p (.int .u8 9), .p (.int .u8 10), .p (.int .u8 13)], .buf 5 1 (((bs.take i).map bk).map by8)]) (fun i => i <= bs.length) (fun i => bs.length - i) 0 [] 0
  (fun _ : Unit => [(2, by8 m), (3, .ptr T.length 0), (7, .vs (p.map by8) p.length), (10, .sl (T.length + 2) 0 (bs.map bk).length)])
  (fun _ => T ++ [.cells 27 (vcs v), .buf 5 1 [.p (.int .u8 32), .p (.int .u8 9), .p (.int .u8 10), .p (.int .u8 13)], .buf 5 1 ((bs.map bk).map by8)]) (fun _ => True) (by omega) ?_ ?_ (by simp) ?_ ?_
 . exact ⟨rfl, rfl, rfl, rfl, by simp, by simp, rfl, rfl⟩
 . rfl
 . rintro i g hi
   refine SemA.o ?_
   by_cases hlt : i < bs.length
   . have hlt' : ((i : Int) < (bs.length : Int)) = True := eq_true (by omega)
     obtain ⟨x, hx⟩ : ∃ x, bs[i]? = some x := ⟨bs[i], by simp [hlt]⟩
     have hgx : (bs.map by8)[i]? = some (by8 x) := by rw [List.getElem?_map, hx]; rfl
     have hm := bk_mod x
     have hk := bk_get x
     have hm4 := Nat.mod_lt x.toNat (show 0 < 4 by decide)
     simp -dsimp +decide (disch := omega) only [vsk, vr, ty, en, ↓reduceIte, Nat.reduceSub, Nat.reduceAdd, Nat.reduceMul, Nat.reduceLT, Int.reduceAdd, Int.reduceSub, Int.reduceToNat, ci, vi, getO_i, vt, vbl, wt, hlt', hgx, hm, hk, gn0, gn1, gn2, gn3]
     refine ⟨⟨by omega, fun h => ?_⟩, ⟨by omega, by omega⟩, ⟨?_, by omega, by omega⟩, i + 1, ⟨by omega, by omega⟩, ?_⟩
     . rw [List.map_eq_nil_iff.1 h] at hlt; exact Nat.not_lt_zero _ hlt
     . rw [List.length_map, List.length_take]; omega
     refine SeeL.cut (T.length + 3) (by omega) ?_
     simp -dsimp +decide (disch := omega) only [vsk, vr, ty, en, ↓reduceIte, Nat.reduceSub, Nat.reduceAdd, Nat.reduceMul, Nat.reduceLT, Int.reduceAdd, Int.reduceSub, Int.reduceToNat, ci, vi, getO_i, vt, wt, hcv, gn0, gn1, gn2, gn3]
     exact SeeL.done ⟨rfl, ⟨rfl, rfl, rfl, rfl, rfl, rfl, rfl, rfl⟩, by rw [bk_step bs i x hx], by simp⟩
   . have hlt' : ((i : Int) < (bs.length : Int)) = False := eq_false (by omega)
     obtain rfl : i = bs.length := by omega
     simp -dsimp +decide (disch := omega) only [vsk, vr, ty, en, ↓reduceIte, Nat.reduceSub, Nat.reduceAdd, Nat.reduceMul, Nat.reduceLT, Int.reduceAdd, Int.reduceSub, Int.reduceToNat, ci, vi, getO_i, vt, vbl, hlt']
     exact ⟨(), SeeL.done ⟨rfl, ⟨rfl, rfl, rfl, by rw [List.length_map]; rfl, rfl⟩, by rw [List.take_length], by simp⟩⟩
 . rintro _ g tmp _
   obtain ⟨w, hw⟩ : ∃ w, bs.map bk = w := ⟨_, rfl⟩
   have hwl : w.length <= 300 := by rw [<- hw, List.length_map]; exact h3
   have hwB : ∀ x ∈ w, isB x = true := by rw [<- hw]; exact bk_all bs
   rw [hw]
   simp -dsimp +decide (disch := omega) only [vsk, vr, ty, en, ↓reduceIte, Nat.reduceSub, Nat.reduceAdd, Nat.reduceMul, Nat.reduceLT, Int.reduceAdd, Int.reduceSub, Int.reduceToNat, ci, vi, getO_i, vt, gn0, gn1, gn2]
   refine (copied_own (Bs.obj (gn2 _ _ _ _ _) rfl) (by omega)).det' ?_
   simp -dsimp +decide (disch := omega) only [vsk, vr, ty, en, ↓reduceIte, Nat.reduceSub, Nat.reduceAdd, Nat.reduceMul, Nat.reduceLT, Int.reduceAdd, Int.reduceSub, Int.reduceToNat, ci, vi, getO_i, vt, wt, hcv, gn0, gn1, gn2, gn3]
   refine ⟨⟨by omega, by omega⟩, Nat.le_refl _, ⟨by rw [List.length_append], by omega, by omega⟩, ?_⟩
   have eA : w ++ p ++ List.take w.length (List.drop 0 w) = w ++ (p ++ w) := by rw [List.drop_zero, List.take_length, List.append_assoc]
   have eL : w.length + (p.length + w.length) = (w ++ (p ++ w)).length := by rw [List.length_append, List.length_append]
   have eM : w ++ (p ++ (w ++ [m])) = (w ++ (p ++ w)) ++ [m] := by simp only [List.append_assoc]
   rw [eA, eL]
   obtain ⟨q, hq⟩ : ∃ q, w ++ (p ++ w) = q := ⟨_, rfl⟩
   have hql : q.length <= 16984 := by rw [<- hq, <- eL]; omega
   have hparse : parse q = .ok v := by rw [<- hq]; exact hpp w w hwB hwB (by rw [hq]; omega)
   have hpar2 : isB m = false -> v.kind ≠ 2 -> parse (q ++ [m]) = .error 5 := fun h1 h2 => by
    have := hpm w w m hwB hwB h1 h2 (by rw [eM, hq, List.length_append]; simp only [List.length_cons, List.length_nil]; omega)
    rwa [eM, hq] at this
   rw [hq]
   refine (parse_own (gn3 _ _ _ _ _ _) (by omega)).mono ?_
   rintro r T' es ⟨rfl, rfl, rfl⟩
   rw [hparse, show parsV q (.ok v) = .tu [.ag (vcs v), .p (.int .i64 0)] from rfl]
   have h0 : (vcs v)[0]! = .p (.int .u8 (v.kind.toNat : Int)) := by rw [vcs_eq]; rfl
   simp -dsimp +decide (disch := omega) only [vsk, vr, ty, en, ↓reduceIte, Nat.reduceSub, Nat.reduceAdd, Nat.reduceMul, Nat.reduceLT, Int.reduceAdd, Int.reduceSub, Int.reduceToNat, ci, vi, getO_i, vt, wt, hcv, hwv, gn0, gn1, gn2, gn3, gn4]
   refine (same_ok (a := v) (c := v) (by omega)).mono ?_
   rintro r T' es ⟨⟨b, rfl, hb⟩, rfl, rfl⟩
   obtain rfl := hb.2 rfl
   simp -dsimp +decide (disch := omega) only [vsk, vr, ty, en, ↓reduceIte, Nat.reduceSub, Nat.reduceAdd, Nat.reduceMul, Nat.reduceLT, Int.reduceAdd, Int.reduceSub, Int.reduceToNat, ci, vi, getO_i, vt, wt, hcv, hwv, gn0, gn1, gn2, gn3, gn4, h0]
   rcases Classical.propComplete ((v.kind.toNat : Int) < 4) with c1 | c1
   . simp -dsimp +decide (disch := omega) only [vsk, vr, ty, en, ↓reduceIte, Nat.reduceSub, Nat.reduceAdd, Nat.reduceMul, Nat.reduceLT, Int.reduceAdd, Int.reduceSub, Int.reduceToNat, ci, vi, getO_i, vt, wt, hcv, gn0, gn1, gn2, gn3, gn4, h0, c1]
     refine works_ok.det' ?_
     simp -dsimp +decide (disch := omega) only [vsk, vr, ty, en, ↓reduceIte, Nat.reduceSub, Nat.reduceAdd, Nat.reduceMul, Nat.reduceLT, Int.reduceAdd, Int.reduceSub, Int.reduceToNat, ci, vi, getO_i, vt]
     exact Vw.cut ⟨rfl, rfl, rfl⟩
   rcases Classical.propComplete ((m.toNat : Int) = 32) with c2 | c2
   . simp -dsimp +decide (disch := omega) only [vsk, vr, ty, en, ↓reduceIte, Nat.reduceSub, Nat.reduceAdd, Nat.reduceMul, Nat.reduceLT, Int.reduceAdd, Int.reduceSub, Int.reduceToNat, ci, vi, getO_i, vt, wt, hcv, gn0, gn1, gn2, gn3, gn4, h0, c1, c2]
     refine works_ok.det' ?_
     simp -dsimp +decide (disch := omega) only [vsk, vr, ty, en, ↓reduceIte, Nat.reduceSub, Nat.reduceAdd, Nat.reduceMul, Nat.reduceLT, Int.reduceAdd, Int.reduceSub, Int.reduceToNat, ci, vi, getO_i, vt]
     exact Vw.cut ⟨rfl, rfl, rfl⟩
   rcases Classical.propComplete ((m.toNat : Int) = 9) with c3 | c3
   . simp -dsimp +decide (disch := omega) only [vsk, vr, ty, en, ↓reduceIte, Nat.reduceSub, Nat.reduceAdd, Nat.reduceMul, Nat.reduceLT, Int.reduceAdd, Int.reduceSub, Int.reduceToNat, ci, vi, getO_i, vt, wt, hcv, gn0, gn1, gn2, gn3, gn4, h0, c1, c2, c3]
     refine works_ok.det' ?_
     simp -dsimp +decide (disch := omega) only [vsk, vr, ty, en, ↓reduceIte, Nat.reduceSub, Nat.reduceAdd, Nat.reduceMul, Nat.reduceLT, Int.reduceAdd, Int.reduceSub, Int.reduceToNat, ci, vi, getO_i, vt]
     exact Vw.cut ⟨rfl, rfl, rfl⟩
   rcases Classical.propComplete ((m.toNat : Int) = 10) with c4 | c4
   . simp -dsimp +decide (disch := omega) only [vsk, vr, ty, en, ↓reduceIte, Nat.reduceSub, Nat.reduceAdd, Nat.reduceMul, Nat.reduceLT, Int.reduceAdd, Int.reduceSub, Int.reduceToNat, ci, vi, getO_i, vt, wt, hcv, gn0, gn1, gn2, gn3, gn4, h0, c1, c2, c3, c4]
     refine works_ok.det' ?_
     simp -dsimp +decide (disch := omega) only [vsk, vr, ty, en, ↓reduceIte, Nat.reduceSub, Nat.reduceAdd, Nat.reduceMul, Nat.reduceLT, Int.reduceAdd, Int.reduceSub, Int.reduceToNat, ci, vi, getO_i, vt]
     exact Vw.cut ⟨rfl, rfl, rfl⟩
   rcases Classical.propComplete ((m.toNat : Int) = 13) with c5 | c5
   . simp -dsimp +decide (disch := omega) only [vsk, vr, ty, en, ↓reduceIte, Nat.reduceSub, Nat.reduceAdd, Nat.reduceMul, Nat.reduceLT, Int.reduceAdd, Int.reduceSub, Int.reduceToNat, ci, vi, getO_i, vt, wt, hcv, gn0, gn1, gn2, gn3, gn4, h0, c1, c2, c3, c4, c5]
     refine works_ok.det' ?_
     simp -dsimp +decide (disch := omega) only [vsk, vr, ty, en, ↓reduceIte, Nat.reduceSub, Nat.reduceAdd, Nat.reduceMul, Nat.reduceLT, Int.reduceAdd, Int.reduceSub, Int.reduceToNat, ci, vi, getO_i, vt]
     exact Vw.cut ⟨rfl, rfl, rfl⟩
   have hB : isB m = false := by
    unfold isB
    have d2 : m ≠ 32 := fun e => of_eq_false c2 (by rw [e]; rfl)
    have d3 : m ≠ 9 := fun e => of_eq_false c3 (by rw [e]; rfl)
    have d4 : m ≠ 10 := fun e => of_eq_false c4 (by rw [e]; rfl)
    have d5 : m ≠ 13 := fun e => of_eq_false c5 (by rw [e]; rfl)
    simp [d2, d3, d4, d5]
   have hk2 : v.kind ≠ 2 := fun e => of_eq_false c1 (by rw [e]; decide)
   simp -dsimp +decide (disch := omega) only [vsk, vr, ty, en, ↓reduceIte, Nat.reduceSub, Nat.reduceAdd, Nat.reduceMul, Nat.reduceLT, Int.reduceAdd, Int.reduceSub, Int.reduceToNat, ci, vi, getO_i, vt, wt, hcv, gn0, gn1, gn2, gn3, gn4, h0, c1, c2, c3, c4, c5]
   refine ⟨⟨by omega, by omega⟩, ?_⟩
   rw [show q.length + 1 = (q ++ [m]).length by rw [List.length_append]; rfl]
   refine (parse_own (gn3 _ _ _ _ _ _) (by rw [List.length_append]; simp only [List.length_cons, List.length_nil]; omega)).mono ?_
   rintro r T' es ⟨rfl, rfl, rfl⟩
   obtain ⟨u, hu⟩ : ∃ u, u = vNull := ⟨_, rfl⟩
   rw [hpar2 hB hk2, show parsV (q ++ [m]) (.error 5) = .tu [.ag (vcs u), .p (.int .i64 5)] from by rw [hu]; rfl]
   have hcu := vcr u
   have hwu : wrA (vcs u) 0 (vcs u) = vcs u := wrA_all rfl
   simp -dsimp +decide (disch := omega) only [vsk, vr, ty, en, ↓reduceIte, Nat.reduceSub, Nat.reduceAdd, Nat.reduceMul, Nat.reduceLT, Int.reduceAdd, Int.reduceSub, Int.reduceToNat, ci, vi, getO_i, vt, hcu, hwu, gn0, gn1, gn2, gn3, gn4]
   refine works_ok.det' ?_
   simp -dsimp +decide (disch := omega) only [vsk, vr, ty, en, ↓reduceIte, Nat.reduceSub, Nat.reduceAdd, Nat.reduceMul, Nat.reduceLT, Int.reduceAdd, Int.reduceSub, Int.reduceToNat, ci, vi, getO_i, vt]
   exact Vw.cut ⟨rfl, rfl, rfl⟩
end Go.Proofs.YtglpcedoongagaaDoor
namespace Go.Proofs.YtglpcedoongagaaDoor.jsonBlanksL
open Go.ChangeShapes Go.WideShapes Go.ChangeAt Go.RowKit Go.E Go.Proofs.YtglpcedoongagaaDoor.Tryd Go.Proofs.Tryd
set_option maxRecDepth 100000 in
theorem contract (H : Type) (enc : TypeId × Value -> H) (W : World) (base : Nat) (args : Array Value) (ds gs : List (DataW H)) (before : List MemPlace)
 (hval : ∀ (j : Nat) t v, Tryd.f4.params[j]? = some t -> args[j]? = some v -> Value.okWide prog W .any base t v)
 (hW : DataW.Whole enc prog Tryd.f4.params.toList Rows.jsonBlanksSpec.vars false W args.toList ds gs before)
 (hz : (DataW.weightsEach prog (Tryd.f4.params.toList ++ Rows.jsonBlanksSpec.plain.varTypes prog) (ds ++ gs)).all (· <= reachBytes) = true)
 (hL : laidMetH prog [("math/bits.deBruijn32tab", Rows.laid_math_bits_deBruijn32tab), ("math/bits.deBruijn64tab", Rows.laid_math_bits_deBruijn64tab), ("internal/strconv.uint64pow10", Rows.laid_internal_strconv_uint64pow10), ("unicode/utf8.acceptRanges", Rows.laid_unicode_utf8_acceptRanges), ("strconv.ErrRange", Rows.laid_strconv_ErrRange), ("strconv.ErrSyntax", Rows.laid_strconv_ErrSyntax), ("unicode/utf8.first", Rows.laid_unicode_utf8_first)] W) :
 Calls prog 4 args W fun e W' => ∃ v, e = .returned v /\ Rows.jsonBlanksSpec.post enc prog Tryd.f4 false true false false W args v W' := by
 have hn : ds.length = 3 := by
  obtain ⟨p, q, hA, _⟩ := hW
  rw [Tryd.params4] at hA
  exact (trodAll_length hA).2
 have hg : gs = [] := by
  obtain ⟨p, q, hA, hV, _⟩ := hW
  exact (trodVars_none hV).1
 subst hg
 refine law_callsA (tys := [27, 5, 2, 9, 24, 25, 22]) 4 laidOut (by kernel_rfl) (by kernel_rfl) Tryd.underlying4 rfl ?_ hW (by kernel_rfl) (by kernel_rfl) hval hz (gok hL) ?_
 . match ds, hn with
   | [_, _, _], _ => rfl
 intro xs hx
 rw [Tryd.params4] at hx
 cases hx with | cons h0 hx =>
 cases hx with | cons h1 hx =>
 cases hx with | cons h2 hx =>
 cases hx
 obtain ⟨a0, e0, h0l, h0f⟩ := open_jvA h0
 obtain ⟨a1, e1, h1l⟩ := arg_nums (fun a : UInt8 => by rw [Dat.avs]) (open_u8 Tryd.underlying5) h1 Tryd.underlying22
 obtain ⟨a2, rfl⟩ := open_u8 Tryd.underlying5 _ h2
 simp only [List.map_cons, List.map_nil, e0, e1]
 have hb : prog.bytesOf 5 = 1 := by kernel_rfl
 rw [hb] at h1l
 unfold reachBytes at h1l
 exact (jblanks_ok (T := []) (v := a0) (bs := a1) (m := a2) h0l (h0f 8) (by omega)).mono fun v T E h => h.1
set_option maxRecDepth 100000 in
theorem lifted (os : Os) (started : os.Started) (H : Type) (enc : TypeId × Value -> H) :
 ReturnsInHanded {} Tryd.checked os 4 .any (fun w args => (Rows.jsonBlanksSpec.pre enc prog Tryd.f4 [] false w args /\ laidMetH prog [("math/bits.deBruijn32tab", Rows.laid_math_bits_deBruijn32tab), ("math/bits.deBruijn64tab", Rows.laid_math_bits_deBruijn64tab), ("internal/strconv.uint64pow10", Rows.laid_internal_strconv_uint64pow10), ("unicode/utf8.acceptRanges", Rows.laid_unicode_utf8_acceptRanges), ("strconv.ErrRange", Rows.laid_strconv_ErrRange), ("strconv.ErrSyntax", Rows.laid_strconv_ErrSyntax), ("unicode/utf8.first", Rows.laid_unicode_utf8_first)] w) /\ sizedMet enc prog Tryd.f4 (OpenSpec.ofChange Rows.jsonBlanksSpec) false w args)
  (Rows.jsonBlanksSpec.post enc prog Tryd.f4 false true false false) := by
 refine returnsInHanded_of_change_and (C := Tryd.checked) (X := fun w _ => laidMetH prog [("math/bits.deBruijn32tab", Rows.laid_math_bits_deBruijn32tab), ("math/bits.deBruijn64tab", Rows.laid_math_bits_deBruijn64tab), ("internal/strconv.uint64pow10", Rows.laid_internal_strconv_uint64pow10), ("unicode/utf8.acceptRanges", Rows.laid_unicode_utf8_acceptRanges), ("strconv.ErrRange", Rows.laid_strconv_ErrRange), ("strconv.ErrSyntax", Rows.laid_strconv_ErrSyntax), ("unicode/utf8.first", Rows.laid_unicode_utf8_first)] w) (fun _ _ _ hh h => h.of_heap hh) own started (by kernel_rfl) func4
  (ChangeSpec.witness_shaped (enc := enc) (C := Tryd.checked) (os := os) (X := fun w _ => laidMetH prog [("math/bits.deBruijn32tab", Rows.laid_math_bits_deBruijn32tab), ("math/bits.deBruijn64tab", Rows.laid_math_bits_deBruijn64tab), ("internal/strconv.uint64pow10", Rows.laid_internal_strconv_uint64pow10), ("unicode/utf8.acceptRanges", Rows.laid_unicode_utf8_acceptRanges), ("strconv.ErrRange", Rows.laid_strconv_ErrRange), ("strconv.ErrSyntax", Rows.laid_strconv_ErrSyntax), ("unicode/utf8.first", Rows.laid_unicode_utf8_first)] w) false (World.laidAll prog os [("math/bits.deBruijn32tab", Rows.laid_math_bits_deBruijn32tab), ("math/bits.deBruijn64tab", Rows.laid_math_bits_deBruijn64tab), ("internal/strconv.uint64pow10", Rows.laid_internal_strconv_uint64pow10), ("unicode/utf8.acceptRanges", Rows.laid_unicode_utf8_acceptRanges), ("strconv.ErrRange", Rows.laid_strconv_ErrRange), ("strconv.ErrSyntax", Rows.laid_strconv_ErrSyntax), ("unicode/utf8.first", Rows.laid_unicode_utf8_first)]) #[.agg #[.int .u8 0, .int .i64 0, .string ByteArray.empty, .slice none 0 0, .slice none 0 0], .slice none 0 0, .int .u8 0] 8 (World.laidAll_os _ _ _) (World.shaped_of_ZipB (by kernel_rfl) (by kernel_rfl)) (by kernel_rfl) (by kernel_rfl) (by kernel_rfl) (laid_met os _)) ?_
 intro W base args ds gs before hval hW _ hz hL _
 exact contract H enc W base args ds gs before hval hW hz hL
theorem said : Rows.JsonBlanksSaid :=
 OpenClaim.holds_of_wide 4 Tryd.f4 rfl rfl rfl rfl rfl rfl rfl ⟨rfl, rfl, rfl, rfl, rfl⟩ rfl rfl rfl rfl rfl (by kernel_rfl) func4 (by kernel_rfl)
  (of_decide_eq_true (by kernel_rfl)) (by unfold Func.isWrapper; first | (rw [if_pos (by decide +kernel)]; kernel_rfl) | (rw [if_neg (by decide +kernel)]; exact ⟨rfl, rfl⟩))
  (fun os started H enc _ => lifted os started H enc)
theorem proved : Rows.JsonBlanksCardSaid :=
 Claim7.holds_tied_plain_at .later [] [.data, .data, .data, .data, .sentinel, .sentinel, .pinned] true Rows.jsonBlanksCard.stood.harness true
  said (fun _ h => by cases h) (by kernel_rfl) (fun _ h => by cases h) jsonBlanks_row_tie rfl ⟨rfl, rfl⟩ (by kernel_rfl) rfl
  (fun f fn hf hfn => by
   obtain rfl : f = 4 := Option.some.inj ((show prog.funcNamed "scantling/scantlinglaw06.JsonBlanks" = some 4 by kernel_rfl).symm.trans hf) |>.symm
   obtain rfl : fn = Tryd.f4 := (Option.some.inj (func4.symm.trans hfn)).symm
   exact ⟨by kernel_rfl, fun j t ht => by
    have hm : t ∈ Tryd.f4.params.toList := by simpa using Array.mem_of_getElem? ht
    have hall : (Tryd.f4.params.toList.all fun u => !prog.wantsStandIn u) = true := by kernel_rfl
    exact (show prog.wantsStandIn t = false by simpa using List.all_eq_true.1 hall t hm)⟩)
  (by kernel_rfl)
end Go.Proofs.YtglpcedoongagaaDoor.jsonBlanksL
