/-
  'scantlinglaw06.JsonParses' returns true whatever comes, and leaves what came as it was; its row's listed variables are tied to the program's text. No condition.
-/
import Derived.Test.YtglpcedoongagaaGreatDoorQm5
import Derived.Test.YtglpcedoongagaaGreatDoorCards
import Derived.Test.YtglpcedoongagaaGreatDoorTie
import Derived.SevenTiedAt
import Derived.ChangeCalls
set_option linter.unusedSimpArgs false
set_option linter.unusedVariables false
set_option linter.unusedSectionVars false
set_option maxRecDepth 8000
set_option maxHeartbeats 4000000
namespace Go.Proofs.YtglpcedoongagaaGreatDoor
open Go.E Go.Proofs.YtglpcedoongagaaGreatDoor.Tryz Go.Proofs.Tryz Go.J Go.Proofs
theorem val06_all : ∀ n : Nat, n <= 8 -> Val06Ok n
 | 0, _ => value06_step 0 (by omega) fun m h => by omega
 | n + 1, hn => value06_step (n + 1) hn fun m h => by
   obtain rfl : n = m := by omega
   have hv := val06_all n (by omega)
   intro T i b c t hc hi h
   rcases hc with rfl | rfl
   . exact many06_list (by omega) hv hi h
   . exact many06_obj (by omega) hv hi h
theorem Val06Ok.w {n : Nat} (hv : Val06Ok n) {wi : Int} (hw : wi = 8 - (n : Int)) {T : Tbl} {i : Nat} {b r : B} (hi : T[i]? = some (rs b r 0)) (h : Rst b r) : CallA prog G 32 [.ptr i 0, .p (.int .i64 wi)] T fun v T' es => ∃ u q e, v = .ag (vcs u) /\ Rst b q /\ T' = T.set i (rs b q e) /\ es = [(i, false)] /\ ((e = 0 /\ val n r = .ok (u, q)) ∨ (e ≠ 0 /\ val n r = .error e)) := by
 subst hw; exact hv.m hi h
theorem parse06_ok {T : Tbl} {a : AV} {l : B} (ha : Bs T a l) (hl : l.length <= 1099511627776) : CallA prog G 19 [a] T fun v T' es => v = parsV l (parse l) /\ T' = T /\ es = [] := by
 refine CallA.wfs fun wf => ?_
 have wt := wf.t
 have wp := wf.p
 have hr := Sl.rules (ha : Sl T 1 a _ _) (by decide)
 have fin : ∀ (e : Int) (U : Tbl) (E : Eff), parse l = .error e -> recE T.length E [] = [] -> Vw G T (fun v T' es => v = parsV l (parse l) /\ T' = T /\ es = []) (.tu [.ag zc, .p (.int .i64 e)]) (T ++ U) (recE T.length E []) := fun e U E he hE => by
  rw [he, hE]
  refine Vw.weak (fun Z ρ x h => null_weak (e := e) Z ρ x h) ?_
  exact Vw.cut ⟨by simp only [parsV, AV.wo, AV.woL, AV.woL_eq, vcr], rfl, rfl⟩
 by_cases h6 : 65536 < l.length
 . have h6' : ((65536 : Int) < (l.length : Int)) = True := eq_true (by omega)
   have hp : parse l = .error 6 := if_pos h6
   refine CallA.eV 6 func19 ntmps19 results19 ?_
   simp -dsimp +decide only [vr, ty, en, ↓reduceIte, Nat.reduceSub, Nat.reduceAdd, Nat.reduceMul, Nat.reduceLT, Int.reduceAdd, Int.reduceSub, Int.reduceToNat, ci]
   simp -dsimp +decide (disch := omega) only [vr, ty, en, ↓reduceIte, Nat.reduceSub, Nat.reduceAdd, Nat.reduceMul, Nat.reduceLT, Int.reduceAdd, Int.reduceSub, Int.reduceToNat, ci, vi, getO_i, vt, wt, hr, h6', wr5, tk5, gn0, vres, vone]
   exact fin 6 _ [] hp rfl
 have h6' : ((65536 : Int) < (l.length : Int)) = False := eq_false (by omega)
 have hpe : ∀ e, val 8 l = .error e -> parse l = .error e := fun e h => by rw [parse, if_neg h6, h]
 have hpo : ∀ v r, val 8 l = .ok (v, r) -> parse l = if blk r = [] then .ok v else .error 5 := fun v r h => by rw [parse, if_neg h6, h]
 have e0 : AObj.cells 57 [.p (.string ⟨l.toArray⟩), .p (.int .i64 0), .p (.int .i64 0)] = rs l l 0 := by rw [rs, Nat.sub_self]; rfl
 refine CallA.eV 6 func19 ntmps19 results19 ?_
 simp -dsimp +decide only [vr, ty, en, ↓reduceIte, Nat.reduceSub, Nat.reduceAdd, Nat.reduceMul, Nat.reduceLT, Int.reduceAdd, Int.reduceSub, Int.reduceToNat, ci]
 simp -dsimp +decide (disch := omega) only [vr, ty, en, ↓reduceIte, Nat.reduceSub, Nat.reduceAdd, Nat.reduceMul, Nat.reduceLT, Int.reduceAdd, Int.reduceSub, Int.reduceToNat, ci, vi, getO_i, vt, wt, hr, h6', bytes8, wr5, tk5]
 rw [e0]
 refine ((val06_all 8 (by omega)).w (b := l) (r := l) (wi := 0) rfl (gn1 _ _ _ _) ⟨List.suffix_refl l, hl⟩).mono ?_
 rintro v T' es ⟨u, q, e, rfl, hq, rfl, rfl, hcase⟩
 rw [sn1]
 have hcu := vcr u
 have hwu : wrA (vcs u) 0 (vcs u) = vcs u := wrA_all rfl
 have hbl : l.length <= 65536 := by omega
 simp -dsimp +decide (disch := omega) only [vr, ty, en, ↓reduceIte, Nat.reduceSub, Nat.reduceAdd, Nat.reduceMul, Nat.reduceLT, Int.reduceAdd, Int.reduceSub, Int.reduceToNat, ci, vi, getO_i, vt, gn0, gn1, gn2, sn0, sn1, sn2, tk5, wr5, hcu, hwu]
 refine (blanks06_ok (b := l) (r := q) (e := e) (gn1 _ _ _ _) hq).det' ?_
 rw [sn1]
 have hqb := hq.bk
 obtain ⟨d, hd⟩ : ∃ d, Go.J.blk q = d := ⟨_, rfl⟩
 rw [hd] at hqb ⊢
 have hdl := hqb.le
 have kN1 : (∀ a c : Nat, (T.length + a == T.length + c) = (a == c)) /\ (∀ c : Nat, (T.length == T.length + c) = (0 == c)) := ⟨fun a c => by rw [Bool.eq_iff_iff, beq_iff_eq, beq_iff_eq]; omega, fun c => by rw [Bool.eq_iff_iff, beq_iff_eq, beq_iff_eq]; omega⟩
 have hbb : ((0 : Nat) == 1) = false /\ ((1 : Nat) == 1) = true /\ ((2 : Nat) == 1) = false := by decide
 rcases hcase with ⟨rfl, hval⟩ | ⟨he, hval⟩
 . have hpo' := hpo _ _ hval
   rw [hd] at hpo'
   by_cases hdn : d = []
   . rw [if_pos hdn] at hpo'
     have hlt : (((l.length - d.length : Nat) : Int) < (l.length : Int)) = False := eq_false (by rw [hdn]; simp)
     simp -dsimp +decide (disch := omega) only [vr, ty, en, ↓reduceIte, Nat.reduceSub, Nat.reduceAdd, Nat.reduceMul, Nat.reduceLT, Int.reduceAdd, Int.reduceSub, Int.reduceToNat, ci, vi, getO_i, vt, gn0, gn1, gn2, sn0, sn1, sn2, tk5, wr5, hcu, hwu, rs, hr, hlt, vres, vone]
     rw [hpo']
     exact Vw.cut ⟨by simp only [parsV, AV.wo, AV.woL, AV.woL_eq, vcr], rfl, rfl⟩
   . rw [if_neg hdn] at hpo'
     have hd0 : 0 < d.length := by cases d with
      | nil => exact absurd rfl hdn
      | cons => simp
     have hlt : (((l.length - d.length : Nat) : Int) < (l.length : Int)) = True := eq_true (by omega)
     simp -dsimp +decide (disch := omega) only [vr, ty, en, ↓reduceIte, Nat.reduceSub, Nat.reduceAdd, Nat.reduceMul, Nat.reduceLT, Int.reduceAdd, Int.reduceSub, Int.reduceToNat, ci, vi, getO_i, vt, gn0, gn1, gn2, sn0, sn1, sn2, tk5, wr5, hcu, hwu, rs, hr, hlt, vres, vone]
     refine SemA.draw (fun i => i == T.length + 1) [(0, true), (1, true), (2, true), (3, true), (4, true), (5, false), (6, true)] mixed (by kernel_rfl) ?_
     simp -dsimp +decide (disch := omega) only [vr, ty, en, ↓reduceIte, Nat.reduceSub, Nat.reduceAdd, Nat.reduceMul, Nat.reduceLT, Int.reduceAdd, Int.reduceSub, Int.reduceToNat, ci, vi, getO_i, vt, gn0, gn1, gn2, sn0, sn1, sn2, tk5, wr5, hcu, hwu, keepT_get, keepO, kN1, hbb, vres, vone]
     exact fin 5 _ [] hpo' rfl
 . have he' : (e = 0) = False := eq_false he
   simp -dsimp +decide (disch := omega) only [vr, ty, en, ↓reduceIte, Nat.reduceSub, Nat.reduceAdd, Nat.reduceMul, Nat.reduceLT, Int.reduceAdd, Int.reduceSub, Int.reduceToNat, ci, vi, getO_i, vt, gn0, gn1, gn2, sn0, sn1, sn2, tk5, wr5, hcu, hwu, rs, hr, he', vres, vone]
   refine SemA.draw (fun i => i == T.length + 1) [(0, true), (1, true), (2, true), (3, true), (4, true), (5, false), (6, true)] mixed (by kernel_rfl) ?_
   simp -dsimp +decide (disch := omega) only [vr, ty, en, ↓reduceIte, Nat.reduceSub, Nat.reduceAdd, Nat.reduceMul, Nat.reduceLT, Int.reduceAdd, Int.reduceSub, Int.reduceToNat, ci, vi, getO_i, vt, gn0, gn1, gn2, sn0, sn1, sn2, tk5, wr5, hcu, hwu, keepT_get, keepO, kN1, hbb, vres, vone]
   exact fin e _ [] (hpe e hval) rfl
end Go.Proofs.YtglpcedoongagaaGreatDoor
namespace Go.Proofs.YtglpcedoongagaaGreatDoor
open Go.E Go.Proofs.YtglpcedoongagaaGreatDoor.Tryz Go.Proofs.Tryz Go.J Go.Proofs
def Same06Ok (x : JV) : Prop := ∀ (T : Tbl) (y : JV), CallA prog G 15 [.ag (vcs x), .ag (vcs y)] T fun r T' es => (∃ b : Bool, r = .p (.bool b) /\ (b = true ↔ x = y)) /\ T' = T /\ es = []
theorem same06_step (a : JV) (ha : vsz a <= 1099511627776) (hs : ∀ x ∈ a.kids, Same06Ok x) : Same06Ok a := by
 intro T c
 refine CallA.wfs fun wf => ?_
 have wt := wf.t
 obtain ⟨k1, z1, s1, ks1, ns1⟩ := a
 obtain ⟨k2, z2, s2, ks2, ns2⟩ := c
 have hv : vsz (.mk k1 z1 s1 ks1 ns1) = 1 + s1.length + (ns1.map fun x => 1 + x.length).sum + vszL ks1 := by rw [vsz]
 have hkl := vszL_len ks1
 have hnl := nsz_len ns1
 have hra := Sl.rules (Es_vcs T ks1).sl (by decide)
 have hrb := Sl.rules (Es_vcs T ks2).sl (by decide)
 have hla := (Es_vcs T ks1).ld (P := prog) (t := 25) (by (simp -dsimp +decide only [vy, vz, vze, vr, ty, en, ↓reduceIte, Nat.reduceSub, Nat.reduceAdd, Nat.reduceMul, Nat.reduceLT, Int.reduceAdd, Int.reduceSub, Int.reduceToNat, ci])) (by (simp -dsimp +decide only [vy, vz, vze, vr, ty, en, ↓reduceIte, Nat.reduceSub, Nat.reduceAdd, Nat.reduceMul, Nat.reduceLT, Int.reduceAdd, Int.reduceSub, Int.reduceToNat, ci])) (by decide)
 have hlb := (Es_vcs T ks2).ld (P := prog) (t := 25) (by (simp -dsimp +decide only [vy, vz, vze, vr, ty, en, ↓reduceIte, Nat.reduceSub, Nat.reduceAdd, Nat.reduceMul, Nat.reduceLT, Int.reduceAdd, Int.reduceSub, Int.reduceToNat, ci])) (by (simp -dsimp +decide only [vy, vz, vze, vr, ty, en, ↓reduceIte, Nat.reduceSub, Nat.reduceAdd, Nat.reduceMul, Nat.reduceLT, Int.reduceAdd, Int.reduceSub, Int.reduceToNat, ci])) (by decide)
 have hna := Sl.loads (Sl.vs (ns1.map str) ns1.length (by simp) : Sl T 1 _ _ _) (P := prog) (t := 9) (by (simp -dsimp +decide only [vy, vz, vze, vr, ty, en, ↓reduceIte, Nat.reduceSub, Nat.reduceAdd, Nat.reduceMul, Nat.reduceLT, Int.reduceAdd, Int.reduceSub, Int.reduceToNat, ci]))
 have hnb := Sl.loads (Sl.vs (ns2.map str) ns2.length (by simp) : Sl T 1 _ _ _) (P := prog) (t := 9) (by (simp -dsimp +decide only [vy, vz, vze, vr, ty, en, ↓reduceIte, Nat.reduceSub, Nat.reduceAdd, Nat.reduceMul, Nat.reduceLT, Int.reduceAdd, Int.reduceSub, Int.reduceToNat, ci]))
 simp only [vcs, show ∀ l, str l = .p (.string (ba l)) from fun _ => rfl]
 have t1 : ((k1.toNat : Int) = (k2.toNat : Int)) = (k1 = k2) := propext ⟨fun h => UInt8.toNat_inj.1 (by omega), fun h => by rw [h]⟩
 have t3 : (ba s1 = ba s2) = (s1 = s2) := propext ba_inj
 refine CallA.enterZ 7 func15 ntmps15 (congrArg Array.toList results15) rfl ⟨by simp, by simp⟩ (by kernel_rfl) ?_
 refine SemA.cutAt [] (fun _ : Unit => [(2, .ptr T.length 0), (3, .ptr (T.length + 1) 0)]) (fun _ => T ++ [.cells 25 [.p (.int .u8 (k1.toNat : Int)), .p (.int .i64 z1), .p (.string (ba s1)), .vs (vcsL ks1) ks1.length, .vs (ns1.map str) ns1.length], .cells 25 [.p (.int .u8 (k2.toNat : Int)), .p (.int .i64 z2), .p (.string (ba s2)), .vs (vcsL ks2) ks2.length, .vs (ns2.map str) ns2.length]]) (fun _ => k1 = k2 /\ z1 = z2 /\ s1 = s2 /\ ks1.length = ks2.length /\ ns1.length = ns2.length) [] 2 rfl (by kernel_rfl) ?_ ?_
 . have no : ∀ h : ¬ (k1 = k2 /\ z1 = z2 /\ s1 = s2 /\ ks1.length = ks2.length /\ ns1.length = ns2.length), (∃ b : Bool, AV.p (.bool false) = .p (.bool b) /\ (b = true ↔ JV.mk k1 z1 s1 ks1 ns1 = .mk k2 z2 s2 ks2 ns2)) := fun h => ⟨false, rfl, ⟨fun h => (by cases h), fun e => by injection e with h1 h2 h3 h4 h5; exact absurd ⟨h1, h2, h3, by rw [h4], by rw [h5]⟩ h⟩⟩
   by_cases e1 : k1 = k2
   . have e1' : (k1 = k2) = True := eq_true e1
     by_cases e2 : z1 = z2
     . have e2' : (z1 = z2) = True := eq_true e2
       by_cases e3 : s1 = s2
       . have e3' : (s1 = s2) = True := eq_true e3
         by_cases e4 : ks1.length = ks2.length
         . have e4' : ((ks1.length : Int) = (ks2.length : Int)) = True := eq_true (by omega)
           by_cases e5 : ns1.length = ns2.length
           . have e5' : ((ns1.length : Int) = (ns2.length : Int)) = True := eq_true (by omega)
             simp -dsimp +decide (disch := omega) only [vy, vz, vze, vr, ty, en, ↓reduceIte, Nat.reduceSub, Nat.reduceAdd, Nat.reduceMul, Nat.reduceLT, Int.reduceAdd, Int.reduceSub, Int.reduceToNat, ci, vi, getO_i, vt, t1, t3, e1', e2', e3', e4', e5', gn0, gn1, vstr]
             exact ⟨(), e4, e5⟩
           . have e5' : ((ns1.length : Int) = (ns2.length : Int)) = False := eq_false (by omega)
             simp -dsimp +decide (disch := omega) only [vy, vz, vze, vr, ty, en, ↓reduceIte, Nat.reduceSub, Nat.reduceAdd, Nat.reduceMul, Nat.reduceLT, Int.reduceAdd, Int.reduceSub, Int.reduceToNat, ci, vi, getO_i, vt, t1, t3, e1', e2', e3', e4', e5', gn0, gn1, vstr]
             exact Vw.cut ⟨no fun h => e5 h.2.2.2.2, rfl, rfl⟩
         . have e4' : ((ks1.length : Int) = (ks2.length : Int)) = False := eq_false (by omega)
           simp -dsimp +decide (disch := omega) only [vy, vz, vze, vr, ty, en, ↓reduceIte, Nat.reduceSub, Nat.reduceAdd, Nat.reduceMul, Nat.reduceLT, Int.reduceAdd, Int.reduceSub, Int.reduceToNat, ci, vi, getO_i, vt, t1, t3, e1', e2', e3', e4', gn0, gn1, vstr]
           exact Vw.cut ⟨no fun h => e4 h.2.2.2.1, rfl, rfl⟩
       . have e3' : (s1 = s2) = False := eq_false e3
         simp -dsimp +decide (disch := omega) only [vy, vz, vze, vr, ty, en, ↓reduceIte, Nat.reduceSub, Nat.reduceAdd, Nat.reduceMul, Nat.reduceLT, Int.reduceAdd, Int.reduceSub, Int.reduceToNat, ci, vi, getO_i, vt, t1, t3, e1', e2', e3', gn0, gn1, vstr]
         exact Vw.cut ⟨no fun h => e3 h.2.2.1, rfl, rfl⟩
     . have e2' : (z1 = z2) = False := eq_false e2
       simp -dsimp +decide (disch := omega) only [vy, vz, vze, vr, ty, en, ↓reduceIte, Nat.reduceSub, Nat.reduceAdd, Nat.reduceMul, Nat.reduceLT, Int.reduceAdd, Int.reduceSub, Int.reduceToNat, ci, vi, getO_i, vt, t1, t3, e1', e2', gn0, gn1, vstr]
       exact Vw.cut ⟨no fun h => e2 h.2.1, rfl, rfl⟩
   . have e1' : (k1 = k2) = False := eq_false e1
     simp -dsimp +decide (disch := omega) only [vy, vz, vze, vr, ty, en, ↓reduceIte, Nat.reduceSub, Nat.reduceAdd, Nat.reduceMul, Nat.reduceLT, Int.reduceAdd, Int.reduceSub, Int.reduceToNat, ci, vi, getO_i, vt, t1, t3, e1', gn0, gn1, vstr]
     exact Vw.cut ⟨no fun h => e1 h.1, rfl, rfl⟩
 . rintro _ g tmp ⟨e1, e2, e3, e4, e5⟩
   subst e1; subst e2; subst e3
   obtain ⟨U, hU⟩ : ∃ U, U = T ++ [.cells 25 [.p (.int .u8 (k1.toNat : Int)), .p (.int .i64 z1), .p (.string (ba s1)), .vs (vcsL ks1) ks1.length, .vs (ns1.map str) ns1.length], .cells 25 [.p (.int .u8 (k1.toNat : Int)), .p (.int .i64 z1), .p (.string (ba s1)), .vs (vcsL ks2) ks2.length, .vs (ns2.map str) ns2.length]] := ⟨_, rfl⟩
   have u0 : U[T.length]? = some (.cells 25 [.p (.int .u8 (k1.toNat : Int)), .p (.int .i64 z1), .p (.string (ba s1)), .vs (vcsL ks1) ks1.length, .vs (ns1.map str) ns1.length]) := by rw [hU]; exact gn0 _ _ _
   have u1 : U[T.length + 1]? = some (.cells 25 [.p (.int .u8 (k1.toNat : Int)), .p (.int .i64 z1), .p (.string (ba s1)), .vs (vcsL ks2) ks2.length, .vs (ns2.map str) ns2.length]) := by rw [hU]; exact gn1 _ _ _ _
   have hcutU : ∀ {K : AV -> Tbl -> Eff -> Prop} {v : AV}, K (v.wo fun i => decide (T.length <= i)) T [] -> Vw G T K v U [] := fun h => by
    rw [hU]; exact Vw.cut h
   simp only [<- hU]
   refine SemA.o ?_
   simp -dsimp +decide (disch := omega) only [vy, vz, vze, vr, ty, en, ↓reduceIte, Nat.reduceSub, Nat.reduceAdd, Nat.reduceMul, Nat.reduceLT, Int.reduceAdd, Int.reduceSub, Int.reduceToNat, ci, vi, getO_i, vt]
   refine SemA.loopE (fun i : Nat => [(2, .ptr T.length 0), (3, .ptr (T.length + 1) 0), (5, wint (i : Int))]) (fun _ => U) (fun i => i <= ns1.length /\ ns1.take i = ns2.take i) (fun i => ns1.length - i) 0 [] 0
    (fun _ : Unit => [(2, .ptr T.length 0), (3, .ptr (T.length + 1) 0)]) (fun _ => U) (fun _ => ns1 = ns2) ⟨by omega, by simp⟩ (by (simp -dsimp +decide (disch := omega) only [vy, vz, vze, vr, ty, en, ↓reduceIte, Nat.reduceSub, Nat.reduceAdd, Nat.reduceMul, Nat.reduceLT, Int.reduceAdd, Int.reduceSub, Int.reduceToNat, ci, vi, getO_i]); first | rfl | done) rfl (by simp) ?_ ?_
   . rintro i g ⟨hi, he⟩
     refine SemA.o ?_
     by_cases hlt : i < ns1.length
     . have hlt' : ((i : Int) < (ns1.length : Int)) = True := eq_true (by omega)
       obtain ⟨x, hx⟩ : ∃ x, ns1[i]? = some x := ⟨ns1[i]'(by omega), by simp⟩
       obtain ⟨y, hy⟩ : ∃ y, ns2[i]? = some y := ⟨ns2[i]'(by omega), by simp⟩
       have hgx : (ns1.map str)[i]? = some (.p (.string (ba x))) := by rw [List.getElem?_map, hx]; rfl
       have hgy : (ns2.map str)[i]? = some (.p (.string (ba y))) := by rw [List.getElem?_map, hy]; rfl
       have txy : (ba x = ba y) = (x = y) := propext ba_inj
       simp -dsimp +decide (disch := omega) only [vy, vz, vze, vr, ty, en, ↓reduceIte, Nat.reduceSub, Nat.reduceAdd, Nat.reduceMul, Nat.reduceLT, Int.reduceAdd, Int.reduceSub, Int.reduceToNat, ci, vi, getO_i, vt, u0, u1, hlt']
       refine SemA.drawS (.fl 0 (.fl 1 (.fl 2 (.fl 3 (.fl 4 (.fl 5 (.fl 6 (.fl 7 (.fl 8 (.fl 9 (.fl 10 .nil))))))))))) mixed (by kernel_rfl) ?_
       by_cases e : x = y
       . have e' : (x = y) = True := eq_true e
         simp -dsimp +decide (disch := omega) only [vy, vz, vze, vr, ty, en, ↓reduceIte, Nat.reduceSub, Nat.reduceAdd, Nat.reduceMul, Nat.reduceLT, Int.reduceAdd, Int.reduceSub, Int.reduceToNat, ci, vi, getO_i, vt, u0, u1, hna, hnb, hgx, hgy, vstr, txy, e']
         refine ⟨⟨by omega, by omega, fun h => by rw [h] at hgx; cases hgx⟩, ⟨by omega, by omega, fun h => by rw [h] at hgy; cases hgy⟩, i + 1, ⟨⟨by omega, by rw [List.take_add_one, List.take_add_one, hx, hy, he, e]⟩, by omega⟩, rfl⟩
       . have e' : (x = y) = False := eq_false e
         simp -dsimp +decide (disch := omega) only [vy, vz, vze, vr, ty, en, ↓reduceIte, Nat.reduceSub, Nat.reduceAdd, Nat.reduceMul, Nat.reduceLT, Int.reduceAdd, Int.reduceSub, Int.reduceToNat, ci, vi, getO_i, vt, u0, u1, hna, hnb, hgx, hgy, vstr, txy, e']
         refine ⟨⟨by omega, by omega, fun h => by rw [h] at hgx; cases hgx⟩, ⟨by omega, by omega, fun h => by rw [h] at hgy; cases hgy⟩, hcutU ⟨⟨false, rfl, ⟨fun h => (by cases h), fun h => ?_⟩⟩, rfl, rfl⟩⟩
         injection h with _ _ _ _ h
         rw [h] at hx; rw [hx] at hy; exact absurd (Option.some.inj hy) e
     . have hlt' : ((i : Int) < (ns1.length : Int)) = False := eq_false (by omega)
       rw [List.take_of_length_le (by omega), List.take_of_length_le (by omega)] at he
       simp -dsimp +decide (disch := omega) only [vy, vz, vze, vr, ty, en, ↓reduceIte, Nat.reduceSub, Nat.reduceAdd, Nat.reduceMul, Nat.reduceLT, Int.reduceAdd, Int.reduceSub, Int.reduceToNat, ci, vi, getO_i, vt, u0, u1, hlt']
       exact ⟨(), he⟩
   . rintro _ g tmp he
     subst he
     have hlk : ks1.length = ks2.length := e4
     simp -dsimp +decide (disch := omega) only [vy, vz, vze, vr, ty, en, ↓reduceIte, Nat.reduceSub, Nat.reduceAdd, Nat.reduceMul, Nat.reduceLT, Int.reduceAdd, Int.reduceSub, Int.reduceToNat, ci, vi, getO_i, vt]
     refine SemA.loopE (fun i : Nat => [(2, .ptr T.length 0), (3, .ptr (T.length + 1) 0), (6, wint (i : Int))]) (fun _ => U) (fun i => i <= ks1.length /\ ks1.take i = ks2.take i) (fun i => ks1.length - i) 0 [] 2
      (fun _ : Unit => []) (fun _ => U) (fun _ => ks1 = ks2) ⟨by omega, by simp⟩ (by (simp -dsimp +decide (disch := omega) only [vy, vz, vze, vr, ty, en, ↓reduceIte, Nat.reduceSub, Nat.reduceAdd, Nat.reduceMul, Nat.reduceLT, Int.reduceAdd, Int.reduceSub, Int.reduceToNat, ci, vi, getO_i]); first | rfl | done) rfl (by simp) ?_ ?_
     . rintro i g ⟨hi, he⟩
       refine SemA.o ?_
       by_cases hlt : i < ks1.length
       . have hlt' : ((i : Int) < (ks1.length : Int)) = True := eq_true (by omega)
         obtain ⟨x, hx⟩ : ∃ x, ks1[i]? = some x := ⟨ks1[i]'(by omega), by simp⟩
         obtain ⟨y, hy⟩ : ∃ y, ks2[i]? = some y := ⟨ks2[i]'(by omega), by simp⟩
         have hc := fun V => hs x (List.mem_of_getElem? hx) V y
         have hatx : List.take 5 (List.drop (i * 5) (vcsL ks1)) = vcs x := by rw [vcsL_eq]; exact flat_at (fun x _ => vcs_len x) hx
         have haty : List.take 5 (List.drop (i * 5) (vcsL ks2)) = vcs y := by rw [vcsL_eq]; exact flat_at (fun x _ => vcs_len x) hy
         have hfl : (vcsL ks1).length = ks1.length * 5 := by rw [vcsL_eq]; exact flat_len fun x _ => vcs_len x
         have hfm : (vcsL ks2).length = ks2.length * 5 := by rw [vcsL_eq]; exact flat_len fun x _ => vcs_len x
         simp -dsimp +decide (disch := omega) only [vy, vz, vze, vr, ty, en, ↓reduceIte, Nat.reduceSub, Nat.reduceAdd, Nat.reduceMul, Nat.reduceLT, Int.reduceAdd, Int.reduceSub, Int.reduceToNat, ci, vi, getO_i, vt, u0, u1, hlt']
         refine SemA.drawS (.fl 0 (.fl 1 (.fl 2 (.fl 3 (.fl 4 (.fl 5 (.fl 6 (.fl 7 (.fl 8 (.fl 9 (.sq 10 (.fl 11 .nil)))))))))))) mixed (by kernel_rfl) ?_
         simp -dsimp +decide (disch := omega) only [vy, vz, vze, vr, ty, en, ↓reduceIte, Nat.reduceSub, Nat.reduceAdd, Nat.reduceMul, Nat.reduceLT, Int.reduceAdd, Int.reduceSub, Int.reduceToNat, ci, vi, getO_i, vt, u0, u1, hra, hrb, hla, hlb, hx, hy]
         rw [hatx, haty]
         refine ⟨⟨by omega, by omega, fun h => by rw [h] at hfl; simp at hfl; omega⟩, by omega, ⟨by omega, by omega, fun h => by rw [h] at hfm; simp at hfm; omega⟩, by omega, ?_⟩
         refine (hc _).mono ?_
         rintro r T' es ⟨⟨b, rfl, hb⟩, rfl, rfl⟩
         cases b with
         | true =>
           have hxy := hb.1 rfl
           simp -dsimp +decide (disch := omega) only [vy, vz, vze, vr, ty, en, ↓reduceIte, Nat.reduceSub, Nat.reduceAdd, Nat.reduceMul, Nat.reduceLT, Int.reduceAdd, Int.reduceSub, Int.reduceToNat, ci, vi, getO_i, vt]
           exact ⟨i + 1, ⟨⟨by omega, by rw [List.take_add_one, List.take_add_one, hx, hy, he, hxy]⟩, by omega⟩, rfl⟩
         | false =>
           simp -dsimp +decide (disch := omega) only [vy, vz, vze, vr, ty, en, ↓reduceIte, Nat.reduceSub, Nat.reduceAdd, Nat.reduceMul, Nat.reduceLT, Int.reduceAdd, Int.reduceSub, Int.reduceToNat, ci, vi, getO_i, vt]
           refine hcutU ⟨⟨false, rfl, ⟨fun h => (by cases h), fun h => ?_⟩⟩, rfl, rfl⟩
           injection h with _ _ _ h
           rw [h] at hx; rw [hx] at hy
           have := hb.2 (Option.some.inj hy)
           cases this
       . have hlt' : ((i : Int) < (ks1.length : Int)) = False := eq_false (by omega)
         rw [List.take_of_length_le (by omega), List.take_of_length_le (by omega)] at he
         simp -dsimp +decide (disch := omega) only [vy, vz, vze, vr, ty, en, ↓reduceIte, Nat.reduceSub, Nat.reduceAdd, Nat.reduceMul, Nat.reduceLT, Int.reduceAdd, Int.reduceSub, Int.reduceToNat, ci, vi, getO_i, vt, u0, u1, hlt']
         exact ⟨(), he⟩
     . rintro _ g tmp he
       subst he
       simp -dsimp +decide (disch := omega) only [vy, vz, vze, vr, ty, en, ↓reduceIte, Nat.reduceSub, Nat.reduceAdd, Nat.reduceMul, Nat.reduceLT, Int.reduceAdd, Int.reduceSub, Int.reduceToNat, ci, vi, getO_i, vt]
       exact hcutU ⟨⟨true, rfl, ⟨fun _ => rfl, fun _ => rfl⟩⟩, rfl, rfl⟩
theorem same06_all : ∀ (N : Nat) (a : JV), vsz a <= N -> N <= 1099511627776 -> Same06Ok a
 | 0, a, h, _ => absurd h (by rw [vsz_eq]; omega)
 | N + 1, a, h, hN => same06_step a (by omega) fun x hx => same06_all N x (by have := vszL_mem hx; rw [vsz_eq] at h; omega) (by omega)
theorem same06_ok {T : Tbl} {a c : JV} (h : vsz a <= 1099511627776) : CallA prog G 15 [.ag (vcs a), .ag (vcs c)] T fun r T' es => (∃ b : Bool, r = .p (.bool b) /\ (b = true ↔ a = c)) /\ T' = T /\ es = [] := same06_all _ a h (Nat.le_refl _) T c
end Go.Proofs.YtglpcedoongagaaGreatDoor
namespace Go.Proofs.YtglpcedoongagaaGreatDoor
open Go.E Go.Proofs.YtglpcedoongagaaGreatDoor.Tryz Go.Proofs.Tryz Go.J Go.Proofs
theorem parsV_sz (l : B) : ∃ (u : JV) (e : Int), parsV l (parse l) = .tu [.ag (vcs u), .p (.int .i64 e)] /\ vsz u <= l.length + 1 := by
 cases hp : parse l with
 | error e => exact ⟨vNull, e, rfl, by rw [show vsz vNull = 1 from rfl]; omega⟩
 | ok u =>
   obtain ⟨hm, hlen⟩ := parse_good hp
   exact ⟨u, 0, rfl, by have := vsz_le 8 u hm; omega⟩
theorem parses_ok {T : Tbl} {l : B} (hl : l.length <= 140737488355328) : CallA prog G 4 [bl l] T fun v T' es => v = .p (.bool true) /\ T' = T /\ es = [] := by
 refine CallA.wfs fun wf => ?_
 have wt := wf.t
 have wp := wf.p
 rw [bl]
 have wk : ∀ (U : Tbl) (E : Eff), Vw G T (fun v T' es => v = .p (.bool true) /\ T' = T /\ es = []) (.p (.bool true)) (T ++ U) [] := fun U E => Vw.cut ⟨rfl, rfl, rfl⟩
 rcases Classical.propComplete ((131072 : Int) < (l.length : Int)) with c3 | c3
 . have c1 : ((8192 : Int) < (l.length : Int)) = True := eq_true (by have := of_eq_true c3; omega)
   have c2 : ((l.length : Int) <= 65536) = False := eq_false (by have := of_eq_true c3; omega)
   refine CallA.eV 9 func4 ntmps4 results4 ?_
   simp -dsimp +decide only [vsk, vr, ty, en, ↓reduceIte, Nat.reduceSub, Nat.reduceAdd, Nat.reduceMul, Nat.reduceLT, Int.reduceAdd, Int.reduceSub, Int.reduceToNat, ci]
   simp -dsimp +decide (disch := omega) only [vsk, vr, ty, en, ↓reduceIte, Nat.reduceSub, Nat.reduceAdd, Nat.reduceMul, Nat.reduceLT, Int.reduceAdd, Int.reduceSub, Int.reduceToNat, ci, vi, getO_i, vt, c1, c2, c3]
   refine works_ok.det' ?_
   simp -dsimp +decide (disch := omega) only [vsk, vr, ty, en, ↓reduceIte, Nat.reduceSub, Nat.reduceAdd, Nat.reduceMul, Nat.reduceLT, Int.reduceAdd, Int.reduceSub, Int.reduceToNat, ci, vi, getO_i, vt]
   exact Vw.done ⟨rfl, rfl, rfl⟩
 have hl3 := of_eq_false c3
 have hgo : ((8192 : Int) < (l.length : Int)) = False ∨ (((8192 : Int) < (l.length : Int)) = True /\ ((l.length : Int) <= 65536) = True) ∨ (((8192 : Int) < (l.length : Int)) = True /\ ((l.length : Int) <= 65536) = False) := by
  by_cases h1 : (8192 : Int) < (l.length : Int)
  . by_cases h2 : (l.length : Int) <= 65536
    . exact .inr (.inl ⟨eq_true h1, eq_true h2⟩)
    . exact .inr (.inr ⟨eq_true h1, eq_false h2⟩)
  . exact .inl (eq_false h1)
 obtain ⟨u, e, hpv, hsz⟩ := parsV_sz l
 have hcu := vcr u
 have hwu : wrA (vcs u) 0 (vcs u) = vcs u := wrA_all rfl
 have hll : decide (l = l) = true := decide_eq_true rfl
 have hee : decide (e = e) = true := decide_eq_true rfl
 rcases hgo with c1 | ⟨c1, c2⟩ | ⟨c1, c2⟩
 rotate_left
 . skip
   refine CallA.eV 9 func4 ntmps4 results4 ?_
   simp -dsimp +decide only [vsk, vr, ty, en, ↓reduceIte, Nat.reduceSub, Nat.reduceAdd, Nat.reduceMul, Nat.reduceLT, Int.reduceAdd, Int.reduceSub, Int.reduceToNat, ci]
   simp -dsimp +decide (disch := omega) only [vsk, vr, ty, en, ↓reduceIte, Nat.reduceSub, Nat.reduceAdd, Nat.reduceMul, Nat.reduceLT, Int.reduceAdd, Int.reduceSub, Int.reduceToNat, ci, vi, getO_i, vt, c1, c2]
   refine works_ok.det' ?_
   simp -dsimp +decide (disch := omega) only [vsk, vr, ty, en, ↓reduceIte, Nat.reduceSub, Nat.reduceAdd, Nat.reduceMul, Nat.reduceLT, Int.reduceAdd, Int.reduceSub, Int.reduceToNat, ci, vi, getO_i, vt]
   exact Vw.done ⟨rfl, rfl, rfl⟩
 all_goals
  refine CallA.eV 9 func4 ntmps4 results4 ?_
  simp -dsimp +decide only [vsk, vr, ty, en, ↓reduceIte, Nat.reduceSub, Nat.reduceAdd, Nat.reduceMul, Nat.reduceLT, Int.reduceAdd, Int.reduceSub, Int.reduceToNat, ci]
  first
   | (simp -dsimp +decide (disch := omega) only [vsk, vr, ty, en, ↓reduceIte, Nat.reduceSub, Nat.reduceAdd, Nat.reduceMul, Nat.reduceLT, Int.reduceAdd, Int.reduceSub, Int.reduceToNat, ci, vi, getO_i, vt, c1, c2, c3])
   | (simp -dsimp +decide (disch := omega) only [vsk, vr, ty, en, ↓reduceIte, Nat.reduceSub, Nat.reduceAdd, Nat.reduceMul, Nat.reduceLT, Int.reduceAdd, Int.reduceSub, Int.reduceToNat, ci, vi, getO_i, vt, c1, c3])
  refine (copied_own (Bs.vs l) (by omega)).det' ?_
  simp -dsimp +decide (disch := omega) only [vsk, vr, ty, en, ↓reduceIte, Nat.reduceSub, Nat.reduceAdd, Nat.reduceMul, Nat.reduceLT, Int.reduceAdd, Int.reduceSub, Int.reduceToNat, ci, vi, getO_i, vt]
  refine (parse_own (gn0 _ _ _) (by omega)).mono ?_
  rintro r T' es ⟨rfl, rfl, rfl⟩
  rw [hpv]
  simp -dsimp +decide (disch := omega) only [vsk, vr, ty, en, ↓reduceIte, Nat.reduceSub, Nat.reduceAdd, Nat.reduceMul, Nat.reduceLT, Int.reduceAdd, Int.reduceSub, Int.reduceToNat, ci, vi, getO_i, vt, gn0, gn1, hcu, hwu]
  refine (parse06_ok (l := l) (Bs.vs l) (by omega)).mono ?_
  rintro r T' es ⟨rfl, rfl, rfl⟩
  rw [hpv]
  simp -dsimp +decide (disch := omega) only [vsk, vr, ty, en, ↓reduceIte, Nat.reduceSub, Nat.reduceAdd, Nat.reduceMul, Nat.reduceLT, Int.reduceAdd, Int.reduceSub, Int.reduceToNat, ci, vi, getO_i, vt, gn0, gn1, gn2, hcu, hwu, hee]
  refine (same06_ok (a := u) (c := u) (by omega)).mono ?_
  rintro r T' es ⟨⟨b, rfl, hb⟩, rfl, rfl⟩
  obtain rfl := hb.2 rfl
  simp -dsimp +decide (disch := omega) only [vsk, vr, ty, en, ↓reduceIte, Nat.reduceSub, Nat.reduceAdd, Nat.reduceMul, Nat.reduceLT, Int.reduceAdd, Int.reduceSub, Int.reduceToNat, ci, vi, getO_i, vt, gn0, gn1, gn2, hcu, hwu, hee]
  refine (bsame_ok (l := l) (m := l) (Sl.obj (gn0 _ _ _) rfl (by simp)) (Bs.vs l) (by omega)).det' ?_
  rw [hll]
  simp -dsimp +decide (disch := omega) only [vsk, vr, ty, en, ↓reduceIte, Nat.reduceSub, Nat.reduceAdd, Nat.reduceMul, Nat.reduceLT, Int.reduceAdd, Int.reduceSub, Int.reduceToNat, ci, vi, getO_i, vt, gn0, gn1, gn2, hcu, hwu, hee]
  refine SemA.loopS (fun s : Nat × B => [(3, .sl T.length 0 l.length), (4, .ptr (T.length + 1) 0), (6, .ptr (T.length + 2) 0), (8, wint (s.1 : Int))])
   (fun s => T ++ [.buf 5 1 (s.2.map by8), .cells 25 (vcs u), .cells 25 (vcs u)]) (fun s => s.1 <= l.length /\ s.2.length = l.length) (fun s => l.length - s.1) (0, l) [] 0
   (fun s : B => [(4, .ptr (T.length + 1) 0), (6, .ptr (T.length + 2) 0)])
   (fun s => T ++ [.buf 5 1 (s.map by8), .cells 25 (vcs u), .cells 25 (vcs u)]) (fun _ => True) ⟨Nat.zero_le _, rfl⟩ ⟨rfl, rfl, rfl, rfl, rfl⟩ rfl (by simp) ?_ ?_
  . rintro ⟨i, q⟩ g ⟨hi, hq⟩
    dsimp only at hi hq
    refine SemA.o ?_
    by_cases hlt : i < l.length
    . have hlt' : ((i : Int) < (l.length : Int)) = True := eq_true (by omega)
      obtain ⟨x, hx⟩ : ∃ x, q[i]? = some x := ⟨q[i], by simp [hlt, hq]⟩
      have hgx : (q.map by8)[i]? = some (by8 x) := by rw [List.getElem?_map, hx]; rfl
      simp -dsimp +decide (disch := omega) only [vsk, vr, ty, en, ↓reduceIte, Nat.reduceSub, Nat.reduceAdd, Nat.reduceMul, Nat.reduceLT, Int.reduceAdd, Int.reduceSub, Int.reduceToNat, ci, vi, getO_i, vt, hlt', hgx, gn0, gn1, gn2, hcu, hq]
      have hqn : List.map by8 q ≠ [] := fun h => by rw [List.map_eq_nil_iff.1 h] at hq; simp only [List.length_nil] at hq; omega
      exact ⟨⟨by omega, hqn⟩, ⟨by omega, hqn⟩, by omega, (i + 1, q.set i (x ^^^ UInt8.ofInt 51)), ⟨⟨by dsimp only; omega, by rw [List.length_set]; exact hq⟩, by dsimp only; omega⟩, SeeL.done ⟨rfl, ⟨rfl, rfl, rfl, rfl, rfl⟩, rfl, by simp⟩⟩
    . have hlt' : ((i : Int) < (l.length : Int)) = False := eq_false (by omega)
      simp -dsimp +decide (disch := omega) only [vsk, vr, ty, en, ↓reduceIte, Nat.reduceSub, Nat.reduceAdd, Nat.reduceMul, Nat.reduceLT, Int.reduceAdd, Int.reduceSub, Int.reduceToNat, ci, vi, getO_i, vt, hlt']
      exact ⟨q, SeeL.done ⟨rfl, ⟨rfl, rfl, rfl⟩, rfl, by simp⟩⟩
  . rintro q g tmp _
    simp -dsimp +decide (disch := omega) only [vsk, vr, ty, en, ↓reduceIte, Nat.reduceSub, Nat.reduceAdd, Nat.reduceMul, Nat.reduceLT, Int.reduceAdd, Int.reduceSub, Int.reduceToNat, ci, vi, getO_i, vt, gn0, gn1, gn2, hcu]
    refine (same06_ok (a := u) (c := u) (by omega)).mono ?_
    rintro r T' es ⟨⟨b, rfl, hb⟩, rfl, rfl⟩
    obtain rfl := hb.2 rfl
    simp -dsimp +decide (disch := omega) only [vsk, vr, ty, en, ↓reduceIte, Nat.reduceSub, Nat.reduceAdd, Nat.reduceMul, Nat.reduceLT, Int.reduceAdd, Int.reduceSub, Int.reduceToNat, ci, vi, getO_i, vt, gn0, gn1, gn2, hcu]
    refine works_ok.det' ?_
    simp -dsimp +decide (disch := omega) only [vsk, vr, ty, en, ↓reduceIte, Nat.reduceSub, Nat.reduceAdd, Nat.reduceMul, Nat.reduceLT, Int.reduceAdd, Int.reduceSub, Int.reduceToNat, ci, vi, getO_i, vt]
    exact Vw.cut ⟨rfl, rfl, rfl⟩
end Go.Proofs.YtglpcedoongagaaGreatDoor
namespace Go.Proofs.YtglpcedoongagaaGreatDoor.jsonParsesL
open Go.ChangeShapes Go.WideShapes Go.ChangeAt Go.RowKit Go.E Go.Proofs.YtglpcedoongagaaGreatDoor.Tryz Go.Proofs.Tryz
set_option maxRecDepth 100000 in
theorem contract (H : Type) (enc : TypeId × Value -> H) (W : World) (base : Nat) (args : Array Value) (ds gs : List (DataW H)) (before : List MemPlace)
 (hval : ∀ (j : Nat) t v, Tryz.f4.params[j]? = some t -> args[j]? = some v -> Value.okWide prog W .any base t v)
 (hW : DataW.Whole enc prog Tryz.f4.params.toList Rows.jsonParsesSpec.vars false W args.toList ds gs before)
 (hz : (DataW.weightsEach prog (Tryz.f4.params.toList ++ Rows.jsonParsesSpec.plain.varTypes prog) (ds ++ gs)).all (· <= reachBytes) = true)
 (hL : laidMetH prog [("math/bits.deBruijn32tab", Rows.laid_math_bits_deBruijn32tab), ("math/bits.deBruijn64tab", Rows.laid_math_bits_deBruijn64tab), ("internal/strconv.uint64pow10", Rows.laid_internal_strconv_uint64pow10), ("unicode/utf8.acceptRanges", Rows.laid_unicode_utf8_acceptRanges), ("strconv.ErrRange", Rows.laid_strconv_ErrRange), ("strconv.ErrSyntax", Rows.laid_strconv_ErrSyntax), ("unicode/utf8.first", Rows.laid_unicode_utf8_first)] W) :
 Calls prog 4 args W fun e W' => ∃ v, e = .returned v /\ Rows.jsonParsesSpec.post enc prog Tryz.f4 false true false false W args v W' := by
 have hn : ds.length = 1 := by
  obtain ⟨p, q, hA, _⟩ := hW
  rw [Tryz.params4] at hA
  exact (trodAll_length hA).2
 have hg : gs = [] := by
  obtain ⟨p, q, hA, hV, _⟩ := hW
  exact (trodVars_none hV).1
 subst hg
 refine law_callsA (tys := [29, 5]) 4 laidOut (by kernel_rfl) (by kernel_rfl) Tryz.underlying4 rfl ?_ hW (by kernel_rfl) (by kernel_rfl) hval hz (gok hL) ?_
 . match ds, hn with
   | [_], _ => rfl
 intro xs hx
 rw [Tryz.params4] at hx
 cases hx with | cons h0 hx =>
 cases hx
 obtain ⟨a0, e0, h0l⟩ := arg_nums (fun a : UInt8 => by rw [Dat.avs]) (open_u8 Tryz.underlying5) h0 Tryz.underlying29
 simp only [List.map_cons, List.map_nil, e0]
 have hb : prog.bytesOf 5 = 1 := by kernel_rfl
 rw [hb] at h0l
 unfold reachBytes at h0l
 exact (parses_ok (T := []) (l := a0) (by omega)).mono fun v T E h => h.1
set_option maxRecDepth 100000 in
theorem lifted (os : Os) (started : os.Started) (H : Type) (enc : TypeId × Value -> H) :
 ReturnsInHanded {} Tryz.checked os 4 .any (fun w args => (Rows.jsonParsesSpec.pre enc prog Tryz.f4 [] false w args /\ laidMetH prog [("math/bits.deBruijn32tab", Rows.laid_math_bits_deBruijn32tab), ("math/bits.deBruijn64tab", Rows.laid_math_bits_deBruijn64tab), ("internal/strconv.uint64pow10", Rows.laid_internal_strconv_uint64pow10), ("unicode/utf8.acceptRanges", Rows.laid_unicode_utf8_acceptRanges), ("strconv.ErrRange", Rows.laid_strconv_ErrRange), ("strconv.ErrSyntax", Rows.laid_strconv_ErrSyntax), ("unicode/utf8.first", Rows.laid_unicode_utf8_first)] w) /\ sizedMet enc prog Tryz.f4 (OpenSpec.ofChange Rows.jsonParsesSpec) false w args)
  (Rows.jsonParsesSpec.post enc prog Tryz.f4 false true false false) := by
 refine returnsInHanded_of_change_and (C := Tryz.checked) (X := fun w _ => laidMetH prog [("math/bits.deBruijn32tab", Rows.laid_math_bits_deBruijn32tab), ("math/bits.deBruijn64tab", Rows.laid_math_bits_deBruijn64tab), ("internal/strconv.uint64pow10", Rows.laid_internal_strconv_uint64pow10), ("unicode/utf8.acceptRanges", Rows.laid_unicode_utf8_acceptRanges), ("strconv.ErrRange", Rows.laid_strconv_ErrRange), ("strconv.ErrSyntax", Rows.laid_strconv_ErrSyntax), ("unicode/utf8.first", Rows.laid_unicode_utf8_first)] w) (fun _ _ _ hh h => h.of_heap hh) own started (by kernel_rfl) func4
  (ChangeSpec.witness_shaped (enc := enc) (C := Tryz.checked) (os := os) (X := fun w _ => laidMetH prog [("math/bits.deBruijn32tab", Rows.laid_math_bits_deBruijn32tab), ("math/bits.deBruijn64tab", Rows.laid_math_bits_deBruijn64tab), ("internal/strconv.uint64pow10", Rows.laid_internal_strconv_uint64pow10), ("unicode/utf8.acceptRanges", Rows.laid_unicode_utf8_acceptRanges), ("strconv.ErrRange", Rows.laid_strconv_ErrRange), ("strconv.ErrSyntax", Rows.laid_strconv_ErrSyntax), ("unicode/utf8.first", Rows.laid_unicode_utf8_first)] w) false (World.laidAll prog os [("math/bits.deBruijn32tab", Rows.laid_math_bits_deBruijn32tab), ("math/bits.deBruijn64tab", Rows.laid_math_bits_deBruijn64tab), ("internal/strconv.uint64pow10", Rows.laid_internal_strconv_uint64pow10), ("unicode/utf8.acceptRanges", Rows.laid_unicode_utf8_acceptRanges), ("strconv.ErrRange", Rows.laid_strconv_ErrRange), ("strconv.ErrSyntax", Rows.laid_strconv_ErrSyntax), ("unicode/utf8.first", Rows.laid_unicode_utf8_first)]) #[.slice none 0 0] 8 (World.laidAll_os _ _ _) (World.shaped_of_ZipB (by kernel_rfl) (by kernel_rfl)) (by kernel_rfl) (by kernel_rfl) (by kernel_rfl) (laid_met os _)) ?_
 intro W base args ds gs before hval hW _ hz hL _
 exact contract H enc W base args ds gs before hval hW hz hL
theorem said : Rows.JsonParsesSaid :=
 OpenClaim.holds_of_wide 4 Tryz.f4 rfl rfl rfl rfl rfl rfl rfl ⟨rfl, rfl, rfl, rfl, rfl⟩ rfl rfl rfl rfl rfl (by kernel_rfl) func4 (by kernel_rfl)
  (of_decide_eq_true (by kernel_rfl)) (by unfold Func.isWrapper; first | (rw [if_pos (by decide +kernel)]; kernel_rfl) | (rw [if_neg (by decide +kernel)]; exact ⟨rfl, rfl⟩))
  (fun os started H enc _ => lifted os started H enc)
theorem proved : Rows.JsonParsesCardSaid :=
 Claim7.holds_tied_plain_at .later [] [.data, .data, .data, .data, .sentinel, .sentinel, .pinned] true Rows.jsonParsesCard.stood.harness true
  said (fun _ h => by cases h) (by kernel_rfl) (fun _ h => by cases h) jsonParses_row_tie rfl ⟨rfl, rfl⟩ (by kernel_rfl) rfl
  (fun f fn hf hfn => by
   obtain rfl : f = 4 := Option.some.inj ((show prog.funcNamed "scantling/scantlinglaw06.JsonParses" = some 4 by kernel_rfl).symm.trans hf) |>.symm
   obtain rfl : fn = Tryz.f4 := (Option.some.inj (func4.symm.trans hfn)).symm
   exact ⟨by kernel_rfl, fun j t ht => by
    have hm : t ∈ Tryz.f4.params.toList := by simpa using Array.mem_of_getElem? ht
    have hall : (Tryz.f4.params.toList.all fun u => !prog.wantsStandIn u) = true := by kernel_rfl
    exact (show prog.wantsStandIn t = false by simpa using List.all_eq_true.1 hall t hm)⟩)
  (by kernel_rfl)
end Go.Proofs.YtglpcedoongagaaGreatDoor.jsonParsesL
