/-
  Part 5 of the proof: no statement of its own. No condition but those in each theorem.
-/
import Derived.Test.YtglpcedoongagaaGreatDoorQk4
import Derived.RecoverIn
import Derived.Test.YtglpcedoongagaaGreatDoorRows
import Derived.LaidMore
import Derived.Lay
import Derived.Stop.LaidErr
import Derived.OpenShut
import Derived.Stop.Joined
import Derived.KernelRfl
set_option linter.unusedSimpArgs false
set_option linter.unusedVariables false
set_option linter.unusedSectionVars false
set_option maxRecDepth 8000
set_option maxHeartbeats 4000000
namespace Go.Proofs.YtglpcedoongagaaGreatDoor
open Go.E Go.Proofs.YtglpcedoongagaaGreatDoor.Tryz Go.Proofs.Tryz Go.J Go.Proofs
def PutOk (n : Nat) : Prop := ∀ (T : Tbl) (j : Nat) (A : List UInt8) (v : JV), T[j]? = some (bf A) -> T.map (AObj.wo fun x => x == j) = T -> may n v -> fits n v -> A.length + 6 * (prt n v).length + 100 <= 140737488355328 -> CallA prog G 21 [.sl j 0 A.length, .ag (vcs v)] T (App T j A (prt n v))
theorem joinC_snoc (a : List UInt8) : ∀ l : List (List UInt8), joinC (l ++ [a]) = if l = [] then a else joinC l ++ 44 :: a
 | [] => rfl
 | [x] => rfl
 | x :: y :: r => by
   have ih := joinC_snoc a (y :: r)
   rw [if_neg (by simp)] at ih ⊢
   simp only [List.cons_append, joinC] at ih ⊢
   rw [ih]; simp
theorem joinC_pre (l : List (List UInt8)) : ∀ i, (joinC (l.take i)).length <= (joinC l).length := by
 intro i
 induction l generalizing i with
 | nil => simp
 | cons x r ih =>
   cases i with
   | zero => simp [joinC]
   | succ i =>
     cases r with
     | nil => simp [joinC]
     | cons y r =>
       cases i with
       | zero => simp only [List.take_succ_cons, List.take_zero, joinC, List.length_append]; omega
       | succ i =>
         have := ih (i + 1)
         simp only [List.take_succ_cons, joinC, List.length_append, List.length_cons] at this ⊢
         omega
theorem quote_le (s : List UInt8) : s.length <= (quote s).length := by
 have : ∀ l : List UInt8, l.length <= (l.flatMap qb).length := fun l => by
  induction l with
  | nil => simp
  | cons c r ih =>
    have : 1 <= (qb c).length := by unfold qb; (repeat' split) <;> simp
    rw [List.flatMap_cons, List.length_append, List.length_cons]; omega
 have := this s
 rw [quote, List.length_cons, List.length_append]; omega
theorem put_leaf {T : Tbl} {j : Nat} {A : List UInt8} {v : JV} (hj : T[j]? = some (bf A)) (hq : T.map (AObj.wo fun x => x == j) = T) (hm : mayL v) (hf : wide v) (hA : A.length + 6 * (prtL v).length + 100 <= 140737488355328) : CallA prog G 21 [.sl j 0 A.length, .ag (vcs v)] T (App T j A (prtL v)) := by
 refine CallA.wfs fun wf => ?_
 have wt := wf.t
 have hjl := (List.getElem?_eq_some_iff.1 hj).1
 have hqv : ∀ v : JV, (T ++ [AObj.cells 25 (vcs v)]).map (AObj.wo fun x => x == j) = T ++ [AObj.cells 25 (vcs v)] := fun v => by
  rw [List.map_append, hq]; simp only [List.map_cons, List.map_nil, AObj.wo, vcs_wo]
 have hjv : ∀ l : Tbl, (T ++ l)[j]? = some (bf A) := fun l => by rw [List.getElem?_append_left hjl]; exact hj
 have hj' : ∀ l : Tbl, (T ++ l)[j]? = some (.buf 5 1 (A.map by8)) := hjv
 obtain ⟨k, z, s, ks, ns⟩ := v
 have hqv' := hqv (.mk k z s ks ns)
 rw [vcs, show str s = .p (.string (ba s)) from rfl] at hqv' ⊢
 obtain ⟨hb, hk⟩ := hm
 refine CallA.eV 45 func21 ntmps21 results21 ?_
 simp -dsimp +decide only [vr, ty, en, ↓reduceIte, Nat.reduceSub, Nat.reduceAdd, Nat.reduceMul, Nat.reduceLT, Int.reduceAdd, Int.reduceSub, Int.reduceToNat, ci]
 rcases hk with hk | hk | ⟨hk, hz⟩ | ⟨hk, hv⟩
 . have hk : k = 0 := hk
   subst hk
   have hp : prtL (.mk 0 z s ks ns) = [110, 117, 108, 108] := rfl
   simp -dsimp +decide (disch := omega) only [vr, ty, en, ↓reduceIte, Nat.reduceSub, Nat.reduceAdd, Nat.reduceMul, Nat.reduceLT, Int.reduceAdd, Int.reduceSub, Int.reduceToNat, ci, vi, getO_i, vt, hj', app_str]
   refine ⟨⟨by show A.length + 4 <= _; omega, by show A.length + 4 <= _; omega⟩, ?_⟩
   rw [hq, rec1_in hjl]
   refine Vw.bf' (A := A ++ [110, 117, 108, 108]) (by rw [bf, List.map_append]; rfl) wt.2.1 hjl ⟨?_, ?_, rfl⟩
   . rw [hp, List.length_append]; rfl
   . rw [hp]
 . have hk : k = 2 := hk
   subst hk
   have hp : prtL (.mk 2 z s ks ns) = numS z := rfl
   simp -dsimp +decide (disch := omega) only [vr, ty, en, ↓reduceIte, Nat.reduceSub, Nat.reduceAdd, Nat.reduceMul, Nat.reduceLT, Int.reduceAdd, Int.reduceSub, Int.reduceToNat, ci, vi, getO_i, vt, hj']
   rw [hp] at hA
   refine (AI_ok (z := z) hf (hjv _) (by omega) hqv').mono ?_
   rintro v T' es ⟨rfl, rfl, rfl⟩
   simp -dsimp +decide (disch := omega) only [vr, ty, en, ↓reduceIte, Nat.reduceSub, Nat.reduceAdd, Nat.reduceMul, Nat.reduceLT, Int.reduceAdd, Int.reduceSub, Int.reduceToNat, ci, vi, getO_i, vt, rec1_in hjl]
   refine Vw.bf wt.2.1 hjl ⟨?_, ?_, rfl⟩
   . rw [hp]
   . rw [hp]
 . have hk : k = 1 := hk
   subst hk
   have hp : prtL (.mk 1 z s ks ns) = bws (decide (z = 1)) := by
    show (if z = 1 then _ else _) = _
    unfold bws
    by_cases h : z = 1
    . rw [if_pos h, if_pos (decide_eq_true h)]
    . rw [if_neg h, if_neg (by simpa using h)]
   simp -dsimp +decide (disch := omega) only [vr, ty, en, ↓reduceIte, Nat.reduceSub, Nat.reduceAdd, Nat.reduceMul, Nat.reduceLT, Int.reduceAdd, Int.reduceSub, Int.reduceToNat, ci, vi, getO_i, vt, hj']
   refine (AB_ok (b := decide (z = 1)) (hjv _) (by omega) hqv').mono ?_
   rintro v T' es ⟨rfl, rfl, rfl⟩
   simp -dsimp +decide (disch := omega) only [vr, ty, en, ↓reduceIte, Nat.reduceSub, Nat.reduceAdd, Nat.reduceMul, Nat.reduceLT, Int.reduceAdd, Int.reduceSub, Int.reduceToNat, ci, vi, getO_i, vt, rec1_in hjl]
   refine Vw.bf wt.2.1 hjl ⟨?_, ?_, rfl⟩
   . rw [hp]
   . rw [hp]
 . have hk : k = 3 := hk
   subst hk
   have hp : prtL (.mk 3 z s ks ns) = quote s := rfl
   have hql : s.length <= (quote s).length := by
    have : ∀ l : List UInt8, l.length <= (l.flatMap qb).length := fun l => by
     induction l with
     | nil => simp
     | cons c r ih =>
       have : 1 <= (qb c).length := by unfold qb; (repeat' split) <;> simp
       rw [List.flatMap_cons, List.length_append, List.length_cons]; omega
    have := this s
    rw [quote, List.length_cons, List.length_append]; omega
   rw [hp] at hA
   simp -dsimp +decide (disch := omega) only [vr, ty, en, ↓reduceIte, Nat.reduceSub, Nat.reduceAdd, Nat.reduceMul, Nat.reduceLT, Int.reduceAdd, Int.reduceSub, Int.reduceToNat, ci, vi, getO_i, vt, hj']
   refine (quoted_ok (hjv _) (by omega) hqv').mono ?_
   rintro v T' es ⟨rfl, rfl, rfl⟩
   simp -dsimp +decide (disch := omega) only [vr, ty, en, ↓reduceIte, Nat.reduceSub, Nat.reduceAdd, Nat.reduceMul, Nat.reduceLT, Int.reduceAdd, Int.reduceSub, Int.reduceToNat, ci, vi, getO_i, vt, rec1_in hjl]
   refine Vw.bf wt.2.1 hjl ⟨?_, ?_, rfl⟩
   . rw [hp]
   . rw [hp]
theorem put_list {n : Nat} (hrec : PutOk n) {T : Tbl} {j : Nat} {A : List UInt8} {ks : List JV} {z : Int} {s : List UInt8} {ns : List (List UInt8)} (hj : T[j]? = some (bf A)) (hq : T.map (AObj.wo fun x => x == j) = T) (hm : ∀ x ∈ ks, may n x) (hf : ∀ x ∈ ks, fits n x) (hks : ks.length <= 140737488355328)
 (hA : A.length + 6 * (joinC (ks.map (prt n))).length + 112 <= 140737488355328) : CallA prog G 21 [.sl j 0 A.length, .ag (vcs (.mk 4 z s ks ns))] T (App T j A (91 :: (joinC (ks.map (prt n)) ++ [93]))) := by
 refine CallA.wfs fun wf => ?_
 have wt := wf.t
 have hjl := (List.getElem?_eq_some_iff.1 hj).1
 have hV := V.rules hjl hq wt.2.1 wt.1
 have hjv : ∀ l : Tbl, (T ++ l)[j]? = some (bf A) := fun l => by rw [List.getElem?_append_left hjl]; exact hj
 have hj' : ∀ l : Tbl, (T ++ l)[j]? = some (.buf 5 1 (A.map by8)) := hjv
 have hld := (Es_vcs T ks).ld (P := prog) (t := 25) (by (simp -dsimp +decide only [vr, ty, en, ↓reduceIte, Nat.reduceSub, Nat.reduceAdd, Nat.reduceMul, Nat.reduceLT, Int.reduceAdd, Int.reduceSub, Int.reduceToNat, ci])) (by (simp -dsimp +decide only [vr, ty, en, ↓reduceIte, Nat.reduceSub, Nat.reduceAdd, Nat.reduceMul, Nat.reduceLT, Int.reduceAdd, Int.reduceSub, Int.reduceToNat, ci])) (by decide)
 have hr := Sl.rules (Es_vcs T ks).sl (by decide)
 rw [vcs, show str s = .p (.string (ba s)) from rfl]
 have h91 : (ByteArray.mk #[91, 93])[0]? = some 91 := by decide
 have h93 : (ByteArray.mk #[91, 93])[1]? = some 93 := by decide
 obtain ⟨its, hits⟩ : ∃ its, its = ks.map (prt n) := ⟨_, rfl⟩
 have hil : its.length = ks.length := by rw [hits, List.length_map]
 rw [<- hits] at hA ⊢
 have hVof : ∀ (l : Tbl) (o : AObj), (T ++ l).set j o = V T j o ++ l := fun l o => List.set_append_left _ _ hjl
 have hnj : (∀ k, (T.length + k == j) = false) /\ (T.length == j) = false /\ (∀ k, decide (T.length + k <= j) = false) := ⟨fun k => by simp; omega, by simp; omega, fun k => by simp; omega⟩
 refine CallA.eV 45 func21 ntmps21 results21 ?_
 simp -dsimp +decide only [vr, ty, en, ↓reduceIte, Nat.reduceSub, Nat.reduceAdd, Nat.reduceMul, Nat.reduceLT, Int.reduceAdd, Int.reduceSub, Int.reduceToNat, ci]
 simp -dsimp +decide (disch := omega) only [vr, ty, en, ↓reduceIte, Nat.reduceSub, Nat.reduceAdd, Nat.reduceMul, Nat.reduceLT, Int.reduceAdd, Int.reduceSub, Int.reduceToNat, ci, vi, getO_i, vt, hj', h91, hq, rec1_in hjl, hVof, hnj, hV]
 refine ⟨⟨by omega, by omega⟩, ?_⟩
 refine SemA.loopC (fun i : Nat => [(0, .sl j 0 (A ++ [91] ++ joinC (its.take i)).length), (3, .ptr T.length 0), (5, .p (.string (ByteArray.mk #[91, 93]))), (42, .vs (vcsL ks) ks.length), (43, wint (ks.length : Int)), (44, wint (i : Int))])
  (fun i => V T j (bf (A ++ [91] ++ joinC (its.take i))) ++ [.cells 25 [.p (.int .u8 ((4 : UInt8).toNat : Int)), .p (.int .i64 z), .p (.string (ba s)), .vs (vcsL ks) ks.length, .vs (ns.map str) ns.length], .buf 5 1 [.p (.int .u8 ((91 : UInt8).toNat : Int))]])
  (fun i => i <= ks.length) (fun i => ks.length - i) (T.length + 2) 0 [(j, true)] (by kernel_rfl) (by omega) (by omega) ?_ ?_ (by simp) ?_
 . have : (A ++ [91] ++ joinC (its.take 0)) = A ++ [91] := by rw [List.take_zero]; exact List.append_nil _
   rw [this]
   simp -dsimp +decide only [vr, ty, en, ↓reduceIte, Nat.reduceSub, Nat.reduceAdd, Nat.reduceMul, Nat.reduceLT, Int.reduceAdd, Int.reduceSub, Int.reduceToNat, ci, vt]
   first | rfl | (and_intros <;> first | rfl | (simp; done))
 . have : (A ++ [91] ++ joinC (its.take 0)) = A ++ [91] := by rw [List.take_zero]; exact List.append_nil _
   rw [this]; rfl
 . rintro i g hi
   have hpre := joinC_pre its i
   obtain ⟨B, hB⟩ : ∃ B, A ++ [91] ++ joinC (its.take i) = B := ⟨_, rfl⟩
   rw [hB]
   have hlen0 : B.length = A.length + 1 + (joinC (its.take i)).length := by rw [<- hB, List.length_append, List.length_append]; rfl
   by_cases hlt : i < ks.length
   . have hlt' : ((i : Int) < (ks.length : Int)) = True := eq_true (by omega)
     obtain ⟨x, hx⟩ : ∃ x, ks[i]? = some x := ⟨ks[i], List.getElem?_eq_getElem hlt⟩
     have hxi : its[i]? = some (prt n x) := by rw [hits, List.getElem?_map, hx]; rfl
     have hxm := List.mem_of_getElem? hx
     have hsn := joinC_snoc (prt n x) (its.take i)
     have htk : its.take i ++ [prt n x] = its.take (i + 1) := by rw [List.take_add_one, hxi]; rfl
     rw [htk] at hsn
     have hpre2 := joinC_pre its (i + 1)
     have hfl : (vcsL ks).length = ks.length * 5 := by rw [vcsL_eq]; exact flat_len fun x _ => vcs_len x
     have hne : vcsL ks ≠ [] := fun e => by rw [e] at hfl; simp at hfl; omega
     have hat : List.take 5 (List.drop (i * 5) (vcsL ks)) = vcs x := by rw [vcsL_eq]; exact flat_at (fun x _ => vcs_len x) hx
     have hm' := hm x hxm
     have hf' := hf x hxm
     have hqk : ∀ (B' : List UInt8) (l : Tbl), l.map (AObj.wo fun x => x == j) = l -> (V T j (bf B') ++ l).map (AObj.wo fun x => x == j) = V T j (bf B') ++ l := fun B' l h => by rw [List.map_append, hV.2.2.2.1, bf_wo, h]
     have hcall := fun (B' : List UInt8) (l : Tbl) (h : l.map (AObj.wo fun x => x == j) = l) (hb : B'.length + 6 * (prt n x).length + 100 <= 140737488355328) => hrec (V T j (bf B') ++ l) j B' x (hV.2.2.1 _ _) (hqk B' l h) hm' hf' hb
     obtain ⟨k', z', s', ks', ns'⟩ := x
     obtain ⟨pk, hpk⟩ : ∃ pk, prt n (.mk k' z' s' ks' ns') = pk := ⟨_, rfl⟩
     rw [hpk] at hsn hcall
     rw [vcs, show str s' = .p (.string (ba s')) from rfl] at hat hcall
     have hci : ((i + 1 : Nat) : Int) = (i : Int) + 1 := rfl
     by_cases hi0 : i = 0
     . have hpos : ((0 : Int) < (i : Int)) = False := eq_false (by omega)
       rw [if_pos (by rw [hi0]; rfl)] at hsn
       have hz0 : joinC (its.take i) = [] := by rw [hi0]; rfl
       rw [hz0] at hlen0
       have hBq : B ++ pk = A ++ [91] ++ joinC (its.take (i + 1)) := by rw [hsn, <- hB, hz0]; simp only [List.append_assoc, List.append_nil]
       rw [show bf B = .buf 5 1 (B.map by8) from rfl]
       simp -dsimp +decide (disch := omega) only [vr, ty, en, ↓reduceIte, Nat.reduceSub, Nat.reduceAdd, Nat.reduceMul, Nat.reduceLT, Int.reduceAdd, Int.reduceSub, Int.reduceToNat, ci, vi, getO_i, vt, hV, hlt', hr, hld, hx, hat, hpos, hnj, wr5, tk5]
       refine ⟨⟨by omega, hne⟩, by omega, ?_⟩
       refine (hcall B _ (by rfl) (by rw [hsn] at hpre2; simp only [List.length_nil] at hlen0; omega)).mono ?_
       rintro v T' es ⟨rfl, rfl, rfl⟩
       rw [hV.2.2.2.2.2.1, hBq]
       simp -dsimp +decide (disch := omega) only [vr, ty, en, ↓reduceIte, Nat.reduceSub, Nat.reduceAdd, Nat.reduceMul, Nat.reduceLT, Int.reduceAdd, Int.reduceSub, Int.reduceToNat, ci, vi, getO_i, vt, hV, hnj, rec1_in hjl]
       exact ⟨⟨i + 1, by omega, by omega, ⟨rfl, by rw [hci]⟩, by rw [bf_wo]⟩, by simp⟩
     . have hpos : ((0 : Int) < (i : Int)) = True := eq_true (by omega)
       have hne0 : its.take i ≠ [] := by
        intro e
        have : (its.take i).length = 0 := by rw [e]; rfl
        rw [List.length_take] at this; omega
       rw [if_neg hne0] at hsn
       have hBq : B ++ [44] ++ pk = A ++ [91] ++ joinC (its.take (i + 1)) := by rw [hsn, <- hB]; simp only [List.append_assoc, List.cons_append, List.nil_append]
       have hl3 : (joinC (its.take (i + 1))).length = (joinC (its.take i)).length + 1 + pk.length := by rw [hsn, List.length_append, List.length_cons]; omega
       rw [show bf B = .buf 5 1 (B.map by8) from rfl]
       simp -dsimp +decide (disch := omega) only [vr, ty, en, ↓reduceIte, Nat.reduceSub, Nat.reduceAdd, Nat.reduceMul, Nat.reduceLT, Int.reduceAdd, Int.reduceSub, Int.reduceToNat, ci, vi, getO_i, vt, hV, hlt', hr, hld, hx, hat, hpos, hnj, wr5, tk5, rec1_in hjl]
       refine ⟨⟨by omega, hne⟩, by omega, ⟨by omega, by omega⟩, ?_⟩
       have e44 : AObj.buf 5 1 (List.map by8 B ++ [AV.p (.int .u8 44)]) = bf (B ++ [44]) := by rw [bf, List.map_append]; rfl
       have l44 : B.length + 1 = (B ++ [44]).length := by simp
       rw [e44, l44]
       refine (hcall (B ++ [44]) _ (by rfl) (by rw [<- l44]; omega)).mono ?_
       rintro v T' es ⟨rfl, rfl, rfl⟩
       rw [hV.2.2.2.2.2.1, hBq]
       simp -dsimp +decide (disch := omega) only [vr, ty, en, ↓reduceIte, Nat.reduceSub, Nat.reduceAdd, Nat.reduceMul, Nat.reduceLT, Int.reduceAdd, Int.reduceSub, Int.reduceToNat, ci, vi, getO_i, vt, hV, hnj, rec1_in hjl]
       exact ⟨⟨i + 1, by omega, by omega, ⟨rfl, by rw [hci]⟩, by rw [bf_wo]⟩, by simp⟩
   . have hlt' : ((i : Int) < (ks.length : Int)) = False := eq_false (by omega)
     have hall : its.take i = its := List.take_of_length_le (by omega)
     rw [show bf B = .buf 5 1 (B.map by8) from rfl]
     simp -dsimp +decide (disch := omega) only [vr, ty, en, ↓reduceIte, Nat.reduceSub, Nat.reduceAdd, Nat.reduceMul, Nat.reduceLT, Int.reduceAdd, Int.reduceSub, Int.reduceToNat, ci, vi, getO_i, vt, hV, hlt', h93, rec1_in hjl, hnj]
     rw [hall] at hlen0 hB
     refine ⟨⟨by omega, by omega⟩, ?_⟩
     have e1 : AObj.buf 5 1 (List.map by8 (B ++ [93])) = bf (A ++ (91 :: (joinC its ++ [93]))) := by
      rw [<- hB]; simp only [bf, List.append_assoc, List.cons_append, List.nil_append]
     have e2 : B.length + 1 = (A ++ (91 :: (joinC its ++ [93]))).length := by rw [hlen0]; simp only [List.length_append, List.length_cons, List.length_nil]; omega
     rw [e2]
     refine Vw.eff (E' := [(j, true)]) (by simp) ?_
     rw [V, <- List.set_append_left _ _ hjl]
     exact Vw.bf' e1 wt.2.1 hjl ⟨rfl, rfl, rfl⟩
theorem put_obj {n : Nat} (hrec : PutOk n) {T : Tbl} {j : Nat} {A : List UInt8} {ks : List JV} {z : Int} {s : List UInt8} {ns : List (List UInt8)} (hj : T[j]? = some (bf A)) (hq : T.map (AObj.wo fun x => x == j) = T) (hm : ∀ x ∈ ks, may n x) (hf : ∀ x ∈ ks, fits n x) (hks : ks.length <= 140737488355328) (hnl : ns.length = ks.length)
 (hA : A.length + 6 * (joinC (List.zipWith ent ns (ks.map (prt n)))).length + 112 <= 140737488355328) : CallA prog G 21 [.sl j 0 A.length, .ag (vcs (.mk 5 z s ks ns))] T (App T j A (123 :: (joinC (List.zipWith ent ns (ks.map (prt n))) ++ [125]))) := by
 refine CallA.wfs fun wf => ?_
 have wt := wf.t
 have hjl := (List.getElem?_eq_some_iff.1 hj).1
 have hV := V.rules hjl hq wt.2.1 wt.1
 have hjv : ∀ l : Tbl, (T ++ l)[j]? = some (bf A) := fun l => by rw [List.getElem?_append_left hjl]; exact hj
 have hj' : ∀ l : Tbl, (T ++ l)[j]? = some (.buf 5 1 (A.map by8)) := hjv
 have hld := (Es_vcs T ks).ld (P := prog) (t := 25) (by (simp -dsimp +decide only [vr, ty, en, ↓reduceIte, Nat.reduceSub, Nat.reduceAdd, Nat.reduceMul, Nat.reduceLT, Int.reduceAdd, Int.reduceSub, Int.reduceToNat, ci])) (by (simp -dsimp +decide only [vr, ty, en, ↓reduceIte, Nat.reduceSub, Nat.reduceAdd, Nat.reduceMul, Nat.reduceLT, Int.reduceAdd, Int.reduceSub, Int.reduceToNat, ci])) (by decide)
 have hr := Sl.rules (Es_vcs T ks).sl (by decide)
 rw [vcs, show str s = .p (.string (ba s)) from rfl]
 have h123 : (ByteArray.mk #[123, 125])[0]? = some 123 := by decide
 have h125 : (ByteArray.mk #[123, 125])[1]? = some 125 := by decide
 obtain ⟨its, hits⟩ : ∃ its, its = List.zipWith ent ns (ks.map (prt n)) := ⟨_, rfl⟩
 have hil : its.length = ks.length := by rw [hits, List.length_zipWith, List.length_map, hnl, Nat.min_self]
 rw [<- hits] at hA ⊢
 have hVof : ∀ (l : Tbl) (o : AObj), (T ++ l).set j o = V T j o ++ l := fun l o => List.set_append_left _ _ hjl
 have hnj : (∀ k, (T.length + k == j) = false) /\ (T.length == j) = false /\ (∀ k, decide (T.length + k <= j) = false) := ⟨fun k => by simp; omega, by simp; omega, fun k => by simp; omega⟩
 refine CallA.eV 45 func21 ntmps21 results21 ?_
 simp -dsimp +decide only [vr, ty, en, ↓reduceIte, Nat.reduceSub, Nat.reduceAdd, Nat.reduceMul, Nat.reduceLT, Int.reduceAdd, Int.reduceSub, Int.reduceToNat, ci]
 simp -dsimp +decide (disch := omega) only [vr, ty, en, ↓reduceIte, Nat.reduceSub, Nat.reduceAdd, Nat.reduceMul, Nat.reduceLT, Int.reduceAdd, Int.reduceSub, Int.reduceToNat, ci, vi, getO_i, vt, hj', h123, hq, rec1_in hjl, hVof, hnj, hV]
 refine ⟨⟨by omega, by omega⟩, ?_⟩
 refine SemA.loopC (fun i : Nat => [(0, .sl j 0 (A ++ [123] ++ joinC (its.take i)).length), (3, .ptr T.length 0), (5, .p (.string (ByteArray.mk #[123, 125]))), (42, .vs (vcsL ks) ks.length), (43, wint (ks.length : Int)), (44, wint (i : Int))])
  (fun i => V T j (bf (A ++ [123] ++ joinC (its.take i))) ++ [.cells 25 [.p (.int .u8 ((5 : UInt8).toNat : Int)), .p (.int .i64 z), .p (.string (ba s)), .vs (vcsL ks) ks.length, .vs (ns.map str) ns.length], .buf 5 1 [.p (.int .u8 ((123 : UInt8).toNat : Int))]])
  (fun i => i <= ks.length) (fun i => ks.length - i) (T.length + 2) 0 [(j, true)] (by kernel_rfl) (by omega) (by omega) ?_ ?_ (by simp) ?_
 . have : (A ++ [123] ++ joinC (its.take 0)) = A ++ [123] := by rw [List.take_zero]; exact List.append_nil _
   rw [this]
   simp -dsimp +decide only [vr, ty, en, ↓reduceIte, Nat.reduceSub, Nat.reduceAdd, Nat.reduceMul, Nat.reduceLT, Int.reduceAdd, Int.reduceSub, Int.reduceToNat, ci, vt]
   first | rfl | (and_intros <;> first | rfl | (simp; done))
 . have : (A ++ [123] ++ joinC (its.take 0)) = A ++ [123] := by rw [List.take_zero]; exact List.append_nil _
   rw [this]; rfl
 . rintro i g hi
   have hpre := joinC_pre its i
   obtain ⟨B, hB⟩ : ∃ B, A ++ [123] ++ joinC (its.take i) = B := ⟨_, rfl⟩
   rw [hB]
   have hlen0 : B.length = A.length + 1 + (joinC (its.take i)).length := by rw [<- hB, List.length_append, List.length_append]; rfl
   by_cases hlt : i < ks.length
   . have hlt' : ((i : Int) < (ks.length : Int)) = True := eq_true (by omega)
     obtain ⟨x, hx⟩ : ∃ x, ks[i]? = some x := ⟨ks[i], List.getElem?_eq_getElem hlt⟩
     obtain ⟨y, hy⟩ : ∃ y, ns[i]? = some y := ⟨ns[i]'(by omega), by simp⟩
     have hxi : its[i]? = some (ent y (prt n x)) := by rw [hits, List.getElem?_zipWith, hy, List.getElem?_map, hx]; rfl
     have hym : (ns.map str)[i]? = some (.p (.string (ba y))) := by rw [List.getElem?_map, hy]; rfl
     have hldn := Sl.loads (Sl.vs (ns.map str) ns.length (by simp) : Sl T 1 _ _ _) (P := prog) (t := 9) (by (simp -dsimp +decide only [vr, ty, en, ↓reduceIte, Nat.reduceSub, Nat.reduceAdd, Nat.reduceMul, Nat.reduceLT, Int.reduceAdd, Int.reduceSub, Int.reduceToNat, ci]))
     have hxm := List.mem_of_getElem? hx
     have hsn := joinC_snoc (ent y (prt n x)) (its.take i)
     have htk : its.take i ++ [ent y (prt n x)] = its.take (i + 1) := by rw [List.take_add_one, hxi]; rfl
     rw [htk] at hsn
     have hpre2 := joinC_pre its (i + 1)
     have hfl : (vcsL ks).length = ks.length * 5 := by rw [vcsL_eq]; exact flat_len fun x _ => vcs_len x
     have hne : vcsL ks ≠ [] := fun e => by rw [e] at hfl; simp at hfl; omega
     have hat : List.take 5 (List.drop (i * 5) (vcsL ks)) = vcs x := by rw [vcsL_eq]; exact flat_at (fun x _ => vcs_len x) hx
     have hm' := hm x hxm
     have hf' := hf x hxm
     have hqk : ∀ (B' : List UInt8) (l : Tbl), l.map (AObj.wo fun x => x == j) = l -> (V T j (bf B') ++ l).map (AObj.wo fun x => x == j) = V T j (bf B') ++ l := fun B' l h => by rw [List.map_append, hV.2.2.2.1, bf_wo, h]
     have hcall := fun (B' : List UInt8) (l : Tbl) (h : l.map (AObj.wo fun x => x == j) = l) (hb : B'.length + 6 * (prt n x).length + 100 <= 140737488355328) => hrec (V T j (bf B') ++ l) j B' x (hV.2.2.1 _ _) (hqk B' l h) hm' hf' hb
     obtain ⟨k', z', s', ks', ns'⟩ := x
     obtain ⟨pk, hpk⟩ : ∃ pk, prt n (.mk k' z' s' ks' ns') = pk := ⟨_, rfl⟩
     rw [hpk] at hsn hcall
     rw [vcs, show str s' = .p (.string (ba s')) from rfl] at hat hcall
     have hci : ((i + 1 : Nat) : Int) = (i : Int) + 1 := rfl
     have hci : ((i + 1 : Nat) : Int) = (i : Int) + 1 := rfl
     have hyq : y.length <= (quote y).length := quote_le y
     have hel : (ent y pk).length = (quote y).length + 1 + pk.length := by rw [ent, List.length_append, List.length_cons]; omega
     by_cases hi0 : i = 0
     . have hpos : ((0 : Int) < (i : Int)) = False := eq_false (by omega)
       rw [if_pos (by rw [hi0]; rfl)] at hsn
       have hz0 : joinC (its.take i) = [] := by rw [hi0]; rfl
       rw [hz0] at hlen0
       have hlen1 : B.length = A.length + 1 := hlen0
       rw [hsn] at hpre2
       have hBq : B ++ quote y ++ [58] ++ pk = A ++ [123] ++ joinC (its.take (i + 1)) := by rw [hsn, <- hB, hz0, ent]; simp only [List.append_assoc, List.append_nil, List.cons_append, List.nil_append]
       rw [show bf B = .buf 5 1 (B.map by8) from rfl]
       simp -dsimp +decide (disch := omega) only [vr, ty, en, ↓reduceIte, Nat.reduceSub, Nat.reduceAdd, Nat.reduceMul, Nat.reduceLT, Int.reduceAdd, Int.reduceSub, Int.reduceToNat, ci, vi, getO_i, vt, hV, hlt', hr, hld, hx, hat, hpos, hnj, wr5, tk5, hldn, hym]
       refine ⟨⟨by omega, hne⟩, by omega, ⟨by omega, by omega, by intro e; rw [e] at hym; cases hym⟩, ?_⟩
       refine (quoted_ok (T := _) (hV.2.2.1 _ _) (by omega) (hqk (B) _ (by rfl))).mono ?_
       rintro v T' es ⟨rfl, rfl, rfl⟩
       rw [hV.2.2.2.2.2.1, show bf (B ++ quote y) = .buf 5 1 ((B ++ quote y).map by8) from rfl]
       simp -dsimp +decide (disch := omega) only [vr, ty, en, ↓reduceIte, Nat.reduceSub, Nat.reduceAdd, Nat.reduceMul, Nat.reduceLT, Int.reduceAdd, Int.reduceSub, Int.reduceToNat, ci, vi, getO_i, vt, hV, hnj, rec1_in hjl, wr5, tk5]
       have hlB : (B ++ quote y).length = (B).length + (quote y).length := List.length_append
       refine ⟨⟨by rw [hlB]; omega, by rw [hlB]; omega⟩, ?_⟩
       have e58 : AObj.buf 5 1 (List.map by8 (B ++ quote y) ++ [AV.p (.int .u8 58)]) = bf (B ++ quote y ++ [58]) := by rw [bf, List.map_append (l₂ := [58])]; rfl
       have l58 : (B ++ quote y).length + 1 = (B ++ quote y ++ [58]).length := by rw [List.length_append (bs := [58])]; rfl
       rw [e58, l58]
       refine (hcall (B ++ quote y ++ [58]) _ (by rfl) (by rw [<- l58]; rw [hlB]; omega)).mono ?_
       rintro v T' es ⟨rfl, rfl, rfl⟩
       rw [hV.2.2.2.2.2.1, hBq]
       simp -dsimp +decide (disch := omega) only [vr, ty, en, ↓reduceIte, Nat.reduceSub, Nat.reduceAdd, Nat.reduceMul, Nat.reduceLT, Int.reduceAdd, Int.reduceSub, Int.reduceToNat, ci, vi, getO_i, vt, hV, hnj, rec1_in hjl]
       exact ⟨⟨i + 1, by omega, by omega, ⟨rfl, by rw [hci]⟩, by rw [bf_wo]⟩, by simp⟩
     . have hpos : ((0 : Int) < (i : Int)) = True := eq_true (by omega)
       have hne0 : its.take i ≠ [] := by
        intro e
        have : (its.take i).length = 0 := by rw [e]; rfl
        rw [List.length_take] at this; omega
       rw [if_neg hne0] at hsn
       have hBq : B ++ [44] ++ quote y ++ [58] ++ pk = A ++ [123] ++ joinC (its.take (i + 1)) := by rw [hsn, <- hB, ent]; simp only [List.append_assoc, List.cons_append, List.nil_append]
       have hl3 : (joinC (its.take (i + 1))).length = (joinC (its.take i)).length + 1 + (ent y pk).length := by rw [hsn, List.length_append, List.length_cons]; omega
       rw [show bf B = .buf 5 1 (B.map by8) from rfl]
       simp -dsimp +decide (disch := omega) only [vr, ty, en, ↓reduceIte, Nat.reduceSub, Nat.reduceAdd, Nat.reduceMul, Nat.reduceLT, Int.reduceAdd, Int.reduceSub, Int.reduceToNat, ci, vi, getO_i, vt, hV, hlt', hr, hld, hx, hat, hpos, hnj, wr5, tk5, rec1_in hjl, hldn, hym]
       refine ⟨⟨by omega, hne⟩, by omega, ⟨by omega, by omega⟩, ⟨by omega, by omega, by intro e; rw [e] at hym; cases hym⟩, ?_⟩
       have e44 : AObj.buf 5 1 (List.map by8 B ++ [AV.p (.int .u8 44)]) = bf (B ++ [44]) := by rw [bf, List.map_append]; rfl
       have l44 : B.length + 1 = (B ++ [44]).length := by simp
       rw [e44, l44]
       refine (quoted_ok (T := _) (hV.2.2.1 _ _) (by rw [<- l44]; omega) (hqk (B ++ [44]) _ (by rfl))).mono ?_
       rintro v T' es ⟨rfl, rfl, rfl⟩
       rw [hV.2.2.2.2.2.1, show bf (B ++ [44] ++ quote y) = .buf 5 1 ((B ++ [44] ++ quote y).map by8) from rfl]
       simp -dsimp +decide (disch := omega) only [vr, ty, en, ↓reduceIte, Nat.reduceSub, Nat.reduceAdd, Nat.reduceMul, Nat.reduceLT, Int.reduceAdd, Int.reduceSub, Int.reduceToNat, ci, vi, getO_i, vt, hV, hnj, rec1_in hjl, wr5, tk5]
       have hlB : (B ++ [44] ++ quote y).length = (B ++ [44]).length + (quote y).length := List.length_append
       refine ⟨⟨by rw [hlB, <- l44]; omega, by rw [hlB, <- l44]; omega⟩, ?_⟩
       have e58 : AObj.buf 5 1 (List.map by8 (B ++ [44] ++ quote y) ++ [AV.p (.int .u8 58)]) = bf (B ++ [44] ++ quote y ++ [58]) := by rw [bf, List.map_append (l₂ := [58])]; rfl
       have l58 : (B ++ [44] ++ quote y).length + 1 = (B ++ [44] ++ quote y ++ [58]).length := by rw [List.length_append (bs := [58])]; rfl
       rw [e58, l58]
       refine (hcall (B ++ [44] ++ quote y ++ [58]) _ (by rfl) (by rw [<- l58]; rw [hlB, <- l44]; omega)).mono ?_
       rintro v T' es ⟨rfl, rfl, rfl⟩
       rw [hV.2.2.2.2.2.1, hBq]
       simp -dsimp +decide (disch := omega) only [vr, ty, en, ↓reduceIte, Nat.reduceSub, Nat.reduceAdd, Nat.reduceMul, Nat.reduceLT, Int.reduceAdd, Int.reduceSub, Int.reduceToNat, ci, vi, getO_i, vt, hV, hnj, rec1_in hjl]
       exact ⟨⟨i + 1, by omega, by omega, ⟨rfl, by rw [hci]⟩, by rw [bf_wo]⟩, by simp⟩
   . have hlt' : ((i : Int) < (ks.length : Int)) = False := eq_false (by omega)
     have hall : its.take i = its := List.take_of_length_le (by omega)
     rw [show bf B = .buf 5 1 (B.map by8) from rfl]
     simp -dsimp +decide (disch := omega) only [vr, ty, en, ↓reduceIte, Nat.reduceSub, Nat.reduceAdd, Nat.reduceMul, Nat.reduceLT, Int.reduceAdd, Int.reduceSub, Int.reduceToNat, ci, vi, getO_i, vt, hV, hlt', h125, rec1_in hjl, hnj]
     rw [hall] at hlen0 hB
     refine ⟨⟨by omega, by omega⟩, ?_⟩
     have e1 : AObj.buf 5 1 (List.map by8 (B ++ [125])) = bf (A ++ (123 :: (joinC its ++ [125]))) := by
      rw [<- hB]; simp only [bf, List.append_assoc, List.cons_append, List.nil_append]
     have e2 : B.length + 1 = (A ++ (123 :: (joinC its ++ [125]))).length := by rw [hlen0]; simp only [List.length_append, List.length_cons, List.length_nil]; omega
     rw [e2]
     refine Vw.eff (E' := [(j, true)]) (by simp) ?_
     rw [V, <- List.set_append_left _ _ hjl]
     exact Vw.bf' e1 wt.2.1 hjl ⟨rfl, rfl, rfl⟩
theorem mayL_of {n : Nat} {v : JV} (h : may n v) (h4 : v.kind ≠ 4) (h5 : v.kind ≠ 5) : mayL v := by
 cases n with
 | zero => exact h
 | succ n =>
   rcases h with h | ⟨h, -⟩
   . exact h
   . rcases h with h | h
     . exact absurd h h4
     . exact absurd h h5
theorem put_step (n : Nat) (hrec : ∀ m, n = m + 1 -> PutOk m) : PutOk n := by
 intro T j A v hj hq hm hf hA
 have leaf : v.kind ≠ 4 -> v.kind ≠ 5 -> CallA prog G 21 [.sl j 0 A.length, .ag (vcs v)] T (App T j A (prt n v)) := fun h4 h5 => by
  have hl := mayL_of hm h4 h5
  rw [prt_leaf hl] at hA ⊢
  exact put_leaf hj hq hl (fits_wide hf) hA
 by_cases h4 : v.kind = 4
 . cases n with
   | zero => exact absurd h4 (mayL_bare hm).1
   | succ m =>
     rcases hm with hm | ⟨-, hb, hn, hk⟩
     . exact absurd h4 (mayL_bare hm).1
     obtain ⟨k, z, s, ks, ns⟩ := v
     have h4 : k = 4 := h4
     subst h4
     have hp : prt (m + 1) (.mk 4 z s ks ns) = 91 :: (joinC (ks.map (prt m)) ++ [93]) := by rw [prt]; exact if_pos rfl
     rw [hp] at hA ⊢
     have hA' : A.length + 6 * (joinC (ks.map (prt m))).length + 112 <= 140737488355328 := by
      simp only [List.length_cons, List.length_append, List.length_nil] at hA; omega
     have hnl : (ks.map (prt m)).length <= (joinC (ks.map (prt m))).length := joinC_nlen fun x hx => by
      obtain ⟨y, hy, rfl⟩ := List.mem_map.1 hx
      exact prt_pos (hk y hy)
     rw [List.length_map] at hnl
     exact put_list (hrec m rfl) hj hq hk hf.2 (by omega) hA'
 . by_cases h5 : v.kind = 5
   . cases n with
     | zero => exact absurd h5 (mayL_bare hm).2
     | succ m =>
       rcases hm with hm | ⟨-, hb, hn, hk⟩
       . exact absurd h5 (mayL_bare hm).2
       obtain ⟨k, z, s, ks, ns⟩ := v
       have h5 : k = 5 := h5
       subst h5
       have hp : prt (m + 1) (.mk 5 z s ks ns) = 123 :: (joinC (List.zipWith ent ns (ks.map (prt m))) ++ [125]) := by rw [prt]; exact (if_neg (show ¬ (5 : UInt8) = 4 by decide)).trans (if_pos rfl)
       rw [hp] at hA ⊢
       have hA' : A.length + 6 * (joinC (List.zipWith ent ns (ks.map (prt m)))).length + 112 <= 140737488355328 := by
        simp only [List.length_cons, List.length_append, List.length_nil] at hA; omega
       have hb4 : ns.length = ks.length := hb.2.2.2
       have hnl : (List.zipWith ent ns (ks.map (prt m))).length <= (joinC (List.zipWith ent ns (ks.map (prt m)))).length := joinC_nlen fun x hx => by
        obtain ⟨i, hi, rfl⟩ := List.mem_iff_getElem.1 hx
        rw [List.getElem_zipWith, ent, List.length_append, List.length_cons]; omega
       rw [List.length_zipWith, List.length_map, hb4, Nat.min_self] at hnl
       exact put_obj (hrec m rfl) hj hq hk hf.2 (by omega) hb4 hA'
   . exact leaf h4 h5
theorem put_all : ∀ n, PutOk n
 | 0 => put_step 0 (fun _ e => nomatch e)
 | n + 1 => put_step (n + 1) (fun m e => by cases e; exact put_all n)
end Go.Proofs.YtglpcedoongagaaGreatDoor
namespace Go.Proofs.YtglpcedoongagaaGreatDoor
open Go.E Go.Proofs.YtglpcedoongagaaGreatDoor.Tryz Go.Proofs.Tryz Go.J Go.Proofs
theorem clean8 (l : B) : ∀ a ∈ l.map by8, a.Clean := by
 intro a ha; obtain ⟨x, _, rfl⟩ := List.mem_map.1 ha; exact .p _
theorem numS_len {z : Int} (h : -2 ^ 63 <= z /\ z < 2 ^ 63) : (numS z).length <= 21 := by
 have h2 : (2 : Int) ^ 63 = 9223372036854775808 := rfl
 rw [h2] at h
 have h10 : (10 : Nat) ^ 20 = 100000000000000000000 := by decide
 unfold numS
 split
 . have := dn_len (n := (-z).toNat) (k := 20) (by rw [h10]; omega) (by decide)
   rw [List.length_cons]; omega
 . have := dn_len (n := z.toNat) (k := 20) (by rw [h10]; omega) (by decide)
   omega
theorem quote_len (s : B) : (quote s).length <= 6 * s.length + 2 := by
 have := qbs_len s
 rw [quote, List.length_cons, List.length_append, List.length_cons, List.length_nil]; omega
theorem joinC_le : ∀ l : List B, (joinC l).length <= (l.map fun x => x.length + 1).sum
 | [] => Nat.zero_le _
 | [x] => by simp [joinC]
 | x :: y :: r => by
   have := joinC_le (y :: r)
   rw [List.map_cons, List.sum_cons]
   simp only [joinC, List.length_append, List.length_cons] at this ⊢; omega
theorem prtL_le {v : JV} (hm : mayL v) (hf : wide v) : (prtL v).length + 2 <= 30 * vsz v := by
 obtain ⟨k, z, s, ks, ns⟩ := v
 have hn := numS_len hf
 have hq := quote_len s
 have hv : 1 + s.length <= vsz (.mk k z s ks ns) := by rw [vsz]; omega
 show (prtL (.mk k z s ks ns)).length + 2 <= _
 have hn : (numS z).length <= 21 := hn
 show (if k = 0 then [110, 117, 108, 108] else if k = 1 then (if z = 1 then [116, 114, 117, 101] else [102, 97, 108, 115, 101]) else if k = 2 then numS z else quote s : B).length + 2 <= _
 (repeat' split) <;> (try simp only [List.length_cons, List.length_nil]) <;> omega
theorem list_le {n : Nat} (h : ∀ v : JV, may n v -> fits n v -> (prt n v).length + 2 <= 30 * vsz v) : ∀ ks : List JV, (∀ x ∈ ks, may n x) -> (∀ x ∈ ks, fits n x) -> ((ks.map (prt n)).map fun x => x.length + 1).sum <= 30 * vszL ks
 | [], _, _ => Nat.zero_le _
 | x :: r, hm, hf => by
   have := h x (hm x (by simp)) (hf x (by simp))
   have := list_le h r (fun y hy => hm y (by simp [hy])) (fun y hy => hf y (by simp [hy]))
   rw [List.map_cons, List.map_cons, List.sum_cons, vszL]; omega
theorem obj_le {n : Nat} (h : ∀ v : JV, may n v -> fits n v -> (prt n v).length + 2 <= 30 * vsz v) : ∀ (ks : List JV) (ns : List B), (∀ x ∈ ks, may n x) -> (∀ x ∈ ks, fits n x) -> ((List.zipWith ent ns (ks.map (prt n))).map fun x => x.length + 1).sum <= 30 * vszL ks + 30 * (ns.map fun x => 1 + x.length).sum
 | [], ns, _, _ => by cases ns <;> simp
 | x :: r, [], _, _ => by simp
 | x :: r, y :: ns, hm, hf => by
   have := h x (hm x (by simp)) (hf x (by simp))
   have := obj_le h r ns (fun y hy => hm y (by simp [hy])) (fun y hy => hf y (by simp [hy]))
   have := quote_len y
   rw [List.map_cons, List.zipWith_cons_cons, List.map_cons, List.sum_cons, vszL, List.map_cons, List.sum_cons, ent, List.length_append, List.length_cons]; omega
theorem prt_le : ∀ (n : Nat) (v : JV), may n v -> fits n v -> (prt n v).length + 2 <= 30 * vsz v
 | 0, v, hm, hf => prtL_le hm hf
 | n + 1, v, hm, hf => by
   rcases hm with hm | ⟨hk, hb, hn, hkk⟩
   . rw [prt_leaf hm]; exact prtL_le hm hf.1
   . obtain ⟨k, z, s, ks, ns⟩ := v
     have hk : k = 4 ∨ k = 5 := hk
     have hv : vsz (.mk k z s ks ns) = 1 + s.length + (ns.map fun x => 1 + x.length).sum + vszL ks := by rw [vsz]
     have h1 := list_le (prt_le n) ks hkk hf.2
     have h2 := obj_le (prt_le n) ks ns hkk hf.2
     have j1 := joinC_le (ks.map (prt n))
     have j2 := joinC_le (List.zipWith ent ns (ks.map (prt n)))
     rcases hk with rfl | rfl
     . have hp : prt (n + 1) (.mk 4 z s ks ns) = 91 :: (joinC (ks.map (prt n)) ++ [93]) := by rw [prt]; exact if_pos rfl
       have e := congrArg List.length hp
       simp only [List.length_cons, List.length_append, List.length_nil] at e
       rw [e, hv]; omega
     . have hp : prt (n + 1) (.mk 5 z s ks ns) = 123 :: (joinC (List.zipWith ent ns (ks.map (prt n))) ++ [125]) := by rw [prt]; exact (if_neg (show ¬ (5 : UInt8) = 4 by decide)).trans (if_pos rfl)
       have e := congrArg List.length hp
       simp only [List.length_cons, List.length_append, List.length_nil] at e
       rw [e, hv]; omega
theorem adoptArg {P : Program} {G : Nat -> AV} {T : Tbl} {K K' : AV -> Tbl -> Eff -> Prop} {f : FuncId} {args : List AV} (El : TypeId) (sz : Nat) (h0 : 0 < sz)
 (h : CallA P G f (.sl T.length 0 0 :: args) (T ++ [.buf El sz []]) K') (hk' : ∀ v T' es, K' v T' es -> K v T' es) : CallA P G f (.p (.slice none 0 0) :: args) T K := by
 intro Z ρ w vs hG hs ha
 obtain ⟨k1, k2⟩ := hs.push (w' := w) ⟨none, 0, true⟩ (.buf El sz []) hs.of (fun _ _ => rfl) ⟨⟨rfl, h0⟩, 0, by simp, Nat.le_refl _, .inl ⟨rfl, rfl, rfl⟩⟩ (fun b hb => by cases hb)
 have ha2 : RelL Z (ρ ++ [⟨none, 0, true⟩]) (.p (.slice none 0 0) :: args) vs := slots_rel ha k2
 obtain ⟨v1, us, rfl, r1, ha4⟩ := ha2.uncons
 obtain rfl := r1.p_inv
 have ha3 : RelL Z (ρ ++ [⟨none, 0, true⟩]) (.sl T.length 0 0 :: args) (.slice none 0 0 :: us) := .cons (.sl (x := ⟨none, 0, true⟩) (by rw [<- hs.len]; simp) (fun _ => rfl) (Nat.le_refl _) (fun _ _ => rfl)) ha4
 refine Calls.mono (h Z _ w _ hG k1 ha3) ?_
 rintro e w' ⟨v, rfl, Z', ρ', T', es, a, g1, g2, g3, g4⟩
 have k3 := k2.trans g2
 rw [List.append_nil] at k3
 exact ⟨v, rfl, Z', ρ', T', es, a, g1, k3, g3, hk' _ _ _ g4⟩
theorem print_ok {T : Tbl} {v : JV} (hv : vsz v <= 1073741824) (hf : fits 8 v) : CallA prog G 8 [.ag (vcs v)] T fun r T' es => ((may 8 v /\ r = .tu [.vs ((prt 8 v).map by8) (prt 8 v).length, .p (.int .i64 0)]) ∨ (¬ may 8 v /\ r = .tu [.p (.slice none 0 0), .p (.int .i64 1)])) /\ T' = T /\ es = [] := by
 refine CallA.wfs fun wf => ?_
 have wt := wf.t
 have wp := wf.p
 have hM := May_ok (T := T ++ [AObj.cells 25 (vcs v)]) (v := v) (by omega) hf
 have hP := fun hm => put_all 8 (T ++ [AObj.cells 25 (vcs v), bf []]) (T.length + 1) [] v (by rw [List.getElem?_append_right (by omega), Nat.add_sub_cancel_left]; rfl) (by rw [List.map_append, wt.2.2.1]; simp only [List.map_cons, List.map_nil, AObj.wo, vcs_wo]; rfl) hm hf (by have := prt_le 8 v hm hf; simp only [List.length_nil]; omega)
 obtain ⟨k, z, s, ks, ns⟩ := v
 rw [vcs, show str s = .p (.string (ba s)) from rfl] at hM hP ⊢
 refine CallA.eV 4 func8 ntmps8 results8 ?_
 simp -dsimp +decide only [vr, ty, en, ↓reduceIte, Nat.reduceSub, Nat.reduceAdd, Nat.reduceMul, Nat.reduceLT, Int.reduceAdd, Int.reduceSub, Int.reduceToNat, ci]
 simp -dsimp +decide (disch := omega) only [vr, ty, en, ↓reduceIte, Nat.reduceSub, Nat.reduceAdd, Nat.reduceMul, Nat.reduceLT, Int.reduceAdd, Int.reduceSub, Int.reduceToNat, ci, vi, getO_i, vt, tk5]
 refine hM.mono ?_
 rintro r T' es ⟨⟨b, rfl, hb⟩, rfl, rfl⟩
 cases b with
 | false =>
   simp -dsimp +decide (disch := omega) only [vr, ty, en, ↓reduceIte, Nat.reduceSub, Nat.reduceAdd, Nat.reduceMul, Nat.reduceLT, Int.reduceAdd, Int.reduceSub, Int.reduceToNat, ci, vi, getO_i, vt]
   exact Vw.cut ⟨.inr ⟨fun h => (by have := hb.2 h; cases this), rfl⟩, rfl, rfl⟩
 | true =>
   simp -dsimp +decide (disch := omega) only [vr, ty, en, ↓reduceIte, Nat.reduceSub, Nat.reduceAdd, Nat.reduceMul, Nat.reduceLT, Int.reduceAdd, Int.reduceSub, Int.reduceToNat, ci, vi, getO_i, vt, tk5]
   have hm := hb.1 rfl
   refine adoptArg 5 1 (by decide) ?_ (fun v T' es h => h)
   have hlen : ∀ o : AObj, (T ++ [o]).length = T.length + 1 := fun o => by simp
   rw [hlen, List.append_assoc]
   refine (hP hm).mono ?_
   rintro v T' es ⟨rfl, rfl, rfl⟩
   obtain ⟨p, hp⟩ : ∃ p, prt 8 (JV.mk k z s ks ns) = p := ⟨_, rfl⟩
   rw [hp, List.nil_append, show bf p = .buf 5 1 (p.map by8) from rfl]
   have hset : ∀ (o1 o2 o3 : AObj), (T ++ [o1, o2]).set (T.length + 1) o3 = T ++ [o1, o3] := fun o1 o2 o3 => by rw [List.set_append_right _ _ (by omega), Nat.add_sub_cancel_left]; rfl
   rw [hset]
   simp -dsimp +decide (disch := omega) only [vr, ty, en, ↓reduceIte, Nat.reduceSub, Nat.reduceAdd, Nat.reduceMul, Nat.reduceLT, Int.reduceAdd, Int.reduceSub, Int.reduceToNat, ci, vi, getO_i, vt]
   refine Vw.pub (T.length + 1) (o := .buf 5 1 (p.map by8)) (by (simp -dsimp +decide only [vr, ty, en, ↓reduceIte, Nat.reduceSub, Nat.reduceAdd, Nat.reduceMul, Nat.reduceLT, Int.reduceAdd, Int.reduceSub, Int.reduceToNat, ci])) rfl (clean8 _) ?_
   simp -dsimp +decide only [vr, ty, en, ↓reduceIte, Nat.reduceSub, Nat.reduceAdd, Nat.reduceMul, Nat.reduceLT, Int.reduceAdd, Int.reduceSub, Int.reduceToNat, ci, vt, wp]
   exact Vw.cut ⟨.inl ⟨hm, rfl⟩, rfl, rfl⟩
end Go.Proofs.YtglpcedoongagaaGreatDoor
namespace Go.Proofs.YtglpcedoongagaaGreatDoor
open Go.E Go.Proofs.YtglpcedoongagaaGreatDoor.Tryz Go.Proofs.Tryz Go.J Go.Proofs
theorem bsame_ok {T : Tbl} {a b : AV} {l m : List UInt8} (ha : Sl T 1 a (l.map by8) l.length) (hb : Sl T 1 b (m.map by8) m.length) (hl : l.length <= 1099511627776) :
 CallA prog G 14 [a, b] T fun v T' es => v = .p (.bool (decide (l = m))) /\ T' = T /\ es = [] := by
 have hra := Sl.rules ha (by decide)
 have hrb := Sl.rules hb (by decide)
 have hla := Sl.loads ha (P := prog) (t := 5) (by (simp -dsimp +decide only [vt2, vy, vz, vze, vy, vz, vze, vr, ty, en, ↓reduceIte, Nat.reduceSub, Nat.reduceAdd, Nat.reduceMul, Nat.reduceLT, Int.reduceAdd, Int.reduceSub, Int.reduceToNat, ci]))
 have hlb := Sl.loads hb (P := prog) (t := 5) (by (simp -dsimp +decide only [vt2, vy, vz, vze, vy, vz, vze, vr, ty, en, ↓reduceIte, Nat.reduceSub, Nat.reduceAdd, Nat.reduceMul, Nat.reduceLT, Int.reduceAdd, Int.reduceSub, Int.reduceToNat, ci]))
 refine CallA.eV 6 func14 ntmps14 results14 ?_
 simp -dsimp +decide only [vt2, vy, vz, vze, vy, vz, vze, vr, ty, en, ↓reduceIte, Nat.reduceSub, Nat.reduceAdd, Nat.reduceMul, Nat.reduceLT, Int.reduceAdd, Int.reduceSub, Int.reduceToNat, ci]
 simp -dsimp +decide (disch := omega) only [vt2, vy, vz, vze, vy, vz, vze, vr, ty, en, ↓reduceIte, Nat.reduceSub, Nat.reduceAdd, Nat.reduceMul, Nat.reduceLT, Int.reduceAdd, Int.reduceSub, Int.reduceToNat, ci, vi, getO_i, hra, hrb]
 refine CondP.split (fun h => ?_) (fun h => ?_)
 . simp -dsimp +decide (disch := omega) only [vt2, vy, vz, vze, vy, vz, vze, vr, ty, en, ↓reduceIte, Nat.reduceSub, Nat.reduceAdd, Nat.reduceMul, Nat.reduceLT, Int.reduceAdd, Int.reduceSub, Int.reduceToNat, ci, vi, getO_i]
   refine Vw.done ⟨?_, rfl, rfl⟩
   rw [decide_eq_false]
   rintro rfl; simp at h
 . have hlen : l.length = m.length := by simp at h; omega
   simp -dsimp +decide (disch := omega) only [vt2, vy, vz, vze, vy, vz, vze, vr, ty, en, ↓reduceIte, Nat.reduceSub, Nat.reduceAdd, Nat.reduceMul, Nat.reduceLT, Int.reduceAdd, Int.reduceSub, Int.reduceToNat, ci, vi, getO_i]
   refine SemA.loopL (fun i : Nat => [(0, a), (1, b), (5, wint (i : Int))]) (fun _ => T) (fun i => i <= l.length /\ l.take i = m.take i) (fun i => l.length - i) 0 [] (by kernel_rfl) ⟨by omega, by simp⟩ (by (simp -dsimp +decide only [vt2, vy, vz, vze, vy, vz, vze, vr, ty, en, ↓reduceIte, Nat.reduceSub, Nat.reduceAdd, Nat.reduceMul, Nat.reduceLT, Int.reduceAdd, Int.reduceSub, Int.reduceToNat, ci])) rfl (by simp) ?_
   rintro i g ⟨hi, he⟩
   simp -dsimp +decide only [vt2, vy, vz, vze, vy, vz, vze, vr, ty, en, ↓reduceIte, Nat.reduceSub, Nat.reduceAdd, Nat.reduceMul, Nat.reduceLT, Int.reduceAdd, Int.reduceSub, Int.reduceToNat, ci, hra]
   refine CondP.dec (fun h => ?_) (fun h => ?_)
   . obtain ⟨x, hx⟩ : ∃ x, l[i]? = some x := ⟨l[i]'(by omega), by simp⟩
     obtain ⟨y, hy⟩ : ∃ y, m[i]? = some y := ⟨m[i]'(by omega), by simp⟩
     have hgx : (l.map by8)[i]? = some (by8 x) := by rw [List.getElem?_map, hx]; rfl
     have hgy : (m.map by8)[i]? = some (by8 y) := by rw [List.getElem?_map, hy]; rfl
     simp -dsimp +decide only [vt2, vy, vz, vze, vy, vz, vze, vr, ty, en, ↓reduceIte, Nat.reduceSub, Nat.reduceAdd, Nat.reduceMul, Nat.reduceLT, Int.reduceAdd, Int.reduceSub, Int.reduceToNat, ci]
     refine SemA.drawS (.fl 0 (.fl 1 (.fl 2 (.fl 3 (.fl 4 (.fl 5 (.fl 6 (.fl 7 (.fl 8 .nil))))))))) mixed (by kernel_rfl) ?_
     simp -dsimp +decide (disch := omega) only [vt2, vy, vz, vze, vy, vz, vze, vr, ty, en, ↓reduceIte, Nat.reduceSub, Nat.reduceAdd, Nat.reduceMul, Nat.reduceLT, Int.reduceAdd, Int.reduceSub, Int.reduceToNat, ci, vi, getO_i, hra, hrb, hla, hlb, hgx, hgy]
     refine ⟨⟨by omega, by omega⟩, ⟨by omega, by omega⟩, CondP.ndec (fun h => ?_) (fun h => ?_)⟩
     . simp -dsimp +decide (disch := omega) only [vt2, vy, vz, vze, vy, vz, vze, vr, ty, en, ↓reduceIte, Nat.reduceSub, Nat.reduceAdd, Nat.reduceMul, Nat.reduceLT, Int.reduceAdd, Int.reduceSub, Int.reduceToNat, ci, vi, getO_i]
       refine Vw.done ⟨?_, rfl, rfl⟩
       rw [decide_eq_false]
       rintro rfl
       rw [hx] at hy; cases hy; exact h rfl
     . have : x = y := UInt8.toNat_inj.1 (by omega)
       simp -dsimp +decide (disch := omega) only [vt2, vy, vz, vze, vy, vz, vze, vr, ty, en, ↓reduceIte, Nat.reduceSub, Nat.reduceAdd, Nat.reduceMul, Nat.reduceLT, Int.reduceAdd, Int.reduceSub, Int.reduceToNat, ci, vi, getO_i]
       refine ⟨i + 1, ⟨by omega, ?_⟩, by omega, rfl⟩
       rw [List.take_add_one, List.take_add_one, hx, hy, he, this]
   . simp -dsimp +decide (disch := omega) only [vt2, vy, vz, vze, vy, vz, vze, vr, ty, en, ↓reduceIte, Nat.reduceSub, Nat.reduceAdd, Nat.reduceMul, Nat.reduceLT, Int.reduceAdd, Int.reduceSub, Int.reduceToNat, ci, vi, getO_i]
     refine Vw.done ⟨?_, rfl, rfl⟩
     rw [List.take_of_length_le (by omega), List.take_of_length_le (by omega)] at he
     rw [decide_eq_true he]
theorem eqs_ok {T : Tbl} {l m : List B} (hl : l.length <= 1099511627776) :
 CallA prog G 26 [.vs (l.map str) l.length, .vs (m.map str) m.length] T fun v T' es => v = .p (.bool (decide (l = m))) /\ T' = T /\ es = [] := by
 have ha : Sl T 1 (.vs (l.map str) l.length) (l.map str) l.length := Sl.vs _ _ (by simp)
 have hb : Sl T 1 (.vs (m.map str) m.length) (m.map str) m.length := Sl.vs _ _ (by simp)
 have hra := Sl.rules ha (by decide)
 have hrb := Sl.rules hb (by decide)
 have hla := Sl.loads ha (P := prog) (t := 9) (by (simp -dsimp +decide only [vt2, vy, vz, vze, vy, vz, vze, vr, ty, en, ↓reduceIte, Nat.reduceSub, Nat.reduceAdd, Nat.reduceMul, Nat.reduceLT, Int.reduceAdd, Int.reduceSub, Int.reduceToNat, ci]))
 have hlb := Sl.loads hb (P := prog) (t := 9) (by (simp -dsimp +decide only [vt2, vy, vz, vze, vy, vz, vze, vr, ty, en, ↓reduceIte, Nat.reduceSub, Nat.reduceAdd, Nat.reduceMul, Nat.reduceLT, Int.reduceAdd, Int.reduceSub, Int.reduceToNat, ci]))
 refine CallA.eV 14 func26 ntmps26 results26 ?_
 simp -dsimp +decide only [vt2, vy, vz, vze, vy, vz, vze, vr, ty, en, ↓reduceIte, Nat.reduceSub, Nat.reduceAdd, Nat.reduceMul, Nat.reduceLT, Int.reduceAdd, Int.reduceSub, Int.reduceToNat, ci]
 refine CondP.split (fun h => ?_) (fun h => ?_)
 . simp -dsimp +decide (disch := omega) only [vt2, vy, vz, vze, vy, vz, vze, vr, ty, en, ↓reduceIte, Nat.reduceSub, Nat.reduceAdd, Nat.reduceMul, Nat.reduceLT, Int.reduceAdd, Int.reduceSub, Int.reduceToNat, ci, vi, getO_i]
   refine Vw.done ⟨?_, rfl, rfl⟩
   rw [decide_eq_false]
   rintro rfl; simp at h
 . have hlen : l.length = m.length := by simp at h; omega
   simp -dsimp +decide (disch := omega) only [vt2, vy, vz, vze, vy, vz, vze, vr, ty, en, ↓reduceIte, Nat.reduceSub, Nat.reduceAdd, Nat.reduceMul, Nat.reduceLT, Int.reduceAdd, Int.reduceSub, Int.reduceToNat, ci, vi, getO_i]
   refine SemA.loopL (fun i : Nat => [(0, .vs (l.map str) l.length), (1, .vs (m.map str) m.length), (12, wint (l.length : Int)), (13, wint (i : Int))]) (fun _ => T) (fun i => i <= l.length /\ l.take i = m.take i) (fun i => l.length - i) 0 [] (by kernel_rfl) ⟨by omega, by simp⟩ (by (simp -dsimp +decide only [vt2, vy, vz, vze, vy, vz, vze, vr, ty, en, ↓reduceIte, Nat.reduceSub, Nat.reduceAdd, Nat.reduceMul, Nat.reduceLT, Int.reduceAdd, Int.reduceSub, Int.reduceToNat, ci])) rfl (by simp) ?_
   rintro i g ⟨hi, he⟩
   simp -dsimp +decide only [vt2, vy, vz, vze, vy, vz, vze, vr, ty, en, ↓reduceIte, Nat.reduceSub, Nat.reduceAdd, Nat.reduceMul, Nat.reduceLT, Int.reduceAdd, Int.reduceSub, Int.reduceToNat, ci, hra]
   refine CondP.dec (fun h => ?_) (fun h => ?_)
   . obtain ⟨x, hx⟩ : ∃ x, l[i]? = some x := ⟨l[i]'(by omega), by simp⟩
     obtain ⟨y, hy⟩ : ∃ y, m[i]? = some y := ⟨m[i]'(by omega), by simp⟩
     have hgx : (l.map str)[i]? = some (.p (.string (ba x))) := by rw [List.getElem?_map, hx]; rfl
     have hgy : (m.map str)[i]? = some (.p (.string (ba y))) := by rw [List.getElem?_map, hy]; rfl
     simp -dsimp +decide only [vt2, vy, vz, vze, vy, vz, vze, vr, ty, en, ↓reduceIte, Nat.reduceSub, Nat.reduceAdd, Nat.reduceMul, Nat.reduceLT, Int.reduceAdd, Int.reduceSub, Int.reduceToNat, ci]
     refine SemA.drawS (.fl 0 (.fl 1 (.fl 2 (.fl 3 (.fl 4 (.fl 5 (.fl 6 (.fl 7 (.fl 8 .nil))))))))) mixed (by kernel_rfl) ?_
     by_cases hxy : x = y
     . have hxy' : (ba x = ba y) = True := eq_true (by rw [hxy])
       simp -dsimp +decide (disch := omega) only [vt2, vy, vz, vze, vy, vz, vze, vr, ty, en, ↓reduceIte, Nat.reduceSub, Nat.reduceAdd, Nat.reduceMul, Nat.reduceLT, Int.reduceAdd, Int.reduceSub, Int.reduceToNat, ci, vi, getO_i, hra, hrb, hla, hlb, hgx, hgy, vstr, hxy']
       refine ⟨⟨by omega, by omega⟩, ⟨by omega, by omega⟩, i + 1, ⟨by omega, ?_⟩, by omega, rfl⟩
       rw [List.take_add_one, List.take_add_one, hx, hy, he, hxy]
     . have hxy' : (ba x = ba y) = False := eq_false (fun h => hxy (ba_inj.1 h))
       simp -dsimp +decide (disch := omega) only [vt2, vy, vz, vze, vy, vz, vze, vr, ty, en, ↓reduceIte, Nat.reduceSub, Nat.reduceAdd, Nat.reduceMul, Nat.reduceLT, Int.reduceAdd, Int.reduceSub, Int.reduceToNat, ci, vi, getO_i, hra, hrb, hla, hlb, hgx, hgy, vstr, hxy']
       refine ⟨⟨by omega, by omega⟩, ⟨by omega, by omega⟩, ?_⟩
       refine Vw.done ⟨?_, rfl, rfl⟩
       rw [decide_eq_false]
       rintro rfl
       rw [hx] at hy; cases hy; exact hxy rfl
   . simp -dsimp +decide (disch := omega) only [vt2, vy, vz, vze, vy, vz, vze, vr, ty, en, ↓reduceIte, Nat.reduceSub, Nat.reduceAdd, Nat.reduceMul, Nat.reduceLT, Int.reduceAdd, Int.reduceSub, Int.reduceToNat, ci, vi, getO_i]
     refine Vw.done ⟨?_, rfl, rfl⟩
     rw [List.take_of_length_le (by omega), List.take_of_length_le (by omega)] at he
     rw [decide_eq_true he]
def SameOk (x : JV) : Prop := ∀ (T : Tbl) (y : JV), CallA prog G 16 [.ag (vcs x), .ag (vcs y)] T fun r T' es => (∃ b : Bool, r = .p (.bool b) /\ (b = true ↔ x = y)) /\ T' = T /\ es = []
theorem eqf_ok {T : Tbl} {l m : List JV} (hl : l.length <= 1099511627776) (hs : ∀ x ∈ l, SameOk x) :
 CallA prog G 27 [.vs (vcsL l) l.length, .vs (vcsL m) m.length, .p (.func (.func 16) #[] #[])] T fun r T' es => (∃ b : Bool, r = .p (.bool b) /\ (b = true ↔ l = m)) /\ T' = T /\ es = [] := by
 refine CallA.wfs fun wf => ?_
 have wt := wf.t
 have ha := Es_vcs T l
 have hb := Es_vcs T m
 have hra := Sl.rules ha.sl (by decide)
 have hrb := Sl.rules hb.sl (by decide)
 have hla := ha.ld (P := prog) (t := 25) (by (simp -dsimp +decide only [vt2, vy, vz, vze, vy, vz, vze, vr, ty, en, ↓reduceIte, Nat.reduceSub, Nat.reduceAdd, Nat.reduceMul, Nat.reduceLT, Int.reduceAdd, Int.reduceSub, Int.reduceToNat, ci])) (by (simp -dsimp +decide only [vt2, vy, vz, vze, vy, vz, vze, vr, ty, en, ↓reduceIte, Nat.reduceSub, Nat.reduceAdd, Nat.reduceMul, Nat.reduceLT, Int.reduceAdd, Int.reduceSub, Int.reduceToNat, ci])) (by decide)
 have hlb := hb.ld (P := prog) (t := 25) (by (simp -dsimp +decide only [vt2, vy, vz, vze, vy, vz, vze, vr, ty, en, ↓reduceIte, Nat.reduceSub, Nat.reduceAdd, Nat.reduceMul, Nat.reduceLT, Int.reduceAdd, Int.reduceSub, Int.reduceToNat, ci])) (by (simp -dsimp +decide only [vt2, vy, vz, vze, vy, vz, vze, vr, ty, en, ↓reduceIte, Nat.reduceSub, Nat.reduceAdd, Nat.reduceMul, Nat.reduceLT, Int.reduceAdd, Int.reduceSub, Int.reduceToNat, ci])) (by decide)
 by_cases hlen : l.length = m.length
 . have hlen' : ((l.length : Int) = (m.length : Int)) = True := eq_true (by omega)
   refine CallA.eV 18 func27 ntmps27 results27 ?_
   simp -dsimp +decide only [vt2, vy, vz, vze, vy, vz, vze, vr, ty, en, ↓reduceIte, Nat.reduceSub, Nat.reduceAdd, Nat.reduceMul, Nat.reduceLT, Int.reduceAdd, Int.reduceSub, Int.reduceToNat, ci]
   simp -dsimp +decide (disch := omega) only [vt2, vy, vz, vze, vy, vz, vze, vr, ty, en, ↓reduceIte, Nat.reduceSub, Nat.reduceAdd, Nat.reduceMul, Nat.reduceLT, Int.reduceAdd, Int.reduceSub, Int.reduceToNat, ci, vi, getO_i, hlen']
   refine SemA.loopK T.length (fun i : Nat => [(0, .vs (vcsL l) l.length), (1, .vs (vcsL m) m.length), (2, .p (.func (.func 16) #[] #[])), (15, .vs (vcsL l) l.length), (16, wint (l.length : Int)), (17, wint (i : Int))]) (fun _ => T) (fun i => i <= l.length /\ l.take i = m.take i) (fun i => l.length - i) 0 [] 0 (fun _ : Unit => []) (fun _ => T) (fun _ => l = m) (by omega) ⟨by omega, by simp⟩ (by (simp -dsimp +decide (disch := omega) only [vt2, vy, vz, vze, vy, vz, vze, vr, ty, en, ↓reduceIte, Nat.reduceSub, Nat.reduceAdd, Nat.reduceMul, Nat.reduceLT, Int.reduceAdd, Int.reduceSub, Int.reduceToNat, ci, vi, getO_i]); first | rfl | done) rfl (by simp) ?_ ?_
   . rintro i g ⟨hi, he⟩
     refine SemA.o ?_
     by_cases hlt : i < l.length
     . have hlt' : ((i : Int) < (l.length : Int)) = True := eq_true (by omega)
       obtain ⟨x, hx⟩ : ∃ x, l[i]? = some x := ⟨l[i]'(by omega), by simp⟩
       obtain ⟨y, hy⟩ : ∃ y, m[i]? = some y := ⟨m[i]'(by omega), by simp⟩
       have hatx : List.take 5 (List.drop (i * 5) (vcsL l)) = vcs x := by rw [vcsL_eq]; exact flat_at (fun x _ => vcs_len x) hx
       have haty : List.take 5 (List.drop (i * 5) (vcsL m)) = vcs y := by rw [vcsL_eq]; exact flat_at (fun x _ => vcs_len x) hy
       have hfl : (vcsL l).length = l.length * 5 := by rw [vcsL_eq]; exact flat_len fun x _ => vcs_len x
       have hfm : (vcsL m).length = m.length * 5 := by rw [vcsL_eq]; exact flat_len fun x _ => vcs_len x
       have hc := fun U => hs x (List.mem_of_getElem? hx) U y
       obtain ⟨k1, z1, s1, ks1, ns1⟩ := x
       obtain ⟨k2, z2, s2, ks2, ns2⟩ := y
       simp only [vcs, str] at hatx haty hc
       have hv1 : vcs (.mk k1 z1 s1 ks1 ns1) = [by8 k1, .p (.int .i64 z1), .p (.string (ba s1)), .vs (vcsL ks1) ks1.length, .vs (ns1.map str) ns1.length] := by rw [vcs]; rfl
       have hv2 : vcs (.mk k2 z2 s2 ks2 ns2) = [by8 k2, .p (.int .i64 z2), .p (.string (ba s2)), .vs (vcsL ks2) ks2.length, .vs (ns2.map str) ns2.length] := by rw [vcs]; rfl
       simp -dsimp +decide (disch := omega) only [vt2, vy, vz, vze, vy, vz, vze, vr, ty, en, ↓reduceIte, Nat.reduceSub, Nat.reduceAdd, Nat.reduceMul, Nat.reduceLT, Int.reduceAdd, Int.reduceSub, Int.reduceToNat, ci, vi, getO_i, vt, hra, hrb, hla, hlb, hx, hy, hlt', hv1, hv2, wr5, tk5]
       refine ⟨by omega, ⟨by omega, by omega⟩, ?_⟩
       refine (hc _).mono ?_
       rintro r T' es ⟨⟨b, rfl, hbb⟩, rfl, rfl⟩
       cases b with
       | false =>
         simp -dsimp +decide (disch := omega) only [vt2, vy, vz, vze, vy, vz, vze, vr, ty, en, ↓reduceIte, Nat.reduceSub, Nat.reduceAdd, Nat.reduceMul, Nat.reduceLT, Int.reduceAdd, Int.reduceSub, Int.reduceToNat, ci, vi, getO_i, vt]
         refine Vw.cut ⟨⟨false, rfl, ⟨fun h => (by cases h), fun h => ?_⟩⟩, rfl, rfl⟩
         subst h
         rw [hx] at hy
         have := hbb.2 (Option.some.inj hy)
         cases this
       | true =>
         have hxy := hbb.1 rfl
         simp -dsimp +decide (disch := omega) only [vt2, vy, vz, vze, vy, vz, vze, vr, ty, en, ↓reduceIte, Nat.reduceSub, Nat.reduceAdd, Nat.reduceMul, Nat.reduceLT, Int.reduceAdd, Int.reduceSub, Int.reduceToNat, ci, vi, getO_i, vt]
         exact ⟨i + 1, ⟨⟨by omega, by rw [List.take_add_one, List.take_add_one, hx, hy, he, hxy]⟩, by omega⟩, rfl, wt.2.1⟩
     . have hlt' : ((i : Int) < (l.length : Int)) = False := eq_false (by omega)
       rw [List.take_of_length_le (by omega), List.take_of_length_le (by omega)] at he
       simp -dsimp +decide (disch := omega) only [vt2, vy, vz, vze, vy, vz, vze, vr, ty, en, ↓reduceIte, Nat.reduceSub, Nat.reduceAdd, Nat.reduceMul, Nat.reduceLT, Int.reduceAdd, Int.reduceSub, Int.reduceToNat, ci, vi, getO_i, vt, hlt']
       exact ⟨(), he, wt.2.1⟩
   . rintro _ g tmp he
     simp -dsimp +decide (disch := omega) only [vt2, vy, vz, vze, vy, vz, vze, vr, ty, en, ↓reduceIte, Nat.reduceSub, Nat.reduceAdd, Nat.reduceMul, Nat.reduceLT, Int.reduceAdd, Int.reduceSub, Int.reduceToNat, ci, vi, getO_i, vt]
     exact Vw.done ⟨⟨true, rfl, ⟨fun _ => he, fun _ => rfl⟩⟩, rfl, rfl⟩
 . have hlen' : ((l.length : Int) = (m.length : Int)) = False := eq_false (by omega)
   refine CallA.eV 18 func27 ntmps27 results27 ?_
   simp -dsimp +decide only [vt2, vy, vz, vze, vy, vz, vze, vr, ty, en, ↓reduceIte, Nat.reduceSub, Nat.reduceAdd, Nat.reduceMul, Nat.reduceLT, Int.reduceAdd, Int.reduceSub, Int.reduceToNat, ci]
   simp -dsimp +decide (disch := omega) only [vt2, vy, vz, vze, vy, vz, vze, vr, ty, en, ↓reduceIte, Nat.reduceSub, Nat.reduceAdd, Nat.reduceMul, Nat.reduceLT, Int.reduceAdd, Int.reduceSub, Int.reduceToNat, ci, vi, getO_i, hlen']
   exact Vw.done ⟨⟨false, rfl, ⟨fun h => (by cases h), fun h => absurd (by rw [h]) hlen⟩⟩, rfl, rfl⟩
theorem same_step (a : JV) (ha : vsz a <= 1099511627776) (hs : ∀ x ∈ a.kids, SameOk x) : SameOk a := by
 intro T c
 obtain ⟨k1, z1, s1, ks1, ns1⟩ := a
 obtain ⟨k2, z2, s2, ks2, ns2⟩ := c
 have hv : vsz (.mk k1 z1 s1 ks1 ns1) = 1 + s1.length + (ns1.map fun x => 1 + x.length).sum + vszL ks1 := by rw [vsz]
 have hkl := vszL_len ks1
 have hnl := nsz_len ns1
 have hE := fun U => eqf_ok (T := U) (l := ks1) (m := ks2) (by omega) hs
 have hN := fun U => eqs_ok (T := U) (l := ns1) (m := ns2) (by omega)
 simp only [vcs, show ∀ l, str l = .p (.string (ba l)) from fun _ => rfl]
 have t1 : ((k1.toNat : Int) = (k2.toNat : Int)) = (k1 = k2) := propext ⟨fun h => UInt8.toNat_inj.1 (by omega), fun h => by rw [h]⟩
 have t3 : (ba s1 = ba s2) = (s1 = s2) := propext ba_inj
 by_cases e1 : k1 = k2
 . have e1' : (k1 = k2) = True := eq_true e1
   by_cases e2 : z1 = z2
   . have e2' : (z1 = z2) = True := eq_true e2
     by_cases e3 : s1 = s2
     . have e3' : (s1 = s2) = True := eq_true e3
       by_cases e4 : ns1 = ns2
       . have e4' : (ns1 = ns2) = True := eq_true e4
         refine CallA.eV 5 func16 ntmps16 results16 ?_
         simp -dsimp +decide only [vt2, vy, vz, vze, vy, vz, vze, vr, ty, en, ↓reduceIte, Nat.reduceSub, Nat.reduceAdd, Nat.reduceMul, Nat.reduceLT, Int.reduceAdd, Int.reduceSub, Int.reduceToNat, ci]
         simp -dsimp +decide (disch := omega) only [vt2, vy, vz, vze, vy, vz, vze, vr, ty, en, ↓reduceIte, Nat.reduceSub, Nat.reduceAdd, Nat.reduceMul, Nat.reduceLT, Int.reduceAdd, Int.reduceSub, Int.reduceToNat, ci, vi, getO_i, vt, t1, t3, e1', e2', e3', gn0, gn1, vstr]
         refine (hN _).det' ?_
         simp -dsimp +decide (disch := omega) only [vt2, vy, vz, vze, vy, vz, vze, vr, ty, en, ↓reduceIte, Nat.reduceSub, Nat.reduceAdd, Nat.reduceMul, Nat.reduceLT, Int.reduceAdd, Int.reduceSub, Int.reduceToNat, ci, vi, getO_i, vt, e4', gn0, gn1, vstr]
         refine (hE _).mono ?_
         rintro r T' es ⟨⟨b, rfl, hb⟩, rfl, rfl⟩
         simp -dsimp +decide (disch := omega) only [vt2, vy, vz, vze, vy, vz, vze, vr, ty, en, ↓reduceIte, Nat.reduceSub, Nat.reduceAdd, Nat.reduceMul, Nat.reduceLT, Int.reduceAdd, Int.reduceSub, Int.reduceToNat, ci, vi, getO_i, vt, gn0, gn1]
         refine Vw.cut ⟨⟨b, rfl, ?_⟩, rfl, rfl⟩
         rw [hb, e1, e2, e3, e4]
         exact ⟨fun h => by rw [h], fun h => by injection h⟩
       . have e4' : (ns1 = ns2) = False := eq_false e4
         refine CallA.eV 5 func16 ntmps16 results16 ?_
         simp -dsimp +decide only [vt2, vy, vz, vze, vy, vz, vze, vr, ty, en, ↓reduceIte, Nat.reduceSub, Nat.reduceAdd, Nat.reduceMul, Nat.reduceLT, Int.reduceAdd, Int.reduceSub, Int.reduceToNat, ci]
         simp -dsimp +decide (disch := omega) only [vt2, vy, vz, vze, vy, vz, vze, vr, ty, en, ↓reduceIte, Nat.reduceSub, Nat.reduceAdd, Nat.reduceMul, Nat.reduceLT, Int.reduceAdd, Int.reduceSub, Int.reduceToNat, ci, vi, getO_i, vt, t1, t3, e1', e2', e3', gn0, gn1, vstr]
         refine (hN _).det' ?_
         simp -dsimp +decide (disch := omega) only [vt2, vy, vz, vze, vy, vz, vze, vr, ty, en, ↓reduceIte, Nat.reduceSub, Nat.reduceAdd, Nat.reduceMul, Nat.reduceLT, Int.reduceAdd, Int.reduceSub, Int.reduceToNat, ci, vi, getO_i, vt, e4', gn0, gn1, vstr]
         exact Vw.cut ⟨⟨false, rfl, ⟨fun h => (by cases h), fun h => absurd (by injection h) e4⟩⟩, rfl, rfl⟩
     . have e3' : (s1 = s2) = False := eq_false e3
       refine CallA.eV 5 func16 ntmps16 results16 ?_
       simp -dsimp +decide only [vt2, vy, vz, vze, vy, vz, vze, vr, ty, en, ↓reduceIte, Nat.reduceSub, Nat.reduceAdd, Nat.reduceMul, Nat.reduceLT, Int.reduceAdd, Int.reduceSub, Int.reduceToNat, ci]
       simp -dsimp +decide (disch := omega) only [vt2, vy, vz, vze, vy, vz, vze, vr, ty, en, ↓reduceIte, Nat.reduceSub, Nat.reduceAdd, Nat.reduceMul, Nat.reduceLT, Int.reduceAdd, Int.reduceSub, Int.reduceToNat, ci, vi, getO_i, vt, t1, t3, e1', e2', e3', gn0, gn1, vstr]
       exact Vw.cut ⟨⟨false, rfl, ⟨fun h => (by cases h), fun h => absurd (by injection h) e3⟩⟩, rfl, rfl⟩
   . have e2' : (z1 = z2) = False := eq_false e2
     refine CallA.eV 5 func16 ntmps16 results16 ?_
     simp -dsimp +decide only [vt2, vy, vz, vze, vy, vz, vze, vr, ty, en, ↓reduceIte, Nat.reduceSub, Nat.reduceAdd, Nat.reduceMul, Nat.reduceLT, Int.reduceAdd, Int.reduceSub, Int.reduceToNat, ci]
     simp -dsimp +decide (disch := omega) only [vt2, vy, vz, vze, vy, vz, vze, vr, ty, en, ↓reduceIte, Nat.reduceSub, Nat.reduceAdd, Nat.reduceMul, Nat.reduceLT, Int.reduceAdd, Int.reduceSub, Int.reduceToNat, ci, vi, getO_i, vt, t1, t3, e1', e2', gn0, gn1, vstr]
     exact Vw.cut ⟨⟨false, rfl, ⟨fun h => (by cases h), fun h => absurd (by injection h) e2⟩⟩, rfl, rfl⟩
 . have e1' : (k1 = k2) = False := eq_false e1
   refine CallA.eV 5 func16 ntmps16 results16 ?_
   simp -dsimp +decide only [vt2, vy, vz, vze, vy, vz, vze, vr, ty, en, ↓reduceIte, Nat.reduceSub, Nat.reduceAdd, Nat.reduceMul, Nat.reduceLT, Int.reduceAdd, Int.reduceSub, Int.reduceToNat, ci]
   simp -dsimp +decide (disch := omega) only [vt2, vy, vz, vze, vy, vz, vze, vr, ty, en, ↓reduceIte, Nat.reduceSub, Nat.reduceAdd, Nat.reduceMul, Nat.reduceLT, Int.reduceAdd, Int.reduceSub, Int.reduceToNat, ci, vi, getO_i, vt, t1, t3, e1', gn0, gn1, vstr]
   exact Vw.cut ⟨⟨false, rfl, ⟨fun h => (by cases h), fun h => absurd (by injection h) e1⟩⟩, rfl, rfl⟩
theorem same_all : ∀ (N : Nat) (a : JV), vsz a <= N -> N <= 1099511627776 -> SameOk a
 | 0, a, h, _ => absurd h (by rw [vsz_eq]; omega)
 | N + 1, a, h, hN => same_step a (by omega) fun x hx => same_all N x (by have := vszL_mem hx; rw [vsz_eq] at h; omega) (by omega)
theorem same_ok {T : Tbl} {a c : JV} (h : vsz a <= 1099511627776) : CallA prog G 16 [.ag (vcs a), .ag (vcs c)] T fun r T' es => (∃ b : Bool, r = .p (.bool b) /\ (b = true ↔ a = c)) /\ T' = T /\ es = [] := same_all _ a h (Nat.le_refl _) T c
end Go.Proofs.YtglpcedoongagaaGreatDoor
namespace Go.E
def keepsE (cs : List AV) (E : Eff) : Prop := ∀ a ∈ cs, ∀ j o, a = AV.ptr j o -> (j, true) ∉ E
theorem keep_rel {Z Z' : Heap} {ρ ρ' : List BI} {T T' : Tbl} {w w' : World} {E : Eff} {cs : List AV} {vs : List Value} (hp : ∀ a ∈ cs, ∃ j o, a = AV.ptr j o) (h : RelL Z ρ cs vs) (hx : Ext Z ρ T w Z' ρ' T' w' E) (hk : keepsE cs E) : RelL Z' ρ' cs vs := by
 refine ⟨h.1, fun k a v ha hv => ?_⟩
 have hm := List.mem_of_getElem? ha
 obtain ⟨j, o, rfl⟩ := hp a hm
 have hr := h.2 k _ v ha hv
 cases hr with
 | ptr h1 h2 => exact .ptr (hx.place _ _ h1 (hk _ hm _ _ rfl)) h2
section
variable {P : Program} {G : Nat -> AV} {T : Tbl} {K : AV -> Tbl -> Eff -> Prop}
theorem CallA.enterD (mp : Nat -> Bool) {f g : FuncId} {fn : Func} {c0 x c2 : Code} {id td : Nat} {ops : Array Oper} {o1 o2 : Oper} {capo : Array Operand} {ts : Array TypeId} {args : List AV} {m : Nat} {rs : List ResultVar} (C : List AV -> AV -> Tbl -> Tbl -> Eff -> Prop) (n : Nat)
 (hf : P.funcs[f]? = some fn) (hm : fn.ntmps = m) (hrs : fn.results.toList = rs) (hb : fn.body = some (.seq c0 (.seq x (.seq (.region id ops false) c2)))) (hn : args.length <= n /\ n <= m) (hok0 : codeOK m c0 = true) (hokx : codeOK m x = true) (hok2 : codeOK m c2 = true) (hr : rsLt n rs = true)
 (hops : ops = #[o1, o2]) (h1 : o1.op = .makeFunc (.func g) #[] capo) (h1g : o1.guard = none) (h1d : o1.dst = some td) (h2 : o2.op = .defer ⟨.value (.tmp td), #[], ts⟩) (h2g : o2.guard = none) (h2d : o2.dst = none) (htd : n <= td /\ td < m) (hent : entered P g = true)
 (hret : ∀ (vs : List Value) (w : World), vs.length = capo.size -> CallsDIn Fence.wide 0 P g vs.toArray .returning w fun e u' w' => (∃ r, e = .returned r) /\ u' = .returning /\ w' = w)
 (hpan : ∀ (Z : Heap) (ρ : List BI) (T T3 : Tbl) (w : World) (vs : List Value) (cs : List AV) (a : AV) (v : Value) (ES : Eff), GOK G Z -> St Z ρ T w -> RelL Z ρ cs vs -> Rel Z ρ a v -> C cs a T T3 ES ->
  CallsDIn Fence.wide 0 P g vs.toArray (.panicking [pe v]) w fun e u' w' => (∃ r, e = .returned r) /\ u' = .panicking [{ v := v, recovered := true }] /\ ∃ Z' ρ', St Z' ρ' T3 w' /\ Ext Z ρ T w Z' ρ' T3 w' ES)
 (h : codeB P ⟨G, mp, fun _ _ _ _ => False, []⟩ T.length none n m c0 [] (args ++ List.replicate (n - args.length) (.p undef)) [] T [] (fun ds loc tmp Tx Ex => codeB P ⟨G, mp, fun _ _ _ _ => False, []⟩ T.length none n m x ds loc tmp Tx Ex
  (fun ds loc tmp T1 E1 => ds = [] /\ (∀ a ∈ capo.toList.map (evA G n loc tmp), ∃ j o, a = AV.ptr j o) /\ ∀ d, codeB P ⟨G, mp, fun loc' a T2 E2 => keepsE (capo.toList.map (evA G n loc tmp)) E2 /\ ∃ T3 ES, C (capo.toList.map (evA G n loc tmp)) a T2 T3 ES /\ retA P rs (Vw G T K) [] (slots ES loc') [] T3 (recE T.length ES (recE T.length E2 E1)), [d]⟩ T1.length none n m c2 [] loc [] T1 []
   (fun ds' loc' tmp' T2 E2 => ds' = [] /\ keepsE (capo.toList.map (evA G n loc tmp)) E2 /\ retA P rs (Vw G T K) [] loc' tmp' T2 (recE T.length E2 E1)) (fun _ _ _ _ _ _ => False)
   (fun ds' loc' tmp' T2 E2 => ds' = [] /\ keepsE (capo.toList.map (evA G n loc tmp)) E2 /\ retA P rs (Vw G T K) [] loc' tmp' T2 (recE T.length E2 E1))) (fun _ _ _ _ _ _ => False) (retA P rs (Vw G T K))) (fun _ _ _ _ _ _ => False) (retA P rs (Vw G T K))) : CallA P G f args T K := by
 subst hm; subst hrs; subst hops
 intro Z ρ w vs hG hs ha
 have hl := ha.1
 refine callsIn_wide (n := 0).1 (callsIn_of_wp_marks hf hb trivial ?_)
 have seen : ∀ {x : Value} {w' : World}, Post Z ρ T w (fun v T' E' => Vw G T K v T' E') x w' -> Post Z ρ T w K x w' := by
  rintro x w' ⟨Z', ρ', T', es, a, h1, h2, h3, h4⟩
  exact h4 Z ρ w Z' ρ' w' _ hs ⟨hG.mono h2.le, h1, h2⟩ h3
 have fin : ∀ {Z1 : Heap} {ρ1 : List BI} {T1 : Tbl} {w1 : World} {E1 : Eff} {loc : List AV} {tmp : List (Nat × AV)} {lv : List Value}, Frm G Z ρ T w Z1 ρ1 T1 w1 E1 -> RelL Z1 ρ1 loc lv -> retA P fn.results.toList (Vw G T K) [] loc tmp T1 E1 -> ResP P fn n (Post Z ρ T w K) [] lv w1 := by
  intro Z1 ρ1 T1 w1 E1 loc tmp lv g1 g2 g3
  exact ResP.mono (fun _ _ h => seen h) _ _ _ (retA_sound (dv := []) g1 .nil g2 hr g3)
 have early : ∀ {dv : List Nat} {lv : List Value} {tv : List (Nat × Value)} {w' : World} {a : Act}, FitsD [] n fn.ntmps dv lv tv a -> LK G Z ρ T w (retA P fn.results.toList (Vw G T K)) dv lv tv w' -> LeavesInM Fence.wide 0 P fn a.tmps (fun e w' => ∃ v, e = .returned v /\ Post Z ρ T w K v w') a.defers .returning w' := by
  rintro dv lv tv w' a hfa ⟨Z1, ρ1, T1, E1, ds1, loc1, tmp1, g1, g2, g3, g4, g5⟩
  obtain ⟨base, _, _, h3, _⟩ := hfa.base
  rw [hfa.defers, List.append_nil]
  exact (ResP.mono (fun _ _ h => seen h) _ _ _ (retA_sound g1 g2 g3 hr g5)).leaves _ _ _ h3
 have hsz : vs.toArray.size <= n := by simp; omega
 have hfit0 : FitsD [] n fn.ntmps [] (vs ++ List.replicate (n - vs.length) undef) [] { tmps := vs.toArray ++ Array.replicate (fn.ntmps - vs.toArray.size) undef, defers := [] } := by
  refine ⟨⟨fun _ => undef, by simp; omega, by simp; omega, fun t ht => ?_, fun t ht => ?_⟩, by simp; omega, rfl⟩
  . simp only [Array.getD_eq_getD_getElem?, List.getD_eq_getElem?_getD]
    by_cases h1 : t < vs.length
    . rw [Array.getElem?_append_left (by simpa using h1), List.getElem?_append_left h1]; simp
    . rw [Array.getElem?_append_right (by simp; omega), List.getElem?_append_right (by omega)]
      simp only [Array.getElem?_replicate, List.getElem?_replicate, List.size_toArray]
      rw [if_pos (by omega), if_pos (by omega)]
  . simp only [Array.getD_eq_getD_getElem?, lk]
    rw [Array.getElem?_append_right (by simp; omega), Array.getElem?_replicate]
    split <;> rfl
 have hrep : RelL Z ρ (args ++ List.replicate (n - args.length) (.p undef)) (vs ++ List.replicate (n - vs.length) undef) :=
  ha.append (by rw [hl]; have := RelL.ps (Z := Z) (ρ := ρ) (List.replicate (n - vs.length) undef); rwa [List.map_replicate] at this)
 have hsem0 := codeB_sound c0 _ _ _ _ _ _ _ _ h hok0 Z ρ T w Z ρ w [] _ [] hs.len ⟨hG, hs, Ext.refl rfl⟩ ⟨.nil, hrep, .nil⟩
 refine wpIn_seq (hsem0 _ hfit0 _ fun e dv lv tv w1 a1 hfa hq => ?_)
 cases e with
 | exit i => obtain ⟨_, _, _, _, _, _, _, _, _, _, _, g5⟩ := hq; exact g5.elim
 | ret => exact early hfa hq
 | panic c => obtain ⟨_, _, _, _, _, _, _, _, _, _, _, _, g5⟩ := hq; exact g5.elim
 | normal =>
   obtain ⟨Z1, ρ1, T1, E1, ds1, loc1, tmp1, g1, g2, g3, g4, hx⟩ := hq
   have hsemx := codeB_sound x _ _ _ _ _ _ _ _ hx hokx Z ρ T w Z1 ρ1 w1 dv lv tv hs.len g1 ⟨g2, g3, g4⟩
   refine wpIn_seq (hsemx _ hfa _ fun e dv lv tv w2 a2 hfa hq => ?_)
   cases e with
   | exit i => obtain ⟨_, _, _, _, _, _, _, _, _, _, _, g5⟩ := hq; exact g5.elim
   | ret => exact early hfa hq
   | panic c => obtain ⟨_, _, _, _, _, _, _, _, _, _, _, _, g5⟩ := hq; exact g5.elim
   | normal =>
     obtain ⟨Z2, ρ2, T2, E2, ds2, loc2, tmp2, g1, g2, g3, g4, rfl, hptr, hall⟩ := hq
     have hdv : dv = [] := by have := g2.unnil; simpa using this
     subst hdv
     obtain ⟨base, hag⟩ := hfa.base
     have hcaps : RelL Z2 ρ2 (capo.toList.map (evA G n loc2 tmp2)) (capo.toList.map a2.eval) := by
      rw [hag.ev]
      exact ⟨by simp, fun k y z hy hz => by
       rw [List.getElem?_map] at hy hz
       cases hk : capo.toList[k]? with
       | none => rw [hk] at hy; cases hy
       | some o => rw [hk] at hy hz; cases hy; cases hz; exact evA_rel g1.g g3 g4 o⟩
     generalize hcs : capo.toList.map (evA G n loc2 tmp2) = cs at hall hcaps hptr
     generalize hcv : capo.toList.map a2.eval = cv at hcaps
     have hcv' : capo.map a2.eval = cv.toArray := by rw [<- hcv, <- Array.toList_map]
     have hdd : a2.defers = [] := by rw [hfa.defers]; rfl
     obtain ⟨d, hd⟩ : ∃ d : Deferred, d = { target := .fn (.func g) cv.toArray, args := #[] } := ⟨_, rfl⟩
     refine wpIn_seq (wpIn_region_list ?_)
     have w1 : ∀ (o : Oper) (a : Act), o.guard = none -> Region.wanted o (yielded #[o1, o2] a.tmps) = true := fun o a h => by simp [Region.wanted, h]
     show wpListIn _ 0 P #[o1, o2] _ [o1, o2] a2 w2
     unfold wpListIn
     rw [if_pos (w1 o1 a2 h1g)]
     refine ⟨fun _ _ => trivial, ?_⟩
     have e1 : (Oper.semAt Fence.wide.round a2.eval o1).run P w2 = .ok (.value (.func (.func g) #[] cv.toArray)) w2 := by
      show (execOp a2.eval o1).run P w2 = _
      simp [execOp, h1, Instr.makeFunc, hcv']
     rw [e1, Oper.uponIn_value]
     obtain ⟨l3, t3, hag3, rfl, hlk⟩ := hag.put (d := o1.dst) (fun t ht => by rw [h1d] at ht; cases ht; rw [hfa.size]; exact htd.2) (.func (.func g) #[] cv.toArray) (K := fun l t => l = lv /\ lk base t td = .func (.func g) #[] cv.toArray) (by rw [h1d]; unfold putK; show (if td < n then _ else _); rw [if_neg (by omega)]; exact ⟨rfl, by simp [lk]⟩)
     unfold wpListIn
     rw [if_pos (w1 o2 _ h2g)]
     refine ⟨fun _ _ => trivial, ?_⟩
     have e2 : (a2.put o1.dst (.func (.func g) #[] cv.toArray)).eval (.tmp td) = .func (.func g) #[] cv.toArray := by
      rw [hag3.ev]
      show (if td < n then _ else _) = _
      rw [if_neg (by omega)]
      exact hlk
     have e3 : (Oper.semAt Fence.wide.round (a2.put o1.dst (.func (.func g) #[] cv.toArray)).eval o2).run P w2 = .ok (.defer d) w2 := by
      show (execOp _ o2).run P w2 = _
      simp [execOp, h2, resolve, e2, Deferred.ofValue, hd]
     rw [e3, Oper.uponIn_defer]
     rw [h2d]
     have hfit3 : FitsD [d] n fn.ntmps [] l3 t3 ({ (a2.put o1.dst (.func (.func g) #[] cv.toArray)) with defers := d :: (a2.put o1.dst (.func (.func g) #[] cv.toArray)).defers }.put none undef) := by
      refine ⟨⟨base, hag3⟩, ?_, ?_⟩
      . rw [h1d]; simp [Act.put, hfa.size]
      . rw [h1d]; simp [Act.put, hdd]
     show (Code.wpIn Fence.wide 0 P c2 (bodyPostM Fence.wide 0 P fn fun e w' => ∃ v, e = Ending.returned v /\ Post Z ρ T w K v w')) _ w2
     have hc2 := hall d
     have hsem2 := codeB_sound c2 _ _ _ _ _ _ _ _ hc2 hok2 Z2 ρ2 T2 w2 Z2 ρ2 w2 [] l3 [] g1.st.len ⟨g1.g, g1.st, Ext.refl rfl⟩ ⟨.nil, g3, .nil⟩
     have hinv : ∀ wX : World, (invoke d.target d.args).run P wX = .ok (.enter g cv.toArray) wX := by
      intro wX
      have hcall : (callFunc g cv.toArray).run P wX = .ok (.enter g cv.toArray) wX := by
       have he := hent
       unfold entered at he
       cases hf : P.funcs[g]? with
       | none => rw [hf] at he; cases he
       | some fn =>
         rw [hf] at he
         simp only [Bool.and_eq_true, bne_iff_ne, ne_eq] at he
         obtain ⟨h1, h2⟩ := he
         have h3 : ¬ fn.body = none := by intro hb; rw [hb] at h2; cases h2
         simp [callFunc, hf, h1, h3]
      rw [hd]
      have e : invoke (.fn (.func g) cv.toArray) #[] = callFunc g (#[] ++ cv.toArray) := rfl
      rw [e]
      simpa using hcall
     refine (SemZ.cleared hsem2) _ hfit3 _ fun e dv lv tv w3 a3 hfa3 hq => ?_
     have done : ∀ {Z3 : Heap} {ρ3 : List BI} {T3 : Tbl} {w3 : World} {E3 : Eff} {loc : List AV} {tmp : List (Nat × AV)} {lv : List Value} {tmps : Array Value}, (∀ t, t < n -> tmps.getD t undef = lv.getD t undef) -> Frm G Z ρ T w Z3 ρ3 T3 w3 E3 -> RelL Z3 ρ3 loc lv -> retA P fn.results.toList (Vw G T K) [] loc tmp T3 E3 -> LeavesInM Fence.wide 0 P fn tmps (fun e w' => ∃ v, e = .returned v /\ Post Z ρ T w K v w') [] .returning w3 := by
      intro Z3 ρ3 T3 w3 E3 loc tmp lv tmps ht k1 k2 k3
      exact (fin k1 k2 k3).leaves [] lv w3 ht
     have hrt : ∀ {dv : List Nat} {lv : List Value} {tv : List (Nat × Value)} {w3 : World} {a3 : Act}, FitsD [d] n fn.ntmps dv lv tv a3 -> LK G Z2 ρ2 T2 w2 (fun ds' loc' tmp' T2 E2' => ds' = [] /\ keepsE cs E2' /\ retA P fn.results.toList (Vw G T K) [] loc' tmp' T2 (recE T.length E2' E2)) dv lv tv w3 -> LeavesInM Fence.wide 0 P fn a3.tmps (fun e w' => ∃ v, e = .returned v /\ Post Z ρ T w K v w') a3.defers .returning w3 := by
      rintro dv lv tv w3 a3 hfa3 ⟨Z3, ρ3, T3, E3, ds3, loc3, tmp3, k1, k2, k3, k4, rfl, hkp, hrA⟩
      have hdv : dv = [] := by have := k2.unnil; simpa using this
      subst hdv
      obtain ⟨_, _, _, ht, _⟩ := hfa3.base
      rw [hfa3.defers]
      refine ⟨by simp, .inr ⟨(fun h => by cases h), .func g, cv.toArray, g, cv.toArray, by rw [hd], hinv _, fun _ _ => trivial, ?_⟩⟩
      refine (hret cv w3 (by rw [<- hcv, List.length_map]; rfl)).mono ?_
      rintro e u' w' ⟨⟨r, rfl⟩, rfl, rfl⟩
      have hf3 := g1.step k1.st k1.ext
      rw [hs.len] at hf3
      exact done ht hf3 k3 hrA
     cases e with
     | normal => exact hrt hfa3 hq
     | ret => exact hrt hfa3 hq
     | exit i => obtain ⟨_, _, _, _, _, _, _, _, _, _, _, g5⟩ := hq; exact g5.elim
     | panic c =>
       obtain ⟨v, rfl, rfl, Z3, ρ3, T3, E3, loc3, a, k1, k3, k4, hkp, T4, ES, hC, hrA⟩ := hq
       obtain ⟨_, _, _, ht, _⟩ := hfa3.base
       show LeavesInM _ _ _ _ _ _ a3.defers (.panicking [pe v]) w3
       rw [hfa3.defers]
       refine ⟨by simp, .inr ⟨(fun h => by cases h), .func g, cv.toArray, g, cv.toArray, by rw [hd], hinv _, fun _ _ => trivial, ?_⟩⟩
       refine (hpan Z3 ρ3 T3 T4 w3 cv cs a v ES k1.g k1.st (keep_rel hptr hcaps k1.ext hkp) k4 hC).mono ?_
       rintro e u' w' ⟨⟨r, rfl⟩, rfl, Z4, ρ4, hst, hext⟩
       have hf3 := (g1.step k1.st k1.ext).step hst hext
       rw [hs.len] at hf3
       have hat : At Z3 ρ3 [] loc3 [] [] lv [] := ⟨.nil, k3, .nil⟩
       exact done ht hf3 (hat.step hext).loc hrA
     | _ => exact hq.elim
   | _ => exact hq.elim
 | _ => exact hq.elim
end
end Go.E
namespace Go.Proofs.YtglpcedoongagaaGreatDoor
open Go.E Go.Proofs.YtglpcedoongagaaGreatDoor.Tryz Go.Proofs.Tryz Go.J
theorem as_nil (w : World) : (Instr.typeAssert .nilIface 20 30 true).run prog w = .ok (.tuple #[.int .i64 0, .bool false]) w := by kernel_rfl
theorem as_eno (x : Value) (w : World) : (Instr.typeAssert (.iface 30 x) 20 30 true).run prog w = .ok (.tuple #[x, .bool true]) w := by kernel_rfl
theorem ex0 (P : Program) (a b : Value) (w : World) : (Instr.extract (.tuple #[a, b]) 0).run P w = .ok a w := rfl
theorem ex1 (P : Program) (a b : Value) (w : World) : (Instr.extract (.tuple #[a, b]) 1).run P w = .ok b w := rfl
theorem clo_ret (vs : List Value) (w : World) (h : vs.length = 2) : CallsDIn Fence.wide 0 prog 28 vs.toArray .returning w fun e u' w' => (∃ r, e = .returned r) /\ u' = .returning /\ w' = w := by
 obtain ⟨x, y, rfl⟩ : ∃ x y, vs = [x, y] := by
  match vs, h with
  | [x, y], _ => exact ⟨x, y, rfl⟩
 refine callsDIn_of_wpSIn func28 rfl trivial fun c₀ cs hu => ?_
 refine wpSIn_seq (wpSIn_region ?_)
 have hrec : recoverD (c₀ :: cs) = none := by simp [recoverD, hu]
 simp [wpOpsSIn, List.range_succ, execOp, resolve, invoke, builtin, hrec, Region.wanted, as_nil, ex0, ex1, Act.put, Act.eval, Oper.about]
 refine ⟨fun _ _ => trivial, ?_⟩
 show Code.wpSIn _ 0 _ _ _ _ _ _
 refine wpSIn_seq (wpSIn_region ?_)
 simp [wpOpsSIn, List.range_succ, execOp, Region.wanted, Act.put, Act.eval, Oper.about]
 show Code.wpSIn _ 0 _ _ _ _ _ _
 refine wpSIn_cond (t := false) (by simp [Act.eval]) ?_
 refine wpSIn_of_wpIn rfl (wpIn_skip ?_)
 refine ⟨rfl, .returning, ?_, .tuple #[], ?_, ⟨_, rfl⟩, rfl, rfl⟩
 . rw [<- hu]
 . simp [results, results28]
def zc : List AV := [.p (.int .u8 0), .p (.int .i64 0), .p (.string ByteArray.empty), .p (.slice none 0 0), .p (.slice none 0 0)]
def CloP (cs : List AV) (a : AV) (T T3 : Tbl) (ES : Eff) : Prop := ∃ (j1 j2 : Nat) (c1 : List AV) (x : AV) (e : Int), cs = [.ptr j1 0, .ptr j2 0] /\ a = eno e /\ T[j1]? = some (.cells 25 c1) /\ c1.length = 5 /\ T[j2]? = some (.cells 30 [x]) /\ j1 ≠ j2 /\
 T3 = (T.set j1 (.cells 25 zc)).set j2 (.cells 30 [.p (.int .i64 e)]) /\ ES = [(j1, false), (j2, false)]
theorem clo_pan (Z : Heap) (ρ : List BI) (T T3 : Tbl) (w : World) (vs : List Value) (cs : List AV) (a : AV) (v : Value) (ES : Eff) (hG : GOK G Z) (hs : St Z ρ T w) (hc : RelL Z ρ cs vs) (ha : Rel Z ρ a v) (hC : CloP cs a T T3 ES) :
 CallsDIn Fence.wide 0 prog 28 vs.toArray (.panicking [pe v]) w fun e u' w' => (∃ r, e = .returned r) /\ u' = .panicking [{ v := v, recovered := true }] /\ ∃ Z' ρ', St Z' ρ' T3 w' /\ Ext Z ρ T w Z' ρ' T3 w' ES := by
 obtain ⟨j1, j2, c1, x, e, rfl, rfl, hj1, hc1, hj2, hne, rfl, rfl⟩ := hC
 obtain ⟨x1, us, rfl, r1, hc⟩ := hc.uncons
 obtain ⟨x2, us, rfl, r2, hc⟩ := hc.uncons
 obtain rfl := hc.unnil
 obtain ⟨y, rfl⟩ : ∃ y, v = .iface 30 y := by cases ha with | ic h => exact ⟨_, rfl⟩
 obtain rfl : y = .int .i64 e := by cases ha with | ic h => exact h.p_inv
 refine callsDIn_of_wpSIn func28 rfl trivial fun c₀ cs hu => ?_
 refine wpSIn_seq (wpSIn_region ?_)
 have hrec : recoverD (c₀ :: cs) = some (.iface 30 (.int .i64 e), { c₀ with mode := .panicking [{ v := .iface 30 (.int .i64 e), recovered := true }] } :: cs) := by simp [recoverD, hu, pe]
 simp [wpOpsSIn, List.range_succ, execOp, resolve, invoke, builtin, hrec, Region.wanted, as_eno, ex0, ex1, Act.put, Act.eval, Oper.about]
 refine ⟨fun _ _ => trivial, ?_⟩
 show Code.wpSIn _ 0 _ _ _ _ _ _
 refine wpSIn_seq (wpSIn_region ?_)
 simp [wpOpsSIn, List.range_succ, execOp, Region.wanted, Act.put, Act.eval, Oper.about]
 show Code.wpSIn _ 0 _ _ _ _ _ _
 refine wpSIn_cond (t := true) (by simp [Act.eval]) ?_
 refine wpSIn_of_wpIn rfl ?_
 rw [if_pos rfl]
 have key : ∀ (c : Code) (Q : Exit -> Act -> World -> Prop) (a0 : Act) (z4 z5 z6 z7 z8 z9 z10 z11 : Value), Fits' 12 12 [] [x1, x2, .int .i64 e, .bool true, z4, z5, z6, z7, z8, z9, z10, z11] [] a0 -> (∀ a' w', a'.defers = [] -> (∃ Z' ρ', St Z' ρ' ((T.set j1 (.cells 25 zc)).set j2 (.cells 30 [.p (.int .i64 e)])) w' /\ Ext Z ρ T w Z' ρ' ((T.set j1 (.cells 25 zc)).set j2 (.cells 30 [.p (.int .i64 e)])) w' [(j1, false), (j2, false)]) -> Q .normal a' w') ->
  SemA prog G T.length none 12 12 c [] [.ptr j1 0, .ptr j2 0, .p (.int .i64 e), .p (.bool true), .any, .any, .any, .any, .any, .any, .any, .any] [] T [] (fun ds _ _ T' E' => ds = [] /\ T' = (T.set j1 (.cells 25 zc)).set j2 (.cells 30 [.p (.int .i64 e)]) /\ ∀ x ∈ E', x ∈ [(j1, false), (j2, false)]) (fun _ _ _ _ _ _ => False) (fun _ _ _ _ _ => False) ->
  c.wpIn Fence.wide 0 prog Q a0 w := by
  intro c Q a0 z4 z5 z6 z7 z8 z9 z10 z11 hfit hQ hc
  have hloc : RelL Z ρ [.ptr j1 0, .ptr j2 0, .p (.int .i64 e), .p (.bool true), .any, .any, .any, .any, .any, .any, .any, .any] [x1, x2, .int .i64 e, .bool true, z4, z5, z6, z7, z8, z9, z10, z11] := by
   refine ⟨rfl, fun k y z hy hz => ?_⟩
   match k with
   | 0 => cases hy; cases hz; exact r1
   | 1 => cases hy; cases hz; exact r2
   | 2 => cases hy; cases hz; exact .p _
   | 3 => cases hy; cases hz; exact .p _
   | 4 => cases hy; cases hz; exact .any _
   | 5 => cases hy; cases hz; exact .any _
   | 6 => cases hy; cases hz; exact .any _
   | 7 => cases hy; cases hz; exact .any _
   | 8 => cases hy; cases hz; exact .any _
   | 9 => cases hy; cases hz; exact .any _
   | 10 => cases hy; cases hz; exact .any _
   | 11 => cases hy; cases hz; exact .any _
   | k + 12 => cases hy
  refine hc Z ρ T w Z ρ w [] _ [] hs.len ⟨hG, hs, Ext.refl rfl⟩ ⟨.nil, hloc, .nil⟩ a0 hfit _ fun e' dv lv tv w' a' hfa hq => ?_
  cases e' with
  | normal =>
    obtain ⟨Z3, ρ3, T3, E3, ds3, loc3, tmp3, k1, k2, k3, k4, rfl, rfl, hE⟩ := hq
    have hdv : dv = [] := by have := k2.unnil; simpa using this
    subst hdv
    exact hQ _ _ hfa.defers ⟨Z3, ρ3, k1.st, k1.ext.more fun x hx _ => hE x hx⟩
  | ret => obtain ⟨_, _, _, _, _, _, _, _, _, _, _, g5⟩ := hq; exact g5.elim
  | exit i => obtain ⟨_, _, _, _, _, _, _, _, _, _, _, g5⟩ := hq; exact g5.elim
  | _ => exact hq.elim
 refine key _ _ _ (.tuple #[.int .i64 e, .bool true]) (.iface 30 (.int .i64 e)) (.tuple #[.int .i64 e, .bool true]) (.int .i64 e) (.bool true) (.bool true) undef undef ?_ ?_ (SemA.o ?_)
 . refine ⟨⟨fun _ => undef, rfl, by simp, fun t ht => ?_, fun t ht => ?_⟩, by simp, rfl⟩
   . rcases (show t = 0 ∨ t = 1 ∨ t = 2 ∨ t = 3 ∨ t = 4 ∨ t = 5 ∨ t = 6 ∨ t = 7 ∨ t = 8 ∨ t = 9 ∨ t = 10 ∨ t = 11 by omega) with rfl | rfl | rfl | rfl | rfl | rfl | rfl | rfl | rfl | rfl | rfl | rfl <;>
      simp [Array.getD_eq_getD_getElem?, Array.getElem?_append, Array.getElem?_setIfInBounds]
   . simp only [Array.getD_eq_getD_getElem?, lk]
     rw [Array.getElem?_eq_none (by simp; omega)]
     rfl
 . intro a' w' hd hx
   refine ⟨hd, _, rfl, .tuple #[], ?_, ⟨_, rfl⟩, rfl, hx⟩
   simp [results, results28]
 . have hj1l := (List.getElem?_eq_some_iff.1 hj1).1
   have hj2l := (List.getElem?_eq_some_iff.1 hj2).1
   obtain ⟨b0, b1, b2, b3, b4, rfl⟩ : ∃ b0 b1 b2 b3 b4, c1 = [b0, b1, b2, b3, b4] := by
    match c1, hc1 with
    | [b0, b1, b2, b3, b4], _ => exact ⟨b0, b1, b2, b3, b4, rfl⟩
   have hj2' : ∀ o : AObj, (T.set j1 o)[j2]? = some (.cells 30 [x]) := fun o => by rw [List.getElem?_set_ne hne]; exact hj2
   simp -dsimp +decide (disch := omega) only [vr, ty, en, ↓reduceIte, Nat.reduceSub, Nat.reduceAdd, Nat.reduceMul, Nat.reduceLT, Int.reduceAdd, Int.reduceSub, Int.reduceToNat, ci, vi, getO_i, vt, hj1, hj2', wr5]
   refine ⟨rfl, fun z hz => ?_⟩
   unfold rec1 at hz
   simp only [hj1l, hj2l, if_true, List.mem_cons, List.not_mem_nil, or_false] at hz ⊢
   rcases hz with h | h <;> simp [h]
end Go.Proofs.YtglpcedoongagaaGreatDoor
namespace Go.Proofs.YtglpcedoongagaaGreatDoor
open Go.E Go.Proofs.YtglpcedoongagaaGreatDoor.Tryz Go.Proofs.Tryz Go.J
def parsV (l : B) (r : Except Int JV) : AV := match r with
 | .ok u => .tu [.ag (vcs u), .p (.int .i64 0)]
 | .error e => .tu [.ag (vcs vNull), .p (.int .i64 e)]
theorem sn0 (T : Tbl) (A o : AObj) (l : Tbl) : (T ++ A :: l).set T.length o = T ++ o :: l := by simp
theorem sn1 (T : Tbl) (A B o : AObj) (l : Tbl) : (T ++ A :: B :: l).set (T.length + 1) o = T ++ A :: o :: l := by simp
theorem sn2 (T : Tbl) (A B C o : AObj) (l : Tbl) : (T ++ A :: B :: C :: l).set (T.length + 2) o = T ++ A :: B :: o :: l := by simp
theorem tu2_weak {a a' b : AV} (h : ∀ Z ρ x, Rel Z ρ a x -> Rel Z ρ a' x) : ∀ (Z : Heap) (ρ : List BI) (x : Value), Rel Z ρ (.tu [a, b]) x -> Rel Z ρ (.tu [a', b]) x := by
 intro Z ρ x hr
 cases hr with
 | @tu _ _ vs hl hr =>
   refine .tu hl fun k h1 h2 => ?_
   match k, h1 with
   | 0, _ => exact h _ _ _ (hr 0 (by simp) h2)
   | 1, _ => exact hr 1 (by simp) h2
theorem keeps_nil (cs : List AV) : keepsE cs [] := fun _ _ _ _ _ h => by cases h
theorem null_weak {e : Int} : ∀ (Z : Heap) (ρ : List BI) (x : Value), Rel Z ρ (.tu [.ag zc, .p (.int .i64 e)]) x -> Rel Z ρ (.tu [.ag (vcs vNull), .p (.int .i64 e)]) x :=
 tu2_weak (by rw [vNull, vcs_nil]; exact ag5_weak nil_vs nil_vs)
theorem parse_ok {T : Tbl} {l : B} (hl : l.length <= 1099511627776) : CallA prog G 17 [bl l] T fun v T' es => v = parsV l (parse l) /\ T' = T /\ es = [] := by
 refine CallA.wf fun wf => ?_
 refine CallA.enterD Tryz.mp CloP 5 func17 ntmps17 (congrArg Array.toList results17) rfl ⟨by simp, by simp⟩ (by kernel_rfl) (by kernel_rfl) (by kernel_rfl) (by kernel_rfl) rfl rfl rfl rfl rfl rfl rfl ⟨by decide, by decide⟩ (by kernel_rfl) clo_ret clo_pan ?_
 simp -dsimp +decide (disch := omega) only [vr, ty, en, ↓reduceIte, Nat.reduceSub, Nat.reduceAdd, Nat.reduceMul, Nat.reduceLT, Int.reduceAdd, Int.reduceSub, Int.reduceToNat, ci, vi, getO_i, vb, Tryz.mpf, vt, vbl]
 refine CondP.dec (fun hc => ?_) (fun hc => ?_)
 . simp -dsimp +decide (disch := omega) only [vr, ty, en, ↓reduceIte, Nat.reduceSub, Nat.reduceAdd, Nat.reduceMul, Nat.reduceLT, Int.reduceAdd, Int.reduceSub, Int.reduceToNat, ci, vi, getO_i, vb, Tryz.mpf, vt, vbl, gn0, gn1, tk5, wr5, vres, vone]
   rw [parse, if_pos (by omega)]
   refine Vw.weak (fun Z ρ x h => null_weak (e := 6) Z ρ x h) ?_
   exact Vw.cut ⟨by simp only [parsV, AV.wo, AV.woL, AV.woL_eq, vcr], rfl, rfl⟩
 simp -dsimp +decide (disch := omega) only [vr, ty, en, ↓reduceIte, Nat.reduceSub, Nat.reduceAdd, Nat.reduceMul, Nat.reduceLT, Int.reduceAdd, Int.reduceSub, Int.reduceToNat, ci, vi, getO_i, vb, Tryz.mpf, vt, vbl, gn0, gn1, tk5, wr5, vres, vone]
 refine ⟨fun a ha => by simp only [List.mem_cons, List.not_mem_nil, or_false] at ha; rcases ha with rfl | rfl <;> exact ⟨_, _, rfl⟩, fun d => ?_⟩
 have hpe : ∀ e, val 8 l = .error e -> parse l = .error e := fun e h => by rw [parse, if_neg (by omega), h]
 have hpo : ∀ v r, val 8 l = .ok (v, r) -> parse l = if blk r = [] then .ok v else .error 5 := fun v r h => by rw [parse, if_neg (by omega), h]
 have hpan : ∀ (e : Int) (c1 : List AV) (U : Tbl) (E2 : Eff) (loc' : List AV), parse l = .error e -> c1.length = 5 -> keepsE [AV.ptr T.length 0, AV.ptr (T.length + 1) 0] E2 -> recE T.length E2 [] = [] -> loc'.getD 2 .any = .ptr T.length 0 -> loc'.getD 3 .any = .ptr (T.length + 1) 0 ->
  keepsE [AV.ptr T.length 0, AV.ptr (T.length + 1) 0] E2 /\ ∃ T3 ES, CloP [AV.ptr T.length 0, AV.ptr (T.length + 1) 0] (eno e) (T ++ AObj.cells 25 c1 :: AObj.cells 30 [.p (.int .i64 0)] :: U) T3 ES /\
   loadA prog 25 ((slots ES loc').getD 2 AV.any) T3 fun v => rsA prog (slots ES loc') T3 [ResultVar.cell 3 30] fun l_1 => oneA (v :: l_1) fun v => Vw G T (fun v T' es => v = parsV l (parse l) /\ T' = T /\ es = []) v T3 (recE T.length ES (recE T.length E2 [])) := by
  intro e c1 U E2 loc' hpe h5 hk hE h2 h3
  refine ⟨hk, _, _, ⟨T.length, T.length + 1, c1, .p (.int .i64 0), e, rfl, rfl, gn0 _ _ _, h5, gn1 _ _ _ _, by omega, rfl, rfl⟩, ?_⟩
  rw [sn0, sn1]
  have hsl : slots [(T.length, false), (T.length + 1, false)] loc' = loc' := rfl
  rw [hsl, h2, hE]
  simp -dsimp +decide (disch := omega) only [vr, ty, en, ↓reduceIte, Nat.reduceSub, Nat.reduceAdd, Nat.reduceMul, Nat.reduceLT, Int.reduceAdd, Int.reduceSub, Int.reduceToNat, ci, vi, getO_i, vb, Tryz.mpf, vt, vbl, gn0, gn1, tk5, wr5, vres, vone, h2, h3, zc]
  rw [hpe]
  refine Vw.weak (fun Z ρ x h => null_weak (e := e) Z ρ x h) ?_
  exact Vw.cut ⟨by simp only [parsV, AV.wo, AV.woL, AV.woL_eq, vcr], rfl, rfl⟩
 refine (val_all 8 (Nat.le_refl 8) _ (T.length + 2) l hl (gn2 _ _ _ _ _)).mono ?_ ?_
 . rintro v T' es ⟨u, r, hv, rfl, rfl, rfl⟩
   rw [sn2]
   have hvr := vcr u
   have hww : wrA (vcs u) 0 (vcs u) = vcs u := wrA_all rfl
   have k1 : ∀ E : Eff, keepsE [AV.ptr T.length 0, AV.ptr (T.length + 1) 0] E -> ∀ j, keepsE [AV.ptr T.length 0, AV.ptr (T.length + 1) 0] (rec1 (T.length + 2) j false E) := fun E hE j a ha j' o e hm => by
    unfold rec1 at hm
    split at hm
    . rcases List.mem_cons.1 hm with h | h
      . cases h
      . exact hE a ha j' o e h
    . exact hE a ha j' o e hm
   have k2 : ∀ (E : Eff), recE T.length E [] = [] -> ∀ j, T.length <= j -> recE T.length (rec1 (T.length + 2) j false E) [] = [] := fun E hE j hj => by
    unfold rec1
    split
    . rw [recE, hE]; exact if_neg (by omega)
    . exact hE
   have hgood := val_good 8 l u r hv
   simp -dsimp +decide (disch := omega) only [vr, ty, en, ↓reduceIte, Nat.reduceSub, Nat.reduceAdd, Nat.reduceMul, Nat.reduceLT, Int.reduceAdd, Int.reduceSub, Int.reduceToNat, ci, vi, getO_i, vb, Tryz.mpf, vt, vbl, gn0, gn1, gn2, sn0, sn1, sn2, tk5, wr5, hvr, vres, vone]
   refine (blanks_ok' (by omega) (gn2 _ _ _ _ _)).det' ?_
   rw [sn2, rdr]
   simp -dsimp +decide (disch := omega) only [vr, ty, en, ↓reduceIte, Nat.reduceSub, Nat.reduceAdd, Nat.reduceMul, Nat.reduceLT, Int.reduceAdd, Int.reduceSub, Int.reduceToNat, ci, vi, getO_i, vb, Tryz.mpf, vt, vbl, gn0, gn1, gn2, sn0, sn1, sn2, tk5, wr5, hvr, vres, vone]
   have hbl : decide ((blk r).length = (0 : Int)) = decide (blk r = []) := decide_eq_decide.2 (by rw [<- List.length_eq_zero_iff]; omega)
   refine (need_ok _).mono ?_ ?_
   . rintro v T' es ⟨hb, rfl, rfl, rfl⟩
     have hbn : blk r = [] := by have := of_decide_eq_true hb; exact List.length_eq_zero_iff.1 (by omega)
     rw [hpo u r hv, if_pos hbn]
     simp -dsimp +decide (disch := omega) only [vr, ty, en, ↓reduceIte, Nat.reduceSub, Nat.reduceAdd, Nat.reduceMul, Nat.reduceLT, Int.reduceAdd, Int.reduceSub, Int.reduceToNat, ci, vi, getO_i, vb, Tryz.mpf, vt, vbl, gn0, gn1, gn2, sn0, sn1, sn2, tk5, wr5, hvr, hww, vres, vone]
     refine ⟨k1 _ (k1 _ (k1 _ (keeps_nil _) _) _) _, ?_⟩
     rw [k2 _ (k2 _ (k2 _ rfl _ (by omega)) _ (by omega)) _ (by omega)]
     exact Vw.cut ⟨by simp only [parsV, AV.wo, AV.woL, AV.woL_eq, vcr], rfl, rfl⟩
   . rintro v T' es ⟨hb, rfl, rfl, rfl⟩
     have hbn : ¬ blk r = [] := fun e => by have := of_decide_eq_false hb; rw [e] at this; simp at this
     refine ⟨rfl, ?_⟩
     simp -dsimp +decide (disch := omega) only [vr, ty, en, ↓reduceIte, Nat.reduceSub, Nat.reduceAdd, Nat.reduceMul, Nat.reduceLT, Int.reduceAdd, Int.reduceSub, Int.reduceToNat, ci, vi, getO_i, vb, Tryz.mpf, vt, vbl, gn0, gn1, gn2, sn0, sn1, sn2, tk5, wr5, hvr, hww, vres, vone]
     exact hpan 5 (vcs u) [rdr (blk r)] (rec1 (T.length + 2) T.length false []) [bl l, .p (.tuple #[]), .ptr T.length 0, .ptr (T.length + 1) 0, .ptr (T.length + 2) 0] (by rw [hpo u r hv, if_neg hbn]) (vcs_len u) (k1 _ (keeps_nil _) _) (k2 _ rfl _ (Nat.le_refl _)) rfl rfl
 . rintro v T' es ⟨e, r, hv, rfl, rfl, rfl⟩
   rw [sn2]
   simp -dsimp +decide (disch := omega) only [vr, ty, en, ↓reduceIte, Nat.reduceSub, Nat.reduceAdd, Nat.reduceMul, Nat.reduceLT, Int.reduceAdd, Int.reduceSub, Int.reduceToNat, ci, vi, getO_i, vb, Tryz.mpf, vt, vbl, gn0, gn1, gn2, sn0, sn1, sn2]
   have e0 : recE (T.length + 2) [(T.length + 2, false)] [] = [] := if_neg (by omega)
   rw [e0]
   exact hpan e zc [rdr r] [] [bl l, .p (.tuple #[]), .ptr T.length 0, .ptr (T.length + 1) 0, .ptr (T.length + 2) 0] (hpe e hv) rfl (keeps_nil _) rfl rfl rfl
end Go.Proofs.YtglpcedoongagaaGreatDoor
namespace Go.Proofs.YtglpcedoongagaaGreatDoor
open Go.E Go.Proofs.YtglpcedoongagaaGreatDoor.Tryz Go.Proofs.Tryz Go.J Go.Proofs
def fldV (v : JV) (s : B) : Option JV := if v.kind = 5 /\ 0 <= idxS v.names s then v.kids[(idxS v.names s).toNat]? else none
theorem field_ok {T : Tbl} {v : JV} {s : B} (hv : vsz v <= 1099511627776) : CallA prog G 10 [.ag (vcs v), str s] T fun r T' es => (match fldV v s with
 | some x => r = .tu [.ag (vcs x), .p (.bool true)]
 | none => r = .tu [.ag zc, .p (.bool false)]) /\ T' = T /\ es = [] := by
 refine CallA.wfs fun wf => ?_
 have wt := wf.t
 obtain ⟨k, z, t, ks, ns⟩ := v
 have hvz : vsz (.mk k z t ks ns) = 1 + t.length + (ns.map fun x => 1 + x.length).sum + vszL ks := by rw [vsz]
 have hkl := vszL_len ks
 have hnl := nsz_len ns
 have hI := fun U => index_ok (T := U) (a := .vs (ns.map str) ns.length) (ns := ns) (s := s) (by omega) (Sl.vs _ _ (by simp))
 have hr := Sl.rules (Es_vcs T ks).sl (by decide)
 have hld := (Es_vcs T ks).ld (P := prog) (t := 25) (by (simp -dsimp +decide only [vy, vz, vze, vr, ty, en, ↓reduceIte, Nat.reduceSub, Nat.reduceAdd, Nat.reduceMul, Nat.reduceLT, Int.reduceAdd, Int.reduceSub, Int.reduceToNat, ci])) (by (simp -dsimp +decide only [vy, vz, vze, vr, ty, en, ↓reduceIte, Nat.reduceSub, Nat.reduceAdd, Nat.reduceMul, Nat.reduceLT, Int.reduceAdd, Int.reduceSub, Int.reduceToNat, ci])) (by decide)
 have hf : fldV (.mk k z t ks ns) s = if k = 5 /\ 0 <= idxS ns s then ks[(idxS ns s).toNat]? else none := rfl
 rw [hf]
 simp only [vcs, show ∀ l, str l = .p (.string (ba l)) from fun _ => rfl]
 obtain ⟨m, hm⟩ : ∃ m, idxS ns s = m := ⟨_, rfl⟩
 rw [hm] at hI ⊢
 simp only [show ∀ l, str l = .p (.string (ba l)) from fun _ => rfl] at hI
 have t5 : ((k.toNat : Int) = 5) = (k = 5) := propext (u8_num (n := 5) (by decide))
 refine CallA.eV 7 func10 ntmps10 results10 ?_
 simp -dsimp +decide only [vy, vz, vze, vr, ty, en, ↓reduceIte, Nat.reduceSub, Nat.reduceAdd, Nat.reduceMul, Nat.reduceLT, Int.reduceAdd, Int.reduceSub, Int.reduceToNat, ci]
 refine (hI _).det' ?_
 by_cases e5 : k = 5
 . have e5' : (k = 5) = True := eq_true e5
   by_cases h0 : 0 <= m
   . have h0' : (m < 0) = False := eq_false (by omega)
     rw [if_pos ⟨e5, h0⟩]
     by_cases hk : m.toNat < ks.length
     . have hk' : ((ks.length : Int) <= m) = False := eq_false (by omega)
       obtain ⟨x, hx⟩ : ∃ x, ks[m.toNat]? = some x := ⟨_, List.getElem?_eq_getElem hk⟩
       rw [hx]
       obtain ⟨k2, z2, s2, ks2, ns2⟩ := x
       have hv2 : vcs (.mk k2 z2 s2 ks2 ns2) = [by8 k2, .p (.int .i64 z2), .p (.string (ba s2)), .vs (vcsL ks2) ks2.length, .vs (ns2.map str) ns2.length] := by rw [vcs]; rfl
       have hat : List.take 5 (List.drop (m.toNat * 5) (vcsL ks)) = vcs (.mk k2 z2 s2 ks2 ns2) := by rw [vcsL_eq]; exact flat_at (fun x _ => vcs_len x) hx
       have hfl : (vcsL ks).length = ks.length * 5 := by rw [vcsL_eq]; exact flat_len fun x _ => vcs_len x
       simp -dsimp +decide (disch := omega) only [vy, vz, vze, vr, ty, en, ↓reduceIte, Nat.reduceSub, Nat.reduceAdd, Nat.reduceMul, Nat.reduceLT, Int.reduceAdd, Int.reduceSub, Int.reduceToNat, ci, vi, getO_i, vt, t5, e5', h0', hk', gn0, gn1, hr, hld, hx, hat, hv2, wr5, tk5, vres, vone]
       exact ⟨⟨by omega, by omega⟩, Vw.cut ⟨by show _ = _; rw [hv2]; rfl, rfl, rfl⟩⟩
     . have hk' : ((ks.length : Int) <= m) = True := eq_true (by omega)
       have hx : ks[m.toNat]? = none := List.getElem?_eq_none (by omega)
       rw [hx]
       simp -dsimp +decide (disch := omega) only [vy, vz, vze, vr, ty, en, ↓reduceIte, Nat.reduceSub, Nat.reduceAdd, Nat.reduceMul, Nat.reduceLT, Int.reduceAdd, Int.reduceSub, Int.reduceToNat, ci, vi, getO_i, vt, t5, e5', h0', hk', gn0, gn1, wr5, tk5, vres, vone]
       exact Vw.cut ⟨rfl, rfl, rfl⟩
   . have h0' : (m < 0) = True := eq_true (by omega)
     rw [if_neg (fun h => h0 h.2)]
     simp -dsimp +decide (disch := omega) only [vy, vz, vze, vr, ty, en, ↓reduceIte, Nat.reduceSub, Nat.reduceAdd, Nat.reduceMul, Nat.reduceLT, Int.reduceAdd, Int.reduceSub, Int.reduceToNat, ci, vi, getO_i, vt, t5, e5', h0', gn0, gn1, wr5, tk5, vres, vone]
     exact Vw.cut ⟨rfl, rfl, rfl⟩
 . have e5' : (k = 5) = False := eq_false e5
   rw [if_neg (fun h => e5 h.1)]
   simp -dsimp +decide (disch := omega) only [vy, vz, vze, vr, ty, en, ↓reduceIte, Nat.reduceSub, Nat.reduceAdd, Nat.reduceMul, Nat.reduceLT, Int.reduceAdd, Int.reduceSub, Int.reduceToNat, ci, vi, getO_i, vt, t5, e5', gn0, gn1, wr5, tk5, vres, vone]
   exact Vw.cut ⟨rfl, rfl, rfl⟩
mutual
def LOk : JV -> Prop
 | .mk _ _ s ks ns => s.length <= 140737488355328 /\ ks.length <= 140737488355328 /\ ns.length <= 140737488355328 /\ (∀ x ∈ ns, x.length <= 140737488355328) /\ LOkL ks
def LOkL : List JV -> Prop
 | [] => True
 | v :: r => LOk v /\ LOkL r
end
theorem LOkL_mem : ∀ {l : List JV} {x : JV}, LOkL l -> x ∈ l -> LOk x
 | y :: r, x, h, hx => by
   rw [LOkL] at h
   rcases List.mem_cons.1 hx with rfl | hx
   . exact h.1
   . exact LOkL_mem h.2 hx
def nsum (l : List B) : Nat := (l.map fun x => 1 + x.length).sum
theorem nsum_snoc (l : List B) (x : B) : nsum (l ++ [x]) = nsum l + (1 + x.length) := by simp [nsum]
theorem vszL_snoc (x : JV) : ∀ l : List JV, vszL (l ++ [x]) = vszL l + vsz x
 | [] => by rw [List.nil_append, vszL, vszL, vszL]; omega
 | y :: r => by rw [List.cons_append, vszL, vszL, vszL_snoc x r]; omega
def SizeOk (deep : Nat) : Prop := ∀ (T : Tbl) (v : JV), LOk v -> CallA prog G 20 [.ag (vcs v), wint 2000, wint (deep : Int)] T fun r T' es => (∃ n : Nat, r = wint (n : Int) /\ n <= 140737488359329 + 2001 * deep /\ (n <= 2000 -> vsz v <= n)) /\ T' = T /\ es = []
theorem size_step (deep : Nat) (hd : deep <= 1000) (hrec : ∀ m, deep = m + 1 -> SizeOk m) : SizeOk deep := by
 intro T v hv
 refine CallA.wfs fun wf => ?_
 have wt := wf.t
 obtain ⟨k, z, t, ks, ns⟩ := v
 have hvz : vsz (.mk k z t ks ns) = 1 + t.length + nsum ns + vszL ks := by rw [vsz]; rfl
 rw [LOk] at hv
 obtain ⟨h1, h2, h3, h4, h5⟩ := hv
 have hr := Sl.rules (Es_vcs T ks).sl (by decide)
 have hld := (Es_vcs T ks).ld (P := prog) (t := 25) (by (simp -dsimp +decide only [vy, vz, vze, vr, ty, en, ↓reduceIte, Nat.reduceSub, Nat.reduceAdd, Nat.reduceMul, Nat.reduceLT, Int.reduceAdd, Int.reduceSub, Int.reduceToNat, ci])) (by (simp -dsimp +decide only [vy, vz, vze, vr, ty, en, ↓reduceIte, Nat.reduceSub, Nat.reduceAdd, Nat.reduceMul, Nat.reduceLT, Int.reduceAdd, Int.reduceSub, Int.reduceToNat, ci])) (by decide)
 have hldn := Sl.loads (Sl.vs (ns.map str) ns.length (by simp) : Sl T 1 _ _ _) (P := prog) (t := 9) (by (simp -dsimp +decide only [vy, vz, vze, vr, ty, en, ↓reduceIte, Nat.reduceSub, Nat.reduceAdd, Nat.reduceMul, Nat.reduceLT, Int.reduceAdd, Int.reduceSub, Int.reduceToNat, ci]))
 simp only [vcs, show ∀ l, str l = .p (.string (ba l)) from fun _ => rfl]
 have hbs := ba_size t
 by_cases hd0 : deep = 0
 . subst hd0
   refine CallA.eV 10 func20 ntmps20 results20 ?_
   simp -dsimp +decide only [vy, vz, vze, vr, ty, en, ↓reduceIte, Nat.reduceSub, Nat.reduceAdd, Nat.reduceMul, Nat.reduceLT, Int.reduceAdd, Int.reduceSub, Int.reduceToNat, ci]
   simp -dsimp +decide (disch := omega) only [vy, vz, vze, vr, ty, en, ↓reduceIte, Nat.reduceSub, Nat.reduceAdd, Nat.reduceMul, Nat.reduceLT, Int.reduceAdd, Int.reduceSub, Int.reduceToNat, ci, vi, getO_i, vt, gn0, gn1, hbs]
   exact Vw.cut ⟨⟨2001, rfl, by omega, fun h => absurd h (by decide)⟩, rfl, rfl⟩
 obtain ⟨m, rfl⟩ : ∃ m, deep = m + 1 := ⟨deep - 1, by omega⟩
 have hd0' : (((m + 1 : Nat) : Int) = 0) = False := eq_false (by omega)
 refine CallA.eV 10 func20 ntmps20 results20 ?_
 simp -dsimp +decide only [vy, vz, vze, vr, ty, en, ↓reduceIte, Nat.reduceSub, Nat.reduceAdd, Nat.reduceMul, Nat.reduceLT, Int.reduceAdd, Int.reduceSub, Int.reduceToNat, ci]
 simp -dsimp +decide (disch := omega) only [vy, vz, vze, vr, ty, en, ↓reduceIte, Nat.reduceSub, Nat.reduceAdd, Nat.reduceMul, Nat.reduceLT, Int.reduceAdd, Int.reduceSub, Int.reduceToNat, ci, vi, getO_i, vt, gn0, gn1, hbs, hd0']
 have hn0 : ((1 + t.length : Nat) : Int) = 1 + (t.length : Int) := by omega
 refine SemA.loopE (fun q : Nat × Nat => [(1, wint 2000), (2, wint ((m + 1 : Nat) : Int)), (3, .ptr T.length 0), (7, wint (q.2 : Int)), (8, wint (q.1 : Int))])
  (fun _ => T ++ [.cells 25 [.p (.int .u8 (k.toNat : Int)), .p (.int .i64 z), .p (.string (ba t)), .vs (vcsL ks) ks.length, .vs (ns.map str) ns.length]])
  (fun q => q.1 <= ns.length /\ q.2 <= 140737488359329 /\ q.2 = 1 + t.length + nsum (ns.take q.1)) (fun q => ns.length - q.1) (0, 1 + t.length) [] 0
  (fun n : Nat => [(1, wint 2000), (2, wint ((m + 1 : Nat) : Int)), (3, .ptr T.length 0), (7, wint (n : Int))])
  (fun _ => T ++ [.cells 25 [.p (.int .u8 (k.toNat : Int)), .p (.int .i64 z), .p (.string (ba t)), .vs (vcsL ks) ks.length, .vs (ns.map str) ns.length]])
  (fun n => n <= 140737488359329 /\ (n <= 2000 -> n = 1 + t.length + nsum ns)) ⟨by simp, by dsimp only; omega, by simp [nsum]⟩ ⟨rfl, rfl, rfl, by rw [hn0]; rfl, rfl, rfl⟩ rfl (by simp) ?_ ?_
 . rintro ⟨i, n⟩ g ⟨hi, hnb, hn⟩
   dsimp only at hi hnb hn
   refine SemA.o ?_
   by_cases hlt : i < ns.length
   . have hlt' : ((i : Int) < (ns.length : Int)) = True := eq_true (by omega)
     by_cases hn2 : n <= 2000
     . have hn2' : ((n : Int) <= 2000) = True := eq_true (by omega)
       obtain ⟨y, hy⟩ : ∃ y, ns[i]? = some y := ⟨ns[i], by simp⟩
       have hym : (ns.map str)[i]? = some (.p (.string (ba y))) := by rw [List.getElem?_map, hy]; rfl
       have hyl := h4 y (List.mem_of_getElem? hy)
       have hys := ba_size y
       have hns : nsum (ns.take (i + 1)) = nsum (ns.take i) + (1 + y.length) := by rw [List.take_add_one, hy]; exact nsum_snoc _ _
       simp -dsimp +decide (disch := omega) only [vy, vz, vze, vr, ty, en, ↓reduceIte, Nat.reduceSub, Nat.reduceAdd, Nat.reduceMul, Nat.reduceLT, Int.reduceAdd, Int.reduceSub, Int.reduceToNat, ci, vi, getO_i, vt, gn0, gn1, hlt', hn2', hldn, hym, hys]
       exact ⟨⟨by omega, by intro e; rw [e] at hym; cases hym⟩, (i + 1, n + 1 + y.length), ⟨⟨by dsimp only; omega, by dsimp only; omega, by dsimp only; omega⟩, by dsimp only; omega⟩, by dsimp only; rw [show ((n + 1 + y.length : Nat) : Int) = (n : Int) + 1 + (y.length : Int) by omega], rfl⟩
     . have hn2' : ((n : Int) <= 2000) = False := eq_false (by omega)
       simp -dsimp +decide (disch := omega) only [vy, vz, vze, vr, ty, en, ↓reduceIte, Nat.reduceSub, Nat.reduceAdd, Nat.reduceMul, Nat.reduceLT, Int.reduceAdd, Int.reduceSub, Int.reduceToNat, ci, vi, getO_i, vt, gn0, gn1, hlt', hn2']
       exact ⟨n, ⟨hnb, fun h => absurd h hn2⟩, rfl⟩
   . have hlt' : ((i : Int) < (ns.length : Int)) = False := eq_false (by omega)
     rw [List.take_of_length_le (by omega)] at hn
     simp -dsimp +decide (disch := omega) only [vy, vz, vze, vr, ty, en, ↓reduceIte, Nat.reduceSub, Nat.reduceAdd, Nat.reduceMul, Nat.reduceLT, Int.reduceAdd, Int.reduceSub, Int.reduceToNat, ci, vi, getO_i, vt, gn0, gn1, hlt']
     exact ⟨n, ⟨hnb, fun _ => by omega⟩, rfl⟩
 . rintro n0 g tmp ⟨hnb0, hn0'⟩
   simp -dsimp +decide (disch := omega) only [vy, vz, vze, vr, ty, en, ↓reduceIte, Nat.reduceSub, Nat.reduceAdd, Nat.reduceMul, Nat.reduceLT, Int.reduceAdd, Int.reduceSub, Int.reduceToNat, ci, vi, getO_i, vt]
   refine SemA.loopE (fun q : Nat × Nat => [(1, wint 2000), (2, wint ((m + 1 : Nat) : Int)), (3, .ptr T.length 0), (7, wint (q.2 : Int)), (9, wint (q.1 : Int))])
    (fun _ => T ++ [.cells 25 [.p (.int .u8 (k.toNat : Int)), .p (.int .i64 z), .p (.string (ba t)), .vs (vcsL ks) ks.length, .vs (ns.map str) ns.length]])
    (fun q => q.1 <= ks.length /\ q.2 <= 140737488359329 + 2001 * (m + 1) /\ (q.2 <= 2000 -> 1 + t.length + nsum ns + vszL (ks.take q.1) <= q.2)) (fun q => ks.length - q.1) (0, n0) [] 2
    (fun n : Nat => [(7, wint (n : Int))])
    (fun _ => T ++ [.cells 25 [.p (.int .u8 (k.toNat : Int)), .p (.int .i64 z), .p (.string (ba t)), .vs (vcsL ks) ks.length, .vs (ns.map str) ns.length]])
    (fun n => n <= 140737488359329 + 2001 * (m + 1) /\ (n <= 2000 -> vsz (.mk k z t ks ns) <= n)) ⟨by simp, by dsimp only; omega, fun h => by have := hn0' h; simp [vszL]; omega⟩ ⟨rfl, rfl, rfl, rfl, rfl, rfl⟩ rfl (by simp) ?_ ?_
   . rintro ⟨i, n⟩ g ⟨hi, hnb, hn⟩
     dsimp only at hi hnb hn
     refine SemA.o ?_
     by_cases hlt : i < ks.length
     . have hlt' : ((i : Int) < (ks.length : Int)) = True := eq_true (by omega)
       by_cases hn2 : n <= 2000
       . have hn2' : ((n : Int) <= 2000) = True := eq_true (by omega)
         obtain ⟨x, hx⟩ : ∃ x, ks[i]? = some x := ⟨ks[i], by simp⟩
         have hvs : vszL (ks.take (i + 1)) = vszL (ks.take i) + vsz x := by rw [List.take_add_one, hx]; exact vszL_snoc _ _
         have hm1 : ((m + 1 : Nat) : Int) - 1 = (m : Int) := by omega
         have hc := hrec m rfl (T ++ [.cells 25 [.p (.int .u8 (k.toNat : Int)), .p (.int .i64 z), .p (.string (ba t)), .vs (vcsL ks) ks.length, .vs (ns.map str) ns.length]]) x (LOkL_mem h5 (List.mem_of_getElem? hx))
         simp -dsimp +decide (disch := omega) only [vy, vz, vze, vr, ty, en, ↓reduceIte, Nat.reduceSub, Nat.reduceAdd, Nat.reduceMul, Nat.reduceLT, Int.reduceAdd, Int.reduceSub, Int.reduceToNat, ci, vi, getO_i, vt, gn0, gn1, hlt', hn2', hr, hld, hx, hm1]
         refine ⟨by omega, ?_⟩
         refine hc.mono ?_
         rintro r T' es ⟨⟨n1, rfl, hb1, hv1⟩, rfl, rfl⟩
         simp -dsimp +decide (disch := omega) only [vy, vz, vze, vr, ty, en, ↓reduceIte, Nat.reduceSub, Nat.reduceAdd, Nat.reduceMul, Nat.reduceLT, Int.reduceAdd, Int.reduceSub, Int.reduceToNat, ci, vi, getO_i, vt]
         exact ⟨(i + 1, n + n1), ⟨⟨by dsimp only; omega, by dsimp only; omega, fun h => by dsimp only at h ⊢; have := hv1 (by omega); have := hn hn2; omega⟩, by dsimp only; omega⟩, by dsimp only; rw [show ((n + n1 : Nat) : Int) = (n : Int) + (n1 : Int) by omega], rfl⟩
       . have hn2' : ((n : Int) <= 2000) = False := eq_false (by omega)
         simp -dsimp +decide (disch := omega) only [vy, vz, vze, vr, ty, en, ↓reduceIte, Nat.reduceSub, Nat.reduceAdd, Nat.reduceMul, Nat.reduceLT, Int.reduceAdd, Int.reduceSub, Int.reduceToNat, ci, vi, getO_i, vt, gn0, gn1, hlt', hn2']
         exact ⟨n, ⟨hnb, fun h => absurd h hn2⟩, rfl⟩
     . have hlt' : ((i : Int) < (ks.length : Int)) = False := eq_false (by omega)
       rw [List.take_of_length_le (by omega)] at hn
       simp -dsimp +decide (disch := omega) only [vy, vz, vze, vr, ty, en, ↓reduceIte, Nat.reduceSub, Nat.reduceAdd, Nat.reduceMul, Nat.reduceLT, Int.reduceAdd, Int.reduceSub, Int.reduceToNat, ci, vi, getO_i, vt, gn0, gn1, hlt']
       exact ⟨n, ⟨hnb, fun h => by rw [hvz]; exact hn h⟩, rfl⟩
   . rintro n g tmp ⟨hnb, hn⟩
     simp -dsimp +decide (disch := omega) only [vy, vz, vze, vr, ty, en, ↓reduceIte, Nat.reduceSub, Nat.reduceAdd, Nat.reduceMul, Nat.reduceLT, Int.reduceAdd, Int.reduceSub, Int.reduceToNat, ci, vi, getO_i, vt]
     exact Vw.cut ⟨⟨n, rfl, hnb, hn⟩, rfl, rfl⟩
theorem size_all : ∀ d, d <= 1000 -> SizeOk d
 | 0, h => size_step 0 h (fun _ e => nomatch e)
 | d + 1, h => size_step (d + 1) h (fun m e => by cases e; exact size_all d (by omega))
theorem vast_ok {T : Tbl} {v : JV} (hv : LOk v) : CallA prog G 5 [.ag (vcs v)] T fun r T' es => (∃ b : Bool, r = .p (.bool b) /\ (b = false -> vsz v <= 2000)) /\ T' = T /\ es = [] := by
 have hs := fun U => size_all 30 (by decide) U v hv
 obtain ⟨k, z, t, ks, ns⟩ := v
 simp only [vcs, show ∀ l, str l = .p (.string (ba l)) from fun _ => rfl] at hs ⊢
 refine CallA.eV 5 func5 ntmps5 results5 ?_
 simp -dsimp +decide only [vy, vz, vze, vr, ty, en, ↓reduceIte, Nat.reduceSub, Nat.reduceAdd, Nat.reduceMul, Nat.reduceLT, Int.reduceAdd, Int.reduceSub, Int.reduceToNat, ci]
 simp -dsimp +decide (disch := omega) only [vy, vz, vze, vr, ty, en, ↓reduceIte, Nat.reduceSub, Nat.reduceAdd, Nat.reduceMul, Nat.reduceLT, Int.reduceAdd, Int.reduceSub, Int.reduceToNat, ci, vi, getO_i, vt, tk5]
 refine (hs _).mono ?_
 rintro r T' es ⟨⟨n, rfl, hb, hn⟩, rfl, rfl⟩
 simp -dsimp +decide (disch := omega) only [vy, vz, vze, vr, ty, en, ↓reduceIte, Nat.reduceSub, Nat.reduceAdd, Nat.reduceMul, Nat.reduceLT, Int.reduceAdd, Int.reduceSub, Int.reduceToNat, ci, vi, getO_i, vt]
 refine Vw.cut ⟨⟨_, rfl, fun h => ?_⟩, rfl, rfl⟩
 have h := of_decide_eq_false h
 have := hn (by omega); omega
end Go.Proofs.YtglpcedoongagaaGreatDoor
namespace Go.Proofs.YtglpcedoongagaaGreatDoor
open Go.E Go.Proofs.YtglpcedoongagaaGreatDoor.Tryz Go.Proofs.Tryz Go.J Go.Proofs
theorem CallA.weak1 {P : Program} {G : Nat -> AV} {f : FuncId} {a a' : AV} {T : Tbl} {K : AV -> Tbl -> Eff -> Prop} (h : ∀ (Z : Heap) (ρ : List BI) (x : Value), Rel Z ρ a x -> Rel Z ρ a' x) (hc : CallA P G f [a'] T K) : CallA P G f [a] T K := by
 intro Z ρ w vs hG hs ha
 obtain ⟨v1, us, rfl, r1, ha⟩ := ha.uncons
 obtain rfl := ha.unnil
 exact hc Z ρ w _ hG hs (.cons (h _ _ _ r1) .nil)
theorem CallA.weak2 {P : Program} {G : Nat -> AV} {f : FuncId} {a a' b b' : AV} {T : Tbl} {K : AV -> Tbl -> Eff -> Prop} (h : ∀ (Z : Heap) (ρ : List BI) (x : Value), Rel Z ρ a x -> Rel Z ρ a' x) (h2 : ∀ (Z : Heap) (ρ : List BI) (x : Value), Rel Z ρ b x -> Rel Z ρ b' x) (hc : CallA P G f [a', b'] T K) : CallA P G f [a, b] T K := by
 intro Z ρ w vs hG hs ha
 obtain ⟨v1, us, rfl, r1, ha⟩ := ha.uncons
 obtain ⟨v2, us, rfl, r2, ha⟩ := ha.uncons
 obtain rfl := ha.unnil
 exact hc Z ρ w _ hG hs (.cons (h _ _ _ r1) (.cons (h2 _ _ _ r2) .nil))
theorem vs_weak {cs ds : List AV} {n : Nat} (hl : cs.length = ds.length) (h : ∀ (Z : Heap) (k : Nat) (a b : AV) (x : Value), cs[k]? = some a -> ds[k]? = some b -> Rel Z [] a x -> Rel Z [] b x) : ∀ (Z : Heap) (ρ : List BI) (x : Value), Rel Z ρ (.vs cs n) x -> Rel Z ρ (.vs ds n) x := by
 intro Z ρ x hr
 cases hr with
 | vs0 h0 hc =>
   refine .vs0 ?_ hc
   rcases h0 with h0 | h0
   . subst h0
     exact .inl (List.eq_nil_of_length_eq_zero hl.symm)
   . exact .inr h0
 | @vs _ _ _ m b o c T fr f hm hb hc hr =>
   refine .vs (f := f) hm hb (fun k hk => hc k (by omega)) fun k hk => ?_
   exact h Z k cs[k] ds[k] _ (List.getElem?_eq_getElem (by omega)) (List.getElem?_eq_getElem hk) (hr k (by omega))
end Go.Proofs.YtglpcedoongagaaGreatDoor
namespace Go.Proofs.YtglpcedoongagaaGreatDoor
open Go.E Go.Proofs.YtglpcedoongagaaGreatDoor.Tryz Go.Proofs.Tryz Go.J Go.Proofs
mutual
def dJ : JV -> Dat
 | .mk k z s ks ns => .ag [.i .u8 (k.toNat : Int), .i .i64 z, .s (ba s), .sl (dJs ks), .sl (ns.map fun x => .s (ba x))]
def dJs : List JV -> List Dat
 | [] => []
 | v :: r => dJ v :: dJs r
end
theorem dJs_eq : ∀ l : List JV, dJs l = l.map dJ
 | [] => by rw [dJs]; rfl
 | v :: r => by rw [dJs, dJs_eq r]; rfl
theorem names_avs : ∀ l : List B, Dat.avsL (l.map fun x => Dat.s (ba x)) = l.map str
 | [] => by rw [List.map_nil, Dat.avsL]; rfl
 | x :: r => by rw [List.map_cons, Dat.avsL, names_avs r, Dat.avs]; rfl
mutual
theorem dJ_avs : ∀ v : JV, (dJ v).avs = vcs v
 | .mk k z s ks ns => by
   have h := dJs_avs ks
   rw [dJ, Dat.avs, vcs]
   simp only [Dat.avsL, Dat.avs, List.append_nil, List.cons_append, List.nil_append]
   rw [h, names_avs, dJs_eq, List.length_map, List.length_map]; rfl
theorem dJs_avs : ∀ l : List JV, Dat.avsL (dJs l) = vcsL l
 | [] => by rw [dJs, Dat.avsL, vcsL]
 | v :: r => by rw [dJs, Dat.avsL, vcsL, dJ_avs v, dJs_avs r]
end
theorem open_alls {α : Type} {Q : Dat -> Prop} {f : α -> Dat} {R : α -> Prop} (h1 : ∀ d, Q d -> ∃ a, d = f a /\ R a) : ∀ {l : List Dat}, (∀ d ∈ l, Q d) -> ∃ zs : List α, l = zs.map f /\ ∀ z ∈ zs, R z
 | [], _ => ⟨[], rfl, fun _ h => nomatch h⟩
 | d :: l, h => by
   obtain ⟨a, rfl, hr⟩ := h1 d (h d (by simp))
   obtain ⟨zs, rfl, hz⟩ := open_alls h1 (l := l) fun x hx => h x (by simp [hx])
   exact ⟨a :: zs, rfl, fun z hzm => (List.mem_cons.1 hzm).elim (fun e => e ▸ hr) fun hzm => hz z hzm⟩
theorem LOkL_all : ∀ {l : List JV}, (∀ x ∈ l, LOk x) -> LOkL l
 | [], _ => by rw [LOkL]; trivial
 | y :: r, h => by rw [LOkL]; exact ⟨h y (by simp), LOkL_all fun x hx => h x (by simp [hx])⟩
theorem open_jv : ∀ (n : Nat) (d : Dat), SizeOf.sizeOf d < n -> HasT prog 25 d -> ∃ v : JV, d = dJ v /\ LOk v /\ ∀ m, fits m v
 | 0, d, h, _ => absurd h (Nat.not_lt_zero _)
 | n + 1, d, hn, h => by
   obtain ⟨l, rfl, hl, hf⟩ := h.struct Tryz.underlying25
   match l, hl with
   | [dd0, dd1, dd2, dd3, dd4], _ =>
     obtain ⟨k, rfl⟩ := open_u8 Tryz.underlying5 dd0 (hf 0 _ dd0 rfl rfl)
     obtain ⟨z, rfl, hz⟩ := (hf 1 _ dd1 rfl rfl).int Tryz.underlying2
     obtain ⟨s, rfl, hs⟩ := (hf 2 _ dd2 rfl rfl).str Tryz.underlying9
     obtain ⟨kl, rfl, hkl, hk⟩ := (hf 3 _ dd3 rfl rfl).slice Tryz.underlying22
     obtain ⟨nl, rfl, hnl, hn2⟩ := (hf 4 _ dd4 rfl rfl).slice Tryz.underlying23
     obtain ⟨ks, rfl, hks⟩ := open_alls (Q := fun x => HasT prog 25 x /\ SizeOf.sizeOf x < n) (f := dJ) (R := fun v => LOk v /\ ∀ m, fits m v) (fun d hd => open_jv n d hd.2 hd.1) (l := kl) (fun x hx => ⟨hk x hx, by
      have := List.sizeOf_lt_of_mem hx
      simp only [Dat.ag.sizeOf_spec, Dat.sl.sizeOf_spec, List.cons.sizeOf_spec, List.nil.sizeOf_spec] at hn
      omega⟩)
     obtain ⟨ns, rfl, hns⟩ := open_alls (Q := fun x => HasT prog 9 x) (f := fun x : B => Dat.s (ba x)) (R := fun x : B => x.length <= 140737488355328) (fun d hd => by
      obtain ⟨s, rfl, hs⟩ := hd.str Tryz.underlying9
      exact ⟨s.data.toList, rfl, by unfold reachBytes at hs; have : s.data.toList.length = s.size := Array.length_toList; omega⟩) (l := nl) hn2
     have b1 : prog.bytesOf 25 = 80 := by kernel_rfl
     have b2 : prog.bytesOf 9 = 16 := by kernel_rfl
     rw [b1, List.length_map] at hkl
     rw [b2, List.length_map] at hnl
     unfold reachBytes at hs hkl hnl
     have hz' : -9223372036854775808 <= z /\ z <= 9223372036854775807 := by simpa [Lit.wf, IntKind.min, IntKind.max, IntKind.signed, IntKind.bits] using hz
     have hsl : s.data.toList.length = s.size := Array.length_toList
     refine ⟨.mk k z s.data.toList ks ns, ?_, ?_, ?_⟩
     . rw [dJ, dJs_eq]; rfl
     . rw [LOk]
       exact ⟨by omega, by omega, by omega, hns, LOkL_all fun x hx => (hks x hx).1⟩
     . have hw : wide (.mk k z s.data.toList ks ns) := by
        show -2 ^ 63 <= z /\ z < 2 ^ 63
        have : (2 : Int) ^ 63 = 9223372036854775808 := rfl
        rw [this]; omega
       intro m
       cases m with
       | zero => exact hw
       | succ m => exact ⟨hw, fun x hx => (hks x hx).2 m⟩
theorem open_jvA {d : Dat} (h : HasT prog 25 d) : ∃ v : JV, d.arg = .ag (vcs v) /\ LOk v /\ ∀ m, fits m v := by
 obtain ⟨v, rfl, h1, h2⟩ := open_jv _ d (Nat.lt_succ_self _) h
 refine ⟨v, ?_, h1, h2⟩
 rw [<- dJ_avs]
 obtain ⟨k, z, s, ks, ns⟩ := v
 rw [dJ, Dat.arg, Dat.avs, Dat.avsL_eq]
theorem open_strA {d : Dat} (h : HasT prog 9 d) : ∃ s : B, d.arg = str s /\ s.length <= 140737488355328 := by
 obtain ⟨s, rfl, hs⟩ := h.str Tryz.underlying9
 refine ⟨s.data.toList, rfl, ?_⟩
 unfold reachBytes at hs
 have : s.data.toList.length = s.size := Array.length_toList
 omega
end Go.Proofs.YtglpcedoongagaaGreatDoor
namespace Go.Proofs.YtglpcedoongagaaGreatDoor
open Go.ChangeShapes Go.WideShapes Go.ChangeAt Go.RowKit Go.E Go.Proofs.YtglpcedoongagaaGreatDoor.Tryz Go.Proofs.Tryz
theorem own : ownKnob prog.godebug = none := by kernel_rfl
theorem laidOut : laidOutB prog = true := by kernel_rfl
theorem g64 : prog.globalNamed "math/bits.deBruijn64tab" = some 7 := by kernel_rfl
theorem gpw : prog.globalNamed "internal/strconv.uint64pow10" = some 2 := by kernel_rfl
theorem gac : prog.globalNamed "unicode/utf8.acceptRanges" = some 1 := by kernel_rfl
theorem ger : prog.globalNamed "strconv.ErrRange" = some 5 := by kernel_rfl
theorem gfi : prog.globalNamed "unicode/utf8.first" = some 0 := by kernel_rfl
theorem starE : "*" ++ "errors.errorString" = "*errors.errorString" := by decide
theorem only (u : TypeId) (h : prog.typeName? 3 u = some "*errors.errorString") : u = 135 :=
 typeName_ptr_named (nm := "errors.errorString") (by rw [starE]; kernel_rfl) (by kernel_rfl) (by decide) u (by rw [starE]; exact h)
theorem gdat {W : World} {n : String} {t0 : TypeId} {g : Nat} {cs : Array Value} {fuel : Nat} {d : DataW Unit} {p : List MemPlace} {ts : List TypeId} (hc : closedT prog ts = true) (hg : prog.globalNamed n = some g) (hv : W.var? prog n = some cs) (ht : t0 ∈ ts)
 (hd : DataW.trod (fun _ => ()) prog W 0 (fun _ => true) false fuel t0 cs.toList = some (d, p)) (hw : (d.weights prog t0).all (· <= reachBytes) = true) (hne : decide (0 < prog.cellsOf t0) = true) : Rel (wholeH W) [] (.vp (toD d).avs 0) (.pointer (some ⟨g, 0, none⟩)) := by
 obtain ⟨dd, -, h2, h3, rfl⟩ := trod_dat hc fuel t0 cs.toList (d, p) ht hd (fun n hn => by simpa using List.all_eq_true.1 hw n hn)
 have hrd : Rd W (some ⟨g, 0, none⟩) cs.toList := by
  refine .inr ⟨_, rfl, rfl, fun k v hk => ?_⟩
  have := World.var?_cell hg hv k
  rw [add_plain rfl]
  simp only [Nat.zero_add]
  rw [this]
  simpa using hk
 exact rel_vp0 h2 (by intro e; rw [e] at h3; have := of_decide_eq_true hne; simp at h3; omega) (arr_holds (wholeH_whole W) hrd)
theorem gok {W : World} (h : laidMetH prog [("math/bits.deBruijn32tab", Rows.laid_math_bits_deBruijn32tab), ("math/bits.deBruijn64tab", Rows.laid_math_bits_deBruijn64tab), ("internal/strconv.uint64pow10", Rows.laid_internal_strconv_uint64pow10), ("unicode/utf8.acceptRanges", Rows.laid_unicode_utf8_acceptRanges), ("strconv.ErrRange", Rows.laid_strconv_ErrRange), ("strconv.ErrSyntax", Rows.laid_strconv_ErrSyntax), ("unicode/utf8.first", Rows.laid_unicode_utf8_first)] W) : GOK G (wholeH W) := by
 rw [MakeChecks.laidMetH_plain _ _ _ (by kernel_rfl)] at h
 obtain ⟨ps, ⟨g0, t0, cs0, f0, p0, q0, hg0, ht0, hv0, hd0, ⟨g1, t1, cs1, f1, p1, q1, hg1, ht1, hv1, hd1, ⟨g2, t2, cs2, f2, p2, q2, hg2, ht2, hv2, hd2, ⟨g3, t3, cs3, f3, p3, q3, hg3, ht3, hv3, hd3, ⟨g4, t4, cs4, f4, p4, q4, hg4, ht4, hv4, hd4, ⟨g5, t5, cs5, f5, p5, q5, hg5, ht5, hv5, hd5, ⟨g6, t6, cs6, f6, p6, q6, hg6, ht6, hv6, hd6, _⟩, _⟩, _⟩, _⟩, _⟩, _⟩, _⟩, _, _⟩ := h
 obtain rfl := Option.some.inj (g64.symm.trans hg1)
 obtain rfl := Option.some.inj (gpw.symm.trans hg2)
 obtain rfl := Option.some.inj (gac.symm.trans hg3)
 obtain rfl := Option.some.inj (ger.symm.trans hg4)
 obtain rfl := Option.some.inj (gfi.symm.trans hg6)
 obtain rfl := Option.some.inj ((show (prog.globals[7]?).map (·.type) = some 139 by kernel_rfl).symm.trans ht1)
 obtain rfl := Option.some.inj ((show (prog.globals[2]?).map (·.type) = some 124 by kernel_rfl).symm.trans ht2)
 obtain rfl := Option.some.inj ((show (prog.globals[1]?).map (·.type) = some 83 by kernel_rfl).symm.trans ht3)
 obtain rfl := Option.some.inj ((show (prog.globals[5]?).map (·.type) = some 94 by kernel_rfl).symm.trans ht4)
 obtain rfl := Option.some.inj ((show (prog.globals[0]?).map (·.type) = some 80 by kernel_rfl).symm.trans ht6)
 have r1 := gdat (ts := [139, 5]) (by kernel_rfl) g64 hv1 (by simp) hd1 (by kernel_rfl) (by kernel_rfl)
 have r2 := gdat (ts := [124, 77]) (by kernel_rfl) gpw hv2 (by simp) hd2 (by kernel_rfl) (by kernel_rfl)
 have r3 := gdat (ts := [83, 82, 5]) (by kernel_rfl) gac hv3 (by simp) hd3 (by kernel_rfl) (by kernel_rfl)
 have r6 := gdat (ts := [80, 5]) (by kernel_rfl) gfi hv6 (by simp) hd6 (by kernel_rfl) (by kernel_rfl)
 rw [show (toD Rows.laid_math_bits_deBruijn64tab).avs = dbjL.map by8 by kernel_rfl] at r1
 rw [show (toD Rows.laid_internal_strconv_uint64pow10).avs = powL by kernel_rfl] at r2
 rw [show (toD Rows.laid_unicode_utf8_acceptRanges).avs = accL.map by8 by kernel_rfl] at r3
 rw [show (toD Rows.laid_unicode_utf8_first).avs = firL.map by8 by kernel_rfl] at r6
 have r4 : Rel (wholeH W) [] (.vp [.ic 135 .any] 0) (.pointer (some ⟨5, 0, none⟩)) := by
  have hu : ∃ ms, prog.underlying 94 = some (.interface ms) := by
   have : (match prog.underlying 94 with | some (.interface _) => true | _ => false) = true := by kernel_rfl
   split at this
   . rename_i ms h; exact ⟨ms, h⟩
   . cases this
  obtain ⟨ms, hu⟩ := hu
  obtain ⟨v, hcs⟩ : ∃ v, cs4.toList = [.iface 135 v] := by
   cases f4 with
   | zero => simp [DataW.trod] at hd4
   | succ f =>
     unfold DataW.trod at hd4
     rw [hu] at hd4
     dsimp only at hd4
     generalize cs4.toList = l at hd4 ⊢
     rcases l with _ | ⟨v, _ | ⟨y, r⟩⟩
     . simp at hd4
     . cases v with
       | iface u x =>
         dsimp only at hd4
         cases hn : prog.typeName? 3 u with
         | none => rw [hn] at hd4; cases hd4
         | some name =>
           rw [hn] at hd4
           dsimp only at hd4
           obtain ⟨z, -, he⟩ := Option.map_eq_some_iff.1 hd4
           have he := (Prod.mk.inj he).1
           have hname : name = "*errors.errorString" := (DataW.iface.inj he).1
           rw [hname] at hn
           exact ⟨x, by rw [only u hn]⟩
       | nilIface => exact absurd (Prod.mk.inj (Option.some.inj hd4)).1 (fun e => by cases e)
       | _ => simp at hd4
     . simp at hd4
  have hrd : Rd W (some ⟨5, 0, none⟩) cs4.toList := by
   refine .inr ⟨_, rfl, rfl, fun k v hk => ?_⟩
   have := World.var?_cell ger hv4 k
   rw [add_plain rfl]
   simp only [Nat.zero_add]
   rw [this]
   simpa using hk
  rw [hcs] at hrd
  exact rel_vp0 (.cons (.ic (.any v)) .nil) (by simp) (arr_holds (wholeH_whole W) hrd)
 intro g
 unfold G
 split
 . rename_i h0; subst h0; exact r6
 split
 . rename_i h0; subst h0; exact r3
 split
 . rename_i h0; subst h0; exact r2
 split
 . rename_i h0; subst h0; exact r1
 split
 . rename_i h0; subst h0; exact r4
 . exact .p _
theorem laid_met (os : Os) (args : Array Value) : laidMetH prog [("math/bits.deBruijn32tab", Rows.laid_math_bits_deBruijn32tab), ("math/bits.deBruijn64tab", Rows.laid_math_bits_deBruijn64tab), ("internal/strconv.uint64pow10", Rows.laid_internal_strconv_uint64pow10), ("unicode/utf8.acceptRanges", Rows.laid_unicode_utf8_acceptRanges), ("strconv.ErrRange", Rows.laid_strconv_ErrRange), ("strconv.ErrSyntax", Rows.laid_strconv_ErrSyntax), ("unicode/utf8.first", Rows.laid_unicode_utf8_first)] ((World.laidAll prog os [("math/bits.deBruijn32tab", Rows.laid_math_bits_deBruijn32tab), ("math/bits.deBruijn64tab", Rows.laid_math_bits_deBruijn64tab), ("internal/strconv.uint64pow10", Rows.laid_internal_strconv_uint64pow10), ("unicode/utf8.acceptRanges", Rows.laid_unicode_utf8_acceptRanges), ("strconv.ErrRange", Rows.laid_strconv_ErrRange), ("strconv.ErrSyntax", Rows.laid_strconv_ErrSyntax), ("unicode/utf8.first", Rows.laid_unicode_utf8_first)]).forCall (fun _ _ => 0) ⟨#[], args, []⟩).memory := by
 rw [MakeChecks.laidMetH_plain _ _ _ (by kernel_rfl)]; exact laidMet_laidAll _ (by kernel_rfl) (by kernel_rfl)
end Go.Proofs.YtglpcedoongagaaGreatDoor
namespace Go.J
def exV : JV := vList [vNum 1, vText [97, 10], vNull]
theorem dn1 : dn 1 = [49] := by rw [dn]; rfl
theorem exV_prt : prt 8 exV = [91, 49, 44, 34, 97, 92, 110, 34, 44, 110, 117, 108, 108, 93] := by
 have h : prt 8 exV = 91 :: (joinC [numS 1, quote [97, 10], [110, 117, 108, 108]] ++ [93]) := by rfl
 rw [h, show numS 1 = dn 1 from rfl, dn1]
 rfl
theorem nam_nil (l : B) : nam [] l = if (blk l).head? = some 34 then (match txtF (blk l).tail [] with
 | some (s, r) => if (blk r).head? = some 58 then some (s, (blk r).tail) else none
 | none => none) else none := by
 unfold nam
 by_cases h : (blk l).head? = some 34
 . rw [if_pos h, if_pos h]
   cases txtF (blk l).tail [] with
   | none => rfl
   | some q => exact if_neg (by simp)
 . rw [if_neg h, if_neg h]
def exO : B := [32, 123, 32, 34, 97, 34, 32, 58, 32, 45, 48, 32, 125, 32]
theorem exO_nam : nam [] [34, 97, 34, 32, 58, 32, 45, 48, 32, 125, 32] = some ([97], [32, 45, 48, 32, 125, 32]) := (nam_nil _).trans (by kernel_rfl)
theorem exO_num : val 7 [32, 45, 48, 32, 125, 32] = .ok (vNum 0, [32, 125, 32]) := by kernel_rfl
theorem exO_obj : obj (val 7) [32, 34, 97, 34, 32, 58, 32, 45, 48, 32, 125, 32] = .ok (vObj [[97]] [vNum 0], [32]) := by
 have e : obj (val 7) [32, 34, 97, 34, 32, 58, 32, 45, 48, 32, 125, 32] = objL (val 7) 12 [34, 97, 34, 32, 58, 32, 45, 48, 32, 125, 32] [] [] := by kernel_rfl
 rw [e, objL, exO_nam]
 show (match val 7 [32, 45, 48, 32, 125, 32] with | .error e => (.error e : R) | .ok (v, r) => if (blk r).head? = some 125 then .ok (vObj ([] ++ [[97]]) ([] ++ [v]), (blk r).tail) else if (blk r).head? = some 44 then objL (val 7) 11 (blk r).tail ([] ++ [[97]]) ([] ++ [v]) else .error 5) = _
 rw [exO_num]
 rfl
theorem exO_parse : parse exO = .ok (vObj [[97]] [vNum 0]) := by
 have e : val 8 exO = obj (val 7) [32, 34, 97, 34, 32, 58, 32, 45, 48, 32, 125, 32] := by kernel_rfl
 rw [parse, if_neg (by decide), e, exO_obj]
 rfl
theorem exB_parse : parse [91, 49, 44, 93] = .error 5 := by kernel_rfl
theorem exM_parse : parse [91, 91, 91, 91, 91, 91, 91, 91, 91] = .error 6 := by kernel_rfl
theorem exV_may : may 8 exV := by
 have v1 : Valid [97, 10] := by
  have h1 : enc 97 = [97] := by decide
  have h2 : enc 10 = [10] := by decide
  have := (Valid.one (c := 97) (by unfold okC; decide)).app (Valid.one (c := 10) (by unfold okC; decide))
  rwa [h1, h2] at this
 refine .inr ⟨.inl rfl, ⟨.inl rfl, .inl rfl, .inr (.inl rfl), rfl⟩, ⟨fun s hs => (nomatch hs), List.nodup_nil⟩, fun k hk => ?_⟩
 have hk : k ∈ [vNum 1, vText [97, 10], vNull] := hk
 rcases List.mem_cons.1 hk with rfl | hk
 . exact may_leaf_num 1 7
 rcases List.mem_cons.1 hk with rfl | hk
 . exact may_leaf (v := vText [97, 10]) ⟨⟨.inl rfl, .inr rfl, .inl rfl, rfl⟩, .inr (.inr (.inr ⟨rfl, v1⟩))⟩ 7
 rcases List.mem_cons.1 hk with rfl | hk
 . exact may_leaf (v := vNull) ⟨⟨.inl rfl, .inl rfl, .inl rfl, rfl⟩, .inl rfl⟩ 7
 . cases hk
theorem exV_fits : fits 8 exV := by
 have w : ∀ v : JV, v = vNum 1 ∨ v = vText [97, 10] ∨ v = vNull -> fits 7 v := by
  rintro v (rfl | rfl | rfl)
  . exact fits_small (by decide) rfl 7
  . exact fits_small (by decide) rfl 7
  . exact fits_small (by decide) rfl 7
 refine ⟨by show _ /\ _; decide, fun k hk => w k ?_⟩
 have hk : k ∈ [vNum 1, vText [97, 10], vNull] := hk
 simpa using hk
end Go.J
namespace Go.Proofs.YtglpcedoongagaaGreatDoor
open Go.E Go.Proofs.YtglpcedoongagaaGreatDoor.Tryz Go.Proofs.Tryz Go.J Go.Proofs
def exK : List AV := [.p (.int .u8 2), .p (.int .i64 1), .p (.string ByteArray.empty), .p (.slice none 0 0), .p (.slice none 0 0), .p (.int .u8 3), .p (.int .i64 0), .p (.string (ByteArray.mk #[97, 10])), .p (.slice none 0 0), .p (.slice none 0 0), .p (.int .u8 0), .p (.int .i64 0), .p (.string ByteArray.empty), .p (.slice none 0 0), .p (.slice none 0 0)]
def exC : List AV := [.p (.int .u8 4), .p (.int .i64 0), .p (.string ByteArray.empty), .vs exK 3, .p (.slice none 0 0)]
theorem exK_weak : ∀ (Z : Heap) (k : Nat) (a b : AV) (x : Value), exK[k]? = some a -> (vcsL exV.kids)[k]? = some b -> Rel Z [] a x -> Rel Z [] b x := by
 intro Z k a b x ha hb hr
 have hd : vcsL exV.kids = [by8 2, .p (.int .i64 1), str [], .vs [] 0, .vs [] 0, by8 3, .p (.int .i64 0), str [97, 10], .vs [] 0, .vs [] 0, by8 0, .p (.int .i64 0), str [], .vs [] 0, .vs [] 0] := rfl
 rw [hd] at hb
 match k with
 | 0 => cases ha; cases hb; exact hr
 | 1 => cases ha; cases hb; exact hr
 | 2 => cases ha; cases hb; exact hr
 | 3 => cases ha; cases hb; exact nil_vs _ _ _ hr
 | 4 => cases ha; cases hb; exact nil_vs _ _ _ hr
 | 5 => cases ha; cases hb; exact hr
 | 6 => cases ha; cases hb; exact hr
 | 7 => cases ha; cases hb; exact hr
 | 8 => cases ha; cases hb; exact nil_vs _ _ _ hr
 | 9 => cases ha; cases hb; exact nil_vs _ _ _ hr
 | 10 => cases ha; cases hb; exact hr
 | 11 => cases ha; cases hb; exact hr
 | 12 => cases ha; cases hb; exact hr
 | 13 => cases ha; cases hb; exact nil_vs _ _ _ hr
 | 14 => cases ha; cases hb; exact nil_vs _ _ _ hr
 | k + 15 => cases ha
theorem exC_weak : ∀ (Z : Heap) (ρ : List BI) (x : Value), Rel Z ρ (.ag exC) x -> Rel Z ρ (.ag (vcs exV)) x := by
 have e : vcs exV = [.p (.int .u8 4), .p (.int .i64 0), .p (.string ByteArray.empty), .vs (vcsL exV.kids) 3, .vs [] 0] := rfl
 rw [e]
 exact ag5_weak (vs_weak rfl exK_weak) nil_vs
theorem exV_sz : vsz exV = 6 := rfl
theorem exK_clean : ∀ a ∈ exK, a.Clean := by
 intro a ha
 simp only [exK, List.mem_cons, List.not_mem_nil, or_false] at ha
 rcases ha with rfl | rfl | rfl | rfl | rfl | rfl | rfl | rfl | rfl | rfl | rfl | rfl | rfl | rfl | rfl <;> exact .p _
theorem works_ok {T : Tbl} : CallA prog G 6 [] T fun v T' es => v = .p (.bool true) /\ T' = T /\ es = [] := by
 refine CallA.wfs fun wf => ?_
 have wt := wf.t
 have wp := wf.p
 have hk0 : (wrA (wrA (wrA (List.replicate 3 [AV.p (.int .u8 0), AV.p (.int .i64 0), AV.p (.string ByteArray.empty), AV.p (.slice none 0 0), AV.p (.slice none 0 0)]).flatten 0 [AV.p (.int .u8 2), AV.p (.int .i64 1), AV.p (.string ByteArray.empty), AV.p (.slice none 0 0), AV.p (.slice none 0 0)]) 5 [AV.p (.int .u8 3), AV.p (.int .i64 0), AV.p (.string (ByteArray.mk #[97, 10])), AV.p (.slice none 0 0), AV.p (.slice none 0 0)]) 10 [AV.p (.int .u8 0), AV.p (.int .i64 0), AV.p (.string ByteArray.empty), AV.p (.slice none 0 0), AV.p (.slice none 0 0)]) = exK := rfl
 refine CallA.eV 12 func6 ntmps6 results6 ?_
 simp -dsimp +decide only [vr, ty, en, ↓reduceIte, Nat.reduceSub, Nat.reduceAdd, Nat.reduceMul, Nat.reduceLT, Int.reduceAdd, Int.reduceSub, Int.reduceToNat, ci]
 simp -dsimp +decide (disch := omega) only [vr, ty, en, ↓reduceIte, Nat.reduceSub, Nat.reduceAdd, Nat.reduceMul, Nat.reduceLT, Int.reduceAdd, Int.reduceSub, Int.reduceToNat, ci, vi, getO_i, vt, wr5, tk5, hk0]
 refine CallA.pub (i := T.length) (o := .buf 25 5 exK) (gn0 T _ _) rfl exK_clean ?_ (fun v T' es h => h)
 simp -dsimp +decide only [vr, ty, en, ↓reduceIte, Nat.reduceSub, Nat.reduceAdd, Nat.reduceMul, Nat.reduceLT, Int.reduceAdd, Int.reduceSub, Int.reduceToNat, ci, wp]
 refine CallA.weak1 exC_weak ?_
 refine (print_ok (v := exV) (by rw [exV_sz]; decide) exV_fits).mono ?_
 rintro v T' es ⟨⟨-, rfl⟩ | ⟨h, -⟩, rfl, rfl⟩
 rotate_left
 . exact absurd exV_may h
 rw [exV_prt]
 obtain ⟨P1, hP1⟩ : ∃ P1 : B, P1 = [91, 49, 44, 34, 97, 92, 110, 34, 44, 110, 117, 108, 108, 93] := ⟨_, rfl⟩
 rw [<- hP1]
 obtain ⟨C1, hC1⟩ : ∃ C1 : AObj, C1 = .cells 25 exC := ⟨_, rfl⟩
 have hk14 : (List.replicate 14 [AV.p (.int .u8 0)]).flatten = [.p (.int .u8 0), .p (.int .u8 0), .p (.int .u8 0), .p (.int .u8 0), .p (.int .u8 0), .p (.int .u8 0), .p (.int .u8 0), .p (.int .u8 0), .p (.int .u8 0), .p (.int .u8 0), .p (.int .u8 0), .p (.int .u8 0), .p (.int .u8 0), .p (.int .u8 0)] := rfl
 simp -dsimp +decide (disch := omega) only [vr, ty, en, ↓reduceIte, Nat.reduceSub, Nat.reduceAdd, Nat.reduceMul, Nat.reduceLT, Int.reduceAdd, Int.reduceSub, Int.reduceToNat, ci, vi, getO_i, vt, wp, wr5, tk5, gn0, gn1, gn2, List.nil_append, hk14, List.set_cons_zero, List.set_cons_succ]
 refine (parse_ok (l := exO) (by decide)).mono ?_
 rintro v T' es ⟨rfl, rfl, rfl⟩
 rw [exO_parse]
 obtain ⟨u1, hu1⟩ : ∃ u1, u1 = vObj [[97]] [vNum 0] := ⟨_, rfl⟩
 rw [<- hu1, show parsV exO (.ok u1) = .tu [.ag (vcs u1), .p (.int .i64 0)] from rfl]
 have hv1 := vcr u1
 have hf1 : fldV u1 [97] = some (vNum 0) := by rw [hu1]; rfl
 have hF := fun U => field_ok (T := U) (v := u1) (s := [97]) (by rw [hu1]; decide)
 rw [hf1] at hF
 have hw1 : wrA (vcs u1) 0 (vcs u1) = vcs u1 := wrA_all rfl
 simp -dsimp +decide (disch := omega) only [vr, ty, en, ↓reduceIte, Nat.reduceSub, Nat.reduceAdd, Nat.reduceMul, Nat.reduceLT, Int.reduceAdd, Int.reduceSub, Int.reduceToNat, ci, vi, getO_i, vt, wp, wr5, tk5, gn0, gn1, gn2, gn3, hv1, hw1]
 refine (hF _).mono ?_
 rintro v T' es ⟨rfl, rfl, rfl⟩
 obtain ⟨u2, hu2⟩ : ∃ u2, u2 = vNum 0 := ⟨_, rfl⟩
 rw [<- hu2]
 have hv2 := vcr u2
 have hw2 : wrA (vcs u2) 0 (vcs u2) = vcs u2 := wrA_all rfl
 have hk4 : (List.replicate 4 [AV.p (.int .u8 0)]).flatten = [.p (.int .u8 0), .p (.int .u8 0), .p (.int .u8 0), .p (.int .u8 0)] := rfl
 simp -dsimp +decide (disch := omega) only [vr, ty, en, ↓reduceIte, Nat.reduceSub, Nat.reduceAdd, Nat.reduceMul, Nat.reduceLT, Int.reduceAdd, Int.reduceSub, Int.reduceToNat, ci, vi, getO_i, vt, wp, wr5, tk5, gn0, gn1, gn2, gn3, gn4, gn5, hv1, hv2, hw1, hw2, hk4, List.set_cons_zero, List.set_cons_succ, vcs_pub]
 refine (parse_ok (l := [91, 49, 44, 93]) (by decide)).mono ?_
 rintro v T' es ⟨rfl, rfl, rfl⟩
 rw [exB_parse]
 obtain ⟨u3, hu3⟩ : ∃ u3, u3 = vNull := ⟨_, rfl⟩
 rw [show parsV [91, 49, 44, 93] (.error 5) = .tu [.ag (vcs u3), .p (.int .i64 5)] from by rw [hu3]; rfl]
 have hv3 := vcr u3
 have hw3 : wrA (vcs u3) 0 (vcs u3) = vcs u3 := wrA_all rfl
 have hk9 : (List.replicate 9 [AV.p (.int .u8 0)]).flatten = [.p (.int .u8 0), .p (.int .u8 0), .p (.int .u8 0), .p (.int .u8 0), .p (.int .u8 0), .p (.int .u8 0), .p (.int .u8 0), .p (.int .u8 0), .p (.int .u8 0)] := rfl
 simp -dsimp +decide (disch := omega) only [vr, ty, en, ↓reduceIte, Nat.reduceSub, Nat.reduceAdd, Nat.reduceMul, Nat.reduceLT, Int.reduceAdd, Int.reduceSub, Int.reduceToNat, ci, vi, getO_i, vt, wp, wr5, tk5, gn0, gn1, gn2, gn3, gn4, gn5, gn6, gn7, hv1, hv2, hv3, hw1, hw2, hw3, hk9, List.set_cons_zero, List.set_cons_succ, vcs_pub]
 refine (parse_ok (l := [91, 91, 91, 91, 91, 91, 91, 91, 91]) (by decide)).mono ?_
 rintro v T' es ⟨rfl, rfl, rfl⟩
 rw [exM_parse, show parsV [91, 91, 91, 91, 91, 91, 91, 91, 91] (.error 6) = .tu [.ag (vcs u3), .p (.int .i64 6)] from by rw [hu3]; rfl]
 have hby := bytes8 P1
 have hP2 : (ByteArray.mk P1.toArray = ByteArray.mk #[91, 49, 44, 34, 97, 92, 110, 34, 44, 110, 117, 108, 108, 93]) = True := eq_true (by rw [hP1])
 have h20 : (vcs u2)[0]! = .p (.int .u8 2) := by rw [hu2]; rfl
 simp -dsimp +decide (disch := omega) only [vr, ty, en, ↓reduceIte, Nat.reduceSub, Nat.reduceAdd, Nat.reduceMul, Nat.reduceLT, Int.reduceAdd, Int.reduceSub, Int.reduceToNat, ci, vi, getO_i, vt, wp, wr5, tk5, gn0, gn1, gn2, gn3, gn4, gn5, gn6, gn7, gn8, hv1, hv2, hv3, hw1, hw2, hw3, vstr, hP2, hby, h20]
 refine CallA.weak1 exC_weak ?_
 refine (May_ok (v := exV) (by rw [exV_sz]; decide) exV_fits).mono ?_
 rintro v T' es ⟨⟨b, rfl, hb⟩, rfl, rfl⟩
 have hb := hb.2 exV_may
 subst hb
 simp -dsimp +decide (disch := omega) only [vr, ty, en, ↓reduceIte, Nat.reduceSub, Nat.reduceAdd, Nat.reduceMul, Nat.reduceLT, Int.reduceAdd, Int.reduceSub, Int.reduceToNat, ci, vi, getO_i, vt, wr5, tk5, gn0, gn1, gn2, gn3, gn4, gn5, gn6, gn7, gn8]
 refine CallA.weak2 exC_weak exC_weak ?_
 refine (same_ok (a := exV) (c := exV) (by rw [exV_sz]; decide)).mono ?_
 rintro v T' es ⟨⟨b, rfl, hb⟩, rfl, rfl⟩
 have hb := hb.2 rfl
 subst hb
 simp -dsimp +decide (disch := omega) only [vr, ty, en, ↓reduceIte, Nat.reduceSub, Nat.reduceAdd, Nat.reduceMul, Nat.reduceLT, Int.reduceAdd, Int.reduceSub, Int.reduceToNat, ci, vi, getO_i, vt, wr5, tk5, gn0, gn1, gn2, gn3, gn4, gn5, gn6, gn7, gn8, hv1]
 refine CallA.weak2 (fun _ _ _ h => h) exC_weak ?_
 refine (same_ok (a := u1) (c := exV) (by rw [hu1]; decide)).mono ?_
 rintro v T' es ⟨⟨b, rfl, hb⟩, rfl, rfl⟩
 have hne : u1 ≠ exV := by rw [hu1]; intro e; injection e with e; cases e
 cases b with
 | true => exact absurd (hb.1 rfl) hne
 | false =>
   simp -dsimp +decide (disch := omega) only [vr, ty, en, ↓reduceIte, Nat.reduceSub, Nat.reduceAdd, Nat.reduceMul, Nat.reduceLT, Int.reduceAdd, Int.reduceSub, Int.reduceToNat, ci, vi, getO_i, vt]
   exact Vw.cut ⟨rfl, rfl, rfl⟩
end Go.Proofs.YtglpcedoongagaaGreatDoor
namespace Go.J
theorem Valid_step {l : B} (h : l ≠ []) : Valid l ↔ 0 < (dec l).2 /\ Valid (l.drop (dec l).2) := by
 constructor
 . intro hv
   cases hv with
   | nil => exact absurd rfl h
   | @cons c r hc hr =>
     rw [dec_enc hc r]
     have hl := enc_cases hc
     refine ⟨by omega, ?_⟩
     rw [List.drop_left]; exact hr
 . rintro ⟨h0, hv⟩
   obtain ⟨hc, hn, r, hr⟩ := dec_spec (l := l) (c := (dec l).1) (n := (dec l).2) rfl h0
   have e := (take_dec (l := l) (c := (dec l).1) (n := (dec l).2) rfl h0).2
   rw [e]; exact .cons hc hv
theorem dec_le (l : B) : (dec l).2 <= l.length := by
 by_cases h : 0 < (dec l).2
 . obtain ⟨_, hn, r, hr⟩ := dec_spec (l := l) (c := (dec l).1) (n := (dec l).2) rfl h
   have := congrArg List.length hr
   rw [List.length_append] at this; omega
 . omega
def dgS (x : Nat) (out : B) : B := (if x = 0 /\ out ≠ [] then [] else dn x) ++ out
theorem dgS_start (x : Nat) : dgS x [] = dn x := by unfold dgS; rw [if_neg (by simp), List.append_nil]
theorem dgS_step {x : Nat} {out : B} (h : 0 < x ∨ out = []) : dgS (x / 10) (u8 (48 + x % 10) :: out) = dgS x out := by
 unfold dgS
 rw [if_neg (show ¬ (x = 0 /\ out ≠ []) from fun ⟨h1, h2⟩ => h.elim (fun h => by omega) fun h => h2 h)]
 rw [dn.eq_def x]
 by_cases hx : x < 10
 . rw [if_pos ⟨by omega, by simp⟩, if_pos hx, show x % 10 = x by omega]; rfl
 . rw [if_neg (by omega), if_neg hx]; simp
theorem dgS_end {out : B} (h : out ≠ []) : dgS 0 out = out := by unfold dgS; rw [if_pos ⟨rfl, h⟩]; rfl
def cont (c : Nat) : B -> Nat -> Option Nat
 | _, 0 => some c
 | [], _ + 1 => none
 | x :: r, k + 1 => if isC x then cont (64 * c + x.toNat % 64) r k else none
def decC (n c : Nat) (r : B) : Nat × Nat := match cont c r (n - 1) with
 | some d => chk d n
 | none => (0, 0)
theorem dec_2 {a : UInt8} (r : B) (h : 0xc0 <= a.toNat) (h2 : a.toNat < 0xe0) : dec (a :: r) = decC 2 (a.toNat % 32) r := by
 rw [dec, if_neg (by omega), if_neg (by omega), if_pos h2]
 unfold decC
 cases r with
 | nil => rfl
 | cons x r =>
   simp only [d2, cont, Nat.reduceSub]
   split <;> rfl
theorem dec_3 {a : UInt8} (r : B) (h : 0xe0 <= a.toNat) (h2 : a.toNat < 0xf0) : dec (a :: r) = decC 3 (a.toNat % 16) r := by
 rw [dec, if_neg (by omega), if_neg (by omega), if_neg (by omega), if_pos h2]
 unfold decC
 match r with
 | [] => rfl
 | [x] => simp only [d3, cont, Nat.reduceSub, ite_self]
 | x :: y :: r =>
   simp only [d3, cont, Nat.reduceSub]
   by_cases hx : isC x
   . by_cases hy : isC y
     . rw [if_pos ⟨hx, hy⟩, if_pos hx, if_pos hy]
     . rw [if_neg (fun h => hy h.2), if_pos hx, if_neg hy]
   . rw [if_neg (fun h => hx h.1), if_neg hx]
theorem dec_4 {a : UInt8} (r : B) (h : 0xf0 <= a.toNat) (h2 : a.toNat < 0xf8) : dec (a :: r) = decC 4 (a.toNat % 8) r := by
 rw [dec, if_neg (by omega), if_neg (by omega), if_neg (by omega), if_neg (by omega), if_pos h2]
 unfold decC
 match r with
 | [] => rfl
 | [x] => simp only [d4, cont, Nat.reduceSub, ite_self]
 | [x, y] => simp only [d4, cont, Nat.reduceSub, ite_self]
 | x :: y :: z :: r =>
   simp only [d4, cont, Nat.reduceSub]
   by_cases hx : isC x
   . by_cases hy : isC y
     . by_cases hz : isC z
       . rw [if_pos ⟨hx, hy, hz⟩, if_pos hx, if_pos hy, if_pos hz]
       . rw [if_neg (fun h => hz h.2.2), if_pos hx, if_pos hy, if_neg hz]
     . rw [if_neg (fun h => hy h.2.1), if_pos hx, if_neg hy]
   . rw [if_neg (fun h => hx h.1), if_neg hx]
theorem dec_0 {a : UInt8} (r : B) (h : (0x80 <= a.toNat /\ a.toNat < 0xc0) ∨ 0xf8 <= a.toNat) : dec (a :: r) = (0, 0) := by
 rw [dec, if_neg (by omega)]
 by_cases h2 : a.toNat < 0xc0
 . rw [if_pos h2]
 . rw [if_neg h2, if_neg (by omega), if_neg (by omega), if_neg (by omega)]
theorem cont_short {c : Nat} : ∀ {r : B} {k : Nat}, r.length < k -> cont c r k = none
 | _, 0, h => absurd h (Nat.not_lt_zero _)
 | [], _ + 1, _ => rfl
 | x :: r, k + 1, h => by
   rw [cont]
   split
   . exact cont_short (by simpa using h)
   . rfl
theorem decC_short {n c : Nat} {r : B} (h : r.length < n - 1) : decC n c r = (0, 0) := by unfold decC; rw [cont_short h]
end Go.J
namespace Go.Proofs.YtglpcedoongagaaGreatDoor
open Go.E Go.Proofs.YtglpcedoongagaaGreatDoor.Tryz Go.Proofs.Tryz Go.J Go.Proofs
theorem u8w (n : Nat) : IntKind.u8.wrap (n : Int) = ((u8 n).toNat : Int) := by
 rw [UInt8.toNat_ofNat']
 show (n : Int) % 256 = _
 omega
theorem u8add (k n : Nat) : UInt8.ofInt (k : Int) + u8 n = u8 (k + n) := UInt8.toNat_inj.1 (by
 rw [UInt8.toNat_add, UInt8.toNat_ofNat', UInt8.toNat_ofNat']
 show (((k : Int) % 256).toNat % 256 + n % 256) % 256 = (k + n) % 256
 omega)
theorem bytes06_ok {T : Tbl} {c : Nat} (hc : c < 4294967296) : CallA prog G 76 [wint (c : Int)] T fun v T' es => v = bl (enc c) /\ T' = T /\ es = [] := by
 refine CallA.wfs fun wf => ?_
 have wt := wf.t
 have wp := wf.p
 have h0 : ((c : Int) < 0) = False := eq_false (by omega)
 have hq1 : Int.tdiv (c : Int) 64 = ((c / 64 : Nat) : Int) := rfl
 have hq2 : Int.tdiv (c : Int) 4096 = ((c / 4096 : Nat) : Int) := rfl
 have hq3 : Int.tdiv (c : Int) 262144 = ((c / 262144 : Nat) : Int) := rfl
 have hr1 : Int.tmod (c : Int) 64 = ((c % 64 : Nat) : Int) := rfl
 have hr2 : Int.tmod ((c / 64 : Nat) : Int) 64 = ((c / 64 % 64 : Nat) : Int) := rfl
 have hr3 : Int.tmod ((c / 4096 : Nat) : Int) 64 = ((c / 4096 % 64 : Nat) : Int) := rfl
 have hpub : ∀ l : B, enc c = l -> Vw G T (fun v T' es => v = bl (enc c) /\ T' = T /\ es = []) (.sl T.length 0 l.length) (T ++ [.buf 5 1 (l.map by8)]) [] := fun l h => by
  refine Vw.pub T.length (o := .buf 5 1 (l.map by8)) (by (simp -dsimp +decide only [vy, vz, vze, vr, ty, en, ↓reduceIte, Nat.reduceSub, Nat.reduceAdd, Nat.reduceMul, Nat.reduceLT, Int.reduceAdd, Int.reduceSub, Int.reduceToNat, ci])) rfl (clean8 _) ?_
  simp -dsimp +decide only [vy, vz, vze, vr, ty, en, ↓reduceIte, Nat.reduceSub, Nat.reduceAdd, Nat.reduceMul, Nat.reduceLT, Int.reduceAdd, Int.reduceSub, Int.reduceToNat, ci, vt, wp]
  exact Vw.cut ⟨by rw [h]; rfl, rfl, rfl⟩
 have hI : ∀ n : Nat, UInt8.ofInt (n : Int) = u8 n := fun n => UInt8.toNat_inj.1 (by
  show ((n : Int) % 256).toNat % 256 = n % 256
  omega)
 by_cases h1 : 1114111 < c
 . have h1' : ((1114111 : Int) < (c : Int)) = True := eq_true (by omega)
   refine CallA.eV 19 func76 ntmps76 results76 ?_
   simp -dsimp +decide only [vy, vz, vze, vr, ty, en, ↓reduceIte, Nat.reduceSub, Nat.reduceAdd, Nat.reduceMul, Nat.reduceLT, Int.reduceAdd, Int.reduceSub, Int.reduceToNat, ci]
   simp -dsimp +decide (disch := omega) only [vy, vz, vze, vr, ty, en, ↓reduceIte, Nat.reduceSub, Nat.reduceAdd, Nat.reduceMul, Nat.reduceLT, Int.reduceAdd, Int.reduceSub, Int.reduceToNat, ci, vi, getO_i, vt, h0, h1', bb2]
   rw [enc_nil (fun h => by have := h.1; omega)]
   exact Vw.weak (u := bl []) (fun _ _ _ h => nil_bl h) (Vw.done ⟨rfl, rfl, rfl⟩)
 have h1' : ((1114111 : Int) < (c : Int)) = False := eq_false (by omega)
 by_cases h2 : 55296 <= c /\ c <= 57343
 . have h2' : ((55296 : Int) <= (c : Int)) = True := eq_true (by omega)
   have h3' : ((c : Int) <= 57343) = True := eq_true (by omega)
   refine CallA.eV 19 func76 ntmps76 results76 ?_
   simp -dsimp +decide only [vy, vz, vze, vr, ty, en, ↓reduceIte, Nat.reduceSub, Nat.reduceAdd, Nat.reduceMul, Nat.reduceLT, Int.reduceAdd, Int.reduceSub, Int.reduceToNat, ci]
   simp -dsimp +decide (disch := omega) only [vy, vz, vze, vr, ty, en, ↓reduceIte, Nat.reduceSub, Nat.reduceAdd, Nat.reduceMul, Nat.reduceLT, Int.reduceAdd, Int.reduceSub, Int.reduceToNat, ci, vi, getO_i, vt, h0, h1', h2', h3', bb2]
   rw [enc_nil (fun h => by have := h.2; omega)]
   exact Vw.weak (u := bl []) (fun _ _ _ h => nil_bl h) (Vw.done ⟨rfl, rfl, rfl⟩)
 have hs : (((55296 : Int) <= (c : Int)) = True /\ ((c : Int) <= 57343) = False) ∨ ((55296 : Int) <= (c : Int)) = False := by
  by_cases h : 55296 <= c
  . exact .inl ⟨eq_true (by omega), eq_false (by omega)⟩
  . exact .inr (eq_false (by omega))
 by_cases h4 : c < 128
 . have h4' : ((c : Int) < 128) = True := eq_true (by omega)
   have e := enc_len1 h4
   have hp := hpub _ e
   rcases hs with ⟨h2', h3'⟩ | h2'
   . skip
     refine CallA.eV 19 func76 ntmps76 results76 ?_
     simp -dsimp +decide only [vy, vz, vze, vr, ty, en, ↓reduceIte, Nat.reduceSub, Nat.reduceAdd, Nat.reduceMul, Nat.reduceLT, Int.reduceAdd, Int.reduceSub, Int.reduceToNat, ci]
     simp -dsimp +decide (disch := omega) only [vy, vz, vze, vr, ty, en, ↓reduceIte, Nat.reduceSub, Nat.reduceAdd, Nat.reduceMul, Nat.reduceLT, Int.reduceAdd, Int.reduceSub, Int.reduceToNat, ci, vi, getO_i, vt, h0, h1', h2', h3', h4', bb2, hI]
     exact hp
   . skip
     refine CallA.eV 19 func76 ntmps76 results76 ?_
     simp -dsimp +decide only [vy, vz, vze, vr, ty, en, ↓reduceIte, Nat.reduceSub, Nat.reduceAdd, Nat.reduceMul, Nat.reduceLT, Int.reduceAdd, Int.reduceSub, Int.reduceToNat, ci]
     simp -dsimp +decide (disch := omega) only [vy, vz, vze, vr, ty, en, ↓reduceIte, Nat.reduceSub, Nat.reduceAdd, Nat.reduceMul, Nat.reduceLT, Int.reduceAdd, Int.reduceSub, Int.reduceToNat, ci, vi, getO_i, vt, h0, h1', h2', h4', bb2, hI]
     exact hp
 have h4' : ((c : Int) < 128) = False := eq_false (by omega)
 have hA1 : ∀ n : Nat, UInt8.ofInt 192 + u8 n = u8 (0xc0 + n) := u8add 192
 have hA2 : ∀ n : Nat, UInt8.ofInt 128 + u8 n = u8 (0x80 + n) := u8add 128
 have hA3 : ∀ n : Nat, UInt8.ofInt 224 + u8 n = u8 (0xe0 + n) := u8add 224
 have hA4 : ∀ n : Nat, UInt8.ofInt 240 + u8 n = u8 (0xf0 + n) := u8add 240
 by_cases h5 : c < 2048
 . have h5' : ((c : Int) < 2048) = True := eq_true (by omega)
   have hp := hpub _ (enc_len2 (by omega) h5)
   rcases hs with ⟨h2', h3'⟩ | h2'
   . skip
     refine CallA.eV 19 func76 ntmps76 results76 ?_
     simp -dsimp +decide only [vy, vz, vze, vr, ty, en, ↓reduceIte, Nat.reduceSub, Nat.reduceAdd, Nat.reduceMul, Nat.reduceLT, Int.reduceAdd, Int.reduceSub, Int.reduceToNat, ci]
     simp -dsimp +decide (disch := omega) only [vy, vz, vze, vr, ty, en, ↓reduceIte, Nat.reduceSub, Nat.reduceAdd, Nat.reduceMul, Nat.reduceLT, Int.reduceAdd, Int.reduceSub, Int.reduceToNat, ci, vi, getO_i, vt, h0, h1', h2', h3', h4', h5', bb2, hI, hA1, hA2, hA3, hA4, hq1, hq2, hq3, hr1, hr2, hr3, repb, List.set_cons_zero, List.set_cons_succ, List.length_cons]
     exact hp
   . skip
     refine CallA.eV 19 func76 ntmps76 results76 ?_
     simp -dsimp +decide only [vy, vz, vze, vr, ty, en, ↓reduceIte, Nat.reduceSub, Nat.reduceAdd, Nat.reduceMul, Nat.reduceLT, Int.reduceAdd, Int.reduceSub, Int.reduceToNat, ci]
     simp -dsimp +decide (disch := omega) only [vy, vz, vze, vr, ty, en, ↓reduceIte, Nat.reduceSub, Nat.reduceAdd, Nat.reduceMul, Nat.reduceLT, Int.reduceAdd, Int.reduceSub, Int.reduceToNat, ci, vi, getO_i, vt, h0, h1', h2', h4', h5', bb2, hI, hA1, hA2, hA3, hA4, hq1, hq2, hq3, hr1, hr2, hr3, repb, List.set_cons_zero, List.set_cons_succ, List.length_cons]
     exact hp
 have h5' : ((c : Int) < 2048) = False := eq_false (by omega)
 by_cases h6 : c < 65536
 . have h6' : ((c : Int) < 65536) = True := eq_true (by omega)
   have hp := hpub _ (enc_len3 (by omega) h6 (by omega))
   rcases hs with ⟨h2', h3'⟩ | h2'
   . skip
     refine CallA.eV 19 func76 ntmps76 results76 ?_
     simp -dsimp +decide only [vy, vz, vze, vr, ty, en, ↓reduceIte, Nat.reduceSub, Nat.reduceAdd, Nat.reduceMul, Nat.reduceLT, Int.reduceAdd, Int.reduceSub, Int.reduceToNat, ci]
     simp -dsimp +decide (disch := omega) only [vy, vz, vze, vr, ty, en, ↓reduceIte, Nat.reduceSub, Nat.reduceAdd, Nat.reduceMul, Nat.reduceLT, Int.reduceAdd, Int.reduceSub, Int.reduceToNat, ci, vi, getO_i, vt, h0, h1', h2', h3', h4', h5', h6', bb2, hI, hA1, hA2, hA3, hA4, hq1, hq2, hq3, hr1, hr2, hr3, repb, List.set_cons_zero, List.set_cons_succ, List.length_cons]
     exact hp
   . skip
     refine CallA.eV 19 func76 ntmps76 results76 ?_
     simp -dsimp +decide only [vy, vz, vze, vr, ty, en, ↓reduceIte, Nat.reduceSub, Nat.reduceAdd, Nat.reduceMul, Nat.reduceLT, Int.reduceAdd, Int.reduceSub, Int.reduceToNat, ci]
     simp -dsimp +decide (disch := omega) only [vy, vz, vze, vr, ty, en, ↓reduceIte, Nat.reduceSub, Nat.reduceAdd, Nat.reduceMul, Nat.reduceLT, Int.reduceAdd, Int.reduceSub, Int.reduceToNat, ci, vi, getO_i, vt, h0, h1', h2', h4', h5', h6', bb2, hI, hA1, hA2, hA3, hA4, hq1, hq2, hq3, hr1, hr2, hr3, repb, List.set_cons_zero, List.set_cons_succ, List.length_cons]
     exact hp
 have h6' : ((c : Int) < 65536) = False := eq_false (by omega)
 have hp := hpub _ (enc_len4 (by omega) (by omega))
 rcases hs with ⟨h2', h3'⟩ | h2'
 . skip
   refine CallA.eV 19 func76 ntmps76 results76 ?_
   simp -dsimp +decide only [vy, vz, vze, vr, ty, en, ↓reduceIte, Nat.reduceSub, Nat.reduceAdd, Nat.reduceMul, Nat.reduceLT, Int.reduceAdd, Int.reduceSub, Int.reduceToNat, ci]
   simp -dsimp +decide (disch := omega) only [vy, vz, vze, vr, ty, en, ↓reduceIte, Nat.reduceSub, Nat.reduceAdd, Nat.reduceMul, Nat.reduceLT, Int.reduceAdd, Int.reduceSub, Int.reduceToNat, ci, vi, getO_i, vt, h0, h1', h2', h3', h4', h5', h6', bb2, hI, hA1, hA2, hA3, hA4, hq1, hq2, hq3, hr1, hr2, hr3, repb, List.set_cons_zero, List.set_cons_succ, List.length_cons]
   exact hp
 . skip
   refine CallA.eV 19 func76 ntmps76 results76 ?_
   simp -dsimp +decide only [vy, vz, vze, vr, ty, en, ↓reduceIte, Nat.reduceSub, Nat.reduceAdd, Nat.reduceMul, Nat.reduceLT, Int.reduceAdd, Int.reduceSub, Int.reduceToNat, ci]
   simp -dsimp +decide (disch := omega) only [vy, vz, vze, vr, ty, en, ↓reduceIte, Nat.reduceSub, Nat.reduceAdd, Nat.reduceMul, Nat.reduceLT, Int.reduceAdd, Int.reduceSub, Int.reduceToNat, ci, vi, getO_i, vt, h0, h1', h2', h4', h5', h6', bb2, hI, hA1, hA2, hA3, hA4, hq1, hq2, hq3, hr1, hr2, hr3, repb, List.set_cons_zero, List.set_cons_succ, List.length_cons]
   exact hp
theorem rune06_ok {T : Tbl} {s : B} {at' : Nat} (hs : s.length <= 140737488355328) (ha : at' <= 140737488355328) : CallA prog G 65 [str s, wint (at' : Int)] T fun v T' es => v = .tu [wint ((dec (s.drop at')).1 : Int), wint ((dec (s.drop at')).2 : Int)] /\ T' = T /\ es = [] := by
 refine CallA.wfs fun wf => ?_
 have wt := wf.t
 have hsz := ba_size s
 rw [show str s = .p (.string (ba s)) from rfl]
 by_cases hat : s.length <= at'
 . have hat' : ((s.length : Int) <= (at' : Int)) = True := eq_true (by omega)
   rw [List.drop_eq_nil_of_le hat]
   refine CallA.eV 10 func65 ntmps65 results65 ?_
   simp -dsimp +decide only [vy, vz, vze, vr, ty, en, ↓reduceIte, Nat.reduceSub, Nat.reduceAdd, Nat.reduceMul, Nat.reduceLT, Int.reduceAdd, Int.reduceSub, Int.reduceToNat, ci]
   simp -dsimp +decide (disch := omega) only [vy, vz, vze, vr, ty, en, ↓reduceIte, Nat.reduceSub, Nat.reduceAdd, Nat.reduceMul, Nat.reduceLT, Int.reduceAdd, Int.reduceSub, Int.reduceToNat, ci, vi, getO_i, vt, hsz, hat', vres, vone]
   exact Vw.done ⟨rfl, rfl, rfl⟩
 have hat' : ((s.length : Int) <= (at' : Int)) = False := eq_false (by omega)
 obtain ⟨a, r, hr⟩ : ∃ a r, s.drop at' = a :: r := ⟨s[at']'(by omega), s.drop (at' + 1), List.drop_eq_getElem_cons (by omega)⟩
 have hga : (ba s)[at']? = some a := by
  rw [ba_get]
  have := congrArg (fun l => l[0]?) hr
  simp only [List.getElem?_drop, Nat.add_zero] at this
  exact this
 have hlr : r.length + 1 = s.length - at' := by have := congrArg List.length hr; rw [List.length_drop, List.length_cons] at this; omega
 have hgr : ∀ k x, r[k]? = some x -> (ba s)[at' + (k + 1)]? = some x := fun k x h => by
  rw [ba_get]
  have := congrArg (fun l => l[k + 1]?) hr
  simp only [List.getElem?_drop, List.getElem?_cons_succ] at this
  rw [this, h]
 have ha8 := a.toNat_lt
 rw [hr]
 have hp64 : ∀ k : Nat, (64 : Nat) ^ (k + 1) = 64 * 64 ^ k := fun k => by rw [Nat.pow_succ, Nat.mul_comm]
 obtain ⟨D, hD⟩ : ∃ D, dec (a :: r) = D := ⟨_, rfl⟩
 rw [hD]
 have h0a : (0 : Int) <= (at' : Int) := by omega
 refine CallA.enterZ 10 func65 ntmps65 (congrArg Array.toList results65) rfl ⟨by simp, by simp⟩ (by kernel_rfl) ?_
 refine SemA.cutAt [] (fun s' : Nat × Nat => [(0, .p (.string (ba s))), (1, wint (at' : Int)), (6, wint (s'.2 : Int)), (7, wint (s'.1 : Int))]) (fun _ => T) (fun s' => 2 <= s'.1 /\ s'.1 <= 4 /\ s'.2 < 32 /\ s'.1 - 1 <= r.length /\ D = decC s'.1 s'.2 r) [] 6 rfl (by kernel_rfl) ?_ ?_
 . by_cases h1 : a.toNat < 128
   . have h1' : ((a.toNat : Int) < 128) = True := eq_true (by omega)
     rw [dec_one r h1] at hD
     simp -dsimp +decide (disch := omega) only [vy, vz, vze, vr, ty, en, ↓reduceIte, Nat.reduceSub, Nat.reduceAdd, Nat.reduceMul, Nat.reduceLT, Int.reduceAdd, Int.reduceSub, Int.reduceToNat, ci, vi, getO_i, vt, hsz, hat', hga, h1', vres, vone, Int.toNat_natCast]
     exact ⟨h0a, Vw.done ⟨by rw [<- hD]; rfl, rfl, rfl⟩⟩
   have h1' : ((a.toNat : Int) < 128) = False := eq_false (by omega)
   by_cases h0 : (0x80 <= a.toNat /\ a.toNat < 0xc0) ∨ 0xf8 <= a.toNat
   . rw [dec_0 r h0] at hD
     rcases h0 with h0 | h0
     . have g1 : ((192 : Int) <= (a.toNat : Int)) = False := eq_false (by omega)
       have g2 : ((224 : Int) <= (a.toNat : Int)) = False := eq_false (by omega)
       have g3 : ((240 : Int) <= (a.toNat : Int)) = False := eq_false (by omega)
       simp -dsimp +decide (disch := omega) only [vy, vz, vze, vr, ty, en, ↓reduceIte, Nat.reduceSub, Nat.reduceAdd, Nat.reduceMul, Nat.reduceLT, Int.reduceAdd, Int.reduceSub, Int.reduceToNat, ci, vi, getO_i, vt, hsz, hat', hga, h1', g1, g2, g3, vres, vone, Int.toNat_natCast]
       exact ⟨h0a, Vw.done ⟨by rw [<- hD]; rfl, rfl, rfl⟩⟩
     . have g1 : ((192 : Int) <= (a.toNat : Int)) = True := eq_true (by omega)
       have g2 : ((224 : Int) <= (a.toNat : Int)) = True := eq_true (by omega)
       have g3 : ((240 : Int) <= (a.toNat : Int)) = True := eq_true (by omega)
       have g4 : ((a.toNat : Int) < 224) = False := eq_false (by omega)
       have g5 : ((a.toNat : Int) < 240) = False := eq_false (by omega)
       have g6 : ((a.toNat : Int) < 248) = False := eq_false (by omega)
       simp -dsimp +decide (disch := omega) only [vy, vz, vze, vr, ty, en, ↓reduceIte, Nat.reduceSub, Nat.reduceAdd, Nat.reduceMul, Nat.reduceLT, Int.reduceAdd, Int.reduceSub, Int.reduceToNat, ci, vi, getO_i, vt, hsz, hat', hga, h1', g1, g2, g3, g4, g5, g6, vres, vone, Int.toNat_natCast]
       exact ⟨h0a, Vw.done ⟨by rw [<- hD]; rfl, rfl, rfl⟩⟩
   have hm1 : Int.tmod (a.toNat : Int) 32 = ((a.toNat % 32 : Nat) : Int) := rfl
   have hm2 : Int.tmod (a.toNat : Int) 16 = ((a.toNat % 16 : Nat) : Int) := rfl
   have hm3 : Int.tmod (a.toNat : Int) 8 = ((a.toNat % 8 : Nat) : Int) := rfl
   have hcls : (192 <= a.toNat /\ a.toNat < 224) ∨ (224 <= a.toNat /\ a.toNat < 240) ∨ (240 <= a.toNat /\ a.toNat < 248) := by omega
   have fin : ∀ n c0 : Nat, 2 <= n -> n <= 4 -> c0 < 32 -> D = decC n c0 r -> (((s.length : Int) - (at' : Int) < (n : Int)) = True /\ D = (0, 0)) ∨ (((s.length : Int) - (at' : Int) < (n : Int)) = False /\ n - 1 <= r.length) := fun n c0 h2 h4 hc hd => by
    by_cases hl : s.length - at' < n
    . exact .inl ⟨eq_true (by omega), by rw [hd]; exact decC_short (by omega)⟩
    . exact .inr ⟨eq_false (by omega), by omega⟩
   rcases hcls with ⟨l1, l2⟩ | ⟨l1, l2⟩ | ⟨l1, l2⟩
   . have g1 : ((192 : Int) <= (a.toNat : Int)) = True := eq_true (by omega)
     have g2 : ((a.toNat : Int) < 224) = True := eq_true (by omega)
     rw [dec_2 r l1 l2] at hD
     have := fin 2 _ (by omega) (by omega) (by omega) hD.symm
     rcases this with ⟨f1, f2⟩ | ⟨f1, f2⟩
     . have f1 : ((s.length : Int) - (at' : Int) < 2) = True := f1
       simp -dsimp +decide (disch := omega) only [vy, vz, vze, vr, ty, en, ↓reduceIte, Nat.reduceSub, Nat.reduceAdd, Nat.reduceMul, Nat.reduceLT, Int.reduceAdd, Int.reduceSub, Int.reduceToNat, ci, vi, getO_i, vt, hsz, hat', hga, h1', g1, g2, hm1, f1, vres, vone, Int.toNat_natCast]
       exact ⟨h0a, Vw.done ⟨by rw [f2]; rfl, rfl, rfl⟩⟩
     . have f1 : ((s.length : Int) - (at' : Int) < 2) = False := f1
       simp -dsimp +decide (disch := omega) only [vy, vz, vze, vr, ty, en, ↓reduceIte, Nat.reduceSub, Nat.reduceAdd, Nat.reduceMul, Nat.reduceLT, Int.reduceAdd, Int.reduceSub, Int.reduceToNat, ci, vi, getO_i, vt, hsz, hat', hga, h1', g1, g2, hm1, f1, vres, vone, Int.toNat_natCast]
       exact ⟨h0a, ⟨(2, a.toNat % 32), ⟨by dsimp only; omega, by dsimp only; omega, by dsimp only; omega, f2, hD.symm⟩, by first | rfl | exact ⟨rfl, rfl⟩⟩⟩
   . have g1 : ((192 : Int) <= (a.toNat : Int)) = True := eq_true (by omega)
     have g2 : ((a.toNat : Int) < 224) = False := eq_false (by omega)
     have g3 : ((224 : Int) <= (a.toNat : Int)) = True := eq_true (by omega)
     have g4 : ((a.toNat : Int) < 240) = True := eq_true (by omega)
     rw [dec_3 r l1 l2] at hD
     have := fin 3 _ (by omega) (by omega) (by omega) hD.symm
     rcases this with ⟨f1, f2⟩ | ⟨f1, f2⟩
     . have f1 : ((s.length : Int) - (at' : Int) < 3) = True := f1
       simp -dsimp +decide (disch := omega) only [vy, vz, vze, vr, ty, en, ↓reduceIte, Nat.reduceSub, Nat.reduceAdd, Nat.reduceMul, Nat.reduceLT, Int.reduceAdd, Int.reduceSub, Int.reduceToNat, ci, vi, getO_i, vt, hsz, hat', hga, h1', g1, g2, g3, g4, hm2, f1, vres, vone, Int.toNat_natCast]
       exact ⟨h0a, Vw.done ⟨by rw [f2]; rfl, rfl, rfl⟩⟩
     . have f1 : ((s.length : Int) - (at' : Int) < 3) = False := f1
       simp -dsimp +decide (disch := omega) only [vy, vz, vze, vr, ty, en, ↓reduceIte, Nat.reduceSub, Nat.reduceAdd, Nat.reduceMul, Nat.reduceLT, Int.reduceAdd, Int.reduceSub, Int.reduceToNat, ci, vi, getO_i, vt, hsz, hat', hga, h1', g1, g2, g3, g4, hm2, f1, vres, vone, Int.toNat_natCast]
       exact ⟨h0a, ⟨(3, a.toNat % 16), ⟨by dsimp only; omega, by dsimp only; omega, by dsimp only; omega, f2, hD.symm⟩, by first | rfl | exact ⟨rfl, rfl⟩⟩⟩
   . have g1 : ((192 : Int) <= (a.toNat : Int)) = True := eq_true (by omega)
     have g2 : ((a.toNat : Int) < 224) = False := eq_false (by omega)
     have g3 : ((224 : Int) <= (a.toNat : Int)) = True := eq_true (by omega)
     have g4 : ((a.toNat : Int) < 240) = False := eq_false (by omega)
     have g5 : ((240 : Int) <= (a.toNat : Int)) = True := eq_true (by omega)
     have g6 : ((a.toNat : Int) < 248) = True := eq_true (by omega)
     rw [dec_4 r l1 l2] at hD
     have := fin 4 _ (by omega) (by omega) (by omega) hD.symm
     rcases this with ⟨f1, f2⟩ | ⟨f1, f2⟩
     . have f1 : ((s.length : Int) - (at' : Int) < 4) = True := f1
       simp -dsimp +decide (disch := omega) only [vy, vz, vze, vr, ty, en, ↓reduceIte, Nat.reduceSub, Nat.reduceAdd, Nat.reduceMul, Nat.reduceLT, Int.reduceAdd, Int.reduceSub, Int.reduceToNat, ci, vi, getO_i, vt, hsz, hat', hga, h1', g1, g2, g3, g4, g5, g6, hm3, f1, vres, vone, Int.toNat_natCast]
       exact ⟨h0a, Vw.done ⟨by rw [f2]; rfl, rfl, rfl⟩⟩
     . have f1 : ((s.length : Int) - (at' : Int) < 4) = False := f1
       simp -dsimp +decide (disch := omega) only [vy, vz, vze, vr, ty, en, ↓reduceIte, Nat.reduceSub, Nat.reduceAdd, Nat.reduceMul, Nat.reduceLT, Int.reduceAdd, Int.reduceSub, Int.reduceToNat, ci, vi, getO_i, vt, hsz, hat', hga, h1', g1, g2, g3, g4, g5, g6, hm3, f1, vres, vone, Int.toNat_natCast]
       exact ⟨h0a, ⟨(4, a.toNat % 8), ⟨by dsimp only; omega, by dsimp only; omega, by dsimp only; omega, f2, hD.symm⟩, by first | rfl | exact ⟨rfl, rfl⟩⟩⟩
 . rintro ⟨n, c0⟩ g tmp ⟨hn2, hn4, hc0, hnr, hd⟩
   dsimp only at hn2 hn4 hc0 hnr hd
   refine SemA.o ?_
   simp -dsimp +decide (disch := omega) only [vy, vz, vze, vr, ty, en, ↓reduceIte, Nat.reduceSub, Nat.reduceAdd, Nat.reduceMul, Nat.reduceLT, Int.reduceAdd, Int.reduceSub, Int.reduceToNat, ci, vi, getO_i, vt]
   refine SemA.loopE (fun q : Nat × Nat => [(0, .p (.string (ba s))), (1, wint (at' : Int)), (6, wint (q.2 : Int)), (7, wint (n : Int)), (8, wint ((q.1 + 1 : Nat) : Int))]) (fun _ => T)
    (fun q => q.1 <= n - 1 /\ q.2 < 32 * 64 ^ q.1 /\ cont c0 r (n - 1) = cont q.2 (r.drop q.1) (n - 1 - q.1)) (fun q => n - q.1) (0, c0) [] 1
    (fun d : Nat => [(6, wint (d : Int)), (7, wint (n : Int))]) (fun _ => T) (fun d => d < 4294967296 /\ cont c0 r (n - 1) = some d) ⟨by omega, by simpa using hc0, rfl⟩ (by (simp -dsimp +decide (disch := omega) only [vy, vz, vze, vr, ty, en, ↓reduceIte, Nat.reduceSub, Nat.reduceAdd, Nat.reduceMul, Nat.reduceLT, Int.reduceAdd, Int.reduceSub, Int.reduceToNat, ci, vi, getO_i]); first | rfl | done) rfl (by simp) ?_ ?_
   . rintro ⟨i, c⟩ g ⟨hi, hc, hct⟩
     dsimp only at hi hc hct
     have hc4 : c < 4294967296 := by
      have : i <= 3 := by omega
      have : (64 : Nat) ^ i <= 64 ^ 3 := Nat.pow_le_pow_right (by decide) this
      have h3 : (64 : Nat) ^ 3 = 262144 := rfl
      omega
     refine SemA.o ?_
     by_cases hlt : i < n - 1
     . have hlt' : (((i + 1 : Nat) : Int) < (n : Int)) = True := eq_true (by omega)
       obtain ⟨x, hx⟩ : ∃ x, r[i]? = some x := ⟨r[i]'(by omega), by simp⟩
       have hgx := hgr i x hx
       have hx8 := x.toNat_lt
       have hdr : r.drop i = x :: r.drop (i + 1) := by obtain ⟨h1, rfl⟩ := List.getElem?_eq_some_iff.1 hx; exact List.drop_eq_getElem_cons h1
       rw [hdr, show n - 1 - i = (n - 1 - (i + 1)) + 1 by omega, cont] at hct
       have hcst : ((at' : Int) + ((i + 1 : Nat) : Int)).toNat = at' + (i + 1) := by omega
       have hmx : Int.tmod (x.toNat : Int) 64 = ((x.toNat % 64 : Nat) : Int) := rfl
       by_cases b1 : x.toNat < 128
       . have b1' : ((x.toNat : Int) < 128) = True := eq_true (by omega)
         have hC : isC x = false := decide_eq_false (by omega)
         rw [hC] at hct
         simp -dsimp +decide (disch := omega) only [vy, vz, vze, vr, ty, en, ↓reduceIte, Nat.reduceSub, Nat.reduceAdd, Nat.reduceMul, Nat.reduceLT, Int.reduceAdd, Int.reduceSub, Int.reduceToNat, ci, vi, getO_i, vt, hsz, hlt', hcst, hgx, b1', vres, vone]
         exact ⟨by omega, Vw.done ⟨by rw [hd, decC, hct]; rfl, rfl, rfl⟩⟩
       have b1' : ((x.toNat : Int) < 128) = False := eq_false (by omega)
       by_cases b2 : 192 <= x.toNat
       . have b2' : ((192 : Int) <= (x.toNat : Int)) = True := eq_true (by omega)
         have hC : isC x = false := decide_eq_false (by omega)
         rw [hC] at hct
         simp -dsimp +decide (disch := omega) only [vy, vz, vze, vr, ty, en, ↓reduceIte, Nat.reduceSub, Nat.reduceAdd, Nat.reduceMul, Nat.reduceLT, Int.reduceAdd, Int.reduceSub, Int.reduceToNat, ci, vi, getO_i, vt, hsz, hlt', hcst, hgx, b1', b2', vres, vone]
         exact ⟨by omega, Vw.done ⟨by rw [hd, decC, hct]; rfl, rfl, rfl⟩⟩
       have b2' : ((192 : Int) <= (x.toNat : Int)) = False := eq_false (by omega)
       have hC : isC x = true := decide_eq_true (by omega)
       rw [hC, if_pos rfl] at hct
       simp -dsimp +decide (disch := omega) only [vy, vz, vze, vr, ty, en, ↓reduceIte, Nat.reduceSub, Nat.reduceAdd, Nat.reduceMul, Nat.reduceLT, Int.reduceAdd, Int.reduceSub, Int.reduceToNat, ci, vi, getO_i, vt, hsz, hlt', hcst, hgx, b1', b2', hmx, vres, vone]
       refine ⟨by omega, (i + 1, 64 * c + x.toNat % 64), ⟨⟨by dsimp only; omega, ?_, hct⟩, by dsimp only; omega⟩, ?_⟩
       . have := hp64 i
         show 64 * c + x.toNat % 64 < 32 * 64 ^ (i + 1)
         rw [this]; omega
       . dsimp only
         exact ⟨by congr 2, by congr 2⟩
     . have hlt' : (((i + 1 : Nat) : Int) < (n : Int)) = False := eq_false (by omega)
       rw [show n - 1 - i = 0 by omega] at hct
       have hct : cont c0 r (n - 1) = some c := by rw [hct]; cases r.drop i <;> rfl
       simp -dsimp +decide (disch := omega) only [vy, vz, vze, vr, ty, en, ↓reduceIte, Nat.reduceSub, Nat.reduceAdd, Nat.reduceMul, Nat.reduceLT, Int.reduceAdd, Int.reduceSub, Int.reduceToNat, ci, vi, getO_i, vt, hsz, hlt']
       exact ⟨c, ⟨hc4, hct⟩, rfl⟩
   . rintro d g tmp ⟨hd4, hcd⟩
     have hDc : D = chk d n := by rw [hd, decC, hcd]
     simp -dsimp +decide (disch := omega) only [vy, vz, vze, vr, ty, en, ↓reduceIte, Nat.reduceSub, Nat.reduceAdd, Nat.reduceMul, Nat.reduceLT, Int.reduceAdd, Int.reduceSub, Int.reduceToNat, ci, vi, getO_i, vt]
     refine (bytes06_ok hd4).det' ?_
     by_cases he : (enc d).length = n
     . have he' : (((enc d).length : Int) = (n : Int)) = True := eq_true (by omega)
       rw [chk, if_pos he] at hDc
       simp -dsimp +decide (disch := omega) only [vy, vz, vze, vr, ty, en, ↓reduceIte, Nat.reduceSub, Nat.reduceAdd, Nat.reduceMul, Nat.reduceLT, Int.reduceAdd, Int.reduceSub, Int.reduceToNat, ci, vi, getO_i, vt, vbl, he', vres, vone]
       exact Vw.done ⟨by rw [hDc]; rfl, rfl, rfl⟩
     . have he' : (((enc d).length : Int) = (n : Int)) = False := eq_false (by omega)
       rw [chk, if_neg he] at hDc
       simp -dsimp +decide (disch := omega) only [vy, vz, vze, vr, ty, en, ↓reduceIte, Nat.reduceSub, Nat.reduceAdd, Nat.reduceMul, Nat.reduceLT, Int.reduceAdd, Int.reduceSub, Int.reduceToNat, ci, vi, getO_i, vt, vbl, he', vres, vone]
       exact Vw.done ⟨by rw [hDc]; rfl, rfl, rfl⟩
theorem right06_ok {T : Tbl} {s : B} (hs : s.length <= 140737488355328) : CallA prog G 43 [str s] T fun v T' es => (∃ b : Bool, v = .p (.bool b) /\ (b = true ↔ Valid s)) /\ T' = T /\ es = [] := by
 refine CallA.wfs fun wf => ?_
 have wt := wf.t
 have hsz := ba_size s
 have hR := fun U a h => rune06_ok (T := U) (s := s) (at' := a) hs h
 rw [show str s = .p (.string (ba s)) from rfl] at hR ⊢
 refine CallA.eV 6 func43 ntmps43 results43 ?_
 simp -dsimp +decide only [vy, vz, vze, vr, ty, en, ↓reduceIte, Nat.reduceSub, Nat.reduceAdd, Nat.reduceMul, Nat.reduceLT, Int.reduceAdd, Int.reduceSub, Int.reduceToNat, ci]
 refine SemA.loopE (fun i : Nat => [(0, .p (.string (ba s))), (3, wint (i : Int))]) (fun _ => T) (fun i => i <= s.length /\ (Valid s ↔ Valid (s.drop i))) (fun i => s.length - i) 0 [] 0
  (fun _ : Unit => []) (fun _ => T) (fun _ => Valid s) ⟨by omega, Iff.rfl⟩ (by (simp -dsimp +decide (disch := omega) only [vy, vz, vze, vr, ty, en, ↓reduceIte, Nat.reduceSub, Nat.reduceAdd, Nat.reduceMul, Nat.reduceLT, Int.reduceAdd, Int.reduceSub, Int.reduceToNat, ci, vi, getO_i]); first | rfl | done) rfl (by simp) ?_ ?_
 . rintro i g ⟨hi, hv⟩
   refine SemA.o ?_
   by_cases hlt : i < s.length
   . have hlt' : ((i : Int) < (s.length : Int)) = True := eq_true (by omega)
     have hne : s.drop i ≠ [] := fun h => by have := congrArg List.length h; rw [List.length_drop] at this; simp at this; omega
     have hst := Valid_step hne
     have hle := dec_le (s.drop i)
     rw [List.length_drop] at hle
     rw [List.drop_drop] at hst
     simp -dsimp +decide (disch := omega) only [vy, vz, vze, vr, ty, en, ↓reduceIte, Nat.reduceSub, Nat.reduceAdd, Nat.reduceMul, Nat.reduceLT, Int.reduceAdd, Int.reduceSub, Int.reduceToNat, ci, vi, getO_i, vt, hsz, hlt']
     refine (hR _ i (by omega)).det' ?_
     generalize dec (s.drop i) = D at hst hle ⊢
     obtain ⟨c, n⟩ := D
     dsimp only at hst hle ⊢
     by_cases hn : n = 0
     . have hn' : ((n : Int) = 0) = True := eq_true (by omega)
       simp -dsimp +decide (disch := omega) only [vy, vz, vze, vr, ty, en, ↓reduceIte, Nat.reduceSub, Nat.reduceAdd, Nat.reduceMul, Nat.reduceLT, Int.reduceAdd, Int.reduceSub, Int.reduceToNat, ci, vi, getO_i, vt, hn']
       exact Vw.done ⟨⟨false, rfl, ⟨fun h => (by cases h), fun h => by have := (hst.1 (hv.1 h)).1; omega⟩⟩, rfl, rfl⟩
     . have hn' : ((n : Int) = 0) = False := eq_false (by omega)
       simp -dsimp +decide (disch := omega) only [vy, vz, vze, vr, ty, en, ↓reduceIte, Nat.reduceSub, Nat.reduceAdd, Nat.reduceMul, Nat.reduceLT, Int.reduceAdd, Int.reduceSub, Int.reduceToNat, ci, vi, getO_i, vt, hn']
       exact ⟨i + n, ⟨⟨by omega, hv.trans (hst.trans ⟨fun h => h.2, fun h => ⟨by omega, h⟩⟩)⟩, by omega⟩, rfl⟩
   . have hlt' : ((i : Int) < (s.length : Int)) = False := eq_false (by omega)
     simp -dsimp +decide (disch := omega) only [vy, vz, vze, vr, ty, en, ↓reduceIte, Nat.reduceSub, Nat.reduceAdd, Nat.reduceMul, Nat.reduceLT, Int.reduceAdd, Int.reduceSub, Int.reduceToNat, ci, vi, getO_i, vt, hsz, hlt']
     exact ⟨(), hv.2 (by rw [List.drop_eq_nil_of_le (by omega)]; exact .nil)⟩
 . rintro _ g tmp hv
   simp -dsimp +decide (disch := omega) only [vy, vz, vze, vr, ty, en, ↓reduceIte, Nat.reduceSub, Nat.reduceAdd, Nat.reduceMul, Nat.reduceLT, Int.reduceAdd, Int.reduceSub, Int.reduceToNat, ci, vi, getO_i, vt]
   exact Vw.done ⟨⟨true, rfl, ⟨fun _ => hv, fun _ => rfl⟩⟩, rfl, rfl⟩
theorem has06_ok {T : Tbl} {a : AV} {ns : List B} {s : B} (hl : ns.length <= 140737488355328) (ha : Sl T 1 a (ns.map str) ns.length) : CallA prog G 44 [a, str s] T fun v T' es => (∃ b : Bool, v = .p (.bool b) /\ (b = true ↔ s ∈ ns)) /\ T' = T /\ es = [] := by
 refine CallA.wfs fun wf => ?_
 have wt := wf.t
 have hr := Sl.rules ha (by decide)
 have hld := Sl.loads ha (P := prog) (t := 9) (by (simp -dsimp +decide only [vy, vz, vze, vr, ty, en, ↓reduceIte, Nat.reduceSub, Nat.reduceAdd, Nat.reduceMul, Nat.reduceLT, Int.reduceAdd, Int.reduceSub, Int.reduceToNat, ci]))
 rw [show str s = .p (.string (ba s)) from rfl]
 refine CallA.eV 6 func44 ntmps44 results44 ?_
 simp -dsimp +decide only [vy, vz, vze, vr, ty, en, ↓reduceIte, Nat.reduceSub, Nat.reduceAdd, Nat.reduceMul, Nat.reduceLT, Int.reduceAdd, Int.reduceSub, Int.reduceToNat, ci]
 refine SemA.loopE (fun i : Nat => [(0, a), (1, .p (.string (ba s))), (5, wint (i : Int))]) (fun _ => T) (fun i => i <= ns.length /\ s ∉ ns.take i) (fun i => ns.length - i) 0 [] 0
  (fun _ : Unit => []) (fun _ => T) (fun _ => s ∉ ns) ⟨by omega, by simp⟩ (by (simp -dsimp +decide (disch := omega) only [vy, vz, vze, vr, ty, en, ↓reduceIte, Nat.reduceSub, Nat.reduceAdd, Nat.reduceMul, Nat.reduceLT, Int.reduceAdd, Int.reduceSub, Int.reduceToNat, ci, vi, getO_i]); first | rfl | done) rfl (by simp) ?_ ?_
 . rintro i g ⟨hi, hv⟩
   refine SemA.o ?_
   by_cases hlt : i < ns.length
   . have hlt' : ((i : Int) < (ns.length : Int)) = True := eq_true (by omega)
     obtain ⟨y, hy⟩ : ∃ y, ns[i]? = some y := ⟨ns[i]'(by omega), by simp⟩
     have hge : (ns.map str)[i]? = some (.p (.string (ba y))) := by rw [List.getElem?_map, hy]; rfl
     have t3 : (ba y = ba s) = (y = s) := propext ba_inj
     by_cases e : y = s
     . have e' : (y = s) = True := eq_true e
       simp -dsimp +decide (disch := omega) only [vy, vz, vze, vr, ty, en, ↓reduceIte, Nat.reduceSub, Nat.reduceAdd, Nat.reduceMul, Nat.reduceLT, Int.reduceAdd, Int.reduceSub, Int.reduceToNat, ci, vi, getO_i, vt, hr, hld, hge, hlt', vstr, t3, e']
       exact ⟨by omega, Vw.done ⟨⟨true, rfl, ⟨fun _ => e ▸ List.mem_of_getElem? hy, fun _ => rfl⟩⟩, rfl, rfl⟩⟩
     . have e' : (y = s) = False := eq_false e
       simp -dsimp +decide (disch := omega) only [vy, vz, vze, vr, ty, en, ↓reduceIte, Nat.reduceSub, Nat.reduceAdd, Nat.reduceMul, Nat.reduceLT, Int.reduceAdd, Int.reduceSub, Int.reduceToNat, ci, vi, getO_i, vt, hr, hld, hge, hlt', vstr, t3, e']
       refine ⟨by omega, i + 1, ⟨⟨by omega, ?_⟩, by omega⟩, rfl⟩
       rw [List.take_add_one, hy]
       intro h
       rcases List.mem_append.1 h with h | h
       . exact hv h
       . exact e (by have h : s = y := by simpa using h
                     exact h.symm)
   . have hlt' : ((i : Int) < (ns.length : Int)) = False := eq_false (by omega)
     rw [List.take_of_length_le (by omega)] at hv
     simp -dsimp +decide (disch := omega) only [vy, vz, vze, vr, ty, en, ↓reduceIte, Nat.reduceSub, Nat.reduceAdd, Nat.reduceMul, Nat.reduceLT, Int.reduceAdd, Int.reduceSub, Int.reduceToNat, ci, vi, getO_i, vt, hr, hlt']
     exact ⟨(), hv⟩
 . rintro _ g tmp hv
   simp -dsimp +decide (disch := omega) only [vy, vz, vze, vr, ty, en, ↓reduceIte, Nat.reduceSub, Nat.reduceAdd, Nat.reduceMul, Nat.reduceLT, Int.reduceAdd, Int.reduceSub, Int.reduceToNat, ci, vi, getO_i, vt]
   exact Vw.done ⟨⟨false, rfl, ⟨fun h => (by cases h), fun h => absurd h hv⟩⟩, rfl, rfl⟩
end Go.Proofs.YtglpcedoongagaaGreatDoor
namespace Go.Proofs.YtglpcedoongagaaGreatDoor
open Go.E Go.Proofs.YtglpcedoongagaaGreatDoor.Tryz Go.Proofs.Tryz Go.J Go.Proofs
theorem bare_iff (k : UInt8) (z : Int) (s : B) (ks : List JV) (ns : List B) : bare (.mk k z s ks ns) ↔ ¬ ((k ≠ 3 /\ s ≠ []) ∨ (k ≠ 5 /\ 0 < ns.length) ∨ (¬ (k = 4 ∨ k = 5) /\ 0 < ks.length) ∨ (k ≠ 1 /\ k ≠ 2 /\ z ≠ 0)) /\ (k = 5 -> ns.length = ks.length) := by
 show ((z = 0 ∨ k = 1 ∨ k = 2) /\ (s = [] ∨ k = 3) /\ (ks = [] ∨ k = 4 ∨ k = 5) /\ ns.length = (if k = 5 then ks.length else 0)) ↔ _
 have hk : ks = [] ↔ ks.length = 0 := List.length_eq_zero_iff.symm
 rw [hk]
 generalize ks.length = m
 generalize ns.length = q
 by_cases hz : z = 0
 . by_cases hs : s = []
   . rcases kcase k with rfl | rfl | rfl | rfl | rfl | rfl | ⟨h0, h1, h2, h3, h4, h5⟩
     all_goals first | (simp [hz, hs]; done) | (simp [hz, hs]; omega) | (simp [hz, hs, h0, h1, h2, h3, h4, h5]; done) | (simp [hz, hs, h0, h1, h2, h3, h4, h5]; omega)
   . rcases kcase k with rfl | rfl | rfl | rfl | rfl | rfl | ⟨h0, h1, h2, h3, h4, h5⟩
     all_goals first | (simp [hz, hs]; done) | (simp [hz, hs]; omega) | (simp [hz, hs, h0, h1, h2, h3, h4, h5]; done) | (simp [hz, hs, h0, h1, h2, h3, h4, h5]; omega)
 . by_cases hs : s = []
   . rcases kcase k with rfl | rfl | rfl | rfl | rfl | rfl | ⟨h0, h1, h2, h3, h4, h5⟩
     all_goals first | (simp [hz, hs]; done) | (simp [hz, hs]; omega) | (simp [hz, hs, h0, h1, h2, h3, h4, h5]; done) | (simp [hz, hs, h0, h1, h2, h3, h4, h5]; omega)
   . rcases kcase k with rfl | rfl | rfl | rfl | rfl | rfl | ⟨h0, h1, h2, h3, h4, h5⟩
     all_goals first | (simp [hz, hs]; done) | (simp [hz, hs]; omega) | (simp [hz, hs, h0, h1, h2, h3, h4, h5]; done) | (simp [hz, hs, h0, h1, h2, h3, h4, h5]; omega)
theorem kfacts (k : UInt8) : ((k = 0) = True /\ (k = 1) = False /\ (k = 2) = False /\ (k = 3) = False /\ (k = 4) = False /\ (k = 5) = False /\ ((k.toNat : Int) < 4) = True) ∨ ((k = 0) = False /\ (k = 1) = True /\ (k = 2) = False /\ (k = 3) = False /\ (k = 4) = False /\ (k = 5) = False /\ ((k.toNat : Int) < 4) = True) ∨ ((k = 0) = False /\ (k = 1) = False /\ (k = 2) = True /\ (k = 3) = False /\ (k = 4) = False /\ (k = 5) = False /\ ((k.toNat : Int) < 4) = True) ∨ ((k = 0) = False /\ (k = 1) = False /\ (k = 2) = False /\ (k = 3) = True /\ (k = 4) = False /\ (k = 5) = False /\ ((k.toNat : Int) < 4) = True) ∨ ((k = 0) = False /\ (k = 1) = False /\ (k = 2) = False /\ (k = 3) = False /\ (k = 4) = True /\ (k = 5) = False /\ ((k.toNat : Int) < 4) = False) ∨ ((k = 0) = False /\ (k = 1) = False /\ (k = 2) = False /\ (k = 3) = False /\ (k = 4) = False /\ (k = 5) = True /\ ((k.toNat : Int) < 4) = False) ∨ ((k = 0) = False /\ (k = 1) = False /\ (k = 2) = False /\ (k = 3) = False /\ (k = 4) = False /\ (k = 5) = False /\ ((k.toNat : Int) < 4) = False) := by
 rcases kcase k with rfl | rfl | rfl | rfl | rfl | rfl | ⟨h0, h1, h2, h3, h4, h5⟩
 . exact .inl (by decide)
 . exact .inr (.inl (by decide))
 . exact .inr (.inr (.inl (by decide)))
 . exact .inr (.inr (.inr (.inl (by decide))))
 . exact .inr (.inr (.inr (.inr (.inl (by decide)))))
 . exact .inr (.inr (.inr (.inr (.inr (.inl (by decide))))))
 . refine .inr (.inr (.inr (.inr (.inr (.inr ⟨eq_false h0, eq_false h1, eq_false h2, eq_false h3, eq_false h4, eq_false h5, eq_false ?_⟩)))))
   intro h
   have : k.toNat = 0 ∨ k.toNat = 1 ∨ k.toNat = 2 ∨ k.toNat = 3 := by omega
   rcases this with e | e | e | e
   . exact h0 (UInt8.toNat_inj.1 e)
   . exact h1 (UInt8.toNat_inj.1 e)
   . exact h2 (UInt8.toNat_inj.1 e)
   . exact h3 (UInt8.toNat_inj.1 e)
def Bad (k : UInt8) (z : Int) (s : B) (ks : List JV) (ns : List B) : Prop := (k ≠ 3 /\ s ≠ []) ∨ (k ≠ 5 /\ (0 : Int) < (ns.length : Int)) ∨ ((k.toNat : Int) < 4 /\ (0 : Int) < (ks.length : Int)) ∨ (k ≠ 1 /\ k ≠ 2 /\ z ≠ 0)
def Odd (k : UInt8) : Prop := k ≠ 0 /\ k ≠ 1 /\ k ≠ 2 /\ k ≠ 3 /\ k ≠ 4 /\ k ≠ 5
theorem bare_bad (k : UInt8) (z : Int) (s : B) (ks : List JV) (ns : List B) : (bare (.mk k z s ks ns) -> ¬ Bad k z s ks ns /\ (k = 5 -> ns.length = ks.length)) /\ (¬ Bad k z s ks ns -> ¬ Odd k -> (k = 5 -> ns.length = ks.length) -> bare (.mk k z s ks ns)) := by
 have hb := bare_iff k z s ks ns
 have e1 : ((0 : Int) < (ns.length : Int)) = (0 < ns.length) := propext (by omega)
 have e2 : ((0 : Int) < (ks.length : Int)) = (0 < ks.length) := propext (by omega)
 unfold Bad Odd
 rw [e1, e2, hb]
 rcases kfacts k with ⟨q0, q1, q2, q3, q4, q5, ql⟩ | ⟨q0, q1, q2, q3, q4, q5, ql⟩ | ⟨q0, q1, q2, q3, q4, q5, ql⟩ | ⟨q0, q1, q2, q3, q4, q5, ql⟩ | ⟨q0, q1, q2, q3, q4, q5, ql⟩ | ⟨q0, q1, q2, q3, q4, q5, ql⟩ | ⟨q0, q1, q2, q3, q4, q5, ql⟩
 all_goals
  simp only [ne_eq, q0, q1, q2, q3, q4, q5, ql, not_true_eq_false, not_false_eq_true, false_and, true_and, and_true, false_or, or_false, or_true, true_or, and_false, false_implies, true_implies, implies_true]
  first
   | (intro h h'; apply h; rcases h' with h' | h' | h'; exact .inl h'; exact .inr (.inl h'); exact .inr (.inr (.inr h')))
   | (refine ⟨fun h => ?_, fun h => ?_⟩ <;> first | exact h | (intro h2; first | exact h | exact ⟨h, h2⟩) | (intro h h2; exact ⟨h, h2⟩) | (constructor <;> first | exact h.1 | exact h.2))
def May06Ok (n : Nat) : Prop := ∀ (T : Tbl) (v : JV), vsz v <= 1099511627776 -> CallA prog G 25 [.ag (vcs v), wint (n : Int)] T fun r T' es => (∃ b : Bool, r = .p (.bool b) /\ (b = true ↔ may n v)) /\ T' = T /\ es = []
theorem may06_step (n : Nat) (hn : n <= 100) (hrec : ∀ m, n = m + 1 -> May06Ok m) : May06Ok n := by
 intro T v hv
 refine CallA.wfs fun wf => ?_
 have wt := wf.t
 obtain ⟨k, z, s, ks, ns⟩ := v
 have hvz : vsz (.mk k z s ks ns) = 1 + s.length + nsum ns + vszL ks := by rw [vsz]; rfl
 have hkl := vszL_len ks
 have hnl : ns.length <= nsum ns := nsz_len ns
 have hr := Sl.rules (Es_vcs T ks).sl (by decide)
 have hld := (Es_vcs T ks).ld (P := prog) (t := 25) (by (simp -dsimp +decide only [vy, vz, vze, vr, ty, en, ↓reduceIte, Nat.reduceSub, Nat.reduceAdd, Nat.reduceMul, Nat.reduceLT, Int.reduceAdd, Int.reduceSub, Int.reduceToNat, ci])) (by (simp -dsimp +decide only [vy, vz, vze, vr, ty, en, ↓reduceIte, Nat.reduceSub, Nat.reduceAdd, Nat.reduceMul, Nat.reduceLT, Int.reduceAdd, Int.reduceSub, Int.reduceToNat, ci])) (by decide)
 have hldn := Sl.loads (Sl.vs (ns.map str) ns.length (by simp) : Sl T 1 _ _ _) (P := prog) (t := 9) (by (simp -dsimp +decide only [vy, vz, vze, vr, ty, en, ↓reduceIte, Nat.reduceSub, Nat.reduceAdd, Nat.reduceMul, Nat.reduceLT, Int.reduceAdd, Int.reduceSub, Int.reduceToNat, ci]))
 have hbs := ba_size s
 have hm := may_mk n k z s ks ns
 have hb := bare_iff k z s ks ns
 simp only [vcs, show ∀ l, str l = .p (.string (ba l)) from fun _ => rfl]
 have t0 : ((k.toNat : Int) = 0) = (k = 0) := propext (u8_num (n := 0) (by decide))
 have t1 : ((k.toNat : Int) = 1) = (k = 1) := propext (u8_num (n := 1) (by decide))
 have t2 : ((k.toNat : Int) = 2) = (k = 2) := propext (u8_num (n := 2) (by decide))
 have t3 : ((k.toNat : Int) = 3) = (k = 3) := propext (u8_num (n := 3) (by decide))
 have t4 : ((k.toNat : Int) = 4) = (k = 4) := propext (u8_num (n := 4) (by decide))
 have t5 : ((k.toNat : Int) = 5) = (k = 5) := propext (u8_num (n := 5) (by decide))
 have ts : (ba s = ⟨#[]⟩) = (s = []) := propext (ba_inj (b := []))
 have hbad := bare_bad k z s ks ns
 have no : ∀ h : Bad k z s ks ns, (∃ b : Bool, AV.p (.bool false) = .p (.bool b) /\ (b = true ↔ may n (.mk k z s ks ns))) := fun h => ⟨false, rfl, ⟨fun h => (by cases h), fun hh => absurd h (hbad.1 (hm.1 hh).1).1⟩⟩
 refine CallA.enterZ 74 func25 ntmps25 (congrArg Array.toList results25) rfl ⟨by simp, by simp⟩ (by kernel_rfl) ?_
 refine SemA.cutAt [] (fun _ : Unit => [(1, wint (n : Int)), (2, .ptr T.length 0)]) (fun _ => T ++ [.cells 25 [.p (.int .u8 (k.toNat : Int)), .p (.int .i64 z), .p (.string (ba s)), .vs (vcsL ks) ks.length, .vs (ns.map str) ns.length]]) (fun _ => ¬ Bad k z s ks ns) [] 2 rfl (by kernel_rfl) ?_ ?_
 . rcases kfacts k with ⟨q0, q1, q2, q3, q4, q5, ql⟩ | ⟨q0, q1, q2, q3, q4, q5, ql⟩ | ⟨q0, q1, q2, q3, q4, q5, ql⟩ | ⟨q0, q1, q2, q3, q4, q5, ql⟩ | ⟨q0, q1, q2, q3, q4, q5, ql⟩ | ⟨q0, q1, q2, q3, q4, q5, ql⟩ | ⟨q0, q1, q2, q3, q4, q5, ql⟩
   all_goals
    rcases Classical.propComplete (s = []) with hs | hs
   all_goals first
    | ((simp -dsimp +decide (disch := omega) only [vy, vz, vze, vr, ty, en, ↓reduceIte, Nat.reduceSub, Nat.reduceAdd, Nat.reduceMul, Nat.reduceLT, Int.reduceAdd, Int.reduceSub, Int.reduceToNat, ci, vi, getO_i, vt, gn0, vstr, t1, t2, t3, t4, t5, q0, q1, q2, q3, q4, q5, ql, ts, hs])
       exact Vw.cut ⟨no (.inl ⟨of_eq_false q3, of_eq_false hs⟩), rfl, rfl⟩)
    | (rcases Classical.propComplete ((0 : Int) < (ns.length : Int)) with hn | hn
       all_goals first
        | ((simp -dsimp +decide (disch := omega) only [vy, vz, vze, vr, ty, en, ↓reduceIte, Nat.reduceSub, Nat.reduceAdd, Nat.reduceMul, Nat.reduceLT, Int.reduceAdd, Int.reduceSub, Int.reduceToNat, ci, vi, getO_i, vt, gn0, vstr, t1, t2, t3, t4, t5, q0, q1, q2, q3, q4, q5, ql, ts, hs, hn])
           exact Vw.cut ⟨no (.inr (.inl ⟨of_eq_false q5, of_eq_true hn⟩)), rfl, rfl⟩)
        | (rcases Classical.propComplete ((0 : Int) < (ks.length : Int)) with hk | hk
           all_goals first
            | ((simp -dsimp +decide (disch := omega) only [vy, vz, vze, vr, ty, en, ↓reduceIte, Nat.reduceSub, Nat.reduceAdd, Nat.reduceMul, Nat.reduceLT, Int.reduceAdd, Int.reduceSub, Int.reduceToNat, ci, vi, getO_i, vt, gn0, vstr, t1, t2, t3, t4, t5, q0, q1, q2, q3, q4, q5, ql, ts, hs, hn, hk])
               exact Vw.cut ⟨no (.inr (.inr (.inl ⟨of_eq_true ql, of_eq_true hk⟩))), rfl, rfl⟩)
            | (rcases Classical.propComplete (z = 0) with hz | hz
               all_goals first
                | ((simp -dsimp +decide (disch := omega) only [vy, vz, vze, vr, ty, en, ↓reduceIte, Nat.reduceSub, Nat.reduceAdd, Nat.reduceMul, Nat.reduceLT, Int.reduceAdd, Int.reduceSub, Int.reduceToNat, ci, vi, getO_i, vt, gn0, vstr, t1, t2, t3, t4, t5, q0, q1, q2, q3, q4, q5, ql, ts, hs, hn, hk, hz])
                   exact Vw.cut ⟨no (.inr (.inr (.inr ⟨of_eq_false q1, of_eq_false q2, of_eq_false hz⟩))), rfl, rfl⟩)
                | ((simp -dsimp +decide (disch := omega) only [vy, vz, vze, vr, ty, en, ↓reduceIte, Nat.reduceSub, Nat.reduceAdd, Nat.reduceMul, Nat.reduceLT, Int.reduceAdd, Int.reduceSub, Int.reduceToNat, ci, vi, getO_i, vt, gn0, vstr, t1, t2, t3, t4, t5, q0, q1, q2, q3, q4, q5, ql, ts, hs, hn, hk, hz])
                   exact ⟨(), by simp only [Bad, ne_eq, q0, q1, q2, q3, q4, q5, ql, hs, hn, hk, hz, not_true_eq_false, not_false_eq_true, false_and, and_false, true_and, and_true, or_false, false_or, or_self]⟩))))
 . rintro _ g tmp hnb
   have hbare : ¬ Odd k -> (k = 5 -> ns.length = ks.length) -> bare (.mk k z s ks ns) := hbad.2 hnb
   have hmk : ∀ p : Prop, (∀ (hb : bare (.mk k z s ks ns)), (k = 0 ∨ k = 2 ∨ (k = 1 /\ (z = 0 ∨ z = 1)) ∨ (k = 3 /\ Valid s) ∨ ((k = 4 ∨ k = 5) /\ namesOk ns /\ 0 < n /\ ∀ x ∈ ks, may (n - 1) x)) ↔ p) -> bare (.mk k z s ks ns) -> (p ↔ may n (.mk k z s ks ns)) := fun p h hb => by rw [hm, h hb]; exact ⟨fun h => ⟨hb, h⟩, fun h => h.2⟩
   have okk : ∀ h : ¬ k = 5, k = 5 -> ns.length = ks.length := fun h h' => absurd h' h
   rcases kfacts k with ⟨q0, q1, q2, q3, q4, q5, ql⟩ | ⟨q0, q1, q2, q3, q4, q5, ql⟩ | ⟨q0, q1, q2, q3, q4, q5, ql⟩ | ⟨q0, q1, q2, q3, q4, q5, ql⟩ | hk4 | hk5 | ⟨q0, q1, q2, q3, q4, q5, ql⟩
   . have hb := hbare (fun h => h.1 (of_eq_true q0)) (okk (of_eq_false q5))
     refine SemA.o ?_
     simp -dsimp +decide (disch := omega) only [vy, vz, vze, vr, ty, en, ↓reduceIte, Nat.reduceSub, Nat.reduceAdd, Nat.reduceMul, Nat.reduceLT, Int.reduceAdd, Int.reduceSub, Int.reduceToNat, ci, vi, getO_i, vt, gn0, t0, t1, t2, t3, t4, t5, q0, q1, q2, q3, q4, q5]
     exact Vw.cut ⟨⟨true, rfl, by rw [<- hmk True (fun _ => ⟨fun _ => trivial, fun _ => .inl (of_eq_true q0)⟩) hb]; exact ⟨fun _ => trivial, fun _ => rfl⟩⟩, rfl, rfl⟩
   . have hb := hbare (fun h => h.2.1 (of_eq_true q1)) (okk (of_eq_false q5))
     have hmz := hmk (z = 0 ∨ z = 1) (fun _ => by simp only [q0, q1, q2, q3, q4, q5, false_or, or_false, true_and, false_and]) hb
     by_cases hz : z = 0
     . have hz' : (z = 0) = True := eq_true hz
       refine SemA.o ?_
       simp -dsimp +decide (disch := omega) only [vy, vz, vze, vr, ty, en, ↓reduceIte, Nat.reduceSub, Nat.reduceAdd, Nat.reduceMul, Nat.reduceLT, Int.reduceAdd, Int.reduceSub, Int.reduceToNat, ci, vi, getO_i, vt, gn0, t0, t1, t2, t3, t4, t5, q0, q1, q2, q3, q4, q5, hz']
       exact Vw.cut ⟨⟨true, rfl, by rw [<- hmz]; exact ⟨fun _ => .inl hz, fun _ => rfl⟩⟩, rfl, rfl⟩
     . have hz' : (z = 0) = False := eq_false hz
       refine SemA.o ?_
       simp -dsimp +decide (disch := omega) only [vy, vz, vze, vr, ty, en, ↓reduceIte, Nat.reduceSub, Nat.reduceAdd, Nat.reduceMul, Nat.reduceLT, Int.reduceAdd, Int.reduceSub, Int.reduceToNat, ci, vi, getO_i, vt, gn0, t0, t1, t2, t3, t4, t5, q0, q1, q2, q3, q4, q5, hz']
       exact Vw.cut ⟨⟨_, rfl, by rw [<- hmz, decide_eq_true_iff]; exact ⟨fun h => .inr h, fun h => h.resolve_left hz⟩⟩, rfl, rfl⟩
   . have hb := hbare (fun h => h.2.2.1 (of_eq_true q2)) (okk (of_eq_false q5))
     refine SemA.o ?_
     simp -dsimp +decide (disch := omega) only [vy, vz, vze, vr, ty, en, ↓reduceIte, Nat.reduceSub, Nat.reduceAdd, Nat.reduceMul, Nat.reduceLT, Int.reduceAdd, Int.reduceSub, Int.reduceToNat, ci, vi, getO_i, vt, gn0, t0, t1, t2, t3, t4, t5, q0, q1, q2, q3, q4, q5]
     exact Vw.cut ⟨⟨true, rfl, by rw [<- hmk True (fun _ => ⟨fun _ => trivial, fun _ => .inr (.inl (of_eq_true q2))⟩) hb]; exact ⟨fun _ => trivial, fun _ => rfl⟩⟩, rfl, rfl⟩
   . have hb := hbare (fun h => h.2.2.2.1 (of_eq_true q3)) (okk (of_eq_false q5))
     have hmz := hmk (Valid s) (fun _ => by simp only [q0, q1, q2, q3, q4, q5, false_or, or_false, true_and, false_and]) hb
     refine SemA.o ?_
     simp -dsimp +decide (disch := omega) only [vy, vz, vze, vr, ty, en, ↓reduceIte, Nat.reduceSub, Nat.reduceAdd, Nat.reduceMul, Nat.reduceLT, Int.reduceAdd, Int.reduceSub, Int.reduceToNat, ci, vi, getO_i, vt, gn0, t0, t1, t2, t3, t4, t5, q0, q1, q2, q3, q4, q5]
     refine (right06_ok (s := s) (T := _) (by omega)).mono ?_
     rintro r T' es ⟨⟨b, rfl, hb2⟩, rfl, rfl⟩
     simp -dsimp +decide (disch := omega) only [vy, vz, vze, vr, ty, en, ↓reduceIte, Nat.reduceSub, Nat.reduceAdd, Nat.reduceMul, Nat.reduceLT, Int.reduceAdd, Int.reduceSub, Int.reduceToNat, ci, vi, getO_i, vt]
     exact Vw.cut ⟨⟨b, rfl, hb2.trans hmz⟩, rfl, rfl⟩
   rotate_left 2
   . refine SemA.o ?_
     simp -dsimp +decide (disch := omega) only [vy, vz, vze, vr, ty, en, ↓reduceIte, Nat.reduceSub, Nat.reduceAdd, Nat.reduceMul, Nat.reduceLT, Int.reduceAdd, Int.reduceSub, Int.reduceToNat, ci, vi, getO_i, vt, gn0, t0, t1, t2, t3, t4, t5, q0, q1, q2, q3, q4, q5]
     exact Vw.cut ⟨⟨false, rfl, ⟨fun h => (by cases h), fun h => by have := (hm.1 h).2; simp only [q0, q1, q2, q3, q4, q5, false_or, or_false, false_and] at this⟩⟩, rfl, rfl⟩
   all_goals
    have h45 : k = 4 ∨ k = 5 := by first | exact .inl (of_eq_true hk4.2.2.2.2.1) | exact .inr (of_eq_true hk5.2.2.2.2.2.1)
    obtain ⟨q0, q1, q2, q3, q4, q5, ql⟩ := by first | exact hk4 | exact hk5
    have hno : ∀ h : ¬ (namesOk ns /\ 0 < n /\ (k = 5 -> ns.length = ks.length) /\ ∀ x ∈ ks, may (n - 1) x), (∃ b : Bool, AV.p (.bool false) = .p (.bool b) /\ (b = true ↔ may n (.mk k z s ks ns))) := fun h => ⟨false, rfl, ⟨fun h => (by cases h), fun hh => absurd ⟨((hm.1 hh).2.resolve_left (of_eq_false q0)|>.resolve_left (of_eq_false q2)|>.resolve_left (fun h => of_eq_false q1 h.1)|>.resolve_left (fun h => of_eq_false q3 h.1)).2.1, ((hm.1 hh).2.resolve_left (of_eq_false q0)|>.resolve_left (of_eq_false q2)|>.resolve_left (fun h => of_eq_false q1 h.1)|>.resolve_left (fun h => of_eq_false q3 h.1)).2.2.1, (hbad.1 (hm.1 hh).1).2, ((hm.1 hh).2.resolve_left (of_eq_false q0)|>.resolve_left (of_eq_false q2)|>.resolve_left (fun h => of_eq_false q1 h.1)|>.resolve_left (fun h => of_eq_false q3 h.1)).2.2.2⟩ h⟩⟩
    by_cases hn0 : n = 0
    . subst hn0
      refine SemA.o ?_
      simp -dsimp +decide (disch := omega) only [vy, vz, vze, vr, ty, en, ↓reduceIte, Nat.reduceSub, Nat.reduceAdd, Nat.reduceMul, Nat.reduceLT, Int.reduceAdd, Int.reduceSub, Int.reduceToNat, ci, vi, getO_i, vt, gn0, t0, t1, t2, t3, t4, t5, q0, q1, q2, q3, q4, q5]
      exact Vw.cut ⟨hno fun h => absurd h.2.1 (Nat.lt_irrefl 0), rfl, rfl⟩
    obtain ⟨m, rfl⟩ : ∃ m, n = m + 1 := ⟨n - 1, by omega⟩
    have hm0 : (((m + 1 : Nat) : Int) = 0) = False := eq_false (by omega)
    by_cases hlen : k = 5 -> ns.length = ks.length
    rotate_left
    . have hl' : ((ns.length : Int) = (ks.length : Int)) = False := eq_false fun h => hlen fun _ => by omega
      have h5 : k = 5 := Classical.byContradiction fun h => hlen fun h' => absurd h' h
      first
       | exact absurd h5 (of_eq_false q5)
       | (refine SemA.o ?_
          simp -dsimp +decide (disch := omega) only [vy, vz, vze, vr, ty, en, ↓reduceIte, Nat.reduceSub, Nat.reduceAdd, Nat.reduceMul, Nat.reduceLT, Int.reduceAdd, Int.reduceSub, Int.reduceToNat, ci, vi, getO_i, vt, gn0, t0, t1, t2, t3, t4, t5, q0, q1, q2, q3, q4, q5, hm0, hl']
          exact Vw.cut ⟨hno fun h => hlen h.2.2.1, rfl, rfl⟩)
    have hl' : ((ns.length : Int) = (ks.length : Int)) = (ns.length = ks.length) := propext (by omega)
    refine SemA.cutAt [] (fun _ : Unit => [(1, wint ((m + 1 : Nat) : Int)), (2, .ptr T.length 0)]) (fun _ => T ++ [.cells 25 [.p (.int .u8 (k.toNat : Int)), .p (.int .i64 z), .p (.string (ba s)), .vs (vcsL ks) ks.length, .vs (ns.map str) ns.length]]) (fun _ => True) [] 2 rfl (by kernel_rfl) ?_ ?_
    . first
       | ((simp -dsimp +decide (disch := omega) only [vy, vz, vze, vr, ty, en, ↓reduceIte, Nat.reduceSub, Nat.reduceAdd, Nat.reduceMul, Nat.reduceLT, Int.reduceAdd, Int.reduceSub, Int.reduceToNat, ci, vi, getO_i, vt, gn0, t0, t1, t2, t3, t4, t5, q0, q1, q2, q3, q4, q5, hm0])
          first | exact ⟨(), trivial⟩ | exact ⟨(), rfl⟩ | exact trivial)
       | (have hlx : (ns.length = ks.length) = True := eq_true (hlen (of_eq_true q5))
          simp -dsimp +decide (disch := omega) only [vy, vz, vze, vr, ty, en, ↓reduceIte, Nat.reduceSub, Nat.reduceAdd, Nat.reduceMul, Nat.reduceLT, Int.reduceAdd, Int.reduceSub, Int.reduceToNat, ci, vi, getO_i, vt, gn0, t0, t1, t2, t3, t4, t5, q0, q1, q2, q3, q4, q5, hm0, hl', hlx]
          first | done | exact ⟨(), trivial⟩ | exact ⟨(), rfl⟩ | exact trivial)
    rintro _ g tmp -
    refine SemA.o ?_
    simp -dsimp +decide (disch := omega) only [vy, vz, vze, vr, ty, en, ↓reduceIte, Nat.reduceSub, Nat.reduceAdd, Nat.reduceMul, Nat.reduceLT, Int.reduceAdd, Int.reduceSub, Int.reduceToNat, ci, vi, getO_i, vt]
    have hgU := fun l => gn0 T (.cells 25 [.p (.int .u8 (k.toNat : Int)), .p (.int .i64 z), .p (.string (ba s)), .vs (vcsL ks) ks.length, .vs (ns.map str) ns.length]) l
    obtain ⟨U, hU⟩ : ∃ U, U = T ++ [.cells 25 [.p (.int .u8 (k.toNat : Int)), .p (.int .i64 z), .p (.string (ba s)), .vs (vcsL ks) ks.length, .vs (ns.map str) ns.length]] := ⟨_, rfl⟩
    have u0 : U[T.length]? = some (.cells 25 [.p (.int .u8 (k.toNat : Int)), .p (.int .i64 z), .p (.string (ba s)), .vs (vcsL ks) ks.length, .vs (ns.map str) ns.length]) := by rw [hU]; exact gn0 _ _ _
    have hcutU : ∀ {K : AV -> Tbl -> Eff -> Prop} {v : AV}, K (v.wo fun i => decide (T.length <= i)) T [] -> Vw G T K v U [] := fun h => by
     rw [hU]; exact Vw.cut h
    simp only [<- hU]
    have hrn := Sl.rules (Sl.vs (ns.map str) ns.length (by simp) : Sl U 1 _ _ _) (by decide)
    have hldU := Sl.loads (Sl.vs (ns.map str) ns.length (by simp) : Sl U 1 _ _ _) (P := prog) (t := 9) (by (simp -dsimp +decide only [vy, vz, vze, vr, ty, en, ↓reduceIte, Nat.reduceSub, Nat.reduceAdd, Nat.reduceMul, Nat.reduceLT, Int.reduceAdd, Int.reduceSub, Int.reduceToNat, ci]))
    refine SemA.loopE (fun i : Nat => [(1, wint ((m + 1 : Nat) : Int)), (2, .ptr T.length 0), (5, wint (i : Int))]) (fun _ => U) (fun i => i <= ns.length /\ namesOk (ns.take i)) (fun i => ns.length - i) 0 [] 1
     (fun _ : Unit => [(1, wint ((m + 1 : Nat) : Int)), (2, .ptr T.length 0)]) (fun _ => U) (fun _ => namesOk ns) ⟨by omega, ⟨by simp, by simp⟩⟩ (by (simp -dsimp +decide (disch := omega) only [vy, vz, vze, vr, ty, en, ↓reduceIte, Nat.reduceSub, Nat.reduceAdd, Nat.reduceMul, Nat.reduceLT, Int.reduceAdd, Int.reduceSub, Int.reduceToNat, ci, vi, getO_i]); first | rfl | done) rfl (by simp) ?_ ?_
    . rintro i g ⟨hi, hok⟩
      refine SemA.o ?_
      by_cases hlt : i < ns.length
      rotate_left
      . have hlt' : ((i : Int) < (ns.length : Int)) = False := eq_false (by omega)
        rw [List.take_of_length_le (by omega)] at hok
        simp -dsimp +decide (disch := omega) only [vy, vz, vze, vr, ty, en, ↓reduceIte, Nat.reduceSub, Nat.reduceAdd, Nat.reduceMul, Nat.reduceLT, Int.reduceAdd, Int.reduceSub, Int.reduceToNat, ci, vi, getO_i, vt, u0, hlt']
        exact ⟨(), hok⟩
      have hlt' : ((i : Int) < (ns.length : Int)) = True := eq_true (by omega)
      obtain ⟨y, hy⟩ : ∃ y, ns[i]? = some y := ⟨ns[i]'(by omega), by simp⟩
      have hyl : y.length <= 140737488355328 := by have h := nsz_mem (List.mem_of_getElem? hy); have h2 : (List.map (fun x : List UInt8 => 1 + x.length) ns).sum = nsum ns := rfl; rw [h2] at h; omega
      have hge : (ns.map str)[i]? = some (.p (.string (ba y))) := by rw [List.getElem?_map, hy]; rfl
      have htk : ns.take (i + 1) = ns.take i ++ [y] := by rw [List.take_add_one, hy]; rfl
      have hpre : namesOk ns -> namesOk (ns.take (i + 1)) := fun h => ⟨fun x hx => h.1 x (List.mem_of_mem_take hx), h.2.sublist (List.take_sublist _ _)⟩
      have hR := fun V => right06_ok (T := V) (s := y) hyl
      have hsub : Sl U 1 (AV.sub 1 (.vs (ns.map str) ns.length) 0 i) ((ns.take i).map str) (ns.take i).length := by
       have := (Sl.vs (ns.map str) ns.length (by simp) : Sl U 1 _ _ _).sub (l := 0) (m := i) (by omega) hi
       rw [List.length_take, Nat.min_eq_left hi, List.map_take]
       simpa using this
      have hH := has06_ok (T := U) (s := y) (by rw [List.length_take]; omega) hsub
      rw [show str y = .p (.string (ba y)) from rfl] at hR hH
      simp -dsimp +decide (disch := omega) only [vy, vz, vze, vr, ty, en, ↓reduceIte, Nat.reduceSub, Nat.reduceAdd, Nat.reduceMul, Nat.reduceLT, Int.reduceAdd, Int.reduceSub, Int.reduceToNat, ci, vi, getO_i, vt, u0, hlt']
      refine SemA.drawS (.fl 0 (.fl 1 (.fl 2 (.fl 3 (.fl 4 (.sq 5 (.fl 6 (.fl 7 (.fl 8 (.fl 9 (.fl 10 (.fl 11 (.fl 12 (.fl 13 (.fl 14 (.fl 15 (.fl 16 (.sq 17 (.fl 18 .nil))))))))))))))))))) mixed (by kernel_rfl) ?_
      simp -dsimp +decide (disch := omega) only [vy, vz, vze, vr, ty, en, ↓reduceIte, Nat.reduceSub, Nat.reduceAdd, Nat.reduceMul, Nat.reduceLT, Int.reduceAdd, Int.reduceSub, Int.reduceToNat, ci, vi, getO_i, vt, u0, hldn, hge]
      refine ⟨⟨by omega, by omega, fun h => by rw [h] at hge; cases hge⟩, ?_⟩
      refine (hR _).mono ?_
      rintro r T' es ⟨⟨b1, rfl, hb1⟩, rfl, rfl⟩
      cases b1 with
      | false =>
        simp -dsimp +decide (disch := omega) only [vy, vz, vze, vr, ty, en, ↓reduceIte, Nat.reduceSub, Nat.reduceAdd, Nat.reduceMul, Nat.reduceLT, Int.reduceAdd, Int.reduceSub, Int.reduceToNat, ci, vi, getO_i, vt, u0]
        exact hcutU ⟨hno fun h => (by have := hb1.2 (h.1.1 y (List.mem_of_getElem? hy)); cases this), rfl, rfl⟩
      | true =>
        simp -dsimp +decide (disch := omega) only [vy, vz, vze, vr, ty, en, ↓reduceIte, Nat.reduceSub, Nat.reduceAdd, Nat.reduceMul, Nat.reduceLT, Int.reduceAdd, Int.reduceSub, Int.reduceToNat, ci, vi, getO_i, vt, u0, hrn, hldU, hge]
        refine ⟨by omega, ⟨by omega, by omega⟩, ⟨by omega, by omega⟩, ?_⟩
        refine hH.mono ?_
        rintro r T' es ⟨⟨b2, rfl, hb2⟩, rfl, rfl⟩
        cases b2 with
        | true =>
          simp -dsimp +decide (disch := omega) only [vy, vz, vze, vr, ty, en, ↓reduceIte, Nat.reduceSub, Nat.reduceAdd, Nat.reduceMul, Nat.reduceLT, Int.reduceAdd, Int.reduceSub, Int.reduceToNat, ci, vi, getO_i, vt]
          refine hcutU ⟨hno fun h => ?_, rfl, rfl⟩
          have := (hpre h.1).2
          rw [htk] at this
          exact (List.nodup_append.1 this).2.2 y (hb2.1 rfl) y (by simp) rfl
        | false =>
          simp -dsimp +decide (disch := omega) only [vy, vz, vze, vr, ty, en, ↓reduceIte, Nat.reduceSub, Nat.reduceAdd, Nat.reduceMul, Nat.reduceLT, Int.reduceAdd, Int.reduceSub, Int.reduceToNat, ci, vi, getO_i, vt]
          have hni : y ∉ ns.take i := fun h => by have := hb2.2 h; cases this
          refine ⟨i + 1, ⟨⟨by omega, ?_⟩, by omega⟩, rfl⟩
          rw [htk]
          refine ⟨fun x hx => ?_, List.nodup_append.2 ⟨hok.2, by simp, fun a ha b hb e => hni (List.mem_singleton.1 hb ▸ e ▸ ha)⟩⟩
          rcases List.mem_append.1 hx with hx | hx
          . exact hok.1 x hx
          . have : x = y := by simpa using hx
            subst this
            exact hb1.1 rfl
    . rintro _ g tmp hok
      simp -dsimp +decide (disch := omega) only [vy, vz, vze, vr, ty, en, ↓reduceIte, Nat.reduceSub, Nat.reduceAdd, Nat.reduceMul, Nat.reduceLT, Int.reduceAdd, Int.reduceSub, Int.reduceToNat, ci, vi, getO_i, vt]
      refine SemA.loopE (fun i : Nat => [(1, wint ((m + 1 : Nat) : Int)), (2, .ptr T.length 0), (6, wint (i : Int))]) (fun _ => U) (fun i => i <= ks.length /\ ∀ x ∈ ks.take i, may m x) (fun i => ks.length - i) 0 [] 3
       (fun _ : Unit => []) (fun _ => U) (fun _ => ∀ x ∈ ks, may m x) ⟨by omega, by simp⟩ (by (simp -dsimp +decide (disch := omega) only [vy, vz, vze, vr, ty, en, ↓reduceIte, Nat.reduceSub, Nat.reduceAdd, Nat.reduceMul, Nat.reduceLT, Int.reduceAdd, Int.reduceSub, Int.reduceToNat, ci, vi, getO_i]); first | rfl | done) rfl (by simp) ?_ ?_
      . rintro i g ⟨hi, hall⟩
        refine SemA.o ?_
        by_cases hlt : i < ks.length
        rotate_left
        . have hlt' : ((i : Int) < (ks.length : Int)) = False := eq_false (by omega)
          rw [List.take_of_length_le (by omega)] at hall
          simp -dsimp +decide (disch := omega) only [vy, vz, vze, vr, ty, en, ↓reduceIte, Nat.reduceSub, Nat.reduceAdd, Nat.reduceMul, Nat.reduceLT, Int.reduceAdd, Int.reduceSub, Int.reduceToNat, ci, vi, getO_i, vt, u0, hlt']
          exact ⟨(), hall⟩
        have hlt' : ((i : Int) < (ks.length : Int)) = True := eq_true (by omega)
        obtain ⟨x, hx⟩ : ∃ x, ks[i]? = some x := ⟨ks[i]'(by omega), by simp⟩
        have hxm := List.mem_of_getElem? hx
        have hc := fun V => hrec m rfl V x (by have := vszL_mem hxm; omega)
        have hatx : List.take 5 (List.drop (i * 5) (vcsL ks)) = vcs x := by rw [vcsL_eq]; exact flat_at (fun x _ => vcs_len x) hx
        have hfl : (vcsL ks).length = ks.length * 5 := by rw [vcsL_eq]; exact flat_len fun x _ => vcs_len x
        have hm1 : ((m + 1 : Nat) : Int) - 1 = (m : Int) := by omega
        have htk : ks.take (i + 1) = ks.take i ++ [x] := by rw [List.take_add_one, hx]; rfl
        simp -dsimp +decide (disch := omega) only [vy, vz, vze, vr, ty, en, ↓reduceIte, Nat.reduceSub, Nat.reduceAdd, Nat.reduceMul, Nat.reduceLT, Int.reduceAdd, Int.reduceSub, Int.reduceToNat, ci, vi, getO_i, vt, u0, hlt', hr, hld, hx, hm1]
        rw [hatx]
        refine ⟨⟨by omega, fun h => by rw [h] at hfl; simp at hfl; omega⟩, by omega, ?_⟩
        refine (hc _).mono ?_
        rintro r T' es ⟨⟨b, rfl, hb⟩, rfl, rfl⟩
        cases b with
        | false =>
          simp -dsimp +decide (disch := omega) only [vy, vz, vze, vr, ty, en, ↓reduceIte, Nat.reduceSub, Nat.reduceAdd, Nat.reduceMul, Nat.reduceLT, Int.reduceAdd, Int.reduceSub, Int.reduceToNat, ci, vi, getO_i, vt]
          exact hcutU ⟨hno fun h => (by have := hb.2 (h.2.2.2 x hxm); cases this), rfl, rfl⟩
        | true =>
          simp -dsimp +decide (disch := omega) only [vy, vz, vze, vr, ty, en, ↓reduceIte, Nat.reduceSub, Nat.reduceAdd, Nat.reduceMul, Nat.reduceLT, Int.reduceAdd, Int.reduceSub, Int.reduceToNat, ci, vi, getO_i, vt]
          refine ⟨i + 1, ⟨⟨by omega, fun y hy => ?_⟩, by omega⟩, rfl⟩
          rw [htk] at hy
          rcases List.mem_append.1 hy with hy | hy
          . exact hall y hy
          . have : y = x := by simpa using hy
            subst this; exact hb.1 rfl
      . rintro _ g tmp hall
        simp -dsimp +decide (disch := omega) only [vy, vz, vze, vr, ty, en, ↓reduceIte, Nat.reduceSub, Nat.reduceAdd, Nat.reduceMul, Nat.reduceLT, Int.reduceAdd, Int.reduceSub, Int.reduceToNat, ci, vi, getO_i, vt]
        refine hcutU ⟨⟨true, rfl, ⟨fun _ => hm.2 ⟨hbare (fun h => h45.elim h.2.2.2.2.1 h.2.2.2.2.2) hlen, .inr (.inr (.inr (.inr ⟨h45, hok, by omega, hall⟩)))⟩, fun _ => rfl⟩⟩, rfl, rfl⟩
theorem may06_all : ∀ n, n <= 100 -> May06Ok n
 | 0, h => may06_step 0 h (fun _ e => nomatch e)
 | n + 1, h => may06_step (n + 1) h (fun m e => by cases e; exact may06_all n (by omega))
theorem May06_ok {T : Tbl} {v : JV} (hv : vsz v <= 1099511627776) : CallA prog G 13 [.ag (vcs v)] T fun r T' es => (∃ b : Bool, r = .p (.bool b) /\ (b = true ↔ may 8 v)) /\ T' = T /\ es = [] := by
 have hm := may06_all 8 (by decide) (T ++ [.cells 25 (vcs v)]) v hv
 obtain ⟨k, z, s, ks, ns⟩ := v
 rw [vcs, show str s = .p (.string (ba s)) from rfl] at hm ⊢
 refine CallA.eV 3 func13 ntmps13 results13 ?_
 simp -dsimp +decide only [vy, vz, vze, vr, ty, en, ↓reduceIte, Nat.reduceSub, Nat.reduceAdd, Nat.reduceMul, Nat.reduceLT, Int.reduceAdd, Int.reduceSub, Int.reduceToNat, ci]
 simp -dsimp +decide (disch := omega) only [vy, vz, vze, vr, ty, en, ↓reduceIte, Nat.reduceSub, Nat.reduceAdd, Nat.reduceMul, Nat.reduceLT, Int.reduceAdd, Int.reduceSub, Int.reduceToNat, ci, vi, getO_i, vt, tk5]
 refine hm.mono ?_
 rintro r T' es ⟨⟨b, rfl, hb⟩, rfl, rfl⟩
 simp -dsimp +decide (disch := omega) only [vy, vz, vze, vr, ty, en, ↓reduceIte, Nat.reduceSub, Nat.reduceAdd, Nat.reduceMul, Nat.reduceLT, Int.reduceAdd, Int.reduceSub, Int.reduceToNat, ci, vi, getO_i, vt]
 exact Vw.cut ⟨⟨b, rfl, hb⟩, rfl, rfl⟩
end Go.Proofs.YtglpcedoongagaaGreatDoor
namespace Go.Proofs.YtglpcedoongagaaGreatDoor
open Go.E Go.Proofs.YtglpcedoongagaaGreatDoor.Tryz Go.Proofs.Tryz Go.J Go.Proofs
def Same06Ok (x : JV) : Prop := ∀ (T : Tbl) (y : JV), CallA prog G 15 [.ag (vcs x), .ag (vcs y)] T fun r T' es => (∃ b : Bool, r = .p (.bool b) /\ (b = true ↔ x = y)) /\ T' = T /\ es = []
theorem same06_step (a : JV) (ha : vsz a <= 1099511627776) (hs : ∀ x ∈ a.kids, Same06Ok x) : Same06Ok a := by
 intro T c
 refine CallA.wfs fun wf => ?_
 have wt := wf.t
 obtain ⟨k1, z1, s1, ks1, ns1⟩ := a
 obtain ⟨k2, z2, s2, ks2, ns2⟩ := c
 have hv : vsz (.mk k1 z1 s1 ks1 ns1) = 1 + s1.length + (ns1.map fun x => 1 + x.length).sum + vszL ks1 := by rw [vsz]
 have hkl := vszL_len ks1
 have hnl := nsz_len ns1
 have hra := Sl.rules (Es_vcs T ks1).sl (by decide)
 have hrb := Sl.rules (Es_vcs T ks2).sl (by decide)
 have hla := (Es_vcs T ks1).ld (P := prog) (t := 25) (by (simp -dsimp +decide only [vy, vz, vze, vr, ty, en, ↓reduceIte, Nat.reduceSub, Nat.reduceAdd, Nat.reduceMul, Nat.reduceLT, Int.reduceAdd, Int.reduceSub, Int.reduceToNat, ci])) (by (simp -dsimp +decide only [vy, vz, vze, vr, ty, en, ↓reduceIte, Nat.reduceSub, Nat.reduceAdd, Nat.reduceMul, Nat.reduceLT, Int.reduceAdd, Int.reduceSub, Int.reduceToNat, ci])) (by decide)
 have hlb := (Es_vcs T ks2).ld (P := prog) (t := 25) (by (simp -dsimp +decide only [vy, vz, vze, vr, ty, en, ↓reduceIte, Nat.reduceSub, Nat.reduceAdd, Nat.reduceMul, Nat.reduceLT, Int.reduceAdd, Int.reduceSub, Int.reduceToNat, ci])) (by (simp -dsimp +decide only [vy, vz, vze, vr, ty, en, ↓reduceIte, Nat.reduceSub, Nat.reduceAdd, Nat.reduceMul, Nat.reduceLT, Int.reduceAdd, Int.reduceSub, Int.reduceToNat, ci])) (by decide)
 have hna := Sl.loads (Sl.vs (ns1.map str) ns1.length (by simp) : Sl T 1 _ _ _) (P := prog) (t := 9) (by (simp -dsimp +decide only [vy, vz, vze, vr, ty, en, ↓reduceIte, Nat.reduceSub, Nat.reduceAdd, Nat.reduceMul, Nat.reduceLT, Int.reduceAdd, Int.reduceSub, Int.reduceToNat, ci]))
 have hnb := Sl.loads (Sl.vs (ns2.map str) ns2.length (by simp) : Sl T 1 _ _ _) (P := prog) (t := 9) (by (simp -dsimp +decide only [vy, vz, vze, vr, ty, en, ↓reduceIte, Nat.reduceSub, Nat.reduceAdd, Nat.reduceMul, Nat.reduceLT, Int.reduceAdd, Int.reduceSub, Int.reduceToNat, ci]))
 simp only [vcs, show ∀ l, str l = .p (.string (ba l)) from fun _ => rfl]
 have t1 : ((k1.toNat : Int) = (k2.toNat : Int)) = (k1 = k2) := propext ⟨fun h => UInt8.toNat_inj.1 (by omega), fun h => by rw [h]⟩
 have t3 : (ba s1 = ba s2) = (s1 = s2) := propext ba_inj
 refine CallA.enterZ 7 func15 ntmps15 (congrArg Array.toList results15) rfl ⟨by simp, by simp⟩ (by kernel_rfl) ?_
 refine SemA.cutAt [] (fun _ : Unit => [(2, .ptr T.length 0), (3, .ptr (T.length + 1) 0)]) (fun _ => T ++ [.cells 25 [.p (.int .u8 (k1.toNat : Int)), .p (.int .i64 z1), .p (.string (ba s1)), .vs (vcsL ks1) ks1.length, .vs (ns1.map str) ns1.length], .cells 25 [.p (.int .u8 (k2.toNat : Int)), .p (.int .i64 z2), .p (.string (ba s2)), .vs (vcsL ks2) ks2.length, .vs (ns2.map str) ns2.length]]) (fun _ => k1 = k2 /\ z1 = z2 /\ s1 = s2 /\ ks1.length = ks2.length /\ ns1.length = ns2.length) [] 2 rfl (by kernel_rfl) ?_ ?_
 . have no : ∀ h : ¬ (k1 = k2 /\ z1 = z2 /\ s1 = s2 /\ ks1.length = ks2.length /\ ns1.length = ns2.length), (∃ b : Bool, AV.p (.bool false) = .p (.bool b) /\ (b = true ↔ JV.mk k1 z1 s1 ks1 ns1 = .mk k2 z2 s2 ks2 ns2)) := fun h => ⟨false, rfl, ⟨fun h => (by cases h), fun e => by injection e with h1 h2 h3 h4 h5; exact absurd ⟨h1, h2, h3, by rw [h4], by rw [h5]⟩ h⟩⟩
   by_cases e1 : k1 = k2
   . have e1' : (k1 = k2) = True := eq_true e1
     by_cases e2 : z1 = z2
     . have e2' : (z1 = z2) = True := eq_true e2
       by_cases e3 : s1 = s2
       . have e3' : (s1 = s2) = True := eq_true e3
         by_cases e4 : ks1.length = ks2.length
         . have e4' : ((ks1.length : Int) = (ks2.length : Int)) = True := eq_true (by omega)
           by_cases e5 : ns1.length = ns2.length
           . have e5' : ((ns1.length : Int) = (ns2.length : Int)) = True := eq_true (by omega)
             simp -dsimp +decide (disch := omega) only [vy, vz, vze, vr, ty, en, ↓reduceIte, Nat.reduceSub, Nat.reduceAdd, Nat.reduceMul, Nat.reduceLT, Int.reduceAdd, Int.reduceSub, Int.reduceToNat, ci, vi, getO_i, vt, t1, t3, e1', e2', e3', e4', e5', gn0, gn1, vstr]
             exact ⟨(), e4, e5⟩
           . have e5' : ((ns1.length : Int) = (ns2.length : Int)) = False := eq_false (by omega)
             simp -dsimp +decide (disch := omega) only [vy, vz, vze, vr, ty, en, ↓reduceIte, Nat.reduceSub, Nat.reduceAdd, Nat.reduceMul, Nat.reduceLT, Int.reduceAdd, Int.reduceSub, Int.reduceToNat, ci, vi, getO_i, vt, t1, t3, e1', e2', e3', e4', e5', gn0, gn1, vstr]
             exact Vw.cut ⟨no fun h => e5 h.2.2.2.2, rfl, rfl⟩
         . have e4' : ((ks1.length : Int) = (ks2.length : Int)) = False := eq_false (by omega)
           simp -dsimp +decide (disch := omega) only [vy, vz, vze, vr, ty, en, ↓reduceIte, Nat.reduceSub, Nat.reduceAdd, Nat.reduceMul, Nat.reduceLT, Int.reduceAdd, Int.reduceSub, Int.reduceToNat, ci, vi, getO_i, vt, t1, t3, e1', e2', e3', e4', gn0, gn1, vstr]
           exact Vw.cut ⟨no fun h => e4 h.2.2.2.1, rfl, rfl⟩
       . have e3' : (s1 = s2) = False := eq_false e3
         simp -dsimp +decide (disch := omega) only [vy, vz, vze, vr, ty, en, ↓reduceIte, Nat.reduceSub, Nat.reduceAdd, Nat.reduceMul, Nat.reduceLT, Int.reduceAdd, Int.reduceSub, Int.reduceToNat, ci, vi, getO_i, vt, t1, t3, e1', e2', e3', gn0, gn1, vstr]
         exact Vw.cut ⟨no fun h => e3 h.2.2.1, rfl, rfl⟩
     . have e2' : (z1 = z2) = False := eq_false e2
       simp -dsimp +decide (disch := omega) only [vy, vz, vze, vr, ty, en, ↓reduceIte, Nat.reduceSub, Nat.reduceAdd, Nat.reduceMul, Nat.reduceLT, Int.reduceAdd, Int.reduceSub, Int.reduceToNat, ci, vi, getO_i, vt, t1, t3, e1', e2', gn0, gn1, vstr]
       exact Vw.cut ⟨no fun h => e2 h.2.1, rfl, rfl⟩
   . have e1' : (k1 = k2) = False := eq_false e1
     simp -dsimp +decide (disch := omega) only [vy, vz, vze, vr, ty, en, ↓reduceIte, Nat.reduceSub, Nat.reduceAdd, Nat.reduceMul, Nat.reduceLT, Int.reduceAdd, Int.reduceSub, Int.reduceToNat, ci, vi, getO_i, vt, t1, t3, e1', gn0, gn1, vstr]
     exact Vw.cut ⟨no fun h => e1 h.1, rfl, rfl⟩
 . rintro _ g tmp ⟨e1, e2, e3, e4, e5⟩
   subst e1; subst e2; subst e3
   obtain ⟨U, hU⟩ : ∃ U, U = T ++ [.cells 25 [.p (.int .u8 (k1.toNat : Int)), .p (.int .i64 z1), .p (.string (ba s1)), .vs (vcsL ks1) ks1.length, .vs (ns1.map str) ns1.length], .cells 25 [.p (.int .u8 (k1.toNat : Int)), .p (.int .i64 z1), .p (.string (ba s1)), .vs (vcsL ks2) ks2.length, .vs (ns2.map str) ns2.length]] := ⟨_, rfl⟩
   have u0 : U[T.length]? = some (.cells 25 [.p (.int .u8 (k1.toNat : Int)), .p (.int .i64 z1), .p (.string (ba s1)), .vs (vcsL ks1) ks1.length, .vs (ns1.map str) ns1.length]) := by rw [hU]; exact gn0 _ _ _
   have u1 : U[T.length + 1]? = some (.cells 25 [.p (.int .u8 (k1.toNat : Int)), .p (.int .i64 z1), .p (.string (ba s1)), .vs (vcsL ks2) ks2.length, .vs (ns2.map str) ns2.length]) := by rw [hU]; exact gn1 _ _ _ _
   have hcutU : ∀ {K : AV -> Tbl -> Eff -> Prop} {v : AV}, K (v.wo fun i => decide (T.length <= i)) T [] -> Vw G T K v U [] := fun h => by
    rw [hU]; exact Vw.cut h
   simp only [<- hU]
   refine SemA.o ?_
   simp -dsimp +decide (disch := omega) only [vy, vz, vze, vr, ty, en, ↓reduceIte, Nat.reduceSub, Nat.reduceAdd, Nat.reduceMul, Nat.reduceLT, Int.reduceAdd, Int.reduceSub, Int.reduceToNat, ci, vi, getO_i, vt]
   refine SemA.loopE (fun i : Nat => [(2, .ptr T.length 0), (3, .ptr (T.length + 1) 0), (5, wint (i : Int))]) (fun _ => U) (fun i => i <= ns1.length /\ ns1.take i = ns2.take i) (fun i => ns1.length - i) 0 [] 0
    (fun _ : Unit => [(2, .ptr T.length 0), (3, .ptr (T.length + 1) 0)]) (fun _ => U) (fun _ => ns1 = ns2) ⟨by omega, by simp⟩ (by (simp -dsimp +decide (disch := omega) only [vy, vz, vze, vr, ty, en, ↓reduceIte, Nat.reduceSub, Nat.reduceAdd, Nat.reduceMul, Nat.reduceLT, Int.reduceAdd, Int.reduceSub, Int.reduceToNat, ci, vi, getO_i]); first | rfl | done) rfl (by simp) ?_ ?_
   . rintro i g ⟨hi, he⟩
     refine SemA.o ?_
     by_cases hlt : i < ns1.length
     . have hlt' : ((i : Int) < (ns1.length : Int)) = True := eq_true (by omega)
       obtain ⟨x, hx⟩ : ∃ x, ns1[i]? = some x := ⟨ns1[i]'(by omega), by simp⟩
       obtain ⟨y, hy⟩ : ∃ y, ns2[i]? = some y := ⟨ns2[i]'(by omega), by simp⟩
       have hgx : (ns1.map str)[i]? = some (.p (.string (ba x))) := by rw [List.getElem?_map, hx]; rfl
       have hgy : (ns2.map str)[i]? = some (.p (.string (ba y))) := by rw [List.getElem?_map, hy]; rfl
       have txy : (ba x = ba y) = (x = y) := propext ba_inj
       simp -dsimp +decide (disch := omega) only [vy, vz, vze, vr, ty, en, ↓reduceIte, Nat.reduceSub, Nat.reduceAdd, Nat.reduceMul, Nat.reduceLT, Int.reduceAdd, Int.reduceSub, Int.reduceToNat, ci, vi, getO_i, vt, u0, u1, hlt']
       refine SemA.drawS (.fl 0 (.fl 1 (.fl 2 (.fl 3 (.fl 4 (.fl 5 (.fl 6 (.fl 7 (.fl 8 (.fl 9 (.fl 10 .nil))))))))))) mixed (by kernel_rfl) ?_
       by_cases e : x = y
       . have e' : (x = y) = True := eq_true e
         simp -dsimp +decide (disch := omega) only [vy, vz, vze, vr, ty, en, ↓reduceIte, Nat.reduceSub, Nat.reduceAdd, Nat.reduceMul, Nat.reduceLT, Int.reduceAdd, Int.reduceSub, Int.reduceToNat, ci, vi, getO_i, vt, u0, u1, hna, hnb, hgx, hgy, vstr, txy, e']
         refine ⟨⟨by omega, by omega, fun h => by rw [h] at hgx; cases hgx⟩, ⟨by omega, by omega, fun h => by rw [h] at hgy; cases hgy⟩, i + 1, ⟨⟨by omega, by rw [List.take_add_one, List.take_add_one, hx, hy, he, e]⟩, by omega⟩, rfl⟩
       . have e' : (x = y) = False := eq_false e
         simp -dsimp +decide (disch := omega) only [vy, vz, vze, vr, ty, en, ↓reduceIte, Nat.reduceSub, Nat.reduceAdd, Nat.reduceMul, Nat.reduceLT, Int.reduceAdd, Int.reduceSub, Int.reduceToNat, ci, vi, getO_i, vt, u0, u1, hna, hnb, hgx, hgy, vstr, txy, e']
         refine ⟨⟨by omega, by omega, fun h => by rw [h] at hgx; cases hgx⟩, ⟨by omega, by omega, fun h => by rw [h] at hgy; cases hgy⟩, hcutU ⟨⟨false, rfl, ⟨fun h => (by cases h), fun h => ?_⟩⟩, rfl, rfl⟩⟩
         injection h with _ _ _ _ h
         rw [h] at hx; rw [hx] at hy; exact absurd (Option.some.inj hy) e
     . have hlt' : ((i : Int) < (ns1.length : Int)) = False := eq_false (by omega)
       rw [List.take_of_length_le (by omega), List.take_of_length_le (by omega)] at he
       simp -dsimp +decide (disch := omega) only [vy, vz, vze, vr, ty, en, ↓reduceIte, Nat.reduceSub, Nat.reduceAdd, Nat.reduceMul, Nat.reduceLT, Int.reduceAdd, Int.reduceSub, Int.reduceToNat, ci, vi, getO_i, vt, u0, u1, hlt']
       exact ⟨(), he⟩
   . rintro _ g tmp he
     subst he
     have hlk : ks1.length = ks2.length := e4
     simp -dsimp +decide (disch := omega) only [vy, vz, vze, vr, ty, en, ↓reduceIte, Nat.reduceSub, Nat.reduceAdd, Nat.reduceMul, Nat.reduceLT, Int.reduceAdd, Int.reduceSub, Int.reduceToNat, ci, vi, getO_i, vt]
     refine SemA.loopE (fun i : Nat => [(2, .ptr T.length 0), (3, .ptr (T.length + 1) 0), (6, wint (i : Int))]) (fun _ => U) (fun i => i <= ks1.length /\ ks1.take i = ks2.take i) (fun i => ks1.length - i) 0 [] 2
      (fun _ : Unit => []) (fun _ => U) (fun _ => ks1 = ks2) ⟨by omega, by simp⟩ (by (simp -dsimp +decide (disch := omega) only [vy, vz, vze, vr, ty, en, ↓reduceIte, Nat.reduceSub, Nat.reduceAdd, Nat.reduceMul, Nat.reduceLT, Int.reduceAdd, Int.reduceSub, Int.reduceToNat, ci, vi, getO_i]); first | rfl | done) rfl (by simp) ?_ ?_
     . rintro i g ⟨hi, he⟩
       refine SemA.o ?_
       by_cases hlt : i < ks1.length
       . have hlt' : ((i : Int) < (ks1.length : Int)) = True := eq_true (by omega)
         obtain ⟨x, hx⟩ : ∃ x, ks1[i]? = some x := ⟨ks1[i]'(by omega), by simp⟩
         obtain ⟨y, hy⟩ : ∃ y, ks2[i]? = some y := ⟨ks2[i]'(by omega), by simp⟩
         have hc := fun V => hs x (List.mem_of_getElem? hx) V y
         have hatx : List.take 5 (List.drop (i * 5) (vcsL ks1)) = vcs x := by rw [vcsL_eq]; exact flat_at (fun x _ => vcs_len x) hx
         have haty : List.take 5 (List.drop (i * 5) (vcsL ks2)) = vcs y := by rw [vcsL_eq]; exact flat_at (fun x _ => vcs_len x) hy
         have hfl : (vcsL ks1).length = ks1.length * 5 := by rw [vcsL_eq]; exact flat_len fun x _ => vcs_len x
         have hfm : (vcsL ks2).length = ks2.length * 5 := by rw [vcsL_eq]; exact flat_len fun x _ => vcs_len x
         simp -dsimp +decide (disch := omega) only [vy, vz, vze, vr, ty, en, ↓reduceIte, Nat.reduceSub, Nat.reduceAdd, Nat.reduceMul, Nat.reduceLT, Int.reduceAdd, Int.reduceSub, Int.reduceToNat, ci, vi, getO_i, vt, u0, u1, hlt']
         refine SemA.drawS (.fl 0 (.fl 1 (.fl 2 (.fl 3 (.fl 4 (.fl 5 (.fl 6 (.fl 7 (.fl 8 (.fl 9 (.sq 10 (.fl 11 .nil)))))))))))) mixed (by kernel_rfl) ?_
         simp -dsimp +decide (disch := omega) only [vy, vz, vze, vr, ty, en, ↓reduceIte, Nat.reduceSub, Nat.reduceAdd, Nat.reduceMul, Nat.reduceLT, Int.reduceAdd, Int.reduceSub, Int.reduceToNat, ci, vi, getO_i, vt, u0, u1, hra, hrb, hla, hlb, hx, hy]
         rw [hatx, haty]
         refine ⟨⟨by omega, by omega, fun h => by rw [h] at hfl; simp at hfl; omega⟩, by omega, ⟨by omega, by omega, fun h => by rw [h] at hfm; simp at hfm; omega⟩, by omega, ?_⟩
         refine (hc _).mono ?_
         rintro r T' es ⟨⟨b, rfl, hb⟩, rfl, rfl⟩
         cases b with
         | true =>
           have hxy := hb.1 rfl
           simp -dsimp +decide (disch := omega) only [vy, vz, vze, vr, ty, en, ↓reduceIte, Nat.reduceSub, Nat.reduceAdd, Nat.reduceMul, Nat.reduceLT, Int.reduceAdd, Int.reduceSub, Int.reduceToNat, ci, vi, getO_i, vt]
           exact ⟨i + 1, ⟨⟨by omega, by rw [List.take_add_one, List.take_add_one, hx, hy, he, hxy]⟩, by omega⟩, rfl⟩
         | false =>
           simp -dsimp +decide (disch := omega) only [vy, vz, vze, vr, ty, en, ↓reduceIte, Nat.reduceSub, Nat.reduceAdd, Nat.reduceMul, Nat.reduceLT, Int.reduceAdd, Int.reduceSub, Int.reduceToNat, ci, vi, getO_i, vt]
           refine hcutU ⟨⟨false, rfl, ⟨fun h => (by cases h), fun h => ?_⟩⟩, rfl, rfl⟩
           injection h with _ _ _ h
           rw [h] at hx; rw [hx] at hy
           have := hb.2 (Option.some.inj hy)
           cases this
       . have hlt' : ((i : Int) < (ks1.length : Int)) = False := eq_false (by omega)
         rw [List.take_of_length_le (by omega), List.take_of_length_le (by omega)] at he
         simp -dsimp +decide (disch := omega) only [vy, vz, vze, vr, ty, en, ↓reduceIte, Nat.reduceSub, Nat.reduceAdd, Nat.reduceMul, Nat.reduceLT, Int.reduceAdd, Int.reduceSub, Int.reduceToNat, ci, vi, getO_i, vt, u0, u1, hlt']
         exact ⟨(), he⟩
     . rintro _ g tmp he
       subst he
       simp -dsimp +decide (disch := omega) only [vy, vz, vze, vr, ty, en, ↓reduceIte, Nat.reduceSub, Nat.reduceAdd, Nat.reduceMul, Nat.reduceLT, Int.reduceAdd, Int.reduceSub, Int.reduceToNat, ci, vi, getO_i, vt]
       exact hcutU ⟨⟨true, rfl, ⟨fun _ => rfl, fun _ => rfl⟩⟩, rfl, rfl⟩
theorem same06_all : ∀ (N : Nat) (a : JV), vsz a <= N -> N <= 1099511627776 -> Same06Ok a
 | 0, a, h, _ => absurd h (by rw [vsz_eq]; omega)
 | N + 1, a, h, hN => same06_step a (by omega) fun x hx => same06_all N x (by have := vszL_mem hx; rw [vsz_eq] at h; omega) (by omega)
theorem same06_ok {T : Tbl} {a c : JV} (h : vsz a <= 1099511627776) : CallA prog G 15 [.ag (vcs a), .ag (vcs c)] T fun r T' es => (∃ b : Bool, r = .p (.bool b) /\ (b = true ↔ a = c)) /\ T' = T /\ es = [] := same06_all _ a h (Nat.le_refl _) T c
theorem idxS_at {ns : List B} {s : B} {i : Nat} (hi : i <= ns.length) (h : s ∉ ns.take i) : (ns[i]? = some s -> idxS ns s = i) /\ (∀ y, ns[i]? = some y -> y ≠ s -> s ∉ ns.take (i + 1)) := by
 have hd := idxS_drop ns s i hi fun j x hj hx e => h (by
  subst e
  exact List.mem_of_getElem? (i := j) (by rw [List.getElem?_take, if_pos hj]; exact hx))
 refine ⟨fun hs => ?_, fun y hy hne hm => ?_⟩
 . obtain ⟨h1, rfl⟩ := List.getElem?_eq_some_iff.1 hs
   rw [hd, List.drop_eq_getElem_cons h1, idxS, if_pos rfl, if_neg (by omega)]; omega
 . rw [List.take_add_one, hy] at hm
   rcases List.mem_append.1 hm with hm | hm
   . exact h hm
   . have : s = y := by simpa using hm
     exact hne this.symm
theorem field06_ok {T : Tbl} {v : JV} {s : B} (hv : vsz v <= 1099511627776) : CallA prog G 11 [.ag (vcs v), str s] T fun r T' es => (match fldV v s with
 | some x => r = .tu [.ag (vcs x), .p (.bool true)]
 | none => r = .tu [.ag zc, .p (.bool false)]) /\ T' = T /\ es = [] := by
 refine CallA.wfs fun wf => ?_
 have wt := wf.t
 obtain ⟨k, z, t, ks, ns⟩ := v
 have hvz : vsz (.mk k z t ks ns) = 1 + t.length + (ns.map fun x => 1 + x.length).sum + vszL ks := by rw [vsz]
 have hkl := vszL_len ks
 have hnl := nsz_len ns
 have hr := Sl.rules (Es_vcs T ks).sl (by decide)
 have hld := (Es_vcs T ks).ld (P := prog) (t := 25) (by (simp -dsimp +decide only [vy, vz, vze, vr, ty, en, ↓reduceIte, Nat.reduceSub, Nat.reduceAdd, Nat.reduceMul, Nat.reduceLT, Int.reduceAdd, Int.reduceSub, Int.reduceToNat, ci])) (by (simp -dsimp +decide only [vy, vz, vze, vr, ty, en, ↓reduceIte, Nat.reduceSub, Nat.reduceAdd, Nat.reduceMul, Nat.reduceLT, Int.reduceAdd, Int.reduceSub, Int.reduceToNat, ci])) (by decide)
 have hldn := Sl.loads (Sl.vs (ns.map str) ns.length (by simp) : Sl T 1 _ _ _) (P := prog) (t := 9) (by (simp -dsimp +decide only [vy, vz, vze, vr, ty, en, ↓reduceIte, Nat.reduceSub, Nat.reduceAdd, Nat.reduceMul, Nat.reduceLT, Int.reduceAdd, Int.reduceSub, Int.reduceToNat, ci]))
 have hf : fldV (.mk k z t ks ns) s = if k = 5 /\ 0 <= idxS ns s then ks[(idxS ns s).toNat]? else none := rfl
 rw [hf]
 simp only [vcs, show ∀ l, str l = .p (.string (ba l)) from fun _ => rfl]
 have t5 : ((k.toNat : Int) = 5) = (k = 5) := propext (u8_num (n := 5) (by decide))
 refine CallA.eV 7 func11 ntmps11 results11 ?_
 simp -dsimp +decide only [vy, vz, vze, vr, ty, en, ↓reduceIte, Nat.reduceSub, Nat.reduceAdd, Nat.reduceMul, Nat.reduceLT, Int.reduceAdd, Int.reduceSub, Int.reduceToNat, ci]
 refine SemA.loopE (fun i : Nat => [(1, .p (.string (ba s))), (2, .ptr T.length 0), (4, .ptr (T.length + 1) 0), (6, wint (i : Int))]) (fun _ => T ++ [.cells 25 [.p (.int .u8 (k.toNat : Int)), .p (.int .i64 z), .p (.string (ba t)), .vs (vcsL ks) ks.length, .vs (ns.map str) ns.length], .cells 25 zc]) (fun i => i <= ns.length /\ i <= ks.length /\ s ∉ ns.take i) (fun i => ns.length - i) 0 [] 0
  (fun _ : Unit => [(4, .ptr (T.length + 1) 0)]) (fun _ => T ++ [.cells 25 [.p (.int .u8 (k.toNat : Int)), .p (.int .i64 z), .p (.string (ba t)), .vs (vcsL ks) ks.length, .vs (ns.map str) ns.length], .cells 25 zc]) (fun _ => (if k = 5 /\ 0 <= idxS ns s then ks[(idxS ns s).toNat]? else none) = none) ⟨by omega, by omega, by simp⟩ (by (simp -dsimp +decide (disch := omega) only [vy, vz, vze, vr, ty, en, ↓reduceIte, Nat.reduceSub, Nat.reduceAdd, Nat.reduceMul, Nat.reduceLT, Int.reduceAdd, Int.reduceSub, Int.reduceToNat, ci, vi, getO_i, zc]); first | rfl | done) rfl (by simp) ?_ ?_
 . rintro i g ⟨hi, hik, hv⟩
   refine SemA.o ?_
   by_cases h5 : k = 5
   rotate_left
   . have h5' : (k = 5) = False := eq_false h5
     simp -dsimp +decide (disch := omega) only [vy, vz, vze, vr, ty, en, ↓reduceIte, Nat.reduceSub, Nat.reduceAdd, Nat.reduceMul, Nat.reduceLT, Int.reduceAdd, Int.reduceSub, Int.reduceToNat, ci, vi, getO_i, vt, gn0, gn1, t5, h5']
     exact ⟨(), by simp⟩
   have h5' : (k = 5) = True := eq_true h5
   have hat := idxS_at hi hv
   by_cases hlt : i < ns.length
   rotate_left
   . have hlt' : ((i : Int) < (ns.length : Int)) = False := eq_false (by omega)
     simp -dsimp +decide (disch := omega) only [vy, vz, vze, vr, ty, en, ↓reduceIte, Nat.reduceSub, Nat.reduceAdd, Nat.reduceMul, Nat.reduceLT, Int.reduceAdd, Int.reduceSub, Int.reduceToNat, ci, vi, getO_i, vt, gn0, gn1, t5, h5', hlt']
     rw [List.take_of_length_le (by omega)] at hv
     have := (idxS_neg ns s).2 hv
     exact ⟨(), by rw [if_neg (by omega)]⟩
   have hlt' : ((i : Int) < (ns.length : Int)) = True := eq_true (by omega)
   by_cases hlk : i < ks.length
   rotate_left
   . have hlk' : ((i : Int) < (ks.length : Int)) = False := eq_false (by omega)
     simp -dsimp +decide (disch := omega) only [vy, vz, vze, vr, ty, en, ↓reduceIte, Nat.reduceSub, Nat.reduceAdd, Nat.reduceMul, Nat.reduceLT, Int.reduceAdd, Int.reduceSub, Int.reduceToNat, ci, vi, getO_i, vt, gn0, gn1, t5, h5', hlt', hlk']
     have := idxS_drop ns s i hi fun j x hj hx e => hv (by subst e; exact List.mem_of_getElem? (i := j) (by rw [List.getElem?_take, if_pos hj]; exact hx))
     refine ⟨(), ?_⟩
     by_cases hg : 0 <= idxS ns s
     . rw [if_pos hg]
       exact List.getElem?_eq_none (by split at this <;> omega)
     . rw [if_neg hg]
   have hlk' : ((i : Int) < (ks.length : Int)) = True := eq_true (by omega)
   obtain ⟨y, hy⟩ : ∃ y, ns[i]? = some y := ⟨ns[i], by simp⟩
   have hym : (ns.map str)[i]? = some (.p (.string (ba y))) := by rw [List.getElem?_map, hy]; rfl
   have tys : (ba y = ba s) = (y = s) := propext ba_inj
   obtain ⟨x, hx⟩ : ∃ x, ks[i]? = some x := ⟨ks[i], by simp⟩
   obtain ⟨k2, z2, s2, ks2, ns2⟩ := x
   have hv2 : vcs (.mk k2 z2 s2 ks2 ns2) = [by8 k2, .p (.int .i64 z2), .p (.string (ba s2)), .vs (vcsL ks2) ks2.length, .vs (ns2.map str) ns2.length] := by rw [vcs]; rfl
   have hat5 : List.take 5 (List.drop (i * 5) (vcsL ks)) = vcs (.mk k2 z2 s2 ks2 ns2) := by rw [vcsL_eq]; exact flat_at (fun x _ => vcs_len x) hx
   have hfl : (vcsL ks).length = ks.length * 5 := by rw [vcsL_eq]; exact flat_len fun x _ => vcs_len x
   by_cases e : y = s
   . have e' : (y = s) = True := eq_true e
     have hix := hat.1 (by rw [hy, e])
     rw [if_pos ⟨h5, by omega⟩, hix, Int.toNat_natCast, hx]
     simp -dsimp +decide (disch := omega) only [vy, vz, vze, vr, ty, en, ↓reduceIte, Nat.reduceSub, Nat.reduceAdd, Nat.reduceMul, Nat.reduceLT, Int.reduceAdd, Int.reduceSub, Int.reduceToNat, ci, vi, getO_i, vt, gn0, gn1, t5, h5', hlt', hlk', hldn, hym, hr, hld, hx, hat5, hv2, vstr, tys, e', zc, wr5, tk5, vres, vone]
     exact ⟨⟨by omega, fun h => by rw [h] at hym; cases hym⟩, by omega, Vw.cut ⟨by show _ = _; rw [hv2]; rfl, rfl, rfl⟩⟩
   . have e' : (y = s) = False := eq_false e
     simp -dsimp +decide (disch := omega) only [vy, vz, vze, vr, ty, en, ↓reduceIte, Nat.reduceSub, Nat.reduceAdd, Nat.reduceMul, Nat.reduceLT, Int.reduceAdd, Int.reduceSub, Int.reduceToNat, ci, vi, getO_i, vt, gn0, gn1, t5, h5', hlt', hlk', hldn, hym, vstr, tys, e']
     exact ⟨⟨by omega, fun h => by rw [h] at hym; cases hym⟩, i + 1, ⟨⟨by omega, by omega, hat.2 y hy e⟩, by omega⟩, rfl⟩
 . rintro _ g tmp hn
   rw [hn]
   simp -dsimp +decide (disch := omega) only [vy, vz, vze, vr, ty, en, ↓reduceIte, Nat.reduceSub, Nat.reduceAdd, Nat.reduceMul, Nat.reduceLT, Int.reduceAdd, Int.reduceSub, Int.reduceToNat, ci, vi, getO_i, vt, zc, gn0, gn1, wr5, tk5, vres, vone]
   exact Vw.cut ⟨rfl, rfl, rfl⟩
end Go.Proofs.YtglpcedoongagaaGreatDoor
namespace Go.Proofs.YtglpcedoongagaaGreatDoor
open Go.E Go.Proofs.YtglpcedoongagaaGreatDoor.Tryz Go.Proofs.Tryz Go.J Go.Proofs
theorem sn3 (T : Tbl) (A B C D o : AObj) (l : Tbl) : (T ++ A :: B :: C :: D :: l).set (T.length + 3) o = T ++ A :: B :: C :: o :: l := by simp
def Copy06Ok (v : JV) : Prop := ∀ (T : Tbl), CallA prog G 7 [.ag (vcs v)] T fun r T' es => r = .ag (vcs v) /\ T' = T /\ es = []
theorem copy06_step (v : JV) (hv : vsz v <= 1073741824) (hrec : ∀ x ∈ v.kids, Copy06Ok x) : Copy06Ok v := by
 intro T
 refine CallA.wfs fun wf => ?_
 have wt := wf.t
 have wp := wf.p
 obtain ⟨k, z, s, ks, ns⟩ := v
 have hvz : vsz (.mk k z s ks ns) = 1 + s.length + nsum ns + vszL ks := by rw [vsz]; rfl
 have hkl := vszL_len ks
 have hnl : ns.length <= nsum ns := nsz_len ns
 have hr := Sl.rules (Es_vcs T ks).sl (by decide)
 have hld := (Es_vcs T ks).ld (P := prog) (t := 25) (by (simp -dsimp +decide only [vt2, vy, vz, vze, vr, ty, en, ↓reduceIte, Nat.reduceSub, Nat.reduceAdd, Nat.reduceMul, Nat.reduceLT, Int.reduceAdd, Int.reduceSub, Int.reduceToNat, ci])) (by (simp -dsimp +decide only [vt2, vy, vz, vze, vr, ty, en, ↓reduceIte, Nat.reduceSub, Nat.reduceAdd, Nat.reduceMul, Nat.reduceLT, Int.reduceAdd, Int.reduceSub, Int.reduceToNat, ci])) (by decide)
 have hlm : (ns.map str).length = ns.length := List.length_map ..
 simp only [vcs, show ∀ l, str l = .p (.string (ba l)) from fun _ => rfl]
 have hwn : ∀ q : Nat -> Bool, (ns.map str).map (AV.wo q) = ns.map str := fun q => by rw [List.map_map]; exact List.map_congr_left fun x _ => str_wo q x
 have hon : ones (ns.map str) = true := by unfold ones; rw [List.all_eq_true]; intro a ha; obtain ⟨x, _, rfl⟩ := List.mem_map.1 ha; rfl
 have hzw : ∀ q : Nat -> Bool, zc.map (AV.wo q) = zc := fun q => by simp only [zc, List.map_cons, List.map_nil, AV.wo]
 have hvw : ∀ (l : List JV) (q : Nat -> Bool), (vcsL l).map (AV.wo q) = vcsL l := fun l q => by rw [vcsL_eq, List.map_flatMap]; simp only [vcs_wo]
 have kk : (∀ k j : Nat, decide (T.length + k < T.length + j) = decide (k < j)) /\ (∀ j : Nat, decide (T.length < T.length + j) = decide (0 < j)) := ⟨fun k j => by simp, fun j => by simp⟩
 refine CallA.eV 5 func7 ntmps7 results7 ?_
 simp -dsimp +decide only [vt2, vy, vz, vze, vr, ty, en, ↓reduceIte, Nat.reduceSub, Nat.reduceAdd, Nat.reduceMul, Nat.reduceLT, Int.reduceAdd, Int.reduceSub, Int.reduceToNat, ci]
 refine SemA.drawU [(1, .ptr T.length 0), (2, .ptr (T.length + 1) 0), (3, .ptr (T.length + 2) 0)] (T ++ [.cells 25 [.p (.int .u8 (k.toNat : Int)), .p (.int .i64 z), .p (.string (ba s)), .vs (vcsL ks) ks.length, .vs (ns.map str) ns.length], .cells 25 zc, .cells 25 [.p (.int .u8 (k.toNat : Int)), .p (.int .i64 z), .p (.string (ba s)), .p (.slice none 0 0), .vs (ns.map str) ns.length]]) [] 12 (fun i => decide (i < T.length + 2)) (.st 0 true (.st 1 true (.st 2 true (.st 3 true (.st 4 true (.st 5 true (.st 7 true (.st 8 true (.alt 6 (.alt 9 (.st 10 true (.st 11 false (.st 12 false .nil))) 11 (.st 9 false (.st 10 true (.st 12 false .nil)))) 11 (.st 6 false (.st 9 false (.st 10 true (.st 12 false .nil))))))))))))) mixed (by kernel_rfl) ?_ ?_
 . simp -dsimp +decide (disch := omega) only [vt2, vy, vz, vze, vr, ty, en, ↓reduceIte, Nat.reduceSub, Nat.reduceAdd, Nat.reduceMul, Nat.reduceLT, Int.reduceAdd, Int.reduceSub, Int.reduceToNat, ci, vi, getO_i, vpu, vt, gn0, gn1, keepT_get, keepO, kk, hlm, wt, hwn, hon, sn0, sn1, sn2, gn0, gn1, gn2, gn3]
   have hwi := tbl_ren (permF_id T.length [0, 1, 3]) wt.2.1
   have hwj := tbl_ren (permF_id T.length [0, 1, 2]) wt.2.1
   have hv := vn (permF T.length [0, 1, 3]) T.length [0, 1, 3]
   have hv2 := vn (permF T.length [0, 1, 2]) T.length [0, 1, 2]
   have hix : idxO [0, 1, 3] 0 = some 0 /\ idxO [0, 1, 3] 1 = some 1 /\ idxO [0, 1, 3] 3 = some 2 /\ idxO [0, 1, 2] 0 = some 0 /\ idxO [0, 1, 2] 1 = some 1 /\ idxO [0, 1, 2] 2 = some 2 := ⟨rfl, rfl, rfl, rfl, rfl, rfl⟩
   refine ⟨⟨⟨⟨by omega, by omega⟩, ?_⟩, ⟨by omega, by omega⟩, ?_⟩, ⟨by omega, by omega⟩, ?_⟩
   iterate 2
    . refine SeeL.pub (T.length + 2) (gn2 _ _ _ _ _) rfl (str_clean ns) ?_
      simp -dsimp +decide only [vt2, vy, vz, vze, vr, ty, en, ↓reduceIte, Nat.reduceSub, Nat.reduceAdd, Nat.reduceMul, Nat.reduceLT, Int.reduceAdd, Int.reduceSub, Int.reduceToNat, ci, vt, wp, sn2]
      refine SeeL.perm T _ [0, 1, 3] rfl (by decide) (by simp) (Nat.le_refl _) hwi ?_
      simp -dsimp +decide only [vt2, vy, vz, vze, vr, ty, en, ↓reduceIte, Nat.reduceSub, Nat.reduceAdd, Nat.reduceMul, Nat.reduceLT, Int.reduceAdd, Int.reduceSub, Int.reduceToNat, ci, vt, hv, hix, wr5, tk5, Option.map_some, List.getElem?_cons_zero, List.getElem?_cons_succ, Option.getD_some, List.map_cons, List.map_nil]
      refine SeeL.done ⟨rfl, ?_, rfl, by simp⟩
      simp -dsimp +decide only [vt2, vy, vz, vze, vr, ty, en, ↓reduceIte, Nat.reduceSub, Nat.reduceAdd, Nat.reduceMul, Nat.reduceLT, Int.reduceAdd, Int.reduceSub, Int.reduceToNat, ci]
   . refine SeeL.pub (T.length + 3) (gn3 _ _ _ _ _ _) rfl (str_clean ns) ?_
     simp -dsimp +decide only [vt2, vy, vz, vze, vr, ty, en, ↓reduceIte, Nat.reduceSub, Nat.reduceAdd, Nat.reduceMul, Nat.reduceLT, Int.reduceAdd, Int.reduceSub, Int.reduceToNat, ci, vt, wp]
     refine SeeL.perm T _ [0, 1, 2] rfl (by decide) (by simp) (Nat.le_refl _) hwj ?_
     simp -dsimp +decide only [vt2, vy, vz, vze, vr, ty, en, ↓reduceIte, Nat.reduceSub, Nat.reduceAdd, Nat.reduceMul, Nat.reduceLT, Int.reduceAdd, Int.reduceSub, Int.reduceToNat, ci, vt, hv2, hix, wr5, tk5, Option.map_some, List.getElem?_cons_zero, List.getElem?_cons_succ, Option.getD_some, List.map_cons, List.map_nil]
     refine SeeL.done ⟨rfl, ?_, rfl, by simp⟩
     simp -dsimp +decide only [vt2, vy, vz, vze, vr, ty, en, ↓reduceIte, Nat.reduceSub, Nat.reduceAdd, Nat.reduceMul, Nat.reduceLT, Int.reduceAdd, Int.reduceSub, Int.reduceToNat, ci]
 . intro g tmp
   simp -dsimp +decide (disch := omega) only [vt2, vy, vz, vze, vr, ty, en, ↓reduceIte, Nat.reduceSub, Nat.reduceAdd, Nat.reduceMul, Nat.reduceLT, Int.reduceAdd, Int.reduceSub, Int.reduceToNat, ci, vi, getO_i, vt]
   refine SemA.adoptC (i := T.length + 2) (k := 3) 25 5 (by decide) (by omega) (gn2 _ _ _ _ _) rfl ?_
   rw [sn2]
   simp -dsimp +decide only [vt2, vy, vz, vze, vr, ty, en, ↓reduceIte, Nat.reduceSub, Nat.reduceAdd, Nat.reduceMul, Nat.reduceLT, Int.reduceAdd, Int.reduceSub, Int.reduceToNat, ci, List.length_append, List.length_cons, List.length_nil, List.append_assoc, List.cons_append, List.nil_append, List.set_cons_zero, List.set_cons_succ]
   refine SemA.loopK (T.length + 4) (fun i : Nat => [(1, .ptr T.length 0), (2, .ptr (T.length + 1) 0), (3, .ptr (T.length + 2) 0), (4, wint (i : Int))])
    (fun i => T ++ [.cells 25 [.p (.int .u8 (k.toNat : Int)), .p (.int .i64 z), .p (.string (ba s)), .vs (vcsL ks) ks.length, .vs (ns.map str) ns.length], .cells 25 zc, .cells 25 [.p (.int .u8 (k.toNat : Int)), .p (.int .i64 z), .p (.string (ba s)), .sl (T.length + 3) 0 i, .vs (ns.map str) ns.length], .buf 25 5 (vcsL (ks.take i))])
    (fun i => i <= ks.length) (fun i => ks.length - i) 0 [] 0
    (fun _ : Unit => [(2, .ptr (T.length + 1) 0), (3, .ptr (T.length + 2) 0)]) (fun _ => T ++ [.cells 25 [.p (.int .u8 (k.toNat : Int)), .p (.int .i64 z), .p (.string (ba s)), .vs (vcsL ks) ks.length, .vs (ns.map str) ns.length], .cells 25 zc, .cells 25 [.p (.int .u8 (k.toNat : Int)), .p (.int .i64 z), .p (.string (ba s)), .sl (T.length + 3) 0 ks.length, .vs (ns.map str) ns.length], .buf 25 5 (vcsL ks)])
    (fun _ => True) (by omega) (by omega) (by first | rfl | ((simp -dsimp +decide only [vt2, vy, vz, vze, vr, ty, en, ↓reduceIte, Nat.reduceSub, Nat.reduceAdd, Nat.reduceMul, Nat.reduceLT, Int.reduceAdd, Int.reduceSub, Int.reduceToNat, ci, vt]); first | rfl | done) | (and_intros <;> first | rfl | (simp; done))) rfl (by simp) ?_ ?_
   . rintro i g hi
     refine SemA.o ?_
     by_cases hlt : i < ks.length
     rotate_left
     . have hlt' : ((i : Int) < (ks.length : Int)) = False := eq_false (by omega)
       have hall : ks.take i = ks := List.take_of_length_le (by omega)
       have hie : i = ks.length := by omega
       subst hie
       simp -dsimp +decide (disch := omega) only [vt2, vy, vz, vze, vr, ty, en, ↓reduceIte, Nat.reduceSub, Nat.reduceAdd, Nat.reduceMul, Nat.reduceLT, Int.reduceAdd, Int.reduceSub, Int.reduceToNat, ci, vi, getO_i, vt, wt, gn0, gn1, gn2, gn3, hlt', hall, hzw, hvw]
       first | exact ⟨(), rfl⟩ | exact ⟨(), trivial⟩ | exact ()
     have hlt' : ((i : Int) < (ks.length : Int)) = True := eq_true (by omega)
     obtain ⟨x, hx⟩ : ∃ x, ks[i]? = some x := ⟨ks[i]'(by omega), by simp⟩
     have hxm := List.mem_of_getElem? hx
     have hc := fun V => hrec x hxm V
     have hatx : List.take 5 (List.drop (i * 5) (vcsL ks)) = vcs x := by rw [vcsL_eq]; exact flat_at (fun x _ => vcs_len x) hx
     have hfl : (vcsL ks).length = ks.length * 5 := by rw [vcsL_eq]; exact flat_len fun x _ => vcs_len x
     have htk : vcsL (ks.take i) ++ vcs x = vcsL (ks.take (i + 1)) := by rw [List.take_add_one, hx, vcsL_eq, vcsL_eq]; simp
     simp -dsimp +decide (disch := omega) only [vt2, vy, vz, vze, vr, ty, en, ↓reduceIte, Nat.reduceSub, Nat.reduceAdd, Nat.reduceMul, Nat.reduceLT, Int.reduceAdd, Int.reduceSub, Int.reduceToNat, ci, vi, getO_i, vt, wt, gn0, gn1, gn2, gn3, hlt']
     refine SemA.draw (fun i => decide (i < T.length + 3)) [(0, true), (1, true), (2, true), (3, true), (4, true), (5, true), (6, true), (7, false), (8, false), (9, false), (10, true), (11, false)] mixed (by kernel_rfl) ?_
     simp -dsimp +decide (disch := omega) only [vt2, vy, vz, vze, vr, ty, en, ↓reduceIte, Nat.reduceSub, Nat.reduceAdd, Nat.reduceMul, Nat.reduceLT, Int.reduceAdd, Int.reduceSub, Int.reduceToNat, ci, vi, getO_i, vt, wt, gn0, gn1, gn2, gn3, keepT_get, keepO, kk, hx, hatx]
     refine ⟨⟨by omega, by omega, fun h => by rw [h] at hfl; simp at hfl; omega⟩, by omega, ?_⟩
     refine (hc _).mono ?_
     rintro r T' es ⟨rfl, rfl, rfl⟩
     have hxl := vcs_len x
     have hxo : ones (vcs x) = true := by rw [vcs_eq]; rfl
     have hxw := vcs_wo
     have hfi : (vcsL (ks.take i)).length = i * 5 := by rw [vcsL_eq, flat_len (sz := 5) fun x _ => vcs_len x, List.length_take]; congr 1; omega
     simp -dsimp +decide (disch := omega) only [vt2, vy, vz, vze, vr, ty, en, ↓reduceIte, Nat.reduceSub, Nat.reduceAdd, Nat.reduceMul, Nat.reduceLT, Int.reduceAdd, Int.reduceSub, Int.reduceToNat, ci, vi, getO_i, vt, wt, gn0, gn1, gn2, gn3, keepT_get, keepO, kk, sn0, sn1, sn2, sn3, hzw, hvw, hxl, hxo, hxw, rep1]
     have hwx : wrA [AV.p (.int .u8 0), AV.p (.int .i64 0), AV.p (.string ByteArray.empty), AV.p (.slice none 0 0), AV.p (.slice none 0 0)] 0 (vcs x) = vcs x := wrA_all (by rw [hxl]; rfl)
     have ht5 : List.take 5 (vcs x) = vcs x := List.take_of_length_le (by omega)
     simp only [hwx, ht5, hxw, htk]
     exact ⟨by omega, hxo, ⟨hfi, by omega, by omega⟩, i + 1, ⟨by omega, by omega⟩, rfl, rfl⟩
   . rintro _ g tmp -
     simp -dsimp +decide (disch := omega) only [vt2, vy, vz, vze, vr, ty, en, ↓reduceIte, Nat.reduceSub, Nat.reduceAdd, Nat.reduceMul, Nat.reduceLT, Int.reduceAdd, Int.reduceSub, Int.reduceToNat, ci, vi, getO_i, vt, wt, gn0, gn1, gn2, gn3, sn1, zc, wr5, tk5]
     refine Vw.pub (T.length + 3) (o := .buf 25 5 (vcsL ks)) (gn3 _ _ _ _ _ _) rfl (by rw [vcsL_eq]; exact vcsf_clean ks) ?_
     simp -dsimp +decide only [vt2, vy, vz, vze, vr, ty, en, ↓reduceIte, Nat.reduceSub, Nat.reduceAdd, Nat.reduceMul, Nat.reduceLT, Int.reduceAdd, Int.reduceSub, Int.reduceToNat, ci, vt, wp]
     exact Vw.cut ⟨rfl, rfl, rfl⟩
theorem copy06_all : ∀ (N : Nat) (v : JV), vsz v <= N -> N <= 1073741824 -> Copy06Ok v
 | 0, v, h, _ => absurd h (by rw [vsz_eq]; omega)
 | N + 1, v, h, hN => copy06_step v (by omega) fun x hx => copy06_all N x (by have := vszL_mem hx; rw [vsz_eq] at h; omega) (by omega)
theorem copy06_ok {T : Tbl} {v : JV} (h : vsz v <= 1073741824) : CallA prog G 7 [.ag (vcs v)] T fun r T' es => r = .ag (vcs v) /\ T' = T /\ es = [] := copy06_all _ v h (Nat.le_refl _) T
end Go.Proofs.YtglpcedoongagaaGreatDoor
namespace Go.Proofs.YtglpcedoongagaaGreatDoor
open Go.E Go.Proofs.YtglpcedoongagaaGreatDoor.Tryz Go.Proofs.Tryz Go.J Go.Proofs
theorem ofI8 (n : Nat) : UInt8.ofInt (n : Int) = u8 n := UInt8.toNat_inj.1 (by
 show ((n : Int) % 256).toNat % 256 = n % 256
 omega)
theorem digit06_ok {T : Tbl} {x : Nat} (hx : x < 16) : CallA prog G 62 [wint (x : Int)] T fun v T' es => v = by8 (hexd x) /\ T' = T /\ es = [] := by
 have hA1 : UInt8.ofInt 48 + u8 x = u8 (48 + x) := u8add 48 x
 by_cases h : x < 10
 . have h' : ((x : Int) < 10) = True := eq_true (by omega)
   refine CallA.eV 3 func62 ntmps62 results62 ?_
   simp -dsimp +decide only [vt2, vy, vz, vze, vy, vz, vze, vr, ty, en, ↓reduceIte, Nat.reduceSub, Nat.reduceAdd, Nat.reduceMul, Nat.reduceLT, Int.reduceAdd, Int.reduceSub, Int.reduceToNat, ci]
   simp -dsimp +decide (disch := omega) only [vt2, vy, vz, vze, vy, vz, vze, vr, ty, en, ↓reduceIte, Nat.reduceSub, Nat.reduceAdd, Nat.reduceMul, Nat.reduceLT, Int.reduceAdd, Int.reduceSub, Int.reduceToNat, ci, vi, getO_i, h', ofI8]
   exact Vw.done ⟨by rw [hexd, if_pos h, by8, <- hA1], rfl, rfl⟩
 . have h' : ((x : Int) < 10) = False := eq_false (by omega)
   have e : IntKind.u8.wrap (97 + (x : Int) - 10) = ((u8 (87 + x)).toNat : Int) := by rw [<- u8w]; congr 1; omega
   refine CallA.eV 3 func62 ntmps62 results62 ?_
   simp -dsimp +decide only [vt2, vy, vz, vze, vy, vz, vze, vr, ty, en, ↓reduceIte, Nat.reduceSub, Nat.reduceAdd, Nat.reduceMul, Nat.reduceLT, Int.reduceAdd, Int.reduceSub, Int.reduceToNat, ci]
   simp -dsimp +decide (disch := omega) only [vt2, vy, vz, vze, vy, vz, vze, vr, ty, en, ↓reduceIte, Nat.reduceSub, Nat.reduceAdd, Nat.reduceMul, Nat.reduceLT, Int.reduceAdd, Int.reduceSub, Int.reduceToNat, ci, vi, getO_i, h', ofI8, e]
   exact Vw.done ⟨by rw [hexd, if_neg h, by8], rfl, rfl⟩
theorem quoted06_ok {T : Tbl} {s : B} (hs : s.length <= 1099511627776) : CallA prog G 38 [str s] T fun v T' es => v = bl (quote s) /\ T' = T /\ es = [] := by
 refine CallA.wfs fun wf => ?_
 have wt := wf.t
 have wp := wf.p
 have hsz := ba_size s
 rw [show str s = .p (.string (ba s)) from rfl]
 refine CallA.eV 6 func38 ntmps38 results38 ?_
 simp -dsimp +decide only [vt2, vy, vz, vze, vy, vz, vze, vr, ty, en, ↓reduceIte, Nat.reduceSub, Nat.reduceAdd, Nat.reduceMul, Nat.reduceLT, Int.reduceAdd, Int.reduceSub, Int.reduceToNat, ci]
 simp -dsimp +decide (disch := omega) only [vt2, vy, vz, vze, vy, vz, vze, vr, ty, en, ↓reduceIte, Nat.reduceSub, Nat.reduceAdd, Nat.reduceMul, Nat.reduceLT, Int.reduceAdd, Int.reduceSub, Int.reduceToNat, ci, vi, getO_i, vt]
 refine SemA.loopC (fun i : Nat => [(0, .p (.string (ba s))), (3, .sl T.length 0 (1 + ((s.take i).flatMap qb).length)), (4, wint (i : Int))]) (fun i => T ++ [bf ([34] ++ (s.take i).flatMap qb)]) (fun i => i <= s.length) (fun i => s.length - i) (T.length + 1) 0 [] (by kernel_rfl) (by omega) (by omega) (by (simp -dsimp +decide only [vt2, vy, vz, vze, vy, vz, vze, vr, ty, en, ↓reduceIte, Nat.reduceSub, Nat.reduceAdd, Nat.reduceMul, Nat.reduceLT, Int.reduceAdd, Int.reduceSub, Int.reduceToNat, ci, vt]); first | rfl | (and_intros <;> first | rfl | (simp; done))) ?_ (by simp) ?_
 . rfl
 . rintro i g hi
   have hlen0 : ([34] ++ List.flatMap qb (List.take i s)).length = 1 + (List.flatMap qb (List.take i s)).length := by rw [List.length_append]; rfl
   have hq6 : (List.flatMap qb (List.take i s)).length <= 6 * i := by have := qbs_len (s.take i); rw [List.length_take] at this; omega
   obtain ⟨W, hB⟩ : ∃ W : B, [34] ++ List.flatMap qb (List.take i s) = W := ⟨_, rfl⟩
   rw [hB] at hlen0
   rw [hB, <- hlen0, show bf W = .buf 5 1 (W.map by8) from rfl]
   by_cases hlt : i < s.length
   rotate_left
   . have hlt' : ((i : Int) < (s.length : Int)) = False := eq_false (by omega)
     have hall : s.take i = s := List.take_of_length_le (by omega)
     simp -dsimp +decide (disch := omega) only [vt2, vy, vz, vze, vy, vz, vze, vr, ty, en, ↓reduceIte, Nat.reduceSub, Nat.reduceAdd, Nat.reduceMul, Nat.reduceLT, Int.reduceAdd, Int.reduceSub, Int.reduceToNat, ci, vi, getO_i, vt, wt, hsz, hlt', sn0]
     refine ⟨⟨by omega, by omega⟩, ?_⟩
     have e2 : W ++ [34] = quote s := by rw [<- hB, hall, quote]; rfl
     have e1 : W.length + 1 = (quote s).length := by rw [<- e2]; simp
     rw [e1, show List.map by8 W ++ [AV.p (.int .u8 34)] = (quote s).map by8 from by rw [<- e2, List.map_append]; rfl]
     refine Vw.pub T.length (o := .buf 5 1 ((quote s).map by8)) (gn0 _ _ _) rfl (clean8 _) ?_
     simp -dsimp +decide only [vt2, vy, vz, vze, vy, vz, vze, vr, ty, en, ↓reduceIte, Nat.reduceSub, Nat.reduceAdd, Nat.reduceMul, Nat.reduceLT, Int.reduceAdd, Int.reduceSub, Int.reduceToNat, ci, vt, wp]
     exact Vw.cut ⟨rfl, rfl, rfl⟩
   have hlt' : ((i : Int) < (s.length : Int)) = True := eq_true (by omega)
   obtain ⟨c, hc⟩ : ∃ c, s[i]? = some c := ⟨s[i], List.getElem?_eq_getElem hlt⟩
   have hcb : (ba s)[i]? = some c := by rw [ba_get]; exact hc
   have htk : (s.take (i + 1)).flatMap qb = (s.take i).flatMap qb ++ qb c := by rw [List.take_add_one, hc]; simp
   have hBq : W ++ qb c = [34] ++ (s.take (i + 1)).flatMap qb := by rw [htk, <- hB]; simp only [List.append_assoc]
   have hLq : W.length + (qb c).length = 1 + ((s.take (i + 1)).flatMap qb).length := by
    have := congrArg List.length hBq
    simp only [List.length_append, List.length_cons, List.length_nil] at this; omega
   have hci : ((i + 1 : Nat) : Int) = (i : Int) + 1 := rfl
   have tc : ∀ n : Nat, n < 256 -> ((c.toNat : Int) = (n : Int)) = (c = u8 n) := fun n h => propext (u8_num h)
   have t34 : ((c.toNat : Int) = 34) = (c = 34) := tc 34 (by decide)
   have t92 : ((c.toNat : Int) = 92) = (c = 92) := tc 92 (by decide)
   have t8 : ((c.toNat : Int) = 8) = (c = 8) := tc 8 (by decide)
   have t9 : ((c.toNat : Int) = 9) = (c = 9) := tc 9 (by decide)
   have t10 : ((c.toNat : Int) = 10) = (c = 10) := tc 10 (by decide)
   have t12 : ((c.toNat : Int) = 12) = (c = 12) := tc 12 (by decide)
   have t13 : ((c.toNat : Int) = 13) = (c = 13) := tc 13 (by decide)
   rcases Classical.propComplete (c = 34) with e34 | e34
   . have hq : qb c = [92, 34] := by rw [of_eq_true e34]; rfl
     simp -dsimp +decide (disch := omega) only [vt2, vy, vz, vze, vy, vz, vze, vr, ty, en, ↓reduceIte, Nat.reduceSub, Nat.reduceAdd, Nat.reduceMul, Nat.reduceLT, Int.reduceAdd, Int.reduceSub, Int.reduceToNat, ci, vi, getO_i, vt, wt, hsz, hlt', hcb, t34, e34, repb, sn0, List.set_cons_zero, List.set_cons_succ, List.length_cons]
     refine ⟨by omega, rfl, ⟨by omega, by omega⟩, i + 1, by omega, by omega, ⟨by rw [hq] at hLq; rw [<- hLq]; rfl, by rw [hci]⟩, ?_⟩
     rw [<- hBq, hq, bf, List.map_append]; rw [of_eq_true e34]; rfl
   rcases Classical.propComplete (c = 92) with e92 | e92
   . have hq : qb c = [92, 92] := by rw [of_eq_true e92]; rfl
     simp -dsimp +decide (disch := omega) only [vt2, vy, vz, vze, vy, vz, vze, vr, ty, en, ↓reduceIte, Nat.reduceSub, Nat.reduceAdd, Nat.reduceMul, Nat.reduceLT, Int.reduceAdd, Int.reduceSub, Int.reduceToNat, ci, vi, getO_i, vt, wt, hsz, hlt', hcb, t34, e34, t92, e92, repb, sn0, List.set_cons_zero, List.set_cons_succ, List.length_cons]
     refine ⟨by omega, rfl, ⟨by omega, by omega⟩, i + 1, by omega, by omega, ⟨by rw [hq] at hLq; rw [<- hLq]; rfl, by rw [hci]⟩, ?_⟩
     rw [<- hBq, hq, bf, List.map_append]; rw [of_eq_true e92]; rfl
   rcases Classical.propComplete (c = 8) with e8 | e8
   . have hq : qb c = [92, 98] := by rw [of_eq_true e8]; rfl
     simp -dsimp +decide (disch := omega) only [vt2, vy, vz, vze, vy, vz, vze, vr, ty, en, ↓reduceIte, Nat.reduceSub, Nat.reduceAdd, Nat.reduceMul, Nat.reduceLT, Int.reduceAdd, Int.reduceSub, Int.reduceToNat, ci, vi, getO_i, vt, wt, hsz, hlt', hcb, t34, e34, t92, e92, t8, e8, repb, sn0, List.set_cons_zero, List.set_cons_succ, List.length_cons]
     refine ⟨by omega, ⟨by omega, by omega⟩, i + 1, by omega, by omega, ⟨by rw [hq] at hLq; rw [<- hLq]; rfl, by rw [hci]⟩, ?_⟩
     rw [<- hBq, hq, bf, List.map_append]; rfl
   rcases Classical.propComplete (c = 9) with e9 | e9
   . have hq : qb c = [92, 116] := by rw [of_eq_true e9]; rfl
     simp -dsimp +decide (disch := omega) only [vt2, vy, vz, vze, vy, vz, vze, vr, ty, en, ↓reduceIte, Nat.reduceSub, Nat.reduceAdd, Nat.reduceMul, Nat.reduceLT, Int.reduceAdd, Int.reduceSub, Int.reduceToNat, ci, vi, getO_i, vt, wt, hsz, hlt', hcb, t34, e34, t92, e92, t8, e8, t9, e9, repb, sn0, List.set_cons_zero, List.set_cons_succ, List.length_cons]
     refine ⟨by omega, ⟨by omega, by omega⟩, i + 1, by omega, by omega, ⟨by rw [hq] at hLq; rw [<- hLq]; rfl, by rw [hci]⟩, ?_⟩
     rw [<- hBq, hq, bf, List.map_append]; rfl
   rcases Classical.propComplete (c = 10) with e10 | e10
   . have hq : qb c = [92, 110] := by rw [of_eq_true e10]; rfl
     simp -dsimp +decide (disch := omega) only [vt2, vy, vz, vze, vy, vz, vze, vr, ty, en, ↓reduceIte, Nat.reduceSub, Nat.reduceAdd, Nat.reduceMul, Nat.reduceLT, Int.reduceAdd, Int.reduceSub, Int.reduceToNat, ci, vi, getO_i, vt, wt, hsz, hlt', hcb, t34, e34, t92, e92, t8, e8, t9, e9, t10, e10, repb, sn0, List.set_cons_zero, List.set_cons_succ, List.length_cons]
     refine ⟨by omega, ⟨by omega, by omega⟩, i + 1, by omega, by omega, ⟨by rw [hq] at hLq; rw [<- hLq]; rfl, by rw [hci]⟩, ?_⟩
     rw [<- hBq, hq, bf, List.map_append]; rfl
   rcases Classical.propComplete (c = 12) with e12 | e12
   . have hq : qb c = [92, 102] := by rw [of_eq_true e12]; rfl
     simp -dsimp +decide (disch := omega) only [vt2, vy, vz, vze, vy, vz, vze, vr, ty, en, ↓reduceIte, Nat.reduceSub, Nat.reduceAdd, Nat.reduceMul, Nat.reduceLT, Int.reduceAdd, Int.reduceSub, Int.reduceToNat, ci, vi, getO_i, vt, wt, hsz, hlt', hcb, t34, e34, t92, e92, t8, e8, t9, e9, t10, e10, t12, e12, repb, sn0, List.set_cons_zero, List.set_cons_succ, List.length_cons]
     refine ⟨by omega, ⟨by omega, by omega⟩, i + 1, by omega, by omega, ⟨by rw [hq] at hLq; rw [<- hLq]; rfl, by rw [hci]⟩, ?_⟩
     rw [<- hBq, hq, bf, List.map_append]; rfl
   rcases Classical.propComplete (c = 13) with e13 | e13
   . have hq : qb c = [92, 114] := by rw [of_eq_true e13]; rfl
     simp -dsimp +decide (disch := omega) only [vt2, vy, vz, vze, vy, vz, vze, vr, ty, en, ↓reduceIte, Nat.reduceSub, Nat.reduceAdd, Nat.reduceMul, Nat.reduceLT, Int.reduceAdd, Int.reduceSub, Int.reduceToNat, ci, vi, getO_i, vt, wt, hsz, hlt', hcb, t34, e34, t92, e92, t8, e8, t9, e9, t10, e10, t12, e12, t13, e13, repb, sn0, List.set_cons_zero, List.set_cons_succ, List.length_cons]
     refine ⟨by omega, ⟨by omega, by omega⟩, i + 1, by omega, by omega, ⟨by rw [hq] at hLq; rw [<- hLq]; rfl, by rw [hci]⟩, ?_⟩
     rw [<- hBq, hq, bf, List.map_append]; rfl
   have hqn : qb c = if c.toNat < 32 then [92, 117, 48, 48, hexd (c.toNat / 16), hexd (c.toNat % 16)] else [c] := by
    unfold qb
    rw [if_neg (of_eq_false e34), if_neg (of_eq_false e92), if_neg (of_eq_false e8), if_neg (of_eq_false e9), if_neg (of_eq_false e10), if_neg (of_eq_false e12), if_neg (of_eq_false e13)]
   by_cases h32 : c.toNat < 32
   . have h32' : ((c.toNat : Int) < 32) = True := eq_true (by omega)
     have hq := hqn.trans (if_pos h32)
     have hd1 : Int.tdiv (c.toNat : Int) 16 = ((c.toNat / 16 : Nat) : Int) := rfl
     have hd2 : Int.tmod (c.toNat : Int) 16 = ((c.toNat % 16 : Nat) : Int) := rfl
     have hr6 : ∀ a : AV, (List.replicate 6 [a]).flatten = [a, a, a, a, a, a] := fun _ => rfl
     simp -dsimp +decide (disch := omega) only [vt2, vy, vz, vze, vy, vz, vze, vr, ty, en, ↓reduceIte, Nat.reduceSub, Nat.reduceAdd, Nat.reduceMul, Nat.reduceLT, Int.reduceAdd, Int.reduceSub, Int.reduceToNat, ci, vi, getO_i, vt, wt, hsz, hlt', hcb, t34, e34, t92, e92, t8, e8, t9, e9, t10, e10, t12, e12, t13, e13, h32', hd1]
     refine ⟨by omega, ?_⟩
     refine (digit06_ok (by omega)).det' ?_
     simp -dsimp +decide (disch := omega) only [vt2, vy, vz, vze, vy, vz, vze, vr, ty, en, ↓reduceIte, Nat.reduceSub, Nat.reduceAdd, Nat.reduceMul, Nat.reduceLT, Int.reduceAdd, Int.reduceSub, Int.reduceToNat, ci, vi, getO_i, vt, wt, hd2]
     refine (digit06_ok (by omega)).det' ?_
     simp -dsimp +decide (disch := omega) only [vt2, vy, vz, vze, vy, vz, vze, vr, ty, en, ↓reduceIte, Nat.reduceSub, Nat.reduceAdd, Nat.reduceMul, Nat.reduceLT, Int.reduceAdd, Int.reduceSub, Int.reduceToNat, ci, vi, getO_i, vt, wt, hr6, sn0, List.set_cons_zero, List.set_cons_succ, List.length_cons]
     refine ⟨rfl, ⟨by omega, by omega⟩, i + 1, by omega, by omega, ⟨by rw [hq] at hLq; rw [<- hLq]; rfl, by rw [hci]⟩, ?_⟩
     rw [<- hBq, hq, bf, List.map_append]; rfl
   . have h32' : ((c.toNat : Int) < 32) = False := eq_false (by omega)
     have hq := hqn.trans (if_neg h32)
     simp -dsimp +decide (disch := omega) only [vt2, vy, vz, vze, vy, vz, vze, vr, ty, en, ↓reduceIte, Nat.reduceSub, Nat.reduceAdd, Nat.reduceMul, Nat.reduceLT, Int.reduceAdd, Int.reduceSub, Int.reduceToNat, ci, vi, getO_i, vt, wt, hsz, hlt', hcb, t34, e34, t92, e92, t8, e8, t9, e9, t10, e10, t12, e12, t13, e13, h32', repb, sn0, List.set_cons_zero, List.set_cons_succ, List.length_cons]
     refine ⟨by omega, ⟨by omega, by omega⟩, i + 1, by omega, by omega, ⟨by rw [hq] at hLq; rw [<- hLq]; rfl, by rw [hci]⟩, ?_⟩
     rw [<- hBq, hq, bf]
theorem ba_app (l m : B) : ba l ++ ba m = ba (l ++ m) := ByteArray.ext (by
 rw [ByteArray.data_append]; show l.toArray ++ m.toArray = (l ++ m).toArray; simp)
theorem str_add {P : Program} {t : TypeId} {K : AV -> Prop} (l m : B) (xo yo : Operand) (h : l.length + m.length <= 9223372036854775807) :
 pureK P K (do eqGuard .add t xo yo (.string (ba l)) (.string (ba m)); binOp .add t (.string (ba l)) (.string (ba m))) = K (.p (.string (ba (l ++ m)))) := by
 rw [<- ba_app]
 refine pureK_det fun w => ?_
 have h' : ¬ (((ba l).size + (ba m).size : Nat) : Int) > IntKind.i64.max := by
  rw [ba_size, ba_size]
  show ¬ _ > (9223372036854775807 : Int)
  omega
 simp only [eqGuard, binOp, Op.stringOp, if_neg h']
 rfl
theorem digits06_ok {T : Tbl} {z : Int} (hz : -2 ^ 63 <= z /\ z < 2 ^ 63) : CallA prog G 37 [.p (.int .i64 z)] T fun v T' es => v = str (numS z) /\ T' = T /\ es = [] := by
 refine CallA.wfs fun wf => ?_
 have wt := wf.t
 have h2 : (2 : Int) ^ 63 = 9223372036854775808 := rfl
 rw [h2] at hz
 refine CallA.enterZ 5 func37 ntmps37 (congrArg Array.toList results37) rfl ⟨by simp, by simp⟩ (by kernel_rfl) ?_
 refine SemA.cutAt [] (fun x : UInt64 => [(0, .p (.int .i64 z)), (3, .p (.string (ba []))), (4, .p (.int .u64 (x.toNat : Int)))]) (fun _ => T) (fun x => x.toNat = z.natAbs) [] 4 rfl (by kernel_rfl) ?_ ?_
 . by_cases hn : z < 0
   . have hn' : (z < 0) = True := eq_true hn
     simp -dsimp +decide (disch := omega) only [vt2, vy, vz, vze, vy, vz, vze, vr, ty, en, ↓reduceIte, Nat.reduceSub, Nat.reduceAdd, Nat.reduceMul, Nat.reduceLT, Int.reduceAdd, Int.reduceSub, Int.reduceToNat, ci, vi, getO_i, vt, hn']
     refine ⟨UInt64.ofInt 0 - UInt64.ofInt z, ?_, rfl, rfl⟩
     rw [UInt64.toNat_sub]
     show (2 ^ 64 - (z % 18446744073709551616).toNat % 2 ^ 64 + 0) % 2 ^ 64 = _
     omega
   . have hn' : (z < 0) = False := eq_false hn
     simp -dsimp +decide (disch := omega) only [vt2, vy, vz, vze, vy, vz, vze, vr, ty, en, ↓reduceIte, Nat.reduceSub, Nat.reduceAdd, Nat.reduceMul, Nat.reduceLT, Int.reduceAdd, Int.reduceSub, Int.reduceToNat, ci, vi, getO_i, vt, hn']
     refine ⟨UInt64.ofInt z, ?_, rfl, rfl⟩
     show (z % 18446744073709551616).toNat % 2 ^ 64 = _
     omega
 . rintro x0 g tmp hx0
   refine SemA.o ?_
   simp -dsimp +decide (disch := omega) only [vt2, vy, vz, vze, vy, vz, vze, vr, ty, en, ↓reduceIte, Nat.reduceSub, Nat.reduceAdd, Nat.reduceMul, Nat.reduceLT, Int.reduceAdd, Int.reduceSub, Int.reduceToNat, ci, vi, getO_i, vt]
   refine SemA.loopK T.length (fun q : UInt64 × B => [(0, .p (.int .i64 z)), (3, .p (.string (ba q.2))), (4, .p (.int .u64 (q.1.toNat : Int)))]) (fun _ => T) (fun q => dgS q.1.toNat q.2 = dn z.natAbs) (fun q => q.1.toNat + (if q.2 = [] then 1 else 0)) (x0, []) [] 0
    (fun out : B => [(0, .p (.int .i64 z)), (3, .p (.string (ba out)))]) (fun _ => T) (fun out => out = dn z.natAbs) (Nat.le_refl _) (by dsimp only; rw [hx0]; exact dgS_start _) (by (simp -dsimp +decide (disch := omega) only [vt2, vy, vz, vze, vy, vz, vze, vr, ty, en, ↓reduceIte, Nat.reduceSub, Nat.reduceAdd, Nat.reduceMul, Nat.reduceLT, Int.reduceAdd, Int.reduceSub, Int.reduceToNat, ci, vi, getO_i]); first | rfl | done) rfl (by simp) ?_ ?_
   . rintro ⟨x, out⟩ g hd
     dsimp only at hd
     have hol : out.length <= 20 := by
      have := dn_len (n := z.natAbs) (k := 20) (by omega) (by decide)
      rw [<- hd, dgS, List.length_append] at this; omega
     have hx := x.toNat_lt
     refine SemA.o ?_
     have tout : (ba out = ⟨#[]⟩) = (out = []) := propext (ba_inj (b := []))
     by_cases hgo : 0 < x.toNat ∨ out = []
     . have e1 : (x / 10).toNat = x.toNat / 10 := UInt64.toNat_div ..
       have e2 : (x % 10).toNat = x.toNat % 10 := UInt64.toNat_mod ..
       have hm : Int.tmod (x.toNat : Int) 10 = ((x.toNat % 10 : Nat) : Int) := rfl
       have hq : Int.tdiv (x.toNat : Int) 10 = ((x.toNat / 10 : Nat) : Int) := rfl
       have h8 : (UInt64.ofInt 48 + UInt64.ofInt ((x.toNat % 10 : Nat) : Int)).toUInt8 = u8 (48 + x.toNat % 10) := UInt8.toNat_inj.1 (by
        rw [UInt64.toNat_toUInt8, UInt64.toNat_add, Go.J.u8_toNat (by omega)]
        show (48 % 2 ^ 64 + (((x.toNat % 10 : Nat) : Int) % 18446744073709551616).toNat % 2 ^ 64) % 2 ^ 64 % 2 ^ 8 = _
        omega)
       have hby := bytes8 [u8 (48 + x.toNat % 10)]
       have hby' : bytesA [AV.p (.int .u8 ((u8 (48 + x.toNat % 10)).toNat : Int))] = some [u8 (48 + x.toNat % 10)] := hby
       have hadd := fun (P : Program) (t : TypeId) (K : AV -> Prop) (xo yo : Operand) => str_add (P := P) (t := t) (K := K) [u8 (48 + x.toNat % 10)] out xo yo (by simp only [List.length_cons, List.length_nil]; omega)
       have hux : (UInt64.ofInt ((x.toNat / 10 : Nat) : Int)).toNat = x.toNat / 10 := by
        show (((x.toNat / 10 : Nat) : Int) % 18446744073709551616).toNat % 2 ^ 64 = _
        omega
       have hst := dgS_step (x := x.toNat) (out := out) hgo
       rcases Classical.propComplete (0 < (x.toNat : Int)) with h0 | h0
       . simp -dsimp +decide (disch := omega) only [vt2, vy, vz, vze, vy, vz, vze, vr, ty, en, ↓reduceIte, Nat.reduceSub, Nat.reduceAdd, Nat.reduceMul, Nat.reduceLT, Int.reduceAdd, Int.reduceSub, Int.reduceToNat, ci, vi, getO_i, vt, wt, h0, vstr, tout, hm, hq, h8, hby']
         rw [show (ByteArray.mk #[u8 (48 + x.toNat % 10)]) = ba [u8 (48 + x.toNat % 10)] from rfl, hadd]
         refine ⟨(UInt64.ofInt ((x.toNat / 10 : Nat) : Int), u8 (48 + x.toNat % 10) :: out), ⟨?_, ?_⟩, rfl, rfl⟩
         . dsimp only; rw [hux, hst, hd]
         . dsimp only; rw [hux, if_neg (by simp)]; have := of_eq_true h0; omega
       . have tout' : (out = []) = True := eq_true (hgo.resolve_left fun h => of_eq_false h0 (by omega))
         simp -dsimp +decide (disch := omega) only [vt2, vy, vz, vze, vy, vz, vze, vr, ty, en, ↓reduceIte, Nat.reduceSub, Nat.reduceAdd, Nat.reduceMul, Nat.reduceLT, Int.reduceAdd, Int.reduceSub, Int.reduceToNat, ci, vi, getO_i, vt, wt, h0, vstr, tout, tout', hm, hq, h8, hby']
         rw [show (ByteArray.mk #[u8 (48 + x.toNat % 10)]) = ba [u8 (48 + x.toNat % 10)] from rfl, hadd]
         refine ⟨(UInt64.ofInt ((x.toNat / 10 : Nat) : Int), u8 (48 + x.toNat % 10) :: out), ⟨?_, ?_⟩, rfl, rfl⟩
         . dsimp only; rw [hux, hst, hd]
         . dsimp only; rw [hux, if_neg (by simp)]; have := of_eq_false h0; omega
     . have h0 : (0 < (x.toNat : Int)) = False := eq_false (by omega)
       have tout' : (out = []) = False := eq_false fun h => hgo (.inr h)
       simp -dsimp +decide (disch := omega) only [vt2, vy, vz, vze, vy, vz, vze, vr, ty, en, ↓reduceIte, Nat.reduceSub, Nat.reduceAdd, Nat.reduceMul, Nat.reduceLT, Int.reduceAdd, Int.reduceSub, Int.reduceToNat, ci, vi, getO_i, vt, h0, vstr, tout, tout']
       refine ⟨out, ?_, rfl, wt.2.1⟩
       rw [<- hd, show x.toNat = 0 by omega, dgS_end (fun h => hgo (.inr h))]
   . rintro out g tmp rfl
     by_cases hn : z < 0
     . have hn' : (z < 0) = True := eq_true hn
       have hadd := fun (P : Program) (t : TypeId) (K : AV -> Prop) (xo yo : Operand) => str_add (P := P) (t := t) (K := K) [45] (dn z.natAbs) xo yo (by have := dn_len (n := z.natAbs) (k := 20) (by omega) (by decide); simp only [List.length_cons, List.length_nil]; omega)
       simp -dsimp +decide (disch := omega) only [vt2, vy, vz, vze, vy, vz, vze, vr, ty, en, ↓reduceIte, Nat.reduceSub, Nat.reduceAdd, Nat.reduceMul, Nat.reduceLT, Int.reduceAdd, Int.reduceSub, Int.reduceToNat, ci, vi, getO_i, vt, hn']
       rw [show (ByteArray.mk #[45]) = ba [45] from rfl, hadd]
       exact Vw.done ⟨by rw [numS, if_pos hn, show z.natAbs = (-z).toNat by omega]; rfl, rfl, rfl⟩
     . have hn' : (z < 0) = False := eq_false hn
       simp -dsimp +decide (disch := omega) only [vt2, vy, vz, vze, vy, vz, vze, vr, ty, en, ↓reduceIte, Nat.reduceSub, Nat.reduceAdd, Nat.reduceMul, Nat.reduceLT, Int.reduceAdd, Int.reduceSub, Int.reduceToNat, ci, vi, getO_i, vt, hn']
       exact Vw.done ⟨by rw [numS, if_neg hn, show z.natAbs = z.toNat by omega]; rfl, rfl, rfl⟩
end Go.Proofs.YtglpcedoongagaaGreatDoor
namespace Go.Proofs.YtglpcedoongagaaGreatDoor
open Go.E Go.Proofs.YtglpcedoongagaaGreatDoor.Tryz Go.Proofs.Tryz Go.J Go.Proofs
def Print06Ok (n : Nat) : Prop := ∀ (T : Tbl) (v : JV), may n v -> fits n v -> vsz v <= 1073741824 -> CallA prog G 22 [.ag (vcs v)] T fun r T' es => r = bl (prt n v) /\ T' = T /\ es = []
theorem print06_leaf {T : Tbl} {v : JV} (hm : mayL v) (hf : wide v) (hs : vsz v <= 1073741824) : CallA prog G 22 [.ag (vcs v)] T fun r T' es => r = bl (prtL v) /\ T' = T /\ es = [] := by
 refine CallA.wfs fun wf => ?_
 have wt := wf.t
 have wp := wf.p
 have hz : -2 ^ 63 <= v.num /\ v.num < 2 ^ 63 := hf
 obtain ⟨k, z, s, ks, ns⟩ := v
 have hvz : vsz (.mk k z s ks ns) = 1 + s.length + nsum ns + vszL ks := by rw [vsz]; rfl
 have hz : -2 ^ 63 <= z /\ z < 2 ^ 63 := hz
 have hk := hm.2
 have hk : k = 0 ∨ k = 2 ∨ (k = 1 /\ (z = 0 ∨ z = 1)) ∨ (k = 3 /\ Valid s) := hk
 have hr4 : ∀ a : AV, (List.replicate 5 [a]).flatten = [a, a, a, a, a] := fun _ => rfl
 simp only [vcs, show ∀ l, str l = .p (.string (ba l)) from fun _ => rfl]
 rcases hk with rfl | rfl | ⟨rfl, hz01⟩ | ⟨rfl, -⟩
 . have hp : prtL (.mk 0 z s ks ns) = [110, 117, 108, 108] := rfl
   rw [hp]
   refine CallA.eV 27 func22 ntmps22 results22 ?_
   simp -dsimp +decide only [vr, ty, en, ↓reduceIte, Nat.reduceSub, Nat.reduceAdd, Nat.reduceMul, Nat.reduceLT, Int.reduceAdd, Int.reduceSub, Int.reduceToNat, ci]
   simp -dsimp +decide (disch := omega) only [vr, ty, en, ↓reduceIte, Nat.reduceSub, Nat.reduceAdd, Nat.reduceMul, Nat.reduceLT, Int.reduceAdd, Int.reduceSub, Int.reduceToNat, ci, vi, getO_i, vt, wp, sn1, gn0, gn1, repb, List.set_cons_zero, List.set_cons_succ, List.length_cons]
   exact Vw.cut ⟨rfl, rfl, rfl⟩
 . have hp : prtL (.mk 2 z s ks ns) = numS z := rfl
   rw [hp]
   have hd := fun U => digits06_ok (T := U) (z := z) hz
   have hstr : str (numS z) = .p (.string (ba (numS z))) := rfl
   refine CallA.eV 27 func22 ntmps22 results22 ?_
   simp -dsimp +decide only [vr, ty, en, ↓reduceIte, Nat.reduceSub, Nat.reduceAdd, Nat.reduceMul, Nat.reduceLT, Int.reduceAdd, Int.reduceSub, Int.reduceToNat, ci]
   refine (digits06_ok (z := z) hz).det' ?_
   simp -dsimp +decide (disch := omega) only [vr, ty, en, ↓reduceIte, Nat.reduceSub, Nat.reduceAdd, Nat.reduceMul, Nat.reduceLT, Int.reduceAdd, Int.reduceSub, Int.reduceToNat, ci, vi, getO_i, vt, ba_data, ba_size, hstr]
   exact Vw.cut ⟨rfl, rfl, rfl⟩
 . rcases hz01 with rfl | rfl
   . have hp : prtL (.mk 1 0 s ks ns) = [102, 97, 108, 115, 101] := rfl
     rw [hp]
     refine CallA.eV 27 func22 ntmps22 results22 ?_
     simp -dsimp +decide only [vr, ty, en, ↓reduceIte, Nat.reduceSub, Nat.reduceAdd, Nat.reduceMul, Nat.reduceLT, Int.reduceAdd, Int.reduceSub, Int.reduceToNat, ci]
     simp -dsimp +decide (disch := omega) only [vr, ty, en, ↓reduceIte, Nat.reduceSub, Nat.reduceAdd, Nat.reduceMul, Nat.reduceLT, Int.reduceAdd, Int.reduceSub, Int.reduceToNat, ci, vi, getO_i, vt, wp, sn1, gn0, gn1, hr4, List.set_cons_zero, List.set_cons_succ, List.length_cons]
     exact Vw.cut ⟨rfl, rfl, rfl⟩
   . have hp : prtL (.mk 1 1 s ks ns) = [116, 114, 117, 101] := rfl
     rw [hp]
     refine CallA.eV 27 func22 ntmps22 results22 ?_
     simp -dsimp +decide only [vr, ty, en, ↓reduceIte, Nat.reduceSub, Nat.reduceAdd, Nat.reduceMul, Nat.reduceLT, Int.reduceAdd, Int.reduceSub, Int.reduceToNat, ci]
     simp -dsimp +decide (disch := omega) only [vr, ty, en, ↓reduceIte, Nat.reduceSub, Nat.reduceAdd, Nat.reduceMul, Nat.reduceLT, Int.reduceAdd, Int.reduceSub, Int.reduceToNat, ci, vi, getO_i, vt, wp, sn1, gn0, gn1, repb, List.set_cons_zero, List.set_cons_succ, List.length_cons]
     exact Vw.cut ⟨rfl, rfl, rfl⟩
 . have hp : prtL (.mk 3 z s ks ns) = quote s := rfl
   rw [hp]
   have hq := fun U => quoted06_ok (T := U) (s := s) (by omega)
   refine CallA.eV 27 func22 ntmps22 results22 ?_
   simp -dsimp +decide only [vr, ty, en, ↓reduceIte, Nat.reduceSub, Nat.reduceAdd, Nat.reduceMul, Nat.reduceLT, Int.reduceAdd, Int.reduceSub, Int.reduceToNat, ci]
   refine (quoted06_ok (s := s) (by omega)).det' ?_
   simp -dsimp +decide (disch := omega) only [vr, ty, en, ↓reduceIte, Nat.reduceSub, Nat.reduceAdd, Nat.reduceMul, Nat.reduceLT, Int.reduceAdd, Int.reduceSub, Int.reduceToNat, ci, vi, getO_i, vt]
   exact Vw.cut ⟨bl_wo _ _, rfl, rfl⟩
theorem print06_list {m : Nat} (hrec : Print06Ok m) {T : Tbl} {z : Int} {s : B} {ks : List JV} {ns : List B} (hm : ∀ x ∈ ks, may m x) (hf : ∀ x ∈ ks, fits m x) (hs : vsz (.mk 4 z s ks ns) <= 1073741824) (hl : (joinC (ks.map (prt m))).length <= 68719476736) :
 CallA prog G 22 [.ag (vcs (.mk 4 z s ks ns))] T fun r T' es => r = bl (91 :: (joinC (ks.map (prt m)) ++ [93])) /\ T' = T /\ es = [] := by
 refine CallA.wfs fun wf => ?_
 have wt := wf.t
 have wp := wf.p
 have hvz : vsz (.mk 4 z s ks ns) = 1 + s.length + nsum ns + vszL ks := by rw [vsz]; rfl
 have hkl := vszL_len ks
 have hr := Sl.rules (Es_vcs T ks).sl (by decide)
 have hld := (Es_vcs T ks).ld (P := prog) (t := 25) (by (simp -dsimp +decide only [vr, ty, en, ↓reduceIte, Nat.reduceSub, Nat.reduceAdd, Nat.reduceMul, Nat.reduceLT, Int.reduceAdd, Int.reduceSub, Int.reduceToNat, ci])) (by (simp -dsimp +decide only [vr, ty, en, ↓reduceIte, Nat.reduceSub, Nat.reduceAdd, Nat.reduceMul, Nat.reduceLT, Int.reduceAdd, Int.reduceSub, Int.reduceToNat, ci])) (by decide)
 simp only [vcs, show ∀ l, str l = .p (.string (ba l)) from fun _ => rfl]
 obtain ⟨its, hits⟩ : ∃ its : List B, its = ks.map (prt m) := ⟨_, rfl⟩
 have hil : its.length = ks.length := by rw [hits, List.length_map]
 rw [<- hits] at hl ⊢
 refine CallA.eV 27 func22 ntmps22 results22 ?_
 simp -dsimp +decide only [vr, ty, en, ↓reduceIte, Nat.reduceSub, Nat.reduceAdd, Nat.reduceMul, Nat.reduceLT, Int.reduceAdd, Int.reduceSub, Int.reduceToNat, ci]
 simp -dsimp +decide (disch := omega) only [vr, ty, en, ↓reduceIte, Nat.reduceSub, Nat.reduceAdd, Nat.reduceMul, Nat.reduceLT, Int.reduceAdd, Int.reduceSub, Int.reduceToNat, ci, vi, getO_i, vt, gn0, gn1, sn1, List.set_cons_zero]
 refine SemA.loopC (fun i : Nat => [(1, .ptr T.length 0), (3, .sl (T.length + 1) 0 ([91] ++ joinC (its.take i)).length), (4, wint (i : Int))])
  (fun i => T ++ [.cells 25 [.p (.int .u8 ((4 : UInt8).toNat : Int)), .p (.int .i64 z), .p (.string (ba s)), .vs (vcsL ks) ks.length, .vs (ns.map str) ns.length], bf ([91] ++ joinC (its.take i))])
  (fun i => i <= ks.length) (fun i => ks.length - i) (T.length + 2) 0 [] (by kernel_rfl) (by omega) (by omega) (by (simp -dsimp +decide only [vr, ty, en, ↓reduceIte, Nat.reduceSub, Nat.reduceAdd, Nat.reduceMul, Nat.reduceLT, Int.reduceAdd, Int.reduceSub, Int.reduceToNat, ci, vt]); first | rfl | (and_intros <;> first | rfl | (simp; done))) ?_ (by simp) ?_
 . rfl
 . rintro i g hi
   have hpre := joinC_pre its i
   have hcl : ([91] ++ joinC (its.take i)).length = 1 + (joinC (its.take i)).length := by rw [List.length_append]; rfl
   obtain ⟨W, hW⟩ : ∃ W : B, [91] ++ joinC (its.take i) = W := ⟨_, rfl⟩
   rw [hW] at hcl ⊢
   rw [show bf W = .buf 5 1 (W.map by8) from rfl]
   by_cases hlt : i < ks.length
   rotate_left
   . have hlt' : ((i : Int) < (ks.length : Int)) = False := eq_false (by omega)
     have hall : its.take i = its := List.take_of_length_le (by omega)
     have hg0 : (W.map by8)[0]? = some (by8 91) := by rw [<- hW]; rfl
     simp -dsimp +decide (disch := omega) only [vr, ty, en, ↓reduceIte, Nat.reduceSub, Nat.reduceAdd, Nat.reduceMul, Nat.reduceLT, Int.reduceAdd, Int.reduceSub, Int.reduceToNat, ci, vi, getO_i, vt, wt, gn0, gn1, sn1, hlt', hg0]
     have e2 : W ++ [91 + UInt8.ofInt 2] = 91 :: (joinC its ++ [93]) := by rw [<- hW, hall]; rfl
     have e1 : W.length + 1 = (91 :: (joinC its ++ [93])).length := by rw [<- e2]; simp
     refine ⟨⟨by omega, fun h => by rw [h] at hg0; cases hg0⟩, ⟨by omega, by omega⟩, ?_⟩
     rw [e1, e2]
     refine Vw.pub (T.length + 1) (o := .buf 5 1 ((91 :: (joinC its ++ [93])).map by8)) (gn1 _ _ _ _) rfl (clean8 _) ?_
     simp -dsimp +decide only [vr, ty, en, ↓reduceIte, Nat.reduceSub, Nat.reduceAdd, Nat.reduceMul, Nat.reduceLT, Int.reduceAdd, Int.reduceSub, Int.reduceToNat, ci, vt, wp]
     exact Vw.cut ⟨rfl, rfl, rfl⟩
   have hlt' : ((i : Int) < (ks.length : Int)) = True := eq_true (by omega)
   obtain ⟨x, hx⟩ : ∃ x, ks[i]? = some x := ⟨ks[i], List.getElem?_eq_getElem hlt⟩
   have hxm := List.mem_of_getElem? hx
   have hvx := vszL_mem hxm
   have hatx : List.take 5 (List.drop (i * 5) (vcsL ks)) = vcs x := by rw [vcsL_eq]; exact flat_at (fun x _ => vcs_len x) hx
   have hfl : (vcsL ks).length = ks.length * 5 := by rw [vcsL_eq]; exact flat_len fun x _ => vcs_len x
   have hc := fun V => hrec V x (hm x hxm) (hf x hxm) (by omega)
   have hxi : its[i]? = some (prt m x) := by rw [hits, List.getElem?_map, hx]; rfl
   have hpre2 := joinC_pre its (i + 1)
   have hci : ((i + 1 : Nat) : Int) = (i : Int) + 1 := rfl
   have hsn := joinC_snoc (prt m x) (its.take i)
   rw [show its.take i ++ [prt m x] = its.take (i + 1) from by rw [List.take_add_one, hxi]; rfl] at hsn
   obtain ⟨pk, hpk⟩ : ∃ pk, prt m x = pk := ⟨_, rfl⟩
   have hvb := vbl
   rw [hpk] at hc hsn hxi
   have hlen := congrArg List.length hsn
   have fin : ∀ W' : B, W' = [91] ++ joinC (its.take (i + 1)) -> W'.length = 1 + (joinC (its.take (i + 1))).length /\ AObj.buf 5 1 (W'.map by8) = bf ([91] ++ joinC (its.take (i + 1))) := fun W' h => ⟨by rw [h, List.length_append]; rfl, by rw [h]; rfl⟩
   by_cases hi0 : i = 0
   . have hpos : ((0 : Int) < (i : Int)) = False := eq_false (by omega)
     rw [if_pos (by rw [hi0]; rfl)] at hsn hlen
     have hWq : W ++ pk = [91] ++ joinC (its.take (i + 1)) := by rw [hsn, <- hW, hi0]; simp [joinC]
     obtain ⟨f1, f2⟩ := fin _ hWq
     simp -dsimp +decide (disch := omega) only [vr, ty, en, ↓reduceIte, Nat.reduceSub, Nat.reduceAdd, Nat.reduceMul, Nat.reduceLT, Int.reduceAdd, Int.reduceSub, Int.reduceToNat, ci, vi, getO_i, vt, wt, gn0, gn1, sn1, hlt', hpos, hr, hld, hx]
     refine ⟨by omega, ?_⟩
     refine (hc _).mono ?_
     rintro r T' es ⟨rfl, rfl, rfl⟩
     have f1' := f1
     simp only [List.length_append, List.length_cons, List.length_nil] at f1'
     simp -dsimp +decide (disch := omega) only [vr, ty, en, ↓reduceIte, Nat.reduceSub, Nat.reduceAdd, Nat.reduceMul, Nat.reduceLT, Int.reduceAdd, Int.reduceSub, Int.reduceToNat, ci, vi, getO_i, vt, wt, vbl, gn0, gn1, sn1]
     rw [f2]
     refine ⟨⟨by omega, by omega⟩, i + 1, by omega, by omega, ⟨?_, by rw [hci]⟩, rfl⟩
     congr 1
     rw [List.length_append, List.length_cons, List.length_nil]; omega
   . have hpos : ((0 : Int) < (i : Int)) = True := eq_true (by omega)
     rw [if_neg (by intro e; have := congrArg List.length e; rw [List.length_take, List.length_nil] at this; omega)] at hsn hlen
     have hWq : W ++ [44] ++ pk = [91] ++ joinC (its.take (i + 1)) := by rw [hsn, <- hW]; simp [joinC]
     obtain ⟨f1, f2⟩ := fin _ hWq
     simp -dsimp +decide (disch := omega) only [vr, ty, en, ↓reduceIte, Nat.reduceSub, Nat.reduceAdd, Nat.reduceMul, Nat.reduceLT, Int.reduceAdd, Int.reduceSub, Int.reduceToNat, ci, vi, getO_i, vt, wt, gn0, gn1, sn1, hlt', hpos, hr, hld, hx]
     rw [show List.map by8 W ++ [AV.p (.int .u8 44)] = List.map by8 (W ++ [44]) from by rw [List.map_append]; rfl]
     have hl44 : (W ++ [44]).length = W.length + 1 := by simp
     refine ⟨⟨by omega, by omega⟩, by omega, ?_⟩
     refine (hc _).mono ?_
     rintro r T' es ⟨rfl, rfl, rfl⟩
     have f1' := f1
     simp only [List.length_append, List.length_cons, List.length_nil] at f1'
     simp -dsimp +decide (disch := omega) only [vr, ty, en, ↓reduceIte, Nat.reduceSub, Nat.reduceAdd, Nat.reduceMul, Nat.reduceLT, Int.reduceAdd, Int.reduceSub, Int.reduceToNat, ci, vi, getO_i, vt, wt, vbl, gn0, gn1, sn1]
     rw [f2]
     refine ⟨⟨by omega, by omega⟩, i + 1, by omega, by omega, ⟨?_, by rw [hci]⟩, rfl⟩
     congr 1
     rw [List.length_append, List.length_cons, List.length_nil]; omega
theorem print06_obj {m : Nat} (hrec : Print06Ok m) {T : Tbl} {z : Int} {s : B} {ks : List JV} {ns : List B} (hm : ∀ x ∈ ks, may m x) (hf : ∀ x ∈ ks, fits m x) (hs : vsz (.mk 5 z s ks ns) <= 1073741824) (hnl : ns.length = ks.length) (hl : (joinC (List.zipWith ent ns (ks.map (prt m)))).length <= 68719476736) :
 CallA prog G 22 [.ag (vcs (.mk 5 z s ks ns))] T fun r T' es => r = bl (123 :: (joinC (List.zipWith ent ns (ks.map (prt m))) ++ [125])) /\ T' = T /\ es = [] := by
 refine CallA.wfs fun wf => ?_
 have wt := wf.t
 have wp := wf.p
 have hvz : vsz (.mk 5 z s ks ns) = 1 + s.length + nsum ns + vszL ks := by rw [vsz]; rfl
 have hkl := vszL_len ks
 have hr := Sl.rules (Es_vcs T ks).sl (by decide)
 have hld := (Es_vcs T ks).ld (P := prog) (t := 25) (by (simp -dsimp +decide only [vr, ty, en, ↓reduceIte, Nat.reduceSub, Nat.reduceAdd, Nat.reduceMul, Nat.reduceLT, Int.reduceAdd, Int.reduceSub, Int.reduceToNat, ci])) (by (simp -dsimp +decide only [vr, ty, en, ↓reduceIte, Nat.reduceSub, Nat.reduceAdd, Nat.reduceMul, Nat.reduceLT, Int.reduceAdd, Int.reduceSub, Int.reduceToNat, ci])) (by decide)
 simp only [vcs, show ∀ l, str l = .p (.string (ba l)) from fun _ => rfl]
 obtain ⟨its, hits⟩ : ∃ its : List B, its = List.zipWith ent ns (ks.map (prt m)) := ⟨_, rfl⟩
 have hil : its.length = ks.length := by rw [hits, List.length_zipWith, List.length_map, hnl, Nat.min_self]
 rw [<- hits] at hl ⊢
 refine CallA.eV 27 func22 ntmps22 results22 ?_
 simp -dsimp +decide only [vr, ty, en, ↓reduceIte, Nat.reduceSub, Nat.reduceAdd, Nat.reduceMul, Nat.reduceLT, Int.reduceAdd, Int.reduceSub, Int.reduceToNat, ci]
 simp -dsimp +decide (disch := omega) only [vr, ty, en, ↓reduceIte, Nat.reduceSub, Nat.reduceAdd, Nat.reduceMul, Nat.reduceLT, Int.reduceAdd, Int.reduceSub, Int.reduceToNat, ci, vi, getO_i, vt, gn0, gn1, sn1, List.set_cons_zero]
 refine SemA.loopC (fun i : Nat => [(1, .ptr T.length 0), (3, .sl (T.length + 1) 0 ([123] ++ joinC (its.take i)).length), (4, wint (i : Int))])
  (fun i => T ++ [.cells 25 [.p (.int .u8 ((5 : UInt8).toNat : Int)), .p (.int .i64 z), .p (.string (ba s)), .vs (vcsL ks) ks.length, .vs (ns.map str) ns.length], bf ([123] ++ joinC (its.take i))])
  (fun i => i <= ks.length) (fun i => ks.length - i) (T.length + 2) 0 [] (by kernel_rfl) (by omega) (by omega) (by (simp -dsimp +decide only [vr, ty, en, ↓reduceIte, Nat.reduceSub, Nat.reduceAdd, Nat.reduceMul, Nat.reduceLT, Int.reduceAdd, Int.reduceSub, Int.reduceToNat, ci, vt]); first | rfl | (and_intros <;> first | rfl | (simp; done))) ?_ (by simp) ?_
 . rfl
 . rintro i g hi
   have hpre := joinC_pre its i
   have hcl : ([123] ++ joinC (its.take i)).length = 1 + (joinC (its.take i)).length := by rw [List.length_append]; rfl
   obtain ⟨W, hW⟩ : ∃ W : B, [123] ++ joinC (its.take i) = W := ⟨_, rfl⟩
   rw [hW] at hcl ⊢
   rw [show bf W = .buf 5 1 (W.map by8) from rfl]
   by_cases hlt : i < ks.length
   rotate_left
   . have hlt' : ((i : Int) < (ks.length : Int)) = False := eq_false (by omega)
     have hall : its.take i = its := List.take_of_length_le (by omega)
     have hg0 : (W.map by8)[0]? = some (by8 123) := by rw [<- hW]; rfl
     simp -dsimp +decide (disch := omega) only [vr, ty, en, ↓reduceIte, Nat.reduceSub, Nat.reduceAdd, Nat.reduceMul, Nat.reduceLT, Int.reduceAdd, Int.reduceSub, Int.reduceToNat, ci, vi, getO_i, vt, wt, gn0, gn1, sn1, hlt', hg0]
     have e2 : W ++ [123 + UInt8.ofInt 2] = 123 :: (joinC its ++ [125]) := by rw [<- hW, hall]; rfl
     have e1 : W.length + 1 = (123 :: (joinC its ++ [125])).length := by rw [<- e2]; simp
     refine ⟨⟨by omega, fun h => by rw [h] at hg0; cases hg0⟩, ⟨by omega, by omega⟩, ?_⟩
     rw [e1, e2]
     refine Vw.pub (T.length + 1) (o := .buf 5 1 ((123 :: (joinC its ++ [125])).map by8)) (gn1 _ _ _ _) rfl (clean8 _) ?_
     simp -dsimp +decide only [vr, ty, en, ↓reduceIte, Nat.reduceSub, Nat.reduceAdd, Nat.reduceMul, Nat.reduceLT, Int.reduceAdd, Int.reduceSub, Int.reduceToNat, ci, vt, wp]
     exact Vw.cut ⟨rfl, rfl, rfl⟩
   have hlt' : ((i : Int) < (ks.length : Int)) = True := eq_true (by omega)
   obtain ⟨x, hx⟩ : ∃ x, ks[i]? = some x := ⟨ks[i], List.getElem?_eq_getElem hlt⟩
   have hxm := List.mem_of_getElem? hx
   have hvx := vszL_mem hxm
   have hatx : List.take 5 (List.drop (i * 5) (vcsL ks)) = vcs x := by rw [vcsL_eq]; exact flat_at (fun x _ => vcs_len x) hx
   have hfl : (vcsL ks).length = ks.length * 5 := by rw [vcsL_eq]; exact flat_len fun x _ => vcs_len x
   have hc := fun V => hrec V x (hm x hxm) (hf x hxm) (by omega)
   obtain ⟨y, hy⟩ : ∃ y, ns[i]? = some y := ⟨ns[i]'(by omega), by simp⟩
   have hym : (ns.map str)[i]? = some (.p (.string (ba y))) := by rw [List.getElem?_map, hy]; rfl
   have hyl : 1 + y.length <= nsum ns := nsz_mem (List.mem_of_getElem? hy)
   have hldn := Sl.loads (Sl.vs (ns.map str) ns.length (by simp) : Sl T 1 _ _ _) (P := prog) (t := 9) (by (simp -dsimp +decide only [vr, ty, en, ↓reduceIte, Nat.reduceSub, Nat.reduceAdd, Nat.reduceMul, Nat.reduceLT, Int.reduceAdd, Int.reduceSub, Int.reduceToNat, ci]))
   have hq := fun V => quoted06_ok (T := V) (s := y) (by omega)
   have hxi : its[i]? = some (ent y (prt m x)) := by rw [hits, List.getElem?_zipWith, hy, List.getElem?_map, hx]; rfl
   have hpre2 := joinC_pre its (i + 1)
   have hci : ((i + 1 : Nat) : Int) = (i : Int) + 1 := rfl
   have hsn := joinC_snoc (ent y ((prt m x))) (its.take i)
   rw [show its.take i ++ [ent y ((prt m x))] = its.take (i + 1) from by rw [List.take_add_one, hxi]; rfl] at hsn
   obtain ⟨pk, hpk⟩ : ∃ pk, prt m x = pk := ⟨_, rfl⟩
   have hvb := vbl
   rw [hpk] at hc hsn hxi
   have hlen := congrArg List.length hsn
   have fin : ∀ W' : B, W' = [123] ++ joinC (its.take (i + 1)) -> W'.length = 1 + (joinC (its.take (i + 1))).length /\ AObj.buf 5 1 (W'.map by8) = bf ([123] ++ joinC (its.take (i + 1))) := fun W' h => ⟨by rw [h, List.length_append]; rfl, by rw [h]; rfl⟩
   by_cases hi0 : i = 0
   . have hpos : ((0 : Int) < (i : Int)) = False := eq_false (by omega)
     rw [if_pos (by rw [hi0]; rfl)] at hsn hlen
     have hWq : W ++ quote y ++ [58] ++ pk = [123] ++ joinC (its.take (i + 1)) := by rw [hsn, <- hW, hi0]; simp [ent, joinC]
     obtain ⟨f1, f2⟩ := fin _ hWq
     simp -dsimp +decide (disch := omega) only [vr, ty, en, ↓reduceIte, Nat.reduceSub, Nat.reduceAdd, Nat.reduceMul, Nat.reduceLT, Int.reduceAdd, Int.reduceSub, Int.reduceToNat, ci, vi, getO_i, vt, wt, gn0, gn1, sn1, hlt', hpos, hr, hld, hx, hldn, hym]
     refine ⟨⟨by omega, by omega, fun h => by rw [h] at hym; cases hym⟩, ?_⟩
     refine (quoted06_ok (s := y) (by omega)).det' ?_
     simp -dsimp +decide (disch := omega) only [vr, ty, en, ↓reduceIte, Nat.reduceSub, Nat.reduceAdd, Nat.reduceMul, Nat.reduceLT, Int.reduceAdd, Int.reduceSub, Int.reduceToNat, ci, vi, getO_i, vt, wt, vbl, gn0, gn1, sn1]
     rw [hatx, show List.map by8 (W ++ quote y) ++ [AV.p (.int .u8 58)] = List.map by8 (W ++ quote y ++ [58]) from by rw [List.map_append (l₂ := [58])]; rfl]
     have hq6 := quote_len y
     refine ⟨⟨by omega, by omega⟩, ⟨by simp only [List.length_append, List.length_cons, List.length_nil] <;> omega, by omega, by omega⟩, ⟨by omega, by omega, fun h => by rw [h] at hfl; simp at hfl; omega⟩, by omega, ?_⟩
     refine (hc _).mono ?_
     rintro r T' es ⟨rfl, rfl, rfl⟩
     have f1' := f1
     simp only [List.length_append, List.length_cons, List.length_nil] at f1'
     simp -dsimp +decide (disch := omega) only [vr, ty, en, ↓reduceIte, Nat.reduceSub, Nat.reduceAdd, Nat.reduceMul, Nat.reduceLT, Int.reduceAdd, Int.reduceSub, Int.reduceToNat, ci, vi, getO_i, vt, wt, vbl, gn0, gn1, sn1]
     rw [f2]
     refine ⟨⟨by simp only [List.length_append, List.length_cons, List.length_nil] <;> omega, by omega, by omega⟩, i + 1, by omega, by omega, ⟨?_, by rw [hci]⟩, rfl⟩
     congr 1
     rw [List.length_append, List.length_cons, List.length_nil]; omega
   . have hpos : ((0 : Int) < (i : Int)) = True := eq_true (by omega)
     rw [if_neg (by intro e; have := congrArg List.length e; rw [List.length_take, List.length_nil] at this; omega)] at hsn hlen
     have hWq : W ++ [44] ++ quote y ++ [58] ++ pk = [123] ++ joinC (its.take (i + 1)) := by rw [hsn, <- hW]; simp [ent, joinC]
     obtain ⟨f1, f2⟩ := fin _ hWq
     simp -dsimp +decide (disch := omega) only [vr, ty, en, ↓reduceIte, Nat.reduceSub, Nat.reduceAdd, Nat.reduceMul, Nat.reduceLT, Int.reduceAdd, Int.reduceSub, Int.reduceToNat, ci, vi, getO_i, vt, wt, gn0, gn1, sn1, hlt', hpos, hr, hld, hx, hldn, hym]
     rw [show List.map by8 W ++ [AV.p (.int .u8 44)] = List.map by8 (W ++ [44]) from by rw [List.map_append]; rfl]
     have hl44 : (W ++ [44]).length = W.length + 1 := by simp
     refine ⟨⟨by omega, by omega⟩, ⟨by omega, by omega, fun h => by rw [h] at hym; cases hym⟩, ?_⟩
     refine (quoted06_ok (s := y) (by omega)).det' ?_
     simp -dsimp +decide (disch := omega) only [vr, ty, en, ↓reduceIte, Nat.reduceSub, Nat.reduceAdd, Nat.reduceMul, Nat.reduceLT, Int.reduceAdd, Int.reduceSub, Int.reduceToNat, ci, vi, getO_i, vt, wt, vbl, gn0, gn1, sn1]
     rw [hatx, show List.map by8 ((W ++ [44]) ++ quote y) ++ [AV.p (.int .u8 58)] = List.map by8 ((W ++ [44]) ++ quote y ++ [58]) from by rw [List.map_append (l₂ := [58])]; rfl]
     have hq6 := quote_len y
     refine ⟨⟨by omega, by omega⟩, ⟨by simp only [List.length_append, List.length_cons, List.length_nil] <;> omega, by omega, by omega⟩, ⟨by omega, by omega, fun h => by rw [h] at hfl; simp at hfl; omega⟩, by omega, ?_⟩
     refine (hc _).mono ?_
     rintro r T' es ⟨rfl, rfl, rfl⟩
     have f1' := f1
     simp only [List.length_append, List.length_cons, List.length_nil] at f1'
     simp -dsimp +decide (disch := omega) only [vr, ty, en, ↓reduceIte, Nat.reduceSub, Nat.reduceAdd, Nat.reduceMul, Nat.reduceLT, Int.reduceAdd, Int.reduceSub, Int.reduceToNat, ci, vi, getO_i, vt, wt, vbl, gn0, gn1, sn1]
     rw [f2]
     refine ⟨⟨by simp only [List.length_append, List.length_cons, List.length_nil] <;> omega, by omega, by omega⟩, i + 1, by omega, by omega, ⟨?_, by rw [hci]⟩, rfl⟩
     congr 1
     rw [List.length_append, List.length_cons, List.length_nil]; omega
theorem print06_step (n : Nat) (hrec : ∀ m, n = m + 1 -> Print06Ok m) : Print06Ok n := by
 intro T v hm hf hs
 have hle := prt_le n v hm hf
 have leaf : v.kind ≠ 4 -> v.kind ≠ 5 -> CallA prog G 22 [.ag (vcs v)] T fun r T' es => r = bl (prt n v) /\ T' = T /\ es = [] := fun h4 h5 => by
  have hl := mayL_of hm h4 h5
  rw [prt_leaf hl]
  exact print06_leaf hl (fits_wide hf) hs
 by_cases h4 : v.kind = 4
 . cases n with
   | zero => exact absurd h4 (mayL_bare hm).1
   | succ m =>
     rcases hm with hm | ⟨-, hb, hn, hk⟩
     . exact absurd h4 (mayL_bare hm).1
     obtain ⟨k, z, s, ks, ns⟩ := v
     have h4 : k = 4 := h4
     subst h4
     have hp : prt (m + 1) (.mk 4 z s ks ns) = 91 :: (joinC (ks.map (prt m)) ++ [93]) := by rw [prt]; exact if_pos rfl
     rw [hp] at hle ⊢
     simp only [List.length_cons, List.length_append, List.length_nil] at hle
     exact print06_list (hrec m rfl) hk hf.2 hs (by omega)
 . by_cases h5 : v.kind = 5
   . cases n with
     | zero => exact absurd h5 (mayL_bare hm).2
     | succ m =>
       rcases hm with hm | ⟨-, hb, hn, hk⟩
       . exact absurd h5 (mayL_bare hm).2
       obtain ⟨k, z, s, ks, ns⟩ := v
       have h5 : k = 5 := h5
       subst h5
       have hp : prt (m + 1) (.mk 5 z s ks ns) = 123 :: (joinC (List.zipWith ent ns (ks.map (prt m))) ++ [125]) := by rw [prt]; exact (if_neg (show ¬ (5 : UInt8) = 4 by decide)).trans (if_pos rfl)
       rw [hp] at hle ⊢
       simp only [List.length_cons, List.length_append, List.length_nil] at hle
       exact print06_obj (hrec m rfl) hk hf.2 hs hb.2.2.2 (by omega)
   . exact leaf h4 h5
theorem print06_all : ∀ n, Print06Ok n
 | 0 => print06_step 0 (fun _ e => nomatch e)
 | n + 1 => print06_step (n + 1) (fun m e => by cases e; exact print06_all n)
theorem Print06_ok {T : Tbl} {v : JV} (hv : vsz v <= 1073741824) (hf : fits 8 v) : CallA prog G 9 [.ag (vcs v)] T fun r T' es => ((may 8 v /\ r = .tu [bl (prt 8 v), .p (.int .i64 0)]) ∨ (¬ may 8 v /\ r = .tu [.p (.slice none 0 0), .p (.int .i64 1)])) /\ T' = T /\ es = [] := by
 refine CallA.wfs fun wf => ?_
 have wt := wf.t
 have hM := May06_ok (T := T ++ [AObj.cells 25 (vcs v)]) (v := v) (by omega)
 have hP := fun hm => print06_all 8 (T ++ [AObj.cells 25 (vcs v)]) v hm hf hv
 obtain ⟨p, hp⟩ : ∃ p, prt 8 v = p := ⟨_, rfl⟩
 rw [hp] at hP ⊢
 obtain ⟨k, z, s, ks, ns⟩ := v
 rw [vcs, show str s = .p (.string (ba s)) from rfl] at hM hP ⊢
 refine CallA.eV 4 func9 ntmps9 results9 ?_
 simp -dsimp +decide only [vr, ty, en, ↓reduceIte, Nat.reduceSub, Nat.reduceAdd, Nat.reduceMul, Nat.reduceLT, Int.reduceAdd, Int.reduceSub, Int.reduceToNat, ci]
 simp -dsimp +decide (disch := omega) only [vr, ty, en, ↓reduceIte, Nat.reduceSub, Nat.reduceAdd, Nat.reduceMul, Nat.reduceLT, Int.reduceAdd, Int.reduceSub, Int.reduceToNat, ci, vi, getO_i, vt, tk5]
 refine hM.mono ?_
 rintro r T' es ⟨⟨b, rfl, hb⟩, rfl, rfl⟩
 cases b with
 | false =>
   simp -dsimp +decide (disch := omega) only [vr, ty, en, ↓reduceIte, Nat.reduceSub, Nat.reduceAdd, Nat.reduceMul, Nat.reduceLT, Int.reduceAdd, Int.reduceSub, Int.reduceToNat, ci, vi, getO_i, vt]
   exact Vw.cut ⟨.inr ⟨fun h => (by have := hb.2 h; cases this), rfl⟩, rfl, rfl⟩
 | true =>
   simp -dsimp +decide (disch := omega) only [vr, ty, en, ↓reduceIte, Nat.reduceSub, Nat.reduceAdd, Nat.reduceMul, Nat.reduceLT, Int.reduceAdd, Int.reduceSub, Int.reduceToNat, ci, vi, getO_i, vt, tk5]
   have hm := hb.1 rfl
   refine (hP hm).mono ?_
   rintro r T' es ⟨rfl, rfl, rfl⟩
   simp -dsimp +decide (disch := omega) only [vr, ty, en, ↓reduceIte, Nat.reduceSub, Nat.reduceAdd, Nat.reduceMul, Nat.reduceLT, Int.reduceAdd, Int.reduceSub, Int.reduceToNat, ci, vi, getO_i, vt, vbl]
   exact Vw.cut ⟨.inl ⟨hm, by simp only [AV.wo, AV.woL, bl_wo]⟩, rfl, rfl⟩
end Go.Proofs.YtglpcedoongagaaGreatDoor
