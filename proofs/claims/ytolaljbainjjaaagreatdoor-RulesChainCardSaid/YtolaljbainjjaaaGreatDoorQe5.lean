/-
  'scantlinglaw13.RulesChain' returns true whatever comes, and leaves what came as it was; its row's listed variable is tied to the program's text. No condition.
-/
import Derived.Test.YtolaljbainjjaaaGreatDoorQe4
import Derived.Test.YtolaljbainjjaaaGreatDoorRows
import Derived.LaidMore
import Derived.OpenShut
import Derived.Stop.Joined
import Derived.Test.YtolaljbainjjaaaGreatDoorCards
import Derived.Test.YtolaljbainjjaaaGreatDoorTie
import Derived.SevenTiedAt
import Derived.ChangeCalls
set_option linter.unusedSimpArgs false
set_option linter.unusedVariables false
set_option linter.unusedSectionVars false
set_option maxRecDepth 8000
set_option maxHeartbeats 4000000
namespace Go.Proofs.YtolaljbainjjaaaGreatDoor
open Go.E Go.Proofs.YtolaljbainjjaaaGreatDoor.Tryz Go.Proofs.Tryz
theorem wrA_flat {α : Type} {f : α -> List AV} {sz : Nat} {xs : List α} (hw : ∀ x ∈ xs, (f x).length = sz) {n : Nat} {x y : α} (hx : xs[n]? = some x) {k : Nat} {c : List AV} (hk : k + c.length <= sz) (hy : wrA (f x) k c = f y) : wrA (xs.flatMap f) (n * sz + k) c = (xs.set n y).flatMap f := by
 have hn := (List.getElem?_eq_some_iff.1 hx).1
 have e : xs = xs.take n ++ x :: xs.drop (n + 1) := by
  have h1 := List.take_append_drop n xs
  rw [List.drop_eq_getElem_cons hn] at h1
  rw [List.getElem?_eq_getElem hn] at hx
  rw [Option.some.inj hx] at h1
  exact h1.symm
 have hl : ((xs.take n).flatMap f).length = n * sz := by
  rw [flat_len fun x hx => hw x (List.mem_of_mem_take hx), List.length_take, Nat.min_eq_left (by omega)]
 have hxl := hw x (List.mem_of_getElem? hx)
 have e2 : xs.flatMap f = (xs.take n).flatMap f ++ (f x ++ (xs.drop (n + 1)).flatMap f) := by
  conv => lhs; rw [e]
  rw [List.flatMap_append, List.flatMap_cons]
 have e3 : (xs.set n y).flatMap f = (xs.take n).flatMap f ++ (f y ++ (xs.drop (n + 1)).flatMap f) := by
  rw [List.set_eq_take_append_cons_drop, if_pos hn, List.flatMap_append, List.flatMap_cons]
 rw [e2, e3, <- hy, wrA_eq (by rw [List.length_append, List.length_append, hl, hxl]; omega), wrA_eq (by omega)]
 rw [List.take_append, List.take_of_length_le (by rw [hl]; omega), hl, show n * sz + k - n * sz = k by omega, List.take_append_of_le_length (by omega)]
 rw [show n * sz + k + c.length = n * sz + (k + c.length) by omega, <- hl, List.drop_length_add_append, List.drop_append_of_le_length (by omega)]
 simp only [List.append_assoc]
theorem rulesChain_ok {T : Tbl} {interval spacing k8 : UInt8} {steps : List UInt8} {bit : UInt16} : CallA prog G 4 [by8 interval, by8 spacing, .vs (steps.map by8) steps.length, by8 k8, w16 bit] T fun v _ _ => v = .p (.bool true) := by
 refine CallA.wfs fun wf => ?_
 have wt := wf.t
 have wp := wf.p
 obtain ⟨iv, hiv⟩ : ∃ iv, iv = 2 + interval.toNat % 11 := ⟨_, rfl⟩
 have hiv2 : 2 <= iv /\ iv <= 12 := by omega
 have hw8 : ∀ x : UInt8, IntKind.i64.wrap (x.toNat : Int) = (x.toNat : Int) := fun x => IntWalk.i64_in _ (by have := x.toNat_lt; omega)
 have hmod : (interval.toNat : Int).tmod 11 = ((interval.toNat % 11 : Nat) : Int) := rfl
 have hadd : (2 : Int) + ((interval.toNat % 11 : Nat) : Int) = (iv : Int) := by omega
 obtain ⟨sp, hsp⟩ : ∃ sp, sp = UInt32.ofInt 1 + UInt32.ofInt ((spacing.toUInt32.toNat : Int).tmod 40) := ⟨_, rfl⟩
 have hspn : 1 <= sp.toNat /\ sp.toNat <= 40 := by
  rw [hsp, show (spacing.toUInt32.toNat : Int).tmod 40 = ((spacing.toUInt32.toNat % 40 : Nat) : Int) from rfl, UInt32.toNat_add, show (UInt32.ofInt 1).toNat = 1 from rfl, show (UInt32.ofInt ((spacing.toUInt32.toNat % 40 : Nat) : Int)).toNat = spacing.toUInt32.toNat % 40 by rw [UInt32.ofInt, UInt32.toNat_ofNat']; omega]
  omega
 obtain ⟨p, hp⟩ : ∃ p, p = easyP (iv : Int) sp := ⟨_, rfl⟩
 have hpo : p.Ok := by rw [hp]; exact easy_ok' (by omega)
 have hpm : mayB p = true := by rw [hp]; exact easy_may (by omega) (by omega) (by omega) (by omega)
 have hpt : p.pts = [] := by rw [hp]; rfl
 have hpf : p.first.time.toNat <= 1000 := by rw [hp]; exact Nat.le_refl _
 have hr := Par.rules hpo
 have hpw := vz72.2 _ hpo
 have g0 := fun l => gn0 T (.cells 29 p.cs) l
 have hs20 : ∀ T, Bs T (.vs (steps.map by8) steps.length) steps := fun T => Sl.vs _ _ (by simp)
 refine CallA.eV 19 func4 ntmps4 results4 ?_
 simp -dsimp +decide only [vt2, vy, vz, vze, vr, ty, en, ↓reduceIte, Nat.reduceSub, Nat.reduceAdd, Nat.reduceMul, Nat.reduceLT, Int.reduceAdd, Int.reduceSub, Int.reduceToNat, ci]
 by_cases h1 : ((40 : Int) < (steps.length : Int))
 . have i1 := eq_true h1
   simp -dsimp +decide (disch := omega) only [vt2, vy, vz, vze, vr, ty, en, ↓reduceIte, Nat.reduceSub, Nat.reduceAdd, Nat.reduceMul, Nat.reduceLT, Int.reduceAdd, Int.reduceSub, Int.reduceToNat, ci, vi, getO_i, vt, i1, bb2]
   refine works_ok.det' ?_
   simp -dsimp +decide (disch := omega) only [vt2, vy, vz, vze, vr, ty, en, ↓reduceIte, Nat.reduceSub, Nat.reduceAdd, Nat.reduceMul, Nat.reduceLT, Int.reduceAdd, Int.reduceSub, Int.reduceToNat, ci, vi, getO_i, vt]
   exact Vw.done rfl
 have i1 := eq_false h1
 simp -dsimp +decide (disch := omega) only [vt2, vy, vz, vze, vr, ty, en, ↓reduceIte, Nat.reduceSub, Nat.reduceAdd, Nat.reduceMul, Nat.reduceLT, Int.reduceAdd, Int.reduceSub, Int.reduceToNat, ci, vi, getO_i, vt, i1, bb2, hw8, hmod, hadd, <- hsp]
 refine (easy13_ok (i := (iv : Int)) (s := sp) (by omega)).det' ?_
 rw [<- hp]
 simp -dsimp +decide (disch := omega) only [vt2, vy, vz, vze, vr, ty, en, ↓reduceIte, Nat.reduceSub, Nat.reduceAdd, Nat.reduceMul, Nat.reduceLT, Int.reduceAdd, Int.reduceSub, Int.reduceToNat, ci, vi, getO_i, vt, hw8, hmod, hadd, <- hsp, hr, ez72, hpw, vz72, g0]
 refine (chain_ok hpo (hs20 _) (by omega)).det' ?_
 obtain ⟨⟨lc, hlc, hlcl⟩, hCo, hCg⟩ := chain_good hpo hpf (steps := steps) (by omega)
 obtain ⟨C, hCC⟩ : ∃ C, C = chainB p steps := ⟨_, rfl⟩
 rw [<- hCC] at hlc hCo hCg ⊢
 obtain ⟨aC, haC⟩ : ∃ a, a = AV.vs (C.flatMap Hdr.cs) C.length := ⟨_, rfl⟩
 have hA : HL aC C := by rw [haC]; exact HL.of hCo
 rw [<- haC]
 obtain ⟨n, hn⟩ : ∃ n, n = C.length := ⟨_, rfl⟩
 have hn41 : 1 <= n /\ n <= 41 := by rw [hn, hlc, List.length_cons]; omega
 have hsC := Sl.rules (hA.es T).sl (by decide)
 have hldC := (hA.es T).ld (P := prog) (t := 27) (by (simp -dsimp +decide only [vt2, vy, vz, vze, vr, ty, en, ↓reduceIte, Nat.reduceSub, Nat.reduceAdd, Nat.reduceMul, Nat.reduceLT, Int.reduceAdd, Int.reduceSub, Int.reduceToNat, ci])) (by (simp -dsimp +decide only [vt2, vy, vz, vze, vr, ty, en, ↓reduceIte, Nat.reduceSub, Nat.reduceAdd, Nat.reduceMul, Nat.reduceLT, Int.reduceAdd, Int.reduceSub, Int.reduceToNat, ci])) (by decide)
 rw [<- hn] at hsC hldC
 have hre : ∀ i x, 1 <= i -> C[i]? = some x -> rightE p (C.take i) x = 0 := fun i x hi hx => by
  rw [right_good hpm (hCg i x hi hx), hpt]; rfl
 simp -dsimp +decide (disch := omega) only [vt2, vy, vz, vze, vr, ty, en, ↓reduceIte, Nat.reduceSub, Nat.reduceAdd, Nat.reduceMul, Nat.reduceLT, Int.reduceAdd, Int.reduceSub, Int.reduceToNat, ci, vi, getO_i, vt, hr, g0]
 refine SemA.loopK (T.length + 1) (fun i : Nat => [(3, by8 k8), (4, w16 bit), (11, .ptr T.length 0), (12, aC), (13, wint (i : Int))]) (fun _ => T ++ [.cells 29 p.cs]) (fun i => 1 <= i /\ i <= n) (fun i => n - i) 1 [] 0 (fun _ : Unit => [(3, by8 k8), (4, w16 bit), (11, .ptr T.length 0), (12, aC)]) (fun _ => T ++ [.cells 29 p.cs]) (fun _ => True) (by omega) (by omega) (by (simp -dsimp +decide (disch := omega) only [vt2, vy, vz, vze, vr, ty, en, ↓reduceIte, Nat.reduceSub, Nat.reduceAdd, Nat.reduceMul, Nat.reduceLT, Int.reduceAdd, Int.reduceSub, Int.reduceToNat, ci, vi, getO_i]); first | rfl | exact ⟨rfl, rfl⟩ | done) rfl (by simp) ?_ ?_
 . rintro i g ⟨hi1, hin⟩
   refine SemA.o ?_
   simp -dsimp +decide (disch := omega) only [vt2, vy, vz, vze, vr, ty, en, ↓reduceIte, Nat.reduceSub, Nat.reduceAdd, Nat.reduceMul, Nat.reduceLT, Int.reduceAdd, Int.reduceSub, Int.reduceToNat, ci, vi, getO_i, vt, hsC]
   refine CondP.dec (fun hc => ?_) (fun hc => ?_)
   . obtain ⟨cq, hci⟩ : ∃ cq, C[i]? = some cq := ⟨C[i]'(by omega), by simp⟩
     have hcio := hCo cq (List.mem_of_getElem? hci)
     have hAi := hA.sub (l := 0) (m := i) (by omega) (by omega)
     rw [List.drop_zero, Nat.sub_zero] at hAi
     simp -dsimp +decide (disch := omega) only [vt2, vy, vz, vze, vr, ty, en, ↓reduceIte, Nat.reduceSub, Nat.reduceAdd, Nat.reduceMul, Nat.reduceLT, Int.reduceAdd, Int.reduceSub, Int.reduceToNat, ci, vi, getO_i, vt]
     refine SemA.draw (fun i => true) [(0, true), (1, true), (2, true), (3, true), (4, true), (5, true), (6, true), (7, true), (8, false), (9, true)] mixed (by kernel_rfl) ?_
     simp -dsimp +decide (disch := omega) only [vt2, vy, vz, vze, vr, ty, en, ↓reduceIte, Nat.reduceSub, Nat.reduceAdd, Nat.reduceMul, Nat.reduceLT, Int.reduceAdd, Int.reduceSub, Int.reduceToNat, ci, vi, getO_i, vt, hsC, g0, hr, hldC, hci, kallT]
     refine ⟨by omega, ⟨by omega, by omega⟩, ⟨by omega, by omega⟩, (right_ok' hpo (hAi.es _) hAi.ok hcio (by rw [List.length_take]; omega)).det' ?_⟩
     rw [hre i cq hi1 hci]
     simp -dsimp +decide (disch := omega) only [vt2, vy, vz, vze, vr, ty, en, ↓reduceIte, Nat.reduceSub, Nat.reduceAdd, Nat.reduceMul, Nat.reduceLT, Int.reduceAdd, Int.reduceSub, Int.reduceToNat, ci, vi, getO_i, vt, hr, kallT, bb2, wt, hA.wo]
     exact ⟨i + 1, ⟨⟨by omega, by omega⟩, by omega⟩, rfl⟩
   . have e : i = n := by omega
     subst e
     simp -dsimp +decide (disch := omega) only [vt2, vy, vz, vze, vr, ty, en, ↓reduceIte, Nat.reduceSub, Nat.reduceAdd, Nat.reduceMul, Nat.reduceLT, Int.reduceAdd, Int.reduceSub, Int.reduceToNat, ci, vi, getO_i, vt, wt, hr, hA.wo]
     exact ⟨(), trivial⟩
 . rintro _ g tmp -
   by_cases c3 : (n : Int) < 3
   . have i3 := eq_true c3
     simp -dsimp +decide (disch := omega) only [vt2, vy, vz, vze, vr, ty, en, ↓reduceIte, Nat.reduceSub, Nat.reduceAdd, Nat.reduceMul, Nat.reduceLT, Int.reduceAdd, Int.reduceSub, Int.reduceToNat, ci, vi, getO_i, vt, hsC, i3, bb2]
     refine works_ok.det' ?_
     simp -dsimp +decide (disch := omega) only [vt2, vy, vz, vze, vr, ty, en, ↓reduceIte, Nat.reduceSub, Nat.reduceAdd, Nat.reduceMul, Nat.reduceLT, Int.reduceAdd, Int.reduceSub, Int.reduceToNat, ci, vi, getO_i, vt]
     exact Vw.cut rfl
   have i3 := eq_false c3
   obtain ⟨k, hk⟩ : ∃ k, k = 1 + k8.toNat % (n - 2) := ⟨_, rfl⟩
   have hkm : k8.toNat % (n - 2) < n - 2 := Nat.mod_lt _ (by omega)
   have hk1 : k + 1 < n /\ 1 <= k := by omega
   have hsub : (n : Int) - 2 = ((n - 2 : Nat) : Int) := by omega
   have hkmod : (k8.toNat : Int).tmod ((n - 2 : Nat) : Int) = ((k8.toNat % (n - 2) : Nat) : Int) := rfl
   have hkadd : (1 : Int) + ((k8.toNat % (n - 2) : Nat) : Int) = (k : Int) := by omega
   obtain ⟨ck, hck⟩ : ∃ ck, C[k]? = some ck := ⟨C[k]'(by omega), by simp⟩
   have hcko := hCo ck (List.mem_of_getElem? hck)
   simp -dsimp +decide (disch := omega) only [vt2, vy, vz, vze, vr, ty, en, ↓reduceIte, Nat.reduceSub, Nat.reduceAdd, Nat.reduceMul, Nat.reduceLT, Int.reduceAdd, Int.reduceSub, Int.reduceToNat, ci, vi, getO_i, vt, hsC, i3, bb2, hsub, hw8, hkmod, hkadd, hldC, hck, hr, g0]
   refine ⟨by omega, ⟨by omega, by omega⟩, (rputh_own hcko).det' ?_⟩
   have hbl := Hdr.bytes_len hcko
   obtain ⟨j, hj⟩ : ∃ j, j = bit.toNat / 8 % 80 := ⟨_, rfl⟩
   have hb1 : IntKind.i64.wrap (bit.toNat : Int) = (bit.toNat : Int) := IntWalk.i64_in _ (by have := bit.toNat_lt; omega)
   have hb2 : (bit.toNat : Int).tdiv 8 = ((bit.toNat / 8 : Nat) : Int) := rfl
   have hb4 : IntKind.i64.wrap ((bit.toNat / 8 : Nat) : Int) = ((bit.toNat / 8 : Nat) : Int) := IntWalk.i64_in _ (by have := bit.toNat_lt; omega)
   have hb3 : ((bit.toNat / 8 : Nat) : Int).tmod 80 = (j : Int) := by rw [hj]; rfl
   have hj80 : j < 80 := by omega
   obtain ⟨x, hx⟩ : ∃ x, ck.bytes[j]? = some x := ⟨ck.bytes[j]'(by omega), by simp⟩
   have hxm : (ck.bytes.map by8)[j]? = some (by8 x) := by rw [List.getElem?_map, hx]; rfl
   have hbne : (ck.bytes.map by8 ≠ []) = True := eq_true fun e => by rw [List.map_eq_nil_iff] at e; rw [e] at hbl; cases hbl
   have q2 := fun l => gn2 T (.cells 29 p.cs) (.cells 27 ck.cs) (.buf 5 1 (ck.bytes.map by8)) l
   simp -dsimp +decide (disch := omega) only [vt2, vy, vz, vze, vr, ty, en, ↓reduceIte, Nat.reduceSub, Nat.reduceAdd, Nat.reduceMul, Nat.reduceLT, Int.reduceAdd, Int.reduceSub, Int.reduceToNat, ci, vi, getO_i, vt, hr, g0, q2, hb1, hb2, hb3, hb4, hbne, hbl, hxm, hx]
   obtain ⟨bs, hbs⟩ : ∃ bs, bs = ck.bytes.set j (x ^^^ u8_shl (UInt8.ofInt 1) (bit.toNat % 8)) := ⟨_, rfl⟩
   have hbsl : bs.length = 80 := by rw [hbs, List.length_set, hbl]
   rw [<- hbs]
   have hB : ∀ l, Bs (T ++ .cells 29 p.cs :: .cells 27 ck.cs :: .buf 5 1 (bs.map by8) :: l) (.sl (T.length + 2) 0 80) bs := fun l => by
    have := Bs.obj (bs := bs) (gn2 T (.cells 29 p.cs) (.cells 27 ck.cs) (.buf 5 1 (bs.map by8)) l) rfl
    rwa [hbsl] at this
   refine ⟨⟨by omega, by omega⟩, by omega, ⟨by omega, by omega⟩, by omega, (get08_ok (hB []) hbsl).det' ?_⟩
   obtain ⟨h, hh⟩ : ∃ h, h = getH bs := ⟨_, rfl⟩
   have hho : h.Ok := by rw [hh]; exact getH_ok hbsl
   rw [<- hh]
   have hhr := Hdr.rules hho
   have hhv := vz68.2 _ hho
   have q3 := fun l => gn3 T (.cells 29 p.cs) (.cells 27 ck.cs) (.buf 5 1 (bs.map by8)) (.cells 27 h.cs) l
   simp -dsimp +decide (disch := omega) only [vt2, vy, vz, vze, vr, ty, en, ↓reduceIte, Nat.reduceSub, Nat.reduceAdd, Nat.reduceMul, Nat.reduceLT, Int.reduceAdd, Int.reduceSub, Int.reduceToNat, ci, vi, getO_i, vt, hr, g0, q3, ez68, vz68, hhr, hhv, bb2]
   refine SemA.draw (fun i => true) [(0, true), (2, true), (3, true), (4, true), (5, true), (1, false), (6, false), (7, true)] mixed (by kernel_rfl) ?_
   simp -dsimp +decide (disch := omega) only [vt2, vy, vz, vze, vr, ty, en, ↓reduceIte, Nat.reduceSub, Nat.reduceAdd, Nat.reduceMul, Nat.reduceLT, Int.reduceAdd, Int.reduceSub, Int.reduceToNat, ci, vi, getO_i, vt, hr, g0, q3, hhr, hsC, hldC, hck, kallT]
   refine ⟨⟨by omega, by omega⟩, (rid_ok hho).det' ?_⟩
   simp -dsimp +decide (disch := omega) only [vt2, vy, vz, vze, vr, ty, en, ↓reduceIte, Nat.reduceSub, Nat.reduceAdd, Nat.reduceMul, Nat.reduceLT, Int.reduceAdd, Int.reduceSub, Int.reduceToNat, ci, vi, getO_i, vt, hr, g0, q3, hhr, hsC, hldC, hck, kallT]
   refine (rid_ok hcko).det' ?_
   by_cases cid : h.id = ck.id
   . have iid := eq_true cid
     simp -dsimp +decide (disch := omega) only [vt2, vy, vz, vze, vr, ty, en, ↓reduceIte, Nat.reduceSub, Nat.reduceAdd, Nat.reduceMul, Nat.reduceLT, Int.reduceAdd, Int.reduceSub, Int.reduceToNat, ci, vi, getO_i, vt, hr, g0, q3, hhr, hsC, hldC, hck, kallT, eqh h.id_len ck.id_len, iid, bb2]
     refine works_ok.det' ?_
     simp -dsimp +decide (disch := omega) only [vt2, vy, vz, vze, vr, ty, en, ↓reduceIte, Nat.reduceSub, Nat.reduceAdd, Nat.reduceMul, Nat.reduceLT, Int.reduceAdd, Int.reduceSub, Int.reduceToNat, ci, vi, getO_i, vt]
     exact Vw.cut rfl
   have iid := eq_false cid
   have hones : ones (C.flatMap Hdr.cs) = true := hdrs_ones hCo
   have hckr := Hdr.rules hcko
   have hwd : ∀ x ∈ C, (Hdr.cs x).length = 68 := fun x hx => Hdr.cs_len (hCo x hx)
   have hfl : (C.flatMap Hdr.cs).length = n * 68 := by rw [hn]; exact flat_len hwd
   have hst : wrA (C.flatMap Hdr.cs) (k * 68) h.cs = (C.set k h).flatMap Hdr.cs := by
    have := wrA_flat (f := Hdr.cs) (k := 0) (c := h.cs) (y := h) hwd hck (by rw [hhr.1]; decide) (wrA_all (by rw [hhr.1, hckr.1]))
    exact this
   have hkb : (k + 1) * 68 <= n * 68 := Nat.mul_le_mul_right _ (Nat.le_of_lt hk1.1)
   simp -dsimp +decide (disch := omega) only [vt2, vy, vz, vze, vr, ty, en, ↓reduceIte, Nat.reduceSub, Nat.reduceAdd, Nat.reduceMul, Nat.reduceLT, Int.reduceAdd, Int.reduceSub, Int.reduceToNat, ci, vi, getO_i, vt, hr, g0, q3, hhr, hckr, hsC, hldC, hck, kallT, eqh h.id_len ck.id_len, iid, bb2, wt, hdrs_wo _ hCo, hst, hfl]
   have hneC : C.flatMap Hdr.cs ≠ [] := fun e => by rw [e] at hfl; simp at hfl; omega
   refine ⟨hones, ⟨by omega, by omega⟩, ⟨by omega, by omega, hneC⟩, by omega, ?_⟩
   obtain ⟨D, hD⟩ : ∃ D, D = C.set k h := ⟨_, rfl⟩
   have hDl : D.length = n := by rw [hD, List.length_set, hn]
   have hDo : ∀ x ∈ D, x.Ok := fun x hx => by
    rw [hD] at hx
    rcases List.mem_or_eq_of_mem_set hx with h2 | h2
    . exact hCo x h2
    . rw [h2]; exact hho
   have q0 := fun l => gn0 T (.cells 29 p.cs) l
   have q4 := fun l => gn4 T (.cells 29 p.cs) (.cells 27 ck.cs) (.buf 5 1 (bs.map by8)) (.cells 27 h.cs) (.buf 27 68 (D.flatMap Hdr.cs)) l
   have hE : ∀ l, Es (T ++ .cells 29 p.cs :: .cells 27 ck.cs :: .buf 5 1 (bs.map by8) :: .cells 27 h.cs :: .buf 27 68 (D.flatMap Hdr.cs) :: l) 68 Hdr.cs (.sl (T.length + 4) 0 n) D := fun l => by
    have := Es.obj (xs := D) (f := Hdr.cs) (sz := 68) (q4 l) rfl fun x hx => Hdr.cs_len (hDo x hx)
    rwa [hDl] at this
   have hE1 := fun l => (hE l).sub (l := 0) (m := k) (by omega) (by omega)
   have hE2 := fun l => (hE l).sub (l := 0) (m := k + 1) (by omega) (by omega)
   rw [List.drop_zero, Nat.sub_zero] at hE1 hE2
   have hDk : D[k]? = some h := by rw [hD]; exact List.getElem?_set_self (by omega)
   obtain ⟨cn, hcn⟩ : ∃ cn, C[k + 1]? = some cn := ⟨C[k + 1]'(by omega), by simp⟩
   have hcno := hCo cn (List.mem_of_getElem? hcn)
   have hDn : D[k + 1]? = some cn := by rw [hD, List.getElem?_set_ne (by omega), hcn]
   have hpr : rightE p (D.take (k + 1)) cn = 9 := by
    have g1 := (hCg (k + 1) cn (by omega) hcn).1
    have l1 : (C.take (k + 1)).getLast? = some ck := by rw [List.getLast?_eq_getElem?, List.length_take, List.getElem?_take, Nat.min_eq_left (by omega), Nat.add_sub_cancel, if_pos (by omega), hck]
    have l2 : (D.take (k + 1)).getLast? = some h := by rw [List.getLast?_eq_getElem?, List.length_take, List.getElem?_take, Nat.min_eq_left (by omega), Nat.add_sub_cancel, if_pos (by omega), hDk]
    rw [prevB, l1] at g1
    have g2 : cn.prev = ck.id := by simpa using g1
    have g3 : prevB (D.take (k + 1)) cn = false := by
     rw [prevB, l2]
     exact decide_eq_false fun e => cid (by rw [<- e, g2])
    unfold rightE firstR
    rw [hpm, g3]; rfl
   have hT1 : ∀ x ∈ D.take k, x.Ok := fun x hx => hDo x (List.mem_of_mem_take hx)
   have hT2 : ∀ x ∈ D.take (k + 1), x.Ok := fun x hx => hDo x (List.mem_of_mem_take hx)
   have kadd : (k : Int) + 1 = ((k + 1 : Nat) : Int) := by omega
   rw [<- hD]
   refine SemA.draw (fun i => true) [(0, true), (1, true), (2, true), (3, true), (4, true), (5, false), (6, true), (7, true), (8, true), (9, true), (10, true), (11, true), (12, true), (13, true), (14, true), (15, true), (16, true), (17, true), (18, false), (19, true), (20, true), (21, true), (22, false), (23, true), (24, true)] mixed (by kernel_rfl) ?_
   simp -dsimp +decide (disch := omega) only [vt2, vy, vz, vze, vr, ty, en, ↓reduceIte, Nat.reduceSub, Nat.reduceAdd, Nat.reduceMul, Nat.reduceLT, Int.reduceAdd, Int.reduceSub, Int.reduceToNat, ci, vi, getO_i, vt, hr, q0, q3, q4, hhr, kallT]
   refine ⟨by omega, ⟨by omega, by omega⟩, (right_ok' hpo (a := .sl (T.length + 4) 0 k) (hs := D.take k) (hE1 []) hT1 hho (by rw [List.length_take]; omega)).det' ?_⟩
   by_cases c9 : rightE p (D.take k) h = 0
   . have i9 := eq_true c9
     have hwD : ∀ x ∈ D, (Hdr.cs x).length = 68 := fun x hx => Hdr.cs_len (hDo x hx)
     have hflD : (D.flatMap Hdr.cs).length = n * 68 := by rw [flat_len hwD, hDl]
     have hneD : D.flatMap Hdr.cs ≠ [] := fun e => by rw [e] at hflD; simp at hflD; omega
     have hkb2 : (k + 2) * 68 <= n * 68 := Nat.mul_le_mul_right _ hk1.1
     simp -dsimp +decide (disch := omega) only [vt2, vy, vz, vze, vr, ty, en, ↓reduceIte, Nat.reduceSub, Nat.reduceAdd, Nat.reduceMul, Nat.reduceLT, Int.reduceAdd, Int.reduceSub, Int.reduceToNat, ci, vi, getO_i, vt, hr, q0, q3, q4, hhr, kallT, i9, bb2, kadd, flat_at hwD hDn]
     refine ⟨by omega, ⟨by omega, by omega⟩, ⟨by omega, by omega, hneD⟩, by omega, (right_ok' hpo (a := .sl (T.length + 4) 0 (k + 1)) (hs := D.take (k + 1)) (hE2 []) hT2 hcno (by rw [List.length_take]; omega)).det' ?_⟩
     rw [hpr]
     simp -dsimp +decide (disch := omega) only [vt2, vy, vz, vze, vr, ty, en, ↓reduceIte, Nat.reduceSub, Nat.reduceAdd, Nat.reduceMul, Nat.reduceLT, Int.reduceAdd, Int.reduceSub, Int.reduceToNat, ci, vi, getO_i, vt, hr, q0, q3, q4, hhr, kallT, i9, bb2, kadd]
     refine works_ok.det' ?_
     simp -dsimp +decide (disch := omega) only [vt2, vy, vz, vze, vr, ty, en, ↓reduceIte, Nat.reduceSub, Nat.reduceAdd, Nat.reduceMul, Nat.reduceLT, Int.reduceAdd, Int.reduceSub, Int.reduceToNat, ci, vi, getO_i, vt]
     exact Vw.cut rfl
   . have i9 := eq_false c9
     simp -dsimp +decide (disch := omega) only [vt2, vy, vz, vze, vr, ty, en, ↓reduceIte, Nat.reduceSub, Nat.reduceAdd, Nat.reduceMul, Nat.reduceLT, Int.reduceAdd, Int.reduceSub, Int.reduceToNat, ci, vi, getO_i, vt, hr, q0, q3, q4, hhr, kallT, i9, bb2, kadd]
     refine works_ok.det' ?_
     simp -dsimp +decide (disch := omega) only [vt2, vy, vz, vze, vr, ty, en, ↓reduceIte, Nat.reduceSub, Nat.reduceAdd, Nat.reduceMul, Nat.reduceLT, Int.reduceAdd, Int.reduceSub, Int.reduceToNat, ci, vi, getO_i, vt]
     exact Vw.cut rfl
end Go.Proofs.YtolaljbainjjaaaGreatDoor
namespace Go.Proofs.YtolaljbainjjaaaGreatDoor
open Go.ChangeShapes Go.WideShapes Go.ChangeAt Go.RowKit Go.E Go.Proofs.YtolaljbainjjaaaGreatDoor.Tryz Go.Proofs.Tryz
theorem own : ownKnob prog.godebug = none := by kernel_rfl
theorem laidOut : laidOutB prog = true := by kernel_rfl
theorem gTable : prog.globalNamed "scantling/sha.table" = some 2 := by kernel_rfl
def tblT : TypeId := 137
theorem tTable : (prog.globals[2]?).map (·.type) = some tblT := by kernel_rfl
def tblZ : List Int := tbl.map fun x => (x.toNat : Int)
theorem tblD : (Rows.laid_scantling_sha_table : DataW Unit) = .agg (tblZ.map fun z => .lit (.int .u32 z)) := rfl
theorem gok {W : World} (h : laidMetH prog [("scantling/sha.table", Rows.laid_scantling_sha_table)] W) : GOK G (wholeH W) := by
 rw [MakeChecks.laidMetH_plain _ _ _ (by kernel_rfl)] at h
 obtain ⟨ps, ⟨g0, t0, cs0, f0, p0, q0, hg0, ht0, hv0, hd0, _, _⟩, _, _⟩ := h
 obtain rfl := Option.some.inj (gTable.symm.trans hg0)
 obtain rfl := Option.some.inj (tTable.symm.trans ht0)
 rw [tblD] at hd0
 have hcs := trod_lits (n := 64) Tryz.underlying137 Tryz.underlying22 (by kernel_rfl) (by kernel_rfl) hd0
 have hrd : Rd W (some ⟨2, 0, none⟩) (tblZ.map (Value.int .u32)) := by
  refine .inr ⟨_, rfl, rfl, fun k v hk => ?_⟩
  have := World.var?_cell hg0 hv0 k
  rw [<- hcs] at hk
  rw [add_plain rfl]
  simp only [Nat.zero_add]
  rw [this]
  simpa using hk
 intro g
 unfold G
 split
 . rename_i h0
   subst h0
   refine rel_vp0 (vs := tblZ.map (Value.int .u32)) ?_ (by decide) (arr_holds (wholeH_whole W) hrd)
   have := RelL.ps (Z := wholeH W) (ρ := []) (tblZ.map (Value.int .u32))
   rw [List.map_map] at this
   rw [show tbl.map w32 = tblZ.map (AV.p ∘ Value.int .u32) by rw [tblZ, List.map_map]; rfl]
   exact this
 . exact .p _
theorem door_met (os : Os) (args : Array Value) : laidMetH prog [("scantling/sha.table", Rows.laid_scantling_sha_table)] ((World.doorLaid prog 14 os).forCall (fun _ _ => 0) ⟨#[], args, []⟩).memory :=
 laidMetH_of_parts3 (fuel := 8) (laidMet_of_run' 8 (by kernel_rfl) (by kernel_rfl)) (by kernel_rfl) (by kernel_rfl)
end Go.Proofs.YtolaljbainjjaaaGreatDoor
namespace Go.Proofs.YtolaljbainjjaaaGreatDoor.rulesChainL
open Go.ChangeShapes Go.WideShapes Go.ChangeAt Go.RowKit Go.E Go.Proofs.YtolaljbainjjaaaGreatDoor.Tryz Go.Proofs.Tryz
set_option maxRecDepth 100000 in
theorem contract (H : Type) (enc : TypeId × Value -> H) (W : World) (base : Nat) (args : Array Value) (ds gs : List (DataW H)) (before : List MemPlace)
 (hval : ∀ (j : Nat) t v, Tryz.f4.params[j]? = some t -> args[j]? = some v -> Value.okWide prog W .any base t v)
 (hW : DataW.Whole enc prog Tryz.f4.params.toList Rows.rulesChainSpec.vars false W args.toList ds gs before)
 (hz : (DataW.weightsEach prog (Tryz.f4.params.toList ++ Rows.rulesChainSpec.plain.varTypes prog) (ds ++ gs)).all (· <= reachBytes) = true)
 (hL : laidMetH prog [("scantling/sha.table", Rows.laid_scantling_sha_table)] W) :
 Calls prog 4 args W fun e W' => ∃ v, e = .returned v /\ Rows.rulesChainSpec.post enc prog Tryz.f4 false true false false W args v W' := by
 have hn : ds.length = 5 := by
  obtain ⟨p, q, hA, _⟩ := hW
  rw [Tryz.params4] at hA
  exact (trodAll_length hA).2
 have hg : gs = [] := by
  obtain ⟨p, q, hA, hV, _⟩ := hW
  exact (trodVars_none hV).1
 subst hg
 refine law_callsA (tys := [5, 39, 40]) 4 laidOut (by kernel_rfl) (by kernel_rfl) Tryz.underlying4 rfl ?_ hW (by kernel_rfl) (by kernel_rfl) hval hz (gok hL) ?_
 . match ds, hn with
   | [_, _, _, _, _], _ => rfl
 intro xs hx
 rw [Tryz.params4] at hx
 cases hx with | cons h0 hx =>
 cases hx with | cons h1 hx =>
 cases hx with | cons h2 hx =>
 cases hx with | cons h3 hx =>
 cases hx with | cons h4 hx =>
 cases hx
 obtain ⟨a0, rfl⟩ := open_u8 Tryz.underlying5 _ h0
 obtain ⟨a1, rfl⟩ := open_u8 Tryz.underlying5 _ h1
 obtain ⟨a2, e2, h2l⟩ := arg_nums (fun a : UInt8 => by rw [Dat.avs]) (open_u8 Tryz.underlying5) h2 Tryz.underlying39
 obtain ⟨a3, rfl⟩ := open_u8 Tryz.underlying5 _ h3
 obtain ⟨a4, rfl⟩ := open_u16 Tryz.underlying40 _ h4
 simp only [List.map_cons, List.map_nil, e2]
 exact rulesChain_ok
set_option maxRecDepth 100000 in
theorem lifted (os : Os) (started : os.Started) (H : Type) (enc : TypeId × Value -> H) :
 ReturnsInHanded {} Tryz.checked os 4 .any (fun w args => (Rows.rulesChainSpec.pre enc prog Tryz.f4 [] false w args /\ laidMetH prog [("scantling/sha.table", Rows.laid_scantling_sha_table)] w) /\ sizedMet enc prog Tryz.f4 (OpenSpec.ofChange Rows.rulesChainSpec) false w args)
  (Rows.rulesChainSpec.post enc prog Tryz.f4 false true false false) := by
 refine returnsInHanded_of_change_and (C := Tryz.checked) (X := fun w _ => laidMetH prog [("scantling/sha.table", Rows.laid_scantling_sha_table)] w) (fun _ _ _ hh h => h.of_heap hh) own started (by kernel_rfl) func4
  (ChangeSpec.witness_shaped (enc := enc) (C := Tryz.checked) (os := os) (X := fun w _ => laidMetH prog [("scantling/sha.table", Rows.laid_scantling_sha_table)] w) false (World.doorLaid prog 14 os) #[.int .u8 0, .int .u8 0, .slice none 0 0, .int .u8 0, .int .u16 0] 8 rfl (World.shaped_of_RefB (by kernel_rfl) (by kernel_rfl)) (by kernel_rfl) (by kernel_rfl) (by kernel_rfl) (door_met os _)) ?_
 intro W base args ds gs before hval hW _ hz hL _
 exact contract H enc W base args ds gs before hval hW hz hL
theorem said : Rows.RulesChainSaid :=
 OpenClaim.holds_of_wide 4 Tryz.f4 rfl rfl rfl rfl rfl rfl rfl ⟨rfl, rfl, rfl, rfl, rfl⟩ rfl rfl rfl rfl rfl (by kernel_rfl) func4 (by kernel_rfl)
  (of_decide_eq_true (by kernel_rfl)) (by unfold Func.isWrapper; first | (rw [if_pos (by decide +kernel)]; kernel_rfl) | (rw [if_neg (by decide +kernel)]; exact ⟨rfl, rfl⟩))
  (fun os started H enc _ => lifted os started H enc)
theorem proved : Rows.RulesChainCardSaid :=
 Claim7.holds_tied_plain_at .later [] [.data] true Rows.rulesChainCard.stood.harness false
  said (fun _ h => by cases h) (by kernel_rfl) (fun _ h => by cases h) rulesChain_row_tie rfl ⟨rfl, rfl⟩ (by kernel_rfl) rfl
  (fun f fn hf hfn => by
   obtain rfl : f = 4 := Option.some.inj ((show prog.funcNamed "scantling/scantlinglaw13.RulesChain" = some 4 by kernel_rfl).symm.trans hf) |>.symm
   obtain rfl : fn = Tryz.f4 := (Option.some.inj (func4.symm.trans hfn)).symm
   exact ⟨by kernel_rfl, fun j t ht => by
    have hm : t ∈ Tryz.f4.params.toList := by simpa using Array.mem_of_getElem? ht
    have hall : (Tryz.f4.params.toList.all fun u => !prog.wantsStandIn u) = true := by kernel_rfl
    exact (show prog.wantsStandIn t = false by simpa using List.all_eq_true.1 hall t hm)⟩)
  (by kernel_rfl)
end Go.Proofs.YtolaljbainjjaaaGreatDoor.rulesChainL
