/-
  'scantlinglaw13.RulesPlays' returns true whatever comes, and leaves what came as it was; its row's listed variable is tied to the program's text. No condition.
-/
import Derived.Test.YtolaljbainjjaaaGreatDoorQd4
import Derived.Test.YtolaljbainjjaaaGreatDoorRows
import Derived.LaidMore
import Derived.OpenShut
import Derived.Stop.Joined
import Derived.Test.YtolaljbainjjaaaGreatDoorCards
import Derived.Test.YtolaljbainjjaaaGreatDoorTie
import Derived.SevenTiedAt
import Derived.ChangeCalls
set_option linter.unusedSimpArgs false
set_option linter.unusedVariables false
set_option linter.unusedSectionVars false
set_option maxRecDepth 8000
set_option maxHeartbeats 4000000
namespace Go.Proofs.YtolaljbainjjaaaGreatDoor
open Go.E Go.Proofs.YtolaljbainjjaaaGreatDoor.Tryz Go.Proofs.Tryz
structure HL (a : AV) (hs : List Hdr) : Prop where
 es : ∀ T, Es T 68 Hdr.cs a hs
 ok : ∀ x ∈ hs, x.Ok
 wo : ∀ q, a.wo q = a
 pub : ∀ i cs, a.pub i cs = a
theorem HL.of {hs : List Hdr} (h : ∀ x ∈ hs, x.Ok) : HL (.vs (hs.flatMap Hdr.cs) hs.length) hs where
 es := fun _ => Es.vs fun x hx => Hdr.cs_len (h x hx)
 ok := h
 wo := fun _ => by rw [AV.wo]
 pub := fun _ _ => by rw [AV.pub]
theorem sub_pub {i : Nat} {cs : List AV} {a : AV} {sz l m : Nat} (h : a.wo (fun j => j == i) = a) : (a.sub sz l m).pub i cs = a.sub sz l m := pub_wo i cs _ (sub_wo h)
theorem HL.sub {a : AV} {hs : List Hdr} (h : HL a hs) {l m : Nat} (h1 : l <= m) (h2 : m <= hs.length) : HL (a.sub 68 l m) ((hs.drop l).take (m - l)) where
 es := fun T => (h.es T).sub h1 h2
 ok := fun x hx => h.ok x (List.mem_of_mem_drop (List.mem_of_mem_take hx))
 wo := fun q => sub_wo (h.wo q)
 pub := fun i cs => sub_pub (h.wo _)
def z72 : List AV := w32 0 :: wint 0 :: w32 0 :: .p (.slice none 0 0) :: z68
theorem ez72 : [oW, oI, oW, AV.p (Value.slice none 0 0), oW, oB, oB, oB, oB, oB, oB, oB, oB, oB, oB, oB, oB, oB, oB, oB, oB, oB, oB, oB, oB, oB, oB, oB, oB, oB, oB, oB, oB, oB, oB, oB, oB, oB, oB, oB, oB, oB, oB, oB, oB, oB, oB, oB, oB, oB, oB, oB, oB, oB, oB, oB, oB, oB, oB, oB, oB, oB, oB, oB, oB, oB, oB, oB, oB, oW, oW, oW] = z72 := rfl
theorem vz72 : z72.length = 72 /\ (∀ p : Par, p.Ok -> wrA z72 0 p.cs = p.cs) := ⟨rfl, fun p ok => wrA_all (by rw [(Par.rules ok).1]; rfl)⟩
theorem eze1 : z32.set 0 (.p (.int .u8 1)) = e1B.map by8 := rfl
theorem bad_right {C l : List Hdr} {h : Hdr} (hC : C = eP.first :: eH :: l) (hl : l.length <= 1) (hh : h.prev = e1B) : rightE eP (C.take (C.length - 1)) h = 9 := by
 have hp : prevB (C.take (C.length - 1)) h = false := by
  have i0 : ¬ e1B = eP.first.id := fun e => by have := ex_id0; rw [<- e] at this; simp at this
  have i1 : ¬ e1B = eH.id := fun e => by have := ex_id1; rw [<- e] at this; simp at this
  rcases l with _ | ⟨z, l⟩
  . rw [hC]
    show decide (h.prev = eP.first.id) = false
    rw [hh]; exact decide_eq_false i0
  . rcases l with _ | ⟨z2, l⟩
    . rw [hC]
      show decide (h.prev = eH.id) = false
      rw [hh]; exact decide_eq_false i1
    . simp at hl
 rw [rightE, eP_may, hp]
 rfl
theorem works_ok {T : Tbl} : CallA prog G 6 [] T fun v T' es => v = .p (.bool true) /\ T' = T /\ es = [] := by
 refine CallA.wfs fun wf => ?_
 have wt := wf.t
 have hr := Par.rules eP_ok
 refine CallA.eV 7 func6 ntmps6 results6 ?_
 simp -dsimp +decide only [vr, ty, en, ↓reduceIte, Nat.reduceSub, Nat.reduceAdd, Nat.reduceMul, Nat.reduceLT, Int.reduceAdd, Int.reduceSub, Int.reduceToNat, ci]
 refine (easy13_ok (i := 4) (s := 10) (by omega)).det' ?_
 have hpw := vz72.2 _ eP_ok
 simp -dsimp +decide (disch := omega) only [vr, ty, en, ↓reduceIte, Nat.reduceSub, Nat.reduceAdd, Nat.reduceMul, Nat.reduceLT, Int.reduceAdd, Int.reduceSub, Int.reduceToNat, ci, vi, getO_i, vt, hr, ez72, hpw, vz72]
 refine (times_ok (l := [0, 1, 2, 3]) (Sl.obj (gn1 T _ _ _) rfl rfl) (by decide)).det' ?_
 obtain ⟨aL, haL⟩ : ∃ a, a = AV.vs ((timesH [0, 1, 2, 3]).flatMap Hdr.cs) [(0 : UInt32), 1, 2, 3].length := ⟨_, rfl⟩
 have hL : HL aL (timesH [0, 1, 2, 3]) := by rw [haL]; exact HL.of (timesH_ok _)
 rw [<- haL]
 have g0 := fun l => gn0 T (.cells 29 eP.cs) l
 simp -dsimp +decide (disch := omega) only [vr, ty, en, ↓reduceIte, Nat.reduceSub, Nat.reduceAdd, Nat.reduceMul, Nat.reduceLT, Int.reduceAdd, Int.reduceSub, Int.reduceToNat, ci, vi, getO_i, vt, hr, g0]
 refine (chain_ok eP_ok (steps := [1, 2]) (Sl.obj (gn2 T _ _ _ _) rfl rfl) (by decide)).det' ?_
 generalize AObj.buf 22 1 _ = b1
 generalize AObj.buf 5 1 _ = b2
 obtain ⟨l, hC, hCl⟩ := ex_chain
 obtain ⟨-, hCo, hCg⟩ := chain_good eP_ok (by decide) (steps := [1, 2]) (by decide)
 obtain ⟨C, hCC⟩ : ∃ C, C = chainB eP [1, 2] := ⟨_, rfl⟩
 rw [<- hCC] at hC hCo hCg ⊢
 obtain ⟨aC, haC⟩ : ∃ a, a = AV.vs (C.flatMap Hdr.cs) C.length := ⟨_, rfl⟩
 have hA : HL aC C := by rw [haC]; exact HL.of hCo
 rw [<- haC]
 obtain ⟨n, hn⟩ : ∃ n, n = C.length := ⟨_, rfl⟩
 have hn2 : 2 <= n /\ n <= 3 := by rw [hn, hC]; simp; omega
 have hsL := Sl.rules (hL.es T).sl (by decide)
 have hsC := Sl.rules (hA.es T).sl (by decide)
 have hl4 : (timesH [0, 1, 2, 3]).length = 4 := rfl
 rw [hl4] at hsL
 rw [<- hn] at hsC
 have g0b := fun l => gn0 T (.cells 29 eP.cs) l
 simp -dsimp +decide (disch := omega) only [vr, ty, en, ↓reduceIte, Nat.reduceSub, Nat.reduceAdd, Nat.reduceMul, Nat.reduceLT, Int.reduceAdd, Int.reduceSub, Int.reduceToNat, ci, vi, getO_i, vt, hr, g0]
 refine SemA.draw (fun i => true) [(0, true), (1, false), (2, true), (3, true), (4, true), (5, true), (6, true), (7, false), (8, true), (9, true), (10, true), (11, true), (12, true), (13, false), (14, true), (15, true), (16, true), (17, false), (18, false), (19, false), (20, true), (21, true), (22, true), (23, true), (24, true), (25, true), (26, true)] mixed (by kernel_rfl) ?_
 simp -dsimp +decide (disch := omega) only [vr, ty, en, ↓reduceIte, Nat.reduceSub, Nat.reduceAdd, Nat.reduceMul, Nat.reduceLT, Int.reduceAdd, Int.reduceSub, Int.reduceToNat, ci, vi, getO_i, vt, hr, g0, kallT]
 refine (pmay_ok eP_ok).det' ?_
 rw [eP_may]
 simp -dsimp +decide (disch := omega) only [vr, ty, en, ↓reduceIte, Nat.reduceSub, Nat.reduceAdd, Nat.reduceMul, Nat.reduceLT, Int.reduceAdd, Int.reduceSub, Int.reduceToNat, ci, vi, getO_i, vt, hr, g0, kallT, bb2, hsL]
 have hL3 := hL.sub (l := 0) (m := 3) (by omega) (by decide)
 rw [show List.take (3 - 0) (List.drop 0 (timesH [0, 1, 2, 3])) = timesH [0, 1, 2] from rfl] at hL3
 have c1 : (((545259519 : UInt32).toNat : Int) = 545259519) = True := eq_true rfl
 have c2 : (((538968063 : UInt32).toNat : Int) = 538968063) = True := eq_true rfl
 have c3 : (((7 : UInt32).toNat : Int) = 7) = True := eq_true rfl
 refine (rbits_ok eP_ok (hL3.es _) hL3.ok (by decide)).det' ?_
 rw [ex_bits3]
 simp -dsimp +decide (disch := omega) only [vr, ty, en, ↓reduceIte, Nat.reduceSub, Nat.reduceAdd, Nat.reduceMul, Nat.reduceLT, Int.reduceAdd, Int.reduceSub, Int.reduceToNat, ci, vi, getO_i, vt, hr, g0, kallT, bb2, hsL, vbg, c1]
 refine (rbits_ok eP_ok (hL.es _) hL.ok (by decide)).det' ?_
 rw [ex_bits4]
 simp -dsimp +decide (disch := omega) only [vr, ty, en, ↓reduceIte, Nat.reduceSub, Nat.reduceAdd, Nat.reduceMul, Nat.reduceLT, Int.reduceAdd, Int.reduceSub, Int.reduceToNat, ci, vi, getO_i, vt, hr, g0, kallT, bb2, hsL, vbg, c2]
 refine (times_ok (l := [5, 1, 9, 7]) (Sl.obj (gn3 T _ _ _ _ _) rfl rfl) (by decide)).det' ?_
 obtain ⟨aM, haM⟩ : ∃ a, a = AV.vs ((timesH [5, 1, 9, 7]).flatMap Hdr.cs) [(5 : UInt32), 1, 9, 7].length := ⟨_, rfl⟩
 have hM : HL aM (timesH [5, 1, 9, 7]) := by rw [haM]; exact HL.of (timesH_ok _)
 rw [<- haM]
 simp -dsimp +decide (disch := omega) only [vr, ty, en, ↓reduceIte, Nat.reduceSub, Nat.reduceAdd, Nat.reduceMul, Nat.reduceLT, Int.reduceAdd, Int.reduceSub, Int.reduceToNat, ci, vi, getO_i, vt, hr, g0, kallT, bb2, vbg]
 refine (pmedian_ok (hM.es _) hM.ok (by decide)).det' ?_
 rw [ex_med]
 simp -dsimp +decide (disch := omega) only [vr, ty, en, ↓reduceIte, Nat.reduceSub, Nat.reduceAdd, Nat.reduceMul, Nat.reduceLT, Int.reduceAdd, Int.reduceSub, Int.reduceToNat, ci, vi, getO_i, vt, hr, g0, kallT, bb2, vbg, c3, hsC]
 generalize AObj.buf 22 1 _ = b3
 have i2 : ((n : Int) < 2) = False := eq_false (by omega)
 have hsub : (n : Int) - 1 = ((n - 1 : Nat) : Int) := by omega
 obtain ⟨la, hla⟩ : ∃ la, C[n - 1]? = some la := ⟨C[n - 1]'(by omega), by simp⟩
 have hlo := hCo la (List.mem_of_getElem? hla)
 have hlr := Hdr.rules hlo
 have hvl := vz68.2 _ hlo
 have hld := (hA.es T).ld (P := prog) (t := 27) (by (simp -dsimp +decide only [vr, ty, en, ↓reduceIte, Nat.reduceSub, Nat.reduceAdd, Nat.reduceMul, Nat.reduceLT, Int.reduceAdd, Int.reduceSub, Int.reduceToNat, ci])) (by (simp -dsimp +decide only [vr, ty, en, ↓reduceIte, Nat.reduceSub, Nat.reduceAdd, Nat.reduceMul, Nat.reduceLT, Int.reduceAdd, Int.reduceSub, Int.reduceToNat, ci])) (by decide)
 have hwp := (Hdr.wr hlo).1 e1B rfl
 have hbo : Hdr.Ok { la with prev := e1B } := ⟨rfl, hlo.r⟩
 have hA1 := hA.sub (l := 0) (m := n - 1) (by omega) (by omega)
 rw [List.drop_zero, Nat.sub_zero] at hA1
 have hg := hCg (n - 1) la (by omega) hla
 have hr0 : rightE eP (C.take (n - 1)) la = 0 := by rw [right_good eP_may hg]; rfl
 have hr9 : rightE eP (C.take (n - 1)) { la with prev := e1B } = 9 := by rw [hn]; exact bad_right hC hCl rfl
 have g4 := fun a b c d l => gn4 T a b c d (.cells 27 la.cs) l
 have g5 := fun a b c d e l => gn5 T a b c d e (.cells 27 (Hdr.cs { la with prev := e1B })) l
 simp -dsimp +decide (disch := omega) only [vr, ty, en, ↓reduceIte, Nat.reduceSub, Nat.reduceAdd, Nat.reduceMul, Nat.reduceLT, Int.reduceAdd, Int.reduceSub, Int.reduceToNat, ci, vi, getO_i, vt, hr, g0, i2, hsub, hsC, hld, hla, ez68, vz68, hlr, hvl, hwp, eze1, g4, ez32]
 have hA1l : (C.take (n - 1)).length <= 1000000 := by rw [List.length_take]; omega
 refine ⟨⟨by omega, by omega⟩, by omega, ⟨by omega, by omega⟩, (right_ok' eP_ok (hA1.es _) hA1.ok hlo hA1l).det' ?_⟩
 rw [hr0]
 have hbr := Hdr.rules hbo
 simp -dsimp +decide (disch := omega) only [vr, ty, en, ↓reduceIte, Nat.reduceSub, Nat.reduceAdd, Nat.reduceMul, Nat.reduceLT, Int.reduceAdd, Int.reduceSub, Int.reduceToNat, ci, vi, getO_i, vt, g0, g5, hr, hbr]
 refine (right_ok' eP_ok (hA1.es _) hA1.ok hbo hA1l).det' ?_
 rw [hr9]
 simp -dsimp +decide (disch := omega) only [vr, ty, en, ↓reduceIte, Nat.reduceSub, Nat.reduceAdd, Nat.reduceMul, Nat.reduceLT, Int.reduceAdd, Int.reduceSub, Int.reduceToNat, ci, vi, getO_i, vt, g0, g5, bb2]
 exact Vw.cut ⟨rfl, rfl, rfl⟩
def lfd : List Lf := .i .u32 :: (lfh ++ (lfh ++ [.i .u32, .i .u32, .i .u32]))
theorem ktd : KT prog 27 lfd := ⟨(by kernel_rfl), (by kernel_rfl), (by kernel_rfl), (by kernel_rfl), Nat.le_of_ble_eq_true (by kernel_rfl), (by kernel_rfl)⟩
def Hdr.vals (h : Hdr) : List Value := .int .u32 (h.v.toNat : Int) :: (v8 h.prev ++ (v8 h.root ++ [.int .u32 (h.time.toNat : Int), .int .u32 (h.bits.toNat : Int), .int .u32 (h.nonce.toNat : Int)]))
theorem Hdr.cs_p (h : Hdr) : h.cs = h.vals.map .p := by
 simp only [Hdr.cs, Hdr.vals, List.map_cons, List.map_append, List.map_nil, by8_p]
 rfl
theorem fit32 (n : UInt32) : Fit (.i .u32) (.int .u32 (n.toNat : Int)) := by
 refine ⟨rfl, ?_⟩
 have := n.toNat_lt
 simp [Lit.wf, IntKind.min, IntKind.max, IntKind.bits, IntKind.signed]; omega
theorem Hdr.fit {h : Hdr} (ok : h.Ok) : FitL lfd h.vals := .cons (fit32 _) (.append (fith ok.p) (.append (fith ok.r) (.cons (fit32 _) (.cons (fit32 _) (.cons (fit32 _) .nil)))))
open Classical in
theorem nehd {h : Hdr} (ok : h.Ok) (xo yo : Operand) (K : AV -> Prop) : binA prog .neq 27 (.ag h.cs) (.ag h.cs) xo yo K = K (.p (.bool false)) := by
 rw [Hdr.cs_p, KT.neA ktd (Hdr.fit ok) (Hdr.fit ok), decide_eq_true rfl]; rfl
theorem hdrs_ones : ∀ {hs : List Hdr}, (∀ x ∈ hs, x.Ok) -> ones (hs.flatMap Hdr.cs) = true
 | [], _ => rfl
 | x :: l, h => by
   have h1 : ones x.cs = true := (Hdr.rules (h x (by simp))).2.2.2.2.2.2.2.2.2.2.2
   have h2 := hdrs_ones (hs := l) fun y hy => h y (by simp [hy])
   rw [ones] at h1 h2 ⊢
   rw [List.flatMap_cons, List.all_append, h1, h2]; rfl
structure Par.Wk (p : Par) : Prop where
 f : p.first.Ok
 a : ∀ T, Es T 33 Pt.cs p.pa p.pts
 l : p.pts.length <= 4398046511104
 i : -9223372036854775808 <= p.interval /\ p.interval <= 9223372036854775807
 wo : ∀ q, p.pa.wo q = p.pa
 pub : ∀ i cs, p.pa.pub i cs = p.pa
 one : AV.one p.pa = true
 h : ∀ x ∈ p.pts, -9223372036854775808 <= x.h /\ x.h <= 9223372036854775807
theorem Par.Wk.ok {p : Par} (w : p.Wk) (h : p.pts.length <= 50) : p.Ok := ⟨w.f, w.a, by omega, w.i, w.wo, w.pub, w.one, w.h⟩
theorem Par.rulesW {p : Par} (ok : p.Wk) : p.cs.length = 72 /\ p.cs[0]? = some (w32 p.limit) /\ p.cs[1]? = some (wint p.interval) /\ p.cs[2]? = some (w32 p.spacing) /\ p.cs[3]? = some p.pa /\ List.take 68 (List.drop 4 p.cs) = p.first.cs /\ p.cs[69]? = some (w32 p.first.time) /\ p.cs[70]? = some (w32 p.first.bits) /\
 List.take 72 (List.drop 0 p.cs) = p.cs /\ List.take 72 p.cs = p.cs /\ (∀ q, p.cs.map (AV.wo q) = p.cs) /\ (∀ i cs, p.cs.map (AV.pub i cs) = p.cs) /\ ones p.cs = true := by
 have hr := Hdr.rules ok.f
 have hl : p.cs.length = 72 := by simp [Par.cs, hr.1]
 have hd : List.drop 4 p.cs = p.first.cs := rfl
 have hg : ∀ k, p.cs[4 + k]? = p.first.cs[k]? := fun k => by rw [<- List.getElem?_drop, hd]
 refine ⟨hl, rfl, rfl, rfl, rfl, by rw [hd]; exact hr.2.2.2.2.2.2.2.2.1, by rw [show 69 = 4 + 65 from rfl, hg]; exact hr.2.2.2.2.1, by rw [show 70 = 4 + 66 from rfl, hg]; exact hr.2.2.2.2.2.1, by rw [List.drop_zero, List.take_of_length_le (by omega)], List.take_of_length_le (by omega), fun q => ?_, fun i cs => ?_, ?_⟩
 . simp only [Par.cs, List.map_cons, hr.2.2.2.2.2.2.2.2.2.1, ok.wo]
   simp only [w32, wint, AV.wo]
 . simp only [Par.cs, List.map_cons, hr.2.2.2.2.2.2.2.2.2.2.1, ok.pub]
   simp only [w32, wint, AV.pub]
 . have h1 : AV.one (w32 p.limit) = true := rfl
   have h2 : AV.one (wint p.interval) = true := rfl
   have h3 : AV.one (w32 p.spacing) = true := rfl
   have h4 : List.all p.first.cs AV.one = true := hr.2.2.2.2.2.2.2.2.2.2.2
   rw [ones, Par.cs, List.all_cons, List.all_cons, List.all_cons, List.all_cons, h1, h2, h3, ok.one, h4]; rfl
noncomputable def fewB (p : Par) (hs : List Hdr) : Bool := decide (hs.length <= 300) && decide (p.pts.length <= 50)
theorem few13_ok {T : Tbl} {p : Par} (okp : p.Wk) {a : AV} {hs : List Hdr} (hb : Es T 68 Hdr.cs a hs) (hl : hs.length <= 4398046511104) : CallA prog G 5 [.ag p.cs, a] T fun v T' es => v = .p (.bool (fewB p hs)) /\ T' = T /\ es = [] := by
 refine CallA.wfs fun wf => ?_
 have wt := wf.t
 have wa := wf.arg a (by simp)
 have hr2 := Par.rulesW okp
 have hsr := Sl.rules hb.sl (by decide)
 have hsp := Sl.rules (okp.a T).sl (by decide)
 have g0 := fun l => gn0 T (.cells 29 p.cs) l
 have hpl := okp.l
 refine CallA.eV 5 func5 ntmps5 results5 ?_
 simp -dsimp +decide only [vt2, vy, vz, vze, vr, ty, en, ↓reduceIte, Nat.reduceSub, Nat.reduceAdd, Nat.reduceMul, Nat.reduceLT, Int.reduceAdd, Int.reduceSub, Int.reduceToNat, ci]
 unfold fewB
 by_cases c1 : hs.length <= 300
 . have i1 : ((hs.length : Int) <= 300) = True := eq_true (by omega)
   rw [decide_eq_true c1]
   simp -dsimp +decide (disch := omega) only [vt2, vy, vz, vze, vr, ty, en, ↓reduceIte, Nat.reduceSub, Nat.reduceAdd, Nat.reduceMul, Nat.reduceLT, Int.reduceAdd, Int.reduceSub, Int.reduceToNat, ci, vi, getO_i, vt, hr2, hsr, hsp, g0, i1, bb2]
   exact Vw.cut ⟨congrArg (fun b => AV.p (.bool b)) (by rw [Bool.true_and]; exact decide_eq_decide.2 (by omega)), rfl, rfl⟩
 . have i1 : ((hs.length : Int) <= 300) = False := eq_false (by omega)
   rw [decide_eq_false c1]
   simp -dsimp +decide (disch := omega) only [vt2, vy, vz, vze, vr, ty, en, ↓reduceIte, Nat.reduceSub, Nat.reduceAdd, Nat.reduceMul, Nat.reduceLT, Int.reduceAdd, Int.reduceSub, Int.reduceToNat, ci, vi, getO_i, vt, hr2, hsr, hsp, g0, i1, bb2]
   exact Vw.cut ⟨rfl, rfl, rfl⟩
theorem rulesPlays_ok {T : Tbl} {p : Par} (okw : p.Wk) {hs : List Hdr} {h : Hdr} (hok : ∀ x ∈ hs, x.Ok) (ok : h.Ok) (hl : hs.length <= 4398046511104) :
 CallA prog G 3 [.ag p.cs, .vs (hs.flatMap Hdr.cs) hs.length, .ag h.cs] T fun v _ _ => v = .p (.bool true) := by
 refine CallA.wfs fun wf => ?_
 have wt := wf.t
 have hr := Hdr.rules ok
 have hr2 := Par.rulesW okw
 have hwd : ∀ x ∈ hs, (Hdr.cs x).length = 68 := fun x hx => Hdr.cs_len (hok x hx)
 have hb : ∀ T, Es T 68 Hdr.cs (.vs (hs.flatMap Hdr.cs) hs.length) hs := fun T => Es.vs hwd
 have hsr := Sl.rules (hb T).sl (by decide)
 have hld := (hb T).ld (P := prog) (t := 27) (by (simp -dsimp +decide only [vt2, vy, vz, vze, vr, ty, en, ↓reduceIte, Nat.reduceSub, Nat.reduceAdd, Nat.reduceMul, Nat.reduceLT, Int.reduceAdd, Int.reduceSub, Int.reduceToNat, ci])) (by (simp -dsimp +decide only [vt2, vy, vz, vze, vr, ty, en, ↓reduceIte, Nat.reduceSub, Nat.reduceAdd, Nat.reduceMul, Nat.reduceLT, Int.reduceAdd, Int.reduceSub, Int.reduceToNat, ci])) (by decide)
 have g0 := fun l => gn0 T (.cells 29 p.cs) l
 have g1 := fun a l => gn1 T a (.cells 27 h.cs) l
 refine CallA.eV 9 func3 ntmps3 results3 ?_
 simp -dsimp +decide only [vt2, vy, vz, vze, vr, ty, en, ↓reduceIte, Nat.reduceSub, Nat.reduceAdd, Nat.reduceMul, Nat.reduceLT, Int.reduceAdd, Int.reduceSub, Int.reduceToNat, ci]
 simp -dsimp +decide (disch := omega) only [vt2, vy, vz, vze, vr, ty, en, ↓reduceIte, Nat.reduceSub, Nat.reduceAdd, Nat.reduceMul, Nat.reduceLT, Int.reduceAdd, Int.reduceSub, Int.reduceToNat, ci, vi, getO_i, vt, hr, hr2]
 refine (few13_ok okw (hb _) hl).det' ?_
 cases c1 : fewB p hs with
 | false =>
   simp -dsimp +decide (disch := omega) only [vt2, vy, vz, vze, vr, ty, en, ↓reduceIte, Nat.reduceSub, Nat.reduceAdd, Nat.reduceMul, Nat.reduceLT, Int.reduceAdd, Int.reduceSub, Int.reduceToNat, ci, vi, getO_i, vt, bb2]
   refine works_ok.det' ?_
   simp -dsimp +decide (disch := omega) only [vt2, vy, vz, vze, vr, ty, en, ↓reduceIte, Nat.reduceSub, Nat.reduceAdd, Nat.reduceMul, Nat.reduceLT, Int.reduceAdd, Int.reduceSub, Int.reduceToNat, ci, vi, getO_i, vt]
   exact Vw.cut rfl
 | true =>
 have hfew : hs.length <= 300 /\ p.pts.length <= 50 := by
  unfold fewB at c1
  simpa using c1
 have okp := okw.ok hfew.2
 have hones : ones (hs.flatMap Hdr.cs) = true := hdrs_ones hok
 simp -dsimp +decide (disch := omega) only [vt2, vy, vz, vze, vr, ty, en, ↓reduceIte, Nat.reduceSub, Nat.reduceAdd, Nat.reduceMul, Nat.reduceLT, Int.reduceAdd, Int.reduceSub, Int.reduceToNat, ci, vi, getO_i, vt, hr, hr2, g0, g1, hsr, bb2]
 refine ⟨hones, ⟨by omega, by omega⟩, ?_⟩
 have hes := fun l => Es.obj (T := T ++ .cells 29 p.cs :: .cells 27 h.cs :: .buf 27 68 (hs.flatMap Hdr.cs) :: l) (xs := hs) (gn2 T _ _ _ _) rfl fun x hx => Hdr.cs_len (hok x hx)
 simp -dsimp +decide (disch := omega) only [vt2, vy, vz, vze, vr, ty, en, ↓reduceIte, Nat.reduceSub, Nat.reduceAdd, Nat.reduceMul, Nat.reduceLT, Int.reduceAdd, Int.reduceSub, Int.reduceToNat, ci, vi, getO_i, vt, wt, hdrs_wo _ hok]
 refine SemA.draw (fun i => true) [(0, true), (2, true), (1, false), (3, false), (4, true), (5, true), (6, true), (7, true), (9, true), (10, true), (8, false), (11, false), (12, true), (13, true), (14, true), (15, true), (17, true), (16, false), (18, false), (19, true), (20, true), (21, true), (22, true), (23, true), (24, true), (26, true), (27, true), (28, true), (25, false), (29, false), (30, true), (31, true)] mixed (by kernel_rfl) ?_
 simp -dsimp +decide (disch := omega) only [vt2, vy, vz, vze, vr, ty, en, ↓reduceIte, Nat.reduceSub, Nat.reduceAdd, Nat.reduceMul, Nat.reduceLT, Int.reduceAdd, Int.reduceSub, Int.reduceToNat, ci, vi, getO_i, vt, hr, hr2, g0, g1, kallT]
 refine (pmay_ok okp).det' ?_
 simp -dsimp +decide (disch := omega) only [vt2, vy, vz, vze, vr, ty, en, ↓reduceIte, Nat.reduceSub, Nat.reduceAdd, Nat.reduceMul, Nat.reduceLT, Int.reduceAdd, Int.reduceSub, Int.reduceToNat, ci, vi, getO_i, vt, hr, hr2, g0, g1, kallT]
 refine (may13_ok okp).det' ?_
 have be : (mayB p == mayB p) = true := beq_self_eq_true _
 simp -dsimp +decide (disch := omega) only [vt2, vy, vz, vze, vr, ty, en, ↓reduceIte, Nat.reduceSub, Nat.reduceAdd, Nat.reduceMul, Nat.reduceLT, Int.reduceAdd, Int.reduceSub, Int.reduceToNat, ci, vi, getO_i, vt, hr, hr2, g0, g1, kallT, be, bb2]
 refine (rbits_ok okp (hes _) hok (by omega)).det' ?_
 simp -dsimp +decide (disch := omega) only [vt2, vy, vz, vze, vr, ty, en, ↓reduceIte, Nat.reduceSub, Nat.reduceAdd, Nat.reduceMul, Nat.reduceLT, Int.reduceAdd, Int.reduceSub, Int.reduceToNat, ci, vi, getO_i, vt, hr, hr2, g0, g1, kallT, be, bb2]
 refine (bits13_ok okp ((hb _)) hok (by omega)).det' ?_
 simp -dsimp +decide (disch := omega) only [vt2, vy, vz, vze, vr, ty, en, ↓reduceIte, Nat.reduceSub, Nat.reduceAdd, Nat.reduceMul, Nat.reduceLT, Int.reduceAdd, Int.reduceSub, Int.reduceToNat, ci, vi, getO_i, vt, hr, hr2, g0, g1, kallT, be, bb2]
 refine (pmedian_ok (hes _) hok (by omega)).det' ?_
 simp -dsimp +decide (disch := omega) only [vt2, vy, vz, vze, vr, ty, en, ↓reduceIte, Nat.reduceSub, Nat.reduceAdd, Nat.reduceMul, Nat.reduceLT, Int.reduceAdd, Int.reduceSub, Int.reduceToNat, ci, vi, getO_i, vt, hr, hr2, g0, g1, kallT, be, bb2]
 refine (median13_ok (hb _) hok (by omega)).det' ?_
 simp -dsimp +decide (disch := omega) only [vt2, vy, vz, vze, vr, ty, en, ↓reduceIte, Nat.reduceSub, Nat.reduceAdd, Nat.reduceMul, Nat.reduceLT, Int.reduceAdd, Int.reduceSub, Int.reduceToNat, ci, vi, getO_i, vt, hr, hr2, g0, g1, kallT, be, bb2]
 refine (right_ok' okp (hes _) hok ok (by omega)).det' ?_
 simp -dsimp +decide (disch := omega) only [vt2, vy, vz, vze, vr, ty, en, ↓reduceIte, Nat.reduceSub, Nat.reduceAdd, Nat.reduceMul, Nat.reduceLT, Int.reduceAdd, Int.reduceSub, Int.reduceToNat, ci, vi, getO_i, vt, hr, hr2, g0, g1, kallT, be, bb2]
 refine (right13_ok okp (hb _) hok ok (by omega)).det' ?_
 simp -dsimp +decide (disch := omega) only [vt2, vy, vz, vze, vr, ty, en, ↓reduceIte, Nat.reduceSub, Nat.reduceAdd, Nat.reduceMul, Nat.reduceLT, Int.reduceAdd, Int.reduceSub, Int.reduceToNat, ci, vi, getO_i, vt, hr, hr2, g0, g1, kallT, be, bb2]
 refine SemA.loopK (T.length + 3) (fun i : Nat => [(1, .vs (hs.flatMap Hdr.cs) hs.length), (7, .sl (T.length + 2) 0 hs.length), (8, wint (i : Int))]) (fun _ => T ++ [.cells 29 p.cs, .cells 27 h.cs, .buf 27 68 (hs.flatMap Hdr.cs)]) (fun i => i <= hs.length) (fun i => hs.length - i) 0 [] 0 (fun _ : Unit => []) (fun _ => T ++ [.cells 29 p.cs, .cells 27 h.cs, .buf 27 68 (hs.flatMap Hdr.cs)]) (fun _ => True) (by omega) (by omega) (by (simp -dsimp +decide (disch := omega) only [vt2, vy, vz, vze, vr, ty, en, ↓reduceIte, Nat.reduceSub, Nat.reduceAdd, Nat.reduceMul, Nat.reduceLT, Int.reduceAdd, Int.reduceSub, Int.reduceToNat, ci, vi, getO_i]); first | rfl | exact ⟨rfl, rfl⟩ | done) rfl (by simp) ?_ ?_
 . rintro i g hi
   refine SemA.o ?_
   simp -dsimp +decide (disch := omega) only [vt2, vy, vz, vze, vr, ty, en, ↓reduceIte, Nat.reduceSub, Nat.reduceAdd, Nat.reduceMul, Nat.reduceLT, Int.reduceAdd, Int.reduceSub, Int.reduceToNat, ci, vi, getO_i, vt, hsr]
   refine CondP.dec (fun hc => ?_) (fun hc => ?_)
   . obtain ⟨x, hx⟩ : ∃ x, hs[i]? = some x := ⟨hs[i]'(by omega), by simp⟩
     have hxo := hok x (List.mem_of_getElem? hx)
     have hldo := ((hes []).ld (P := prog) (t := 27) (by (simp -dsimp +decide only [vt2, vy, vz, vze, vr, ty, en, ↓reduceIte, Nat.reduceSub, Nat.reduceAdd, Nat.reduceMul, Nat.reduceLT, Int.reduceAdd, Int.reduceSub, Int.reduceToNat, ci])) (by (simp -dsimp +decide only [vt2, vy, vz, vze, vr, ty, en, ↓reduceIte, Nat.reduceSub, Nat.reduceAdd, Nat.reduceMul, Nat.reduceLT, Int.reduceAdd, Int.reduceSub, Int.reduceToNat, ci])) (by decide)).2 i
     refine SemA.draw (fun i => true) [(0, true), (1, true), (2, true), (3, true), (4, true), (5, true), (6, true), (7, true), (8, true)] mixed (by kernel_rfl) ?_
     simp -dsimp +decide (disch := omega) only [vt2, vy, vz, vze, vr, ty, en, ↓reduceIte, Nat.reduceSub, Nat.reduceAdd, Nat.reduceMul, Nat.reduceLT, Int.reduceAdd, Int.reduceSub, Int.reduceToNat, ci, vi, getO_i, vt, hsr, hld, hldo, hx, kallT, flat_at hwd hx, nehd hxo, bb2, wt, hr, hr2, hdrs_wo _ hok]
     have hfl : (hs.flatMap Hdr.cs).length = hs.length * 68 := flat_len hwd
     have hne : hs.flatMap Hdr.cs ≠ [] := fun e => by rw [e] at hfl; simp at hfl; omega
     have hi68 : (i + 1) * 68 <= hs.length * 68 := Nat.mul_le_mul_right _ (by omega)
     exact ⟨⟨by omega, by omega, hne⟩, by omega, ⟨by omega, by omega⟩, i + 1, ⟨by omega, by omega⟩, rfl⟩
   . have e : i = hs.length := by omega
     subst e
     simp -dsimp +decide (disch := omega) only [vt2, vy, vz, vze, vr, ty, en, ↓reduceIte, Nat.reduceSub, Nat.reduceAdd, Nat.reduceMul, Nat.reduceLT, Int.reduceAdd, Int.reduceSub, Int.reduceToNat, ci, vi, getO_i, vt, wt, hr, hr2, hdrs_wo _ hok]
     exact ⟨(), trivial⟩
 . rintro _ g tmp -
   simp -dsimp +decide (disch := omega) only [vt2, vy, vz, vze, vr, ty, en, ↓reduceIte, Nat.reduceSub, Nat.reduceAdd, Nat.reduceMul, Nat.reduceLT, Int.reduceAdd, Int.reduceSub, Int.reduceToNat, ci, vi, getO_i, vt]
   refine works_ok.det' ?_
   simp -dsimp +decide (disch := omega) only [vt2, vy, vz, vze, vr, ty, en, ↓reduceIte, Nat.reduceSub, Nat.reduceAdd, Nat.reduceMul, Nat.reduceLT, Int.reduceAdd, Int.reduceSub, Int.reduceToNat, ci, vi, getO_i, vt]
   exact Vw.cut rfl
end Go.Proofs.YtolaljbainjjaaaGreatDoor
namespace Go.E
theorem Dat.avs_sl (l : List Dat) : (Dat.sl l).avs = [.vs (l.flatMap Dat.avs) l.length] := by rw [Dat.avs, Dat.avsL_eq]
theorem Dat.avs_ag (l : List Dat) : (Dat.ag l).avs = l.flatMap Dat.avs := by rw [Dat.avs, Dat.avsL_eq]
theorem open_all {α : Type} {f : α -> List AV} {Ok : α -> Prop} : ∀ {l : List Dat}, (∀ d ∈ l, ∃ x : α, d.avs = f x /\ Ok x) -> ∃ xs : List α, l.flatMap Dat.avs = xs.flatMap f /\ xs.length = l.length /\ ∀ x ∈ xs, Ok x
 | [], _ => ⟨[], rfl, rfl, fun _ h => nomatch h⟩
 | d :: r, h => by
   obtain ⟨x, h1, h2⟩ := h d (by simp)
   obtain ⟨xs, h3, h4, h5⟩ := open_all (l := r) fun y hy => h y (by simp [hy])
   refine ⟨x :: xs, by rw [List.flatMap_cons, List.flatMap_cons, h1, h3], by simp [h4], fun y hy => ?_⟩
   rcases List.mem_cons.1 hy with rfl | hy
   . exact h2
   . exact h5 y hy
theorem open_ar {α : Type} {P : Program} {t e : TypeId} {n : Nat} {f : α -> List AV} {Ok : α -> Prop} {d : Dat} (hd : HasT P t d) (hu : P.underlying t = some (.array n e))
 (h1 : ∀ d, HasT P e d -> ∃ x : α, d.avs = f x /\ Ok x) : ∃ xs : List α, d.avs = xs.flatMap f /\ xs.length = n /\ ∀ x ∈ xs, Ok x := by
 obtain ⟨l, rfl, hn, hl⟩ := hd.array hu
 obtain ⟨xs, h2, h3, h4⟩ := open_all (f := f) (Ok := Ok) (l := l) fun y hy => h1 y (hl y hy)
 exact ⟨xs, by rw [Dat.avs_ag, h2], by rw [h3, hn], h4⟩
theorem flat_single {α : Type} (h : α -> AV) (l : List α) : (l.flatMap fun a => [h a]) = l.map h := by
 induction l with
 | nil => rfl
 | cons a r ih => rw [List.flatMap_cons, ih]; rfl
end Go.E
namespace Go.Proofs.YtolaljbainjjaaaGreatDoor
open Go.E Go.Proofs.YtolaljbainjjaaaGreatDoor.Tryz Go.Proofs.Tryz
theorem open_slr {α : Type} {P : Program} {t e : TypeId} {f : α -> List AV} {Ok : α -> Prop} {d : Dat} (hd : HasT P t d) (hu : P.underlying t = some (.slice e))
 (h1 : ∀ d, HasT P e d -> ∃ x : α, d.avs = f x /\ Ok x) : ∃ xs : List α, d.avs = [.vs (xs.flatMap f) xs.length] /\ d.arg = .vs (xs.flatMap f) xs.length /\ xs.length * P.bytesOf e <= reachBytes /\ ∀ x ∈ xs, Ok x := by
 obtain ⟨l, rfl, hl, hm⟩ := hd.slice hu
 obtain ⟨xs, h2, h3, h4⟩ := open_all (f := f) (Ok := Ok) (l := l) fun y hy => h1 y (hm y hy)
 have e : (Dat.sl l).avs = [.vs (xs.flatMap f) xs.length] := by rw [Dat.avs_sl, h2, h3]
 refine ⟨xs, e, ?_, by rw [h3]; exact hl, h4⟩
 rw [Dat.arg, e]
 . rfl
 . intro l h; cases h
theorem open_h {d : Dat} (h : HasT prog 25 d) : ∃ l : List UInt8, d.avs = l.map by8 /\ l.length = 32 := by
 obtain ⟨xs, h1, h2, -⟩ := open_ar (f := fun a : UInt8 => [by8 a]) (Ok := fun _ => True) h Tryz.underlying25 fun d hd => by
  obtain ⟨a, rfl⟩ := open_u8 Tryz.underlying5 d hd
  exact ⟨a, by rw [Dat.avs]; rfl, trivial⟩
 rw [flat_single] at h1
 exact ⟨xs, h1, h2⟩
theorem open_w32 {d : Dat} (h : HasT prog 22 d) : ∃ a : UInt32, d.avs = [w32 a] := by
 obtain ⟨a, rfl⟩ := open_u32 Tryz.underlying22 d h
 exact ⟨a, by rw [Dat.avs]; rfl⟩
theorem open_in64 {d : Dat} (h : HasT prog 3 d) : ∃ z : Int, d.avs = [wint z] /\ -9223372036854775808 <= z /\ z <= 9223372036854775807 := by
 obtain ⟨z, rfl, hw⟩ := h.int Tryz.underlying3
 have hz2 : -9223372036854775808 <= z /\ z <= 9223372036854775807 := by simpa [Lit.wf, IntKind.min, IntKind.max, IntKind.signed, IntKind.bits] using hw
 exact ⟨z, by rw [Dat.avs]; rfl, hz2⟩
theorem open_hdr {d : Dat} (h : HasT prog 27 d) : ∃ x : Hdr, d.avs = x.cs /\ x.Ok := by
 obtain ⟨l, rfl, hl, hf⟩ := h.struct Tryz.underlying27
 match l, hl with
 | [d0, d1, d2, d3, d4, d5], _ =>
   obtain ⟨v, e0⟩ := open_w32 (hf 0 _ d0 rfl rfl)
   obtain ⟨p, e1, h1⟩ := open_h (hf 1 _ d1 rfl rfl)
   obtain ⟨r, e2, h2⟩ := open_h (hf 2 _ d2 rfl rfl)
   obtain ⟨t, e3⟩ := open_w32 (hf 3 _ d3 rfl rfl)
   obtain ⟨b, e4⟩ := open_w32 (hf 4 _ d4 rfl rfl)
   obtain ⟨n, e5⟩ := open_w32 (hf 5 _ d5 rfl rfl)
   exact ⟨⟨v, p, r, t, b, n⟩, by simp only [Dat.avs_ag, List.flatMap_cons, List.flatMap_nil, e0, e1, e2, e3, e4, e5]; rfl, h1, h2⟩
theorem st_arg {P : Program} {t : TypeId} {fs : Array Field} {d : Dat} (h : HasT P t d) (hu : P.underlying t = some (.struct fs)) : d.arg = .ag d.avs := by
 obtain ⟨l, rfl, -⟩ := h.struct hu
 rw [Dat.arg, Dat.avs_ag]
theorem open_hdrA {d : Dat} (h : HasT prog 27 d) : ∃ x : Hdr, d.arg = .ag x.cs /\ x.Ok := by
 obtain ⟨x, e, ok⟩ := open_hdr h
 exact ⟨x, by rw [st_arg h Tryz.underlying27, e], ok⟩
theorem open_hdrs {d : Dat} (h : HasT prog 30 d) : ∃ hs : List Hdr, d.arg = .vs (hs.flatMap Hdr.cs) hs.length /\ (∀ x ∈ hs, x.Ok) /\ hs.length <= 4398046511104 := by
 obtain ⟨xs, -, e, h3, h4⟩ := open_slr (f := Hdr.cs) (Ok := Hdr.Ok) h Tryz.underlying30 fun d hd => open_hdr hd
 refine ⟨xs, e, h4, ?_⟩
 have hb : prog.bytesOf 27 = 80 := by kernel_rfl
 rw [hb, show reachBytes = 140737488351232 from rfl] at h3
 omega
def PtOk (x : Pt) : Prop := x.id.length = 32 /\ -9223372036854775808 <= x.h /\ x.h <= 9223372036854775807
theorem open_pt {d : Dat} (h : HasT prog 56 d) : ∃ x : Pt, d.avs = x.cs /\ PtOk x := by
 obtain ⟨l, rfl, hl, hf⟩ := h.struct Tryz.underlying56
 match l, hl with
 | [d0, d1], _ =>
   obtain ⟨z, e0, h0⟩ := open_in64 (hf 0 _ d0 rfl rfl)
   obtain ⟨i, e1, h1⟩ := open_h (hf 1 _ d1 rfl rfl)
   exact ⟨⟨z, i⟩, by simp only [Dat.avs_ag, List.flatMap_cons, List.flatMap_nil, e0, e1, List.append_nil]; rfl, h1, h0⟩
theorem open_par {d : Dat} (h : HasT prog 29 d) : ∃ p : Par, d.arg = .ag p.cs /\ p.Wk := by
 have ha := st_arg h Tryz.underlying29
 rw [ha]
 obtain ⟨l, rfl, hl, hf⟩ := h.struct Tryz.underlying29
 match l, hl with
 | [d0, d1, d2, d3, d4], _ =>
   obtain ⟨a, e0⟩ := open_w32 (hf 0 _ d0 rfl rfl)
   obtain ⟨z, e1, hz⟩ := open_in64 (hf 1 _ d1 rfl rfl)
   obtain ⟨s, e2⟩ := open_w32 (hf 2 _ d2 rfl rfl)
   obtain ⟨ps, e3, -, hp, hpo⟩ := open_slr (f := Pt.cs) (Ok := PtOk) (hf 3 _ d3 rfl rfl) Tryz.underlying23 fun d hd => open_pt hd
   obtain ⟨x, e4, hx⟩ := open_hdr (hf 4 _ d4 rfl rfl)
   have hb : prog.bytesOf 56 = 40 := by kernel_rfl
   rw [hb, show reachBytes = 140737488351232 from rfl] at hp
   refine ⟨⟨a, z, s, .vs (ps.flatMap Pt.cs) ps.length, ps, x⟩, by simp only [Dat.avs_ag, List.flatMap_cons, List.flatMap_nil, e0, e1, e2, e3, e4, List.append_nil]; rfl, ?_⟩
   exact ⟨hx, fun T => Es.vs fun y hy => by simp [Pt.cs, (hpo y hy).1], by dsimp only; omega, hz, fun q => by rw [AV.wo], fun i cs => by rw [AV.pub], rfl, fun y hy => (hpo y hy).2⟩
end Go.Proofs.YtolaljbainjjaaaGreatDoor
namespace Go.Proofs.YtolaljbainjjaaaGreatDoor
open Go.ChangeShapes Go.WideShapes Go.ChangeAt Go.RowKit Go.E Go.Proofs.YtolaljbainjjaaaGreatDoor.Tryz Go.Proofs.Tryz
theorem own : ownKnob prog.godebug = none := by kernel_rfl
theorem laidOut : laidOutB prog = true := by kernel_rfl
theorem gTable : prog.globalNamed "scantling/sha.table" = some 2 := by kernel_rfl
def tblT : TypeId := 137
theorem tTable : (prog.globals[2]?).map (·.type) = some tblT := by kernel_rfl
def tblZ : List Int := tbl.map fun x => (x.toNat : Int)
theorem tblD : (Rows.laid_scantling_sha_table : DataW Unit) = .agg (tblZ.map fun z => .lit (.int .u32 z)) := rfl
theorem gok {W : World} (h : laidMetH prog [("scantling/sha.table", Rows.laid_scantling_sha_table)] W) : GOK G (wholeH W) := by
 rw [MakeChecks.laidMetH_plain _ _ _ (by kernel_rfl)] at h
 obtain ⟨ps, ⟨g0, t0, cs0, f0, p0, q0, hg0, ht0, hv0, hd0, _, _⟩, _, _⟩ := h
 obtain rfl := Option.some.inj (gTable.symm.trans hg0)
 obtain rfl := Option.some.inj (tTable.symm.trans ht0)
 rw [tblD] at hd0
 have hcs := trod_lits (n := 64) Tryz.underlying137 Tryz.underlying22 (by kernel_rfl) (by kernel_rfl) hd0
 have hrd : Rd W (some ⟨2, 0, none⟩) (tblZ.map (Value.int .u32)) := by
  refine .inr ⟨_, rfl, rfl, fun k v hk => ?_⟩
  have := World.var?_cell hg0 hv0 k
  rw [<- hcs] at hk
  rw [add_plain rfl]
  simp only [Nat.zero_add]
  rw [this]
  simpa using hk
 intro g
 unfold G
 split
 . rename_i h0
   subst h0
   refine rel_vp0 (vs := tblZ.map (Value.int .u32)) ?_ (by decide) (arr_holds (wholeH_whole W) hrd)
   have := RelL.ps (Z := wholeH W) (ρ := []) (tblZ.map (Value.int .u32))
   rw [List.map_map] at this
   rw [show tbl.map w32 = tblZ.map (AV.p ∘ Value.int .u32) by rw [tblZ, List.map_map]; rfl]
   exact this
 . exact .p _
theorem door_met (os : Os) (args : Array Value) : laidMetH prog [("scantling/sha.table", Rows.laid_scantling_sha_table)] ((World.doorLaid prog 14 os).forCall (fun _ _ => 0) ⟨#[], args, []⟩).memory :=
 laidMetH_of_parts3 (fuel := 8) (laidMet_of_run' 8 (by kernel_rfl) (by kernel_rfl)) (by kernel_rfl) (by kernel_rfl)
end Go.Proofs.YtolaljbainjjaaaGreatDoor
namespace Go.Proofs.YtolaljbainjjaaaGreatDoor.rulesPlaysL
open Go.ChangeShapes Go.WideShapes Go.ChangeAt Go.RowKit Go.E Go.Proofs.YtolaljbainjjaaaGreatDoor.Tryz Go.Proofs.Tryz
set_option maxRecDepth 100000 in
theorem contract (H : Type) (enc : TypeId × Value -> H) (W : World) (base : Nat) (args : Array Value) (ds gs : List (DataW H)) (before : List MemPlace)
 (hval : ∀ (j : Nat) t v, Tryz.f3.params[j]? = some t -> args[j]? = some v -> Value.okWide prog W .any base t v)
 (hW : DataW.Whole enc prog Tryz.f3.params.toList Rows.rulesPlaysSpec.vars false W args.toList ds gs before)
 (hz : (DataW.weightsEach prog (Tryz.f3.params.toList ++ Rows.rulesPlaysSpec.plain.varTypes prog) (ds ++ gs)).all (· <= reachBytes) = true)
 (hL : laidMetH prog [("scantling/sha.table", Rows.laid_scantling_sha_table)] W) :
 Calls prog 3 args W fun e W' => ∃ v, e = .returned v /\ Rows.rulesPlaysSpec.post enc prog Tryz.f3 false true false false W args v W' := by
 have hn : ds.length = 3 := by
  obtain ⟨p, q, hA, _⟩ := hW
  rw [Tryz.params3] at hA
  exact (trodAll_length hA).2
 have hg : gs = [] := by
  obtain ⟨p, q, hA, hV, _⟩ := hW
  exact (trodVars_none hV).1
 subst hg
 refine law_callsA (tys := [29, 3, 23, 56, 27, 22, 25, 5, 30]) 4 laidOut (by kernel_rfl) (by kernel_rfl) Tryz.underlying4 rfl ?_ hW (by kernel_rfl) (by kernel_rfl) hval hz (gok hL) ?_
 . match ds, hn with
   | [_, _, _], _ => rfl
 intro xs hx
 rw [Tryz.params3] at hx
 cases hx with | cons h0 hx =>
 cases hx with | cons h1 hx =>
 cases hx with | cons h2 hx =>
 cases hx
 obtain ⟨a0, e0, h0l⟩ := open_par h0
 obtain ⟨a1, e1, h1l⟩ := open_hdrs h1
 obtain ⟨a2, e2, h2l⟩ := open_hdrA h2
 simp only [List.map_cons, List.map_nil, e0, e1, e2]
 exact rulesPlays_ok h0l h1l.1 h2l h1l.2
set_option maxRecDepth 100000 in
theorem lifted (os : Os) (started : os.Started) (H : Type) (enc : TypeId × Value -> H) :
 ReturnsInHanded {} Tryz.checked os 3 .any (fun w args => (Rows.rulesPlaysSpec.pre enc prog Tryz.f3 [] false w args /\ laidMetH prog [("scantling/sha.table", Rows.laid_scantling_sha_table)] w) /\ sizedMet enc prog Tryz.f3 (OpenSpec.ofChange Rows.rulesPlaysSpec) false w args)
  (Rows.rulesPlaysSpec.post enc prog Tryz.f3 false true false false) := by
 refine returnsInHanded_of_change_and (C := Tryz.checked) (X := fun w _ => laidMetH prog [("scantling/sha.table", Rows.laid_scantling_sha_table)] w) (fun _ _ _ hh h => h.of_heap hh) own started (by kernel_rfl) func3
  (ChangeSpec.witness_shaped (enc := enc) (C := Tryz.checked) (os := os) (X := fun w _ => laidMetH prog [("scantling/sha.table", Rows.laid_scantling_sha_table)] w) false (World.doorLaid prog 14 os) #[.agg ([Value.int .u32 0, Value.int .i64 0, Value.int .u32 0, Value.slice none 0 0] ++ [Value.int .u32 0] ++ List.replicate 64 (Value.int .u8 0) ++ [Value.int .u32 0, Value.int .u32 0, Value.int .u32 0]).toArray, .slice none 0 0, .agg ([Value.int .u32 0] ++ List.replicate 64 (Value.int .u8 0) ++ [Value.int .u32 0, Value.int .u32 0, Value.int .u32 0]).toArray] 8 rfl (World.shaped_of_RefB (by kernel_rfl) (by kernel_rfl)) (by kernel_rfl) (by kernel_rfl) (by kernel_rfl) (door_met os _)) ?_
 intro W base args ds gs before hval hW _ hz hL _
 exact contract H enc W base args ds gs before hval hW hz hL
theorem said : Rows.RulesPlaysSaid :=
 OpenClaim.holds_of_wide 3 Tryz.f3 rfl rfl rfl rfl rfl rfl rfl ⟨rfl, rfl, rfl, rfl, rfl⟩ rfl rfl rfl rfl rfl (by kernel_rfl) func3 (by kernel_rfl)
  (of_decide_eq_true (by kernel_rfl)) (by unfold Func.isWrapper; first | (rw [if_pos (by decide +kernel)]; kernel_rfl) | (rw [if_neg (by decide +kernel)]; exact ⟨rfl, rfl⟩))
  (fun os started H enc _ => lifted os started H enc)
theorem proved : Rows.RulesPlaysCardSaid :=
 Claim7.holds_tied_plain_at .later [] [.data] true Rows.rulesPlaysCard.stood.harness false
  said (fun _ h => by cases h) (by kernel_rfl) (fun _ h => by cases h) rulesPlays_row_tie rfl ⟨rfl, rfl⟩ (by kernel_rfl) rfl
  (fun f fn hf hfn => by
   obtain rfl : f = 3 := Option.some.inj ((show prog.funcNamed "scantling/scantlinglaw13.RulesPlays" = some 3 by kernel_rfl).symm.trans hf) |>.symm
   obtain rfl : fn = Tryz.f3 := (Option.some.inj (func3.symm.trans hfn)).symm
   exact ⟨by kernel_rfl, fun j t ht => by
    have hm : t ∈ Tryz.f3.params.toList := by simpa using Array.mem_of_getElem? ht
    have hall : (Tryz.f3.params.toList.all fun u => !prog.wantsStandIn u) = true := by kernel_rfl
    exact (show prog.wantsStandIn t = false by simpa using List.all_eq_true.1 hall t hm)⟩)
  (by kernel_rfl)
end Go.Proofs.YtolaljbainjjaaaGreatDoor.rulesPlaysL
