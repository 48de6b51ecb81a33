/-
  Part 4 of the proof: no statement of its own. No condition but those in each theorem.
-/
import Derived.Test.YtfpjalgfnjjcmaaGreatDoorQh3
import Derived.Shelf.SlicesE.Delete
import Derived.Laws.Externs
import Derived.Sort.AssemblyPlain
set_option linter.unusedSimpArgs false
set_option linter.unusedVariables false
set_option linter.unusedSectionVars false
set_option maxRecDepth 8000
set_option maxHeartbeats 4000000
namespace Go.Proofs.YtfpjalgfnjjcmaaGreatDoor
open Go.E Go.Proofs.YtfpjalgfnjjcmaaGreatDoor.Tryz Go.Proofs.Tryz
structure Pt where
 h : Int
 id : List UInt8
abbrev Pt.cs (x : Pt) : List AV := wint x.h :: x.id.map by8
structure Par where
 limit : UInt32
 interval : Int
 spacing : UInt32
 pa : AV
 pts : List Pt
 first : Hdr
def Par.cs (p : Par) : List AV := w32 p.limit :: wint p.interval :: w32 p.spacing :: p.pa :: p.first.cs
structure Par.Ok (p : Par) : Prop where
 f : p.first.Ok
 a : ∀ T, Es T 33 Pt.cs p.pa p.pts
 l : p.pts.length <= 1099511627776
 i : -9223372036854775808 <= p.interval /\ p.interval <= 9223372036854775807
 wo : ∀ q, p.pa.wo q = p.pa
 pub : ∀ i cs, p.pa.pub i cs = p.pa
 one : AV.one p.pa = true
 h : ∀ x ∈ p.pts, -9223372036854775808 <= x.h /\ x.h <= 9223372036854775807
theorem Par.Ok.id {p : Par} (ok : p.Ok) : ∀ x ∈ p.pts, x.id.length = 32 := fun x hx => by
 have := (ok.a []).wd x hx; simpa using this
theorem Par.rules {p : Par} (ok : p.Ok) : p.cs.length = 72 /\ p.cs[0]? = some (w32 p.limit) /\ p.cs[1]? = some (wint p.interval) /\ p.cs[2]? = some (w32 p.spacing) /\ p.cs[3]? = some p.pa /\ List.take 68 (List.drop 4 p.cs) = p.first.cs /\ p.cs[69]? = some (w32 p.first.time) /\ p.cs[70]? = some (w32 p.first.bits) /\
 List.take 72 (List.drop 0 p.cs) = p.cs /\ List.take 72 p.cs = p.cs /\ (∀ q, p.cs.map (AV.wo q) = p.cs) /\ (∀ i cs, p.cs.map (AV.pub i cs) = p.cs) /\ ones p.cs = true := by
 have hr := Hdr.rules ok.f
 have hl : p.cs.length = 72 := by simp [Par.cs, hr.1]
 have hd : List.drop 4 p.cs = p.first.cs := rfl
 have hg : ∀ k, p.cs[4 + k]? = p.first.cs[k]? := fun k => by rw [<- List.getElem?_drop, hd]
 refine ⟨hl, rfl, rfl, rfl, rfl, by rw [hd]; exact hr.2.2.2.2.2.2.2.2.1, by rw [show 69 = 4 + 65 from rfl, hg]; exact hr.2.2.2.2.1, by rw [show 70 = 4 + 66 from rfl, hg]; exact hr.2.2.2.2.2.1, by rw [List.drop_zero, List.take_of_length_le (by omega)], List.take_of_length_le (by omega), fun q => ?_, fun i cs => ?_, ?_⟩
 . simp only [Par.cs, List.map_cons, hr.2.2.2.2.2.2.2.2.2.1, ok.wo]
   simp only [w32, wint, AV.wo]
 . simp only [Par.cs, List.map_cons, hr.2.2.2.2.2.2.2.2.2.2.1, ok.pub]
   simp only [w32, wint, AV.pub]
 . have h1 : AV.one (w32 p.limit) = true := rfl
   have h2 : AV.one (wint p.interval) = true := rfl
   have h3 : AV.one (w32 p.spacing) = true := rfl
   have h4 : List.all p.first.cs AV.one = true := hr.2.2.2.2.2.2.2.2.2.2.2
   rw [ones, Par.cs, List.all_cons, List.all_cons, List.all_cons, List.all_cons, h1, h2, h3, ok.one, h4]; rfl
def z33 : List AV := wint 0 :: z32
theorem ez33 : [oI, oB, oB, oB, oB, oB, oB, oB, oB, oB, oB, oB, oB, oB, oB, oB, oB, oB, oB, oB, oB, oB, oB, oB, oB, oB, oB, oB, oB, oB, oB, oB, oB] = z33 := rfl
theorem Pt.rules {x : Pt} (h : x.id.length = 32) : (wrA z33 0 (wint x.h :: x.id.map by8) = wint x.h :: x.id.map by8) /\ (z33.length = 33) /\ ((wint x.h :: x.id.map by8).length = 33) /\ List.take 32 (List.drop 1 (wint x.h :: x.id.map by8)) = x.id.map by8 /\ ones (wint x.h :: x.id.map by8) = true := by
 have h2 : (wint x.h :: x.id.map by8).length = 33 := by simp [h]
 refine ⟨wrA_all (by rw [h2]; rfl), rfl, h2, ?_, ?_⟩
 . rw [show (1 : Nat) = 0 + 1 from rfl, List.drop_succ_cons, List.drop_zero, List.take_of_length_le (by simp [h])]
 . have := vh.2.2.2.2.2 x.id
   rw [ones] at this ⊢
   rw [List.all_cons, show AV.one (wint x.h) = true from rfl, Bool.true_and]; exact this
def ptOK (f : List UInt8) (pts : List Pt) (k : Nat) : Prop := ∀ x, pts[k]? = some x -> 0 <= x.h /\ (∀ y, 0 < k -> pts[k - 1]? = some y -> y.h < x.h) /\ (x.h = 0 -> x.id = f)
open Classical in
noncomputable def mayP (p : Par) : Bool := decide (∀ k, k < p.pts.length -> ptOK p.first.id p.pts k)
noncomputable def mayB (p : Par) : Bool := match ofT p.limit.toNat with
 | none => false
 | some t => decide (UInt32.ofNat (cmpN t) = p.limit) && decide (2 <= p.interval) && decide (p.interval <= 2016) && decide (1 <= p.spacing.toNat) && decide (p.spacing.toNat <= 3600) && decide (p.first.bits = p.limit) && mayP p
theorem ofT_lt {b t : Nat} (h : ofT b = some t) : t < 2 ^ 256 /\ t ≠ 0 := by
 unfold ofT at h
 split at h
 . cases h
 . rename_i hn
   cases h
   omega
theorem may13_ok {T : Tbl} {p : Par} (ok : p.Ok) : CallA prog G 25 [.ag p.cs] T fun v T' es => v = .p (.bool (mayB p)) /\ T' = T /\ es = [] := by
 refine CallA.wfs fun wf => ?_
 have wt := wf.t
 have hr := Par.rules ok
 have g0 := fun l => gn0 T (.cells 30 p.cs) l
 have ez : [oQ, oQ, oQ, oQ] = Bg 0 := rfl
 refine CallA.eV 7 func25 ntmps25 results25 ?_
 refine sqcx ?_
 refine tqcz (cj3 @hr @ez @vbg) ?_
 refine of03_ok.det' ?_
 cases ho : ofT p.limit.toNat with
 | none =>
   rw [show mayB p = false by rw [mayB, ho]]
   unfold ofV
   refine tqcz (cj3 @hr @ez @vbg) ?_
   refine SemA.draw (fun i => true) [(0, true), (1, true), (2, true), (3, true), (5, true), (6, true), (4, false), (7, true), (8, true), (9, true), (10, true), (11, true), (12, true), (13, true), (14, true), (15, true), (16, true), (17, true), (18, true), (19, true), (20, true), (21, true), (22, true), (23, true), (24, true), (25, true), (26, true), (27, true), (28, true), (29, true), (30, true), (31, true), (32, true), (33, true), (34, true), (35, true), (36, true)] mixed (by kernel_rfl) ?_
   refine tqcz (cj5 @hr @ez @vbg @g0 @bb2) ?_
   exact Vw.cut ⟨rfl, rfl, rfl⟩
 | some t =>
   obtain ⟨htx, ht0⟩ := ofT_lt ho
   rw [show mayB p = (decide (UInt32.ofNat (cmpN t) = p.limit) && decide (2 <= p.interval) && decide (p.interval <= 2016) && decide (1 <= p.spacing.toNat) && decide (p.spacing.toNat <= 3600) && decide (p.first.bits = p.limit) && mayP p) by rw [mayB, ho]]
   unfold ofV
   refine tqcz (cj3 @hr @ez @vbg) ?_
   have g1 := fun a l => gn1 T a (.cells 47 (Bg t)) l
   refine SemA.draw (fun i => true) [(0, true), (1, true), (2, true), (3, true), (5, true), (6, true), (4, false), (7, true), (8, true), (9, true), (10, true), (11, true), (12, true), (13, true), (14, true), (15, true), (16, true), (17, true), (18, true), (19, true), (20, true), (21, true), (22, true), (23, true), (24, true), (25, true), (26, true), (27, true), (28, true), (29, true), (30, true), (31, true), (32, true), (33, true), (34, true), (35, true), (36, true)] mixed (by kernel_rfl) ?_
   refine tqcz (cj6 @hr @ez @vbg @g0 @g1 @bb2) ?_
   refine (compact03_ok htx).det' ?_
   refine tqcz (cj6 @hr @ez @vbg @g0 @g1 @bb2) ?_
   by_cases c1 : UInt32.ofNat (cmpN t) = p.limit
   rotate_left
   . have ic1 : (((UInt32.ofNat (cmpN t)).toNat : Int) = (p.limit.toNat : Int)) = False := eq_false fun e => c1 (UInt32.toNat_inj.1 (by omega))
     rw [show decide (UInt32.ofNat (cmpN t) = p.limit) = false from decide_eq_false c1]
     refine tqcz (cj9 @hr @ez @vbg @g0 @g1 @bb2 @ic1 @Bool.and_false @Bool.false_and) ?_
     exact Vw.cut ⟨rfl, rfl, rfl⟩
   have ic1 : (((UInt32.ofNat (cmpN t)).toNat : Int) = (p.limit.toNat : Int)) = True := eq_true (by rw [c1])
   rw [show decide (UInt32.ofNat (cmpN t) = p.limit) = true from decide_eq_true c1]
   by_cases c2 : 2 <= p.interval
   rotate_left
   . have ic2 : (p.interval < 2) = True := eq_true (by omega)
     rw [show decide (2 <= p.interval) = false from decide_eq_false c2]
     refine tqcz (cj10 @hr @ez @vbg @g0 @g1 @bb2 @ic1 @ic2 @Bool.and_false @Bool.false_and) ?_
     exact Vw.cut ⟨rfl, rfl, rfl⟩
   have ic2 : (p.interval < 2) = False := eq_false (by omega)
   rw [show decide (2 <= p.interval) = true from decide_eq_true c2]
   by_cases c3 : p.interval <= 2016
   rotate_left
   . have ic3 : (2016 < p.interval) = True := eq_true (by omega)
     rw [show decide (p.interval <= 2016) = false from decide_eq_false c3]
     refine tqcz (cj11 @hr @ez @vbg @g0 @g1 @bb2 @ic1 @ic2 @ic3 @Bool.and_false @Bool.false_and) ?_
     exact Vw.cut ⟨rfl, rfl, rfl⟩
   have ic3 : (2016 < p.interval) = False := eq_false (by omega)
   rw [show decide (p.interval <= 2016) = true from decide_eq_true c3]
   by_cases c4 : 1 <= p.spacing.toNat
   rotate_left
   . have ic4 : ((p.spacing.toNat : Int) < 1) = True := eq_true (by omega)
     rw [show decide (1 <= p.spacing.toNat) = false from decide_eq_false c4]
     refine tqcz (cj12 @hr @ez @vbg @g0 @g1 @bb2 @ic1 @ic2 @ic3 @ic4 @Bool.and_false @Bool.false_and) ?_
     exact Vw.cut ⟨rfl, rfl, rfl⟩
   have ic4 : ((p.spacing.toNat : Int) < 1) = False := eq_false (by omega)
   rw [show decide (1 <= p.spacing.toNat) = true from decide_eq_true c4]
   by_cases c5 : p.spacing.toNat <= 3600
   rotate_left
   . have ic5 : ((3600 : Int) < (p.spacing.toNat : Int)) = True := eq_true (by omega)
     rw [show decide (p.spacing.toNat <= 3600) = false from decide_eq_false c5]
     refine tqcz (cj13 @hr @ez @vbg @g0 @g1 @bb2 @ic1 @ic2 @ic3 @ic4 @ic5 @Bool.and_false @Bool.false_and) ?_
     exact Vw.cut ⟨rfl, rfl, rfl⟩
   have ic5 : ((3600 : Int) < (p.spacing.toNat : Int)) = False := eq_false (by omega)
   rw [show decide (p.spacing.toNat <= 3600) = true from decide_eq_true c5]
   by_cases c6 : p.first.bits = p.limit
   rotate_left
   . have ic6 : ((p.first.bits.toNat : Int) = (p.limit.toNat : Int)) = False := eq_false fun e => c6 (UInt32.toNat_inj.1 (by omega))
     rw [show decide (p.first.bits = p.limit) = false from decide_eq_false c6]
     refine tqcz (cj14 @hr @ez @vbg @g0 @g1 @bb2 @ic1 @ic2 @ic3 @ic4 @ic5 @ic6 @Bool.and_false @Bool.false_and) ?_
     exact Vw.cut ⟨rfl, rfl, rfl⟩
   have ic6 : ((p.first.bits.toNat : Int) = (p.limit.toNat : Int)) = True := eq_true (by rw [c6])
   rw [show decide (p.first.bits = p.limit) = true from decide_eq_true c6]
   refine tqcz (cj14 @hr @ez @vbg @g0 @g1 @bb2 @ic1 @ic2 @ic3 @ic4 @ic5 @ic6 @Bool.true_and @Bool.and_true) ?_
   have hpl := ok.l
   have hb := ok.a T
   have hsr := Sl.rules hb.sl (by decide)
   have hld := hb.ld (P := prog) (t := 71) (by (simp -dsimp +decide only [vt2, v1q, ↓reduceIte, Nat.reduceSub, Nat.reduceAdd, Nat.reduceMul, Nat.reduceLT, Int.reduceAdd, Int.reduceSub, Int.reduceToNat, ci])) (by (simp -dsimp +decide only [vt2, v1q, ↓reduceIte, Nat.reduceSub, Nat.reduceAdd, Nat.reduceMul, Nat.reduceLT, Int.reduceAdd, Int.reduceSub, Int.reduceToNat, ci])) (by decide)
   have hl1 := Sl.loads hb.sl (P := prog) (t := 3) (by (simp -dsimp +decide only [vt2, v1q, ↓reduceIte, Nat.reduceSub, Nat.reduceAdd, Nat.reduceMul, Nat.reduceLT, Int.reduceAdd, Int.reduceSub, Int.reduceToNat, ci]))
   have hpw := ok.wo
   refine SemA.loopK (T.length + 2) (fun k : Nat => [(1, .ptr T.length 0), (5, wint (k : Int))]) (fun _ => T ++ [.cells 30 p.cs, .cells 47 (Bg t)]) (fun k => k <= p.pts.length /\ ∀ j, j < k -> ptOK p.first.id p.pts j) (fun k => p.pts.length - k) 0 [] 0 (fun _ : Unit => []) (fun _ => T ++ [.cells 30 p.cs, .cells 47 (Bg t)]) (fun _ => ∀ j, j < p.pts.length -> ptOK p.first.id p.pts j) (by omega) ⟨by omega, fun j hj => by omega⟩ (by (simp -dsimp +decide (disch := omega) only [vt2, v1q, ↓reduceIte, Nat.reduceSub, Nat.reduceAdd, Nat.reduceMul, Nat.reduceLT, Int.reduceAdd, Int.reduceSub, Int.reduceToNat, v4q]); first | rfl | done) rfl (by simp) ?_ ?_
   . rintro k g ⟨hk, hq⟩
     refine SemA.o ?_
     refine tqcz (cj3 @hr @hsr @g0) ?_
     refine CondP.dec (fun h => ?_) (fun h => ?_)
     . obtain ⟨x, hx⟩ : ∃ x, p.pts[k]? = some x := ⟨p.pts[k]'(by omega), by simp⟩
       have hx32 := ok.id x (List.mem_of_getElem? hx)
       have hxr := Pt.rules hx32
       have hx4 : List.take 32 (List.drop 1 (AV.p (Value.int IntKind.i64 x.h) :: x.id.map by8)) = x.id.map by8 := hxr.2.2.2.1
       have hxh := ok.h x (List.mem_of_getElem? hx)
       have hn : 0 < p.pts.length := by omega
       have hfd := fun j k (K : AV -> Prop) => Sl.fld (K := K) hb.sl hn j k
       have g2 := fun a b l => gn2 T a b (.cells 71 (wint x.h :: x.id.map by8)) l
       have hid := p.first.id_len
       have no : ¬ ptOK p.first.id p.pts k -> mayP p = false := fun hn => by
        unfold mayP
        simp only [decide_eq_false_iff_not]
        exact fun h => hn (h k (by omega))
       have yes : ptOK p.first.id p.pts k -> ∀ j, j < k + 1 -> ptOK p.first.id p.pts j := fun h j hj => by
        rcases Nat.lt_or_eq_of_le (Nat.le_of_lt_succ hj) with h2 | rfl
        . exact hq j h2
        . exact h
       refine tqcz (cj7 @hr @hsr @hld @hx @ez33 @hxr @g0) ?_
       refine ⟨⟨by omega, by omega⟩, ?_⟩
       by_cases d1 : x.h < 0
       . rw [no fun h => by have := (h x hx).1; omega]
         refine SemA.draw (fun i => true) [(0, true), (1, true), (2, true), (3, true), (4, true), (5, true), (6, true), (7, true), (8, true), (9, true), (10, true), (11, true), (12, true), (13, true), (14, true), (15, true), (16, true), (17, true), (18, true), (19, true), (20, true), (21, true), (22, true), (23, true), (24, true), (25, true), (26, true), (27, true), (28, false), (29, true), (30, true), (31, true)] mixed (by kernel_rfl) ?_
         refine tqcz (cj11 @hr @hsr @hld @hx @ez33 @hxr @g0 @g2 @kallT @d1 @bb2) ?_
         exact Vw.cut ⟨rfl, rfl, rfl⟩
       have i1 : (x.h < 0) = False := eq_false d1
       by_cases hk0 : k = 0
       . have i0 : ((0 : Int) < (k : Int)) = False := eq_false (by omega)
         refine SemA.draw (fun i => true) [(0, true), (1, true), (2, true), (3, true), (4, true), (5, true), (6, true), (7, true), (8, true), (9, true), (10, true), (11, true), (12, true), (13, true), (14, true), (15, true), (16, true), (17, true), (18, true), (19, true), (20, true), (21, true), (22, true), (23, true), (24, true), (25, true), (26, true), (27, true), (28, false), (29, true), (30, true), (31, true)] mixed (by kernel_rfl) ?_
         refine tqcz (cj14 @hr @hsr @hld @hl1 @hx @ez33 @hxr @g0 @g2 @kallT @vbg @i1 @bb2 @i0) ?_
         have hp : (x.h = 0 -> x.id = p.first.id) -> ptOK p.first.id p.pts k := fun h z hz => by
          rw [hx] at hz; cases hz
          exact ⟨by omega, fun y h0 _ => by omega, h⟩
         by_cases d3 : x.h = 0
         . have i3 : (x.h = 0) = True := eq_true d3
           refine tqcz (cj15 @hr @hsr @hld @hl1 @hx @ez33 @hxr @g0 @g2 @kallT @vbg @i1 @bb2 @i0 @i3) ?_
           refine ⟨by omega, (rid_ok ok.f).det' ?_⟩
           by_cases d4 : x.id = p.first.id
           . have i4 : (x.id = p.first.id) = True := eq_true d4
             simp -dsimp +decide (disch := omega) only [vt2, v1q, ↓reduceIte, Nat.reduceSub, Nat.reduceAdd, Nat.reduceMul, Nat.reduceLT, Int.reduceAdd, Int.reduceSub, Int.reduceToNat, v2q, hr, hsr, hld, hl1, hx, ez33, hxr, g0, g2, kallT, vbg, i1, bb2, i0, i3, hx4, neh hx32 hid, i4, wt]
             exact ⟨k + 1, ⟨⟨by omega, yes (hp fun _ => d4)⟩, by omega⟩, rfl⟩
           . have i4 : (x.id = p.first.id) = False := eq_false d4
             rw [no fun h => d4 ((h x hx).2.2 d3)]
             simp -dsimp +decide (disch := omega) only [vt2, v1q, ↓reduceIte, Nat.reduceSub, Nat.reduceAdd, Nat.reduceMul, Nat.reduceLT, Int.reduceAdd, Int.reduceSub, Int.reduceToNat, v2q, hr, hsr, hld, hl1, hx, ez33, hxr, g0, g2, kallT, vbg, i1, bb2, i0, i3, hx4, neh hx32 hid, i4, wt]
             exact Vw.cut ⟨rfl, rfl, rfl⟩
         . have i3 : (x.h = 0) = False := eq_false d3
           refine tqcz (cj16 @hr @hsr @hld @hl1 @hx @ez33 @hxr @g0 @g2 @kallT @vbg @i1 @bb2 @i0 @i3 @wt) ?_
           exact ⟨k + 1, ⟨⟨by omega, yes (hp fun h => absurd h d3)⟩, by omega⟩, rfl⟩
       . obtain ⟨y, hy⟩ : ∃ y, p.pts[k - 1]? = some y := ⟨p.pts[k - 1]'(by omega), by simp⟩
         have hyh := ok.h y (List.mem_of_getElem? hy)
         have i0 : ((0 : Int) < (k : Int)) = True := eq_true (by omega)
         have hc : (k : Int) - 1 = ((k - 1 : Nat) : Int) := by omega
         have hcell : (p.pts.flatMap Pt.cs)[(k - 1) * 33]? = some (wint y.h) := by
          have := flat_cell (j := 0) hb.wd hy (by omega)
          simpa using this
         refine SemA.draw (fun i => true) [(0, true), (1, true), (2, true), (3, true), (4, true), (5, true), (6, true), (7, true), (8, true), (9, true), (10, true), (11, true), (12, true), (13, true), (14, true), (15, true), (16, true), (17, true), (18, true), (19, true), (20, true), (21, true), (22, true), (23, true), (24, true), (25, true), (26, true), (27, true), (28, false), (29, true), (30, true), (31, true)] mixed (by kernel_rfl) ?_
         refine tqcz (cj17 @hr @hsr @hld @hl1 @hx @ez33 @hxr @g0 @g2 @kallT @vbg @i1 @bb2 @i0 @hc @hfd @hcell) ?_
         refine ⟨⟨by omega, by omega⟩, ?_⟩
         by_cases d2 : x.h <= y.h
         . have i2 : (x.h <= y.h) = True := eq_true d2
           rw [no fun h => by have := (h x hx).2.1 y (by omega) hy; omega]
           refine tqcz (cj18 @hr @hsr @hld @hl1 @hx @ez33 @hxr @g0 @g2 @kallT @vbg @i1 @bb2 @i0 @hc @hfd @hcell @i2) ?_
           exact Vw.cut ⟨rfl, rfl, rfl⟩
         have i2 : (x.h <= y.h) = False := eq_false d2
         have hp : (x.h = 0 -> x.id = p.first.id) -> ptOK p.first.id p.pts k := fun h z hz => by
          rw [hx] at hz; cases hz
          exact ⟨by omega, fun y2 _ h2 => by rw [hy] at h2; cases h2; omega, h⟩
         by_cases d3 : x.h = 0
         . have i3 : (x.h = 0) = True := eq_true d3
           refine tqcz (cj19 @hr @hsr @hld @hl1 @hx @ez33 @hxr @g0 @g2 @kallT @vbg @i1 @bb2 @i0 @hc @hfd @hcell @i2 @i3) ?_
           refine ⟨by omega, (rid_ok ok.f).det' ?_⟩
           by_cases d4 : x.id = p.first.id
           . have i4 : (x.id = p.first.id) = True := eq_true d4
             simp -dsimp +decide (disch := omega) only [vt2, v1q, ↓reduceIte, Nat.reduceSub, Nat.reduceAdd, Nat.reduceMul, Nat.reduceLT, Int.reduceAdd, Int.reduceSub, Int.reduceToNat, v2q, hr, hsr, hld, hl1, hx, ez33, hxr, g0, g2, kallT, vbg, i1, bb2, i0, hc, hfd, hcell, i2, i3, hx4, neh hx32 hid, i4, wt]
             exact ⟨k + 1, ⟨⟨by omega, yes (hp fun _ => d4)⟩, by omega⟩, rfl⟩
           . have i4 : (x.id = p.first.id) = False := eq_false d4
             rw [no fun h => d4 ((h x hx).2.2 d3)]
             simp -dsimp +decide (disch := omega) only [vt2, v1q, ↓reduceIte, Nat.reduceSub, Nat.reduceAdd, Nat.reduceMul, Nat.reduceLT, Int.reduceAdd, Int.reduceSub, Int.reduceToNat, v2q, hr, hsr, hld, hl1, hx, ez33, hxr, g0, g2, kallT, vbg, i1, bb2, i0, hc, hfd, hcell, i2, i3, hx4, neh hx32 hid, i4, wt]
             exact Vw.cut ⟨rfl, rfl, rfl⟩
         . have i3 : (x.h = 0) = False := eq_false d3
           refine tqcz (cj20 @hr @hsr @hld @hl1 @hx @ez33 @hxr @g0 @g2 @kallT @vbg @i1 @bb2 @i0 @hc @hfd @hcell @i2 @i3 @wt) ?_
           exact ⟨k + 1, ⟨⟨by omega, yes (hp fun h => absurd h d3)⟩, by omega⟩, rfl⟩
     . have e : k = p.pts.length := by omega
       subst e
       refine tqcz (cj3 @wt @hr @vbg) ?_
       exact ⟨(), hq⟩
   . rintro _ g tmp hq
     rw [show mayP p = true by unfold mayP; simp only [decide_eq_true_eq]; exact hq]
     refine sqcy ?_
     exact Vw.cut ⟨rfl, rfl, rfl⟩
end Go.Proofs.YtfpjalgfnjjcmaaGreatDoor
namespace Go.E
def PtrA (a : AV) : Prop := ∀ (Z : Heap) (ρ : List BI) (v : Value), Rel Z ρ a v -> ∃ q, v = .pointer q
theorem PtrA.ptr (i off : Nat) : PtrA (.ptr i off) := fun _ _ _ h => by cases h; exact ⟨_, rfl⟩
theorem cell_at {w : World} {b : Nat} {cur : Array Value} {E : TypeId} (h : w.heap[b]? = some (.cells cur E (0, 0))) (j : Nat) : w.cell? ⟨b, j, none⟩ = cur[j]? /\ w.frozen? ⟨b, j, none⟩ = false := by
 constructor
 . simp [World.cell?, h]
 . simp [World.frozen?, h]
theorem putRow_at {w : World} {b : Nat} {cur : Array Value} {E : TypeId} (h : w.heap[b]? = some (.cells cur E (0, 0))) (q : Nat) (d : Array (Option Addr)) :
 (Sort.putRow Value.pointer (Sort.ahead w q) b 0 d).heap[b]? = some (.cells (Sort.putCells Value.pointer 0 d cur) E (0, 0)) /\ ∀ k, k ≠ b -> (Sort.putRow Value.pointer (Sort.ahead w q) b 0 d).heap[k]? = w.heap[k]? := by
 have hb := (Array.getElem?_eq_some_iff.1 h).1
 constructor
 . show (w.heap.modify b _)[b]? = _
   rw [Array.getElem?_modify, if_pos rfl, h]; rfl
 . intro k hk
   show (w.heap.modify b _)[k]? = _
   rw [Array.getElem?_modify, if_neg (Ne.symm hk)]
theorem putCells_take {cur : Array Value} {d : Array (Option Addr)} (hd : d.size <= cur.size) {m : Nat} (hm : m <= d.size) : (Sort.putCells Value.pointer 0 d cur).toList.take m = (d.toList.take m).map Value.pointer := by
 refine List.ext_getElem? fun k => ?_
 rw [List.getElem?_take, List.getElem?_map, List.getElem?_take]
 split
 . rename_i hk
   rw [Array.getElem?_toList, Array.getElem?_toList, Sort.putCells, Array.getElem?_mapIdx, Array.getElem?_eq_getElem (show k < cur.size by omega), Array.getElem?_eq_getElem (show k < d.size by omega)]
   simp only [Option.map_some, Nat.zero_le, Nat.zero_add, true_and, Nat.sub_zero]
   rw [if_pos (by omega), getElem!_pos d k (by omega)]
 . rfl
theorem ptr_list : ∀ {vs : List Value}, (∀ v ∈ vs, ∃ q, v = Value.pointer q) -> ∃ d : List (Option Addr), vs = d.map Value.pointer
 | [], _ => ⟨[], rfl⟩
 | v :: r, h => by
   obtain ⟨q, rfl⟩ := h v (by simp)
   obtain ⟨d, rfl⟩ := ptr_list (vs := r) fun y hy => h y (by simp [hy])
   exact ⟨q :: d, rfl⟩
theorem keep_app (U l : Tbl) (k : Nat) : keepT (fun i => decide (i < U.length + k)) (U ++ l) = U ++ (l.take k ++ (l.drop k).map fun _ => .gone) := by
 refine List.ext_getElem? fun i => ?_
 rw [keepT_get]
 by_cases h1 : i < U.length
 . rw [List.getElem?_append_left h1, List.getElem?_append_left h1]
   have : keepO (fun i => decide (i < U.length + k)) i = id := by
    funext o; unfold keepO; simp only [decide_eq_true (show i < U.length + k by omega)]; rfl
   rw [this]; simp
 . rw [List.getElem?_append_right (by omega), List.getElem?_append_right (by omega)]
   by_cases h2 : i - U.length < k
   . have : keepO (fun i => decide (i < U.length + k)) i = id := by
      funext o; unfold keepO; simp only [decide_eq_true (show i < U.length + k by omega)]; rfl
     rw [this]
     by_cases h3 : i - U.length < l.length
     . rw [List.getElem?_append_left (by rw [List.length_take]; omega), List.getElem?_take_of_lt h2]; simp
     . rw [List.getElem?_eq_none (by omega), List.getElem?_eq_none (by simp; omega)]; rfl
   . have : keepO (fun i => decide (i < U.length + k)) i = fun _ => .gone := by
      funext o; unfold keepO; simp only [decide_eq_false (show ¬ i < U.length + k by omega)]
     rw [this]
     by_cases h3 : i - U.length < l.length
     . rw [List.getElem?_append_right (by rw [List.length_take]; omega), List.getElem?_map, List.getElem?_drop, List.length_take, Nat.min_eq_left (by omega), show k + (i - U.length - k) = i - U.length by omega]
     . rw [List.getElem?_eq_none (by omega), List.getElem?_eq_none (by simp; omega)]; rfl
end Go.E
namespace Go.Proofs.YtfpjalgfnjjcmaaGreatDoor
open Go.Proofs Go.E Go.Proofs.YtfpjalgfnjjcmaaGreatDoor.Tryz Go.Proofs.Tryz
def dlR : Go.Shelf.Ren := ⟨fun | 45 => 84 | n => n, fun | 22 => 77 | 23 => 72 | n => n, fun n => n⟩
theorem dl_lays : SlLaysE.n45 prog dlR where
 mixed := (by kernel_rfl)
 f45 := ⟨Tryz.f84.name, (by kernel_rfl), func84.trans (congrArg some (by kernel_rfl))⟩
 t0 := (by kernel_rfl)
 a0 := fun _ => (by kernel_rfl)
 z0 := fun _ => (by kernel_rfl)
 v0 := fun _ => (by kernel_rfl)
 t3 := (by kernel_rfl)
 a3 := fun _ => (by kernel_rfl)
 z3 := fun _ => (by kernel_rfl)
 v3 := fun _ => (by kernel_rfl)
 t4 := (by kernel_rfl)
 a4 := fun _ => (by kernel_rfl)
 z4 := fun _ => (by kernel_rfl)
 v4 := fun _ => (by kernel_rfl)
 t22 := (by kernel_rfl)
 a22 := fun _ => (by kernel_rfl)
 z22 := fun _ => (by kernel_rfl)
 v22 := fun _ => (by kernel_rfl)
 a23 := fun _ => (by kernel_rfl)
 z23 := fun _ => (by kernel_rfl)
theorem delete_shelf {blk cap k : Nat} {d : Array (Option Addr)} {w : World} (hH : Sort.Holds Value.pointer w blk 0 d) (hcap : d.size <= cap) (hm : cap <= 9223372036854775807) (hk : k < d.size) :
 Calls prog 84 #[.slice (some ⟨blk, 0, none⟩) d.size cap, .int .i64 (k : Int), .int .i64 ((k + 1 : Nat) : Int)] w fun e w' => e = .returned (.slice (some ⟨blk, 0, none⟩) (d.size - (k + 1 - k)) cap) /\
  ∃ q, w' = Sort.putRow Value.pointer (Sort.ahead w q) blk 0 (d.toList.take k ++ d.toList.drop (k + 1) ++ List.replicate (k + 1 - k) (none : Option Addr)).toArray :=
 AnyE.slices_Delete dl_lays Value.pointer (fun _ => rfl) none (fun _ => (by kernel_rfl)) (Option.get (prog.info? 72) (by kernel_rfl)) (by kernel_rfl) (by kernel_rfl) blk 0 cap k (k + 1) d w hH hcap hm (by omega) hk
theorem delete_ok {T : Tbl} {b : Nat} {cs : List AV} {El : TypeId} (hT : T[b]? = some (.buf El 1 cs)) (hp : ∀ a ∈ cs, PtrA a) {n k : Nat} (hn : cs.length = n) (hk : k < n) :
 CallA prog G 84 [.sl b 0 n, wint (k : Int), wint ((k + 1 : Nat) : Int)] T fun v T' es => v = .sl b 0 (n - 1) /\ T' = T.set b (.buf El 1 (cs.eraseIdx k)) /\ es = [(b, false)] := by
 intro Z ρ w vs hG hs ha
 obtain ⟨v1, us, rfl, r1, ha⟩ := ha.uncons
 obtain ⟨v2, us, rfl, r2, ha⟩ := ha.uncons
 obtain ⟨v3, us, rfl, r3, ha⟩ := ha.uncons
 obtain rfl := ha.unnil
 obtain rfl := r2.p_inv
 obtain rfl := r3.p_inv
 cases r1 with
 | @sl _ _ _ _ c x ad hx hae hc h0 =>
 obtain ⟨⟨hg, -⟩, n', e1, e2, ⟨e3, rfl, e5⟩ | ⟨blk, cur, e3, e4, e5, e6, e7⟩⟩ := hs.obj _ _ x hT hx
 . simp at hn; omega
 rw [Nat.mul_one] at e1 e6 e7
 have hn' : n' = n := by omega
 subst hn'
 rw [hae (.inr rfl), e3, h0 rfl hg]
 have hpt : ∀ v ∈ cur.toList.take n', ∃ q, v = Value.pointer q := by
  intro v hv
  obtain ⟨j, hj⟩ := List.mem_iff_getElem?.1 hv
  have hj2 : j < cs.length := by rw [e7.1]; exact (List.getElem?_eq_some_iff.1 hj).1
  exact hp cs[j] (by simp) Z ρ v (e7.2 j _ v (by simp [hj2]) hj)
 obtain ⟨dl, hdl⟩ := ptr_list hpt
 have hdl2 : dl.length = n' := by
  have := congrArg List.length hdl
  simp only [List.length_map, List.length_take, Array.length_toList] at this
  omega
 have hH : Sort.Holds Value.pointer w blk 0 dl.toArray := by
  intro j hj
  rw [List.size_toArray] at hj
  rw [Nat.zero_add]
  obtain ⟨h1, h2⟩ := cell_at e4 j
  refine ⟨?_, h2⟩
  rw [h1]
  have : (cur.toList.take n')[j]? = (dl.map Value.pointer)[j]? := by rw [hdl]
  rw [List.getElem?_take_of_lt (by omega), Array.getElem?_toList, List.getElem?_map, List.getElem?_eq_getElem hj] at this
  rw [this, getElem!_pos dl.toArray j (by simpa using hj)]
  simp
 have hdl3 : dl.toArray.size = n' := by rw [List.size_toArray, hdl2]
 have hcall := delete_shelf (cap := x.cap) (k := k) hH (by rw [hdl3]; exact e2) (Nat.le_trans e5 (by unfold maxLen; decide)) (by rw [hdl3]; exact hk)
 rw [hdl3] at hcall
 refine Calls.mono hcall ?_
 intro e w' he
 obtain ⟨he, q, hw⟩ := he
 refine ⟨_, he, ?_⟩
 subst hw
 obtain ⟨dA, hdA⟩ : ∃ dA, dA = (dl.toArray.toList.take k ++ dl.toArray.toList.drop (k + 1) ++ List.replicate (k + 1 - k) (none : Option Addr)).toArray := ⟨_, rfl⟩
 rw [<- hdA]
 have hdAs : dA.size = n' := by
  rw [hdA]
  simp only [List.size_toArray, List.length_append, List.length_take, List.length_drop, List.length_replicate]
  omega
 obtain ⟨g1, g2⟩ := putRow_at e4 q dA
 have hsz : dA.size <= cur.size := by omega
 have hsize : (Sort.putCells Value.pointer 0 dA cur).size = x.cap * 1 := by rw [Nat.mul_one, Sort.putCells, Array.size_mapIdx]; exact e6
 have hrel : RelL Z ρ (cs.eraseIdx k) ((Sort.putCells Value.pointer 0 dA cur).toList.take ((n' - 1) * 1)) := by
  rw [Nat.mul_one, putCells_take hsz (by omega)]
  have e8 : (dA.toList.take (n' - 1)).map Value.pointer = (cur.toList.take n').eraseIdx k := by
   rw [hdl, List.eraseIdx_eq_take_drop_succ, hdA]
   simp only [List.map_take]
   rw [List.map_append, List.map_append, List.take_append_of_le_length (by simp only [List.length_append, List.length_map, List.length_take, List.length_drop]; omega), List.take_of_length_le (by simp only [List.length_append, List.length_map, List.length_take, List.length_drop]; omega)]
   simp
  rw [e8, List.eraseIdx_eq_take_drop_succ, List.eraseIdx_eq_take_drop_succ]
  exact (e7.take k).append (e7.drop (k + 1))
 obtain ⟨k1, k2⟩ := hs.write (w' := Sort.putRow Value.pointer (Sort.ahead w q) blk 0 dA) hT hx rfl (.buf El 1 (cs.eraseIdx k)) rfl (fun b' hb' => g2 b' fun e => hb' (by rw [e3, e])) ⟨rfl, rfl⟩
  ⟨⟨hg, by omega⟩, n' - 1, by rw [Nat.mul_one, List.length_eraseIdx, if_pos (by omega), hn], by omega, .inr ⟨blk, _, e3, g1, e5, hsize, hrel⟩⟩
 refine ⟨Z, ρ, _, _, .sl b 0 (n' - 1), k1, k2, ?_, rfl, rfl, rfl⟩
 rw [show n' - (k + 1 - k) = n' - 1 by omega]
 exact .sl (x := x) hx (fun _ => by rw [e3]; rfl) (by omega) fun _ _ => rfl
end Go.Proofs.YtfpjalgfnjjcmaaGreatDoor
namespace Go.Proofs.YtfpjalgfnjjcmaaGreatDoor
open Go.E Go.Proofs.YtfpjalgfnjjcmaaGreatDoor.Tryz Go.Proofs.Tryz
def hv (l : List UInt8) : Value := .agg (l.map fun b => .int .u8 (b.toNat : Int)).toArray
def ptrO : Option Nat -> AV
 | none => .p (.pointer none)
 | some i => .ptr i 0
structure Nd where
 h : Hdr
 on : Option Nat
 ht : Nat
 wk : Nat
 kids : Nat
 best : Bool
def Nd.tl (x : Nd) : List AV := [ptrO x.on, wint (x.ht : Int), lw x.wk 0, lw x.wk 1, lw x.wk 2, lw x.wk 3, wint (x.kids : Int), .p (.bool x.best)]
def Nd.cs (x : Nd) : List AV := x.h.cs ++ (x.h.id.map by8 ++ x.tl)
theorem ptrO_wo (q : Nat -> Bool) (o : Option Nat) (h : ∀ i, o = some i -> q i = false) : (ptrO o).wo q = ptrO o := by
 cases o with
 | none => rfl
 | some i => show AV.wo q (.ptr i 0) = _; rw [AV.wo, h i rfl]; rfl
theorem cs_split {x : Nd} (ok : x.h.Ok) : x.cs.length = 108 /\ (∀ k, x.cs[100 + k]? = x.tl[k]?) /\ List.drop 68 x.cs = x.h.id.map by8 ++ x.tl /\ List.take 68 x.cs = x.h.cs /\ List.drop 100 x.cs = x.tl /\ ∀ t : List AV, t.length = 8 -> List.take 100 x.cs ++ t = x.h.cs ++ (x.h.id.map by8 ++ t) := by
 have h1 := Hdr.cs_len ok
 have h2 : (x.h.id.map by8).length = 32 := by simp [x.h.id_len]
 have e : x.cs = (x.h.cs ++ x.h.id.map by8) ++ x.tl := by rw [Nd.cs, List.append_assoc]
 have h3 : (x.h.cs ++ x.h.id.map by8).length = 100 := by rw [List.length_append, h1, h2]
 refine ⟨by rw [e, List.length_append, h3]; rfl, fun k => ?_, by rw [Nd.cs, <- h1, List.drop_left], by rw [Nd.cs, <- h1, List.take_left], by rw [e, <- h3, List.drop_left], fun t _ => ?_⟩
 . rw [e, List.getElem?_append_right (by omega), h3, Nat.add_sub_cancel_left]
 . rw [e, <- h3, List.take_left, List.append_assoc]
theorem Nd.set {x y : Nd} (ok : x.h.Ok) (hh : y.h = x.h) {k : Nat} {a : AV} (ht : x.tl.set k a = y.tl) : x.cs.set (100 + k) a = y.cs := by
 have h1 := Hdr.cs_len ok
 have h2 : (x.h.id.map by8).length = 32 := by simp [x.h.id_len]
 rw [Nd.cs, Nd.cs, hh, <- ht, List.set_append_right _ _ (by omega), List.set_append_right _ _ (by omega), h1, h2, show 100 + k - 68 - 32 = k by omega]
theorem Nd.rules {x : Nd} (ok : x.h.Ok) : x.cs.length = 108 /\ List.take 68 (List.drop 0 x.cs) = x.h.cs /\ List.take 68 x.cs = x.h.cs /\ List.take 32 (List.drop 68 x.cs) = x.h.id.map by8 /\ x.cs[100]? = some (ptrO x.on) /\ x.cs[101]? = some (wint (x.ht : Int)) /\ List.take 4 (List.drop 102 x.cs) = Bg x.wk /\
 x.cs[106]? = some (wint (x.kids : Int)) /\ x.cs[107]? = some (.p (.bool x.best)) /\ (∀ b, x.cs.set 107 (.p (.bool b)) = Nd.cs { x with best := b }) /\ (∀ k : Nat, x.cs.set 106 (.p (.int .i64 (k : Int))) = Nd.cs { x with kids := k }) /\ (∀ w, wrA x.cs 102 (Bg w) = Nd.cs { x with wk := w }) /\ ones x.cs = true := by
 obtain ⟨h1, h2, h3, h4, h5, h6⟩ := cs_split ok
 have hr := Hdr.rules ok
 have hi : (x.h.id.map by8).length = 32 := by simp [x.h.id_len]
 refine ⟨h1, by rw [List.drop_zero]; exact h4, h4, by rw [h3, <- hi, List.take_left], h2 0, h2 1, ?_, h2 6, h2 7, fun b => Nd.set (y := { x with best := b }) (k := 7) ok rfl rfl, fun k => Nd.set (y := { x with kids := k }) (k := 6) ok rfl rfl, fun w => ?_, ?_⟩
 . rw [show 102 = 100 + 2 from rfl, <- List.drop_drop, h5]; rfl
 . rw [wrA_eq (by rw [h1, Bg_len]; decide), Bg_len]
   have e1 : List.drop (102 + 4) x.cs = x.tl.drop 6 := by rw [show 102 + 4 = 100 + 6 from rfl, <- List.drop_drop, h5]
   have e2 : List.take 102 x.cs = List.take 100 x.cs ++ x.tl.take 2 := by
    rw [show (102 : Nat) = 100 + 2 from rfl, List.take_add, h5]
   rw [e1, e2, List.append_assoc, List.append_assoc, h6 _ (by simp [Bg_len, Nd.tl])]
   rfl
 . have g1 : List.all x.h.cs AV.one = true := hr.2.2.2.2.2.2.2.2.2.2.2
   rw [ones, Nd.cs, List.all_append, List.all_append, g1]
   have g2 : List.all (x.h.id.map by8) AV.one = true := List.all_eq_true.2 fun a ha => by
    obtain ⟨b, _, rfl⟩ := List.mem_map.1 ha; rfl
   have g3 : List.all x.tl AV.one = true := by
    cases ho : x.on <;> simp only [Nd.tl, ho, ptrO] <;> rfl
   rw [g2, g3]; rfl
theorem Nd.wo {x : Nd} (ok : x.h.Ok) {q : Nat -> Bool} (h : ∀ i, x.on = some i -> q i = false) : x.cs.map (AV.wo q) = x.cs := by
 rw [Nd.cs, List.map_append, List.map_append, (Hdr.rules ok).2.2.2.2.2.2.2.2.2.1, wb8]
 have : x.tl.map (AV.wo q) = x.tl := by
  simp only [Nd.tl, List.map_cons, List.map_nil, ptrO_wo q x.on h, wint, lw, AV.wo]
 rw [this]
structure Fst where
 f : Nat
 m : Nat
 b : Nat
 p : Par
 room : Nat
 oa : AV
 top : Nat
 es : List (List UInt8 × Nat)
 bc : List Nat
 nd : Nat -> Option Nd
def Fst.cs (s : Fst) : List AV := s.p.cs ++ [wint (s.room : Int), .mp s.m, s.oa, .ptr s.top 0]
def ent (e : List UInt8 × Nat) : Value × AV := (hv e.1, .ptr e.2 0)
def ptrs (l : List Nat) : List AV := l.map fun i => .ptr i 0
def Fst.setN (s : Fst) (i : Nat) (x : Nd) : Fst := { s with nd := fun j => if j = i then some x else s.nd j }
def Fst.ob (s : Fst) (i : Nat) (o : AObj) : AObj := if i = s.f then .cells 79 s.cs else if i = s.m then .map (s.es.map ent) else if i = s.b then .buf 72 1 (ptrs s.bc) else match s.nd i with
 | some x => .cells 75 x.cs
 | none => o
def FT (V : Tbl) (s : Fst) : Tbl := V.mapIdx s.ob
structure Fst.In (s : Fst) (n : Nat) : Prop where
 f : s.f < n
 m : s.m < n
 b : s.b < n
 fm : s.f ≠ s.m
 fb : s.f ≠ s.b
 mb : s.m ≠ s.b
 nf : s.nd s.f = none
 nm : s.nd s.m = none
 nb : s.nd s.b = none
 nn : ∀ i x, s.nd i = some x -> i < n
theorem FT_len (V : Tbl) (s : Fst) : (FT V s).length = V.length := by simp [FT]
theorem FT_at (V : Tbl) (s : Fst) (i : Nat) : (FT V s)[i]? = V[i]?.map (s.ob i) := by simp [FT, List.getElem?_mapIdx]
theorem FT_some {V : Tbl} {i : Nat} (h : i < V.length) (s : Fst) : ∃ o, (FT V s)[i]? = some (s.ob i o) := ⟨V[i], by rw [FT_at]; simp [h]⟩
theorem FT_set {V : Tbl} {s s' : Fst} {i : Nat} {o : AObj} (h1 : ∀ x, s'.ob i x = o) (h2 : ∀ j, j ≠ i -> ∀ x, s'.ob j x = s.ob j x) : (FT V s).set i o = FT V s' := by
 refine List.ext_getElem? fun j => ?_
 rw [FT_at]
 by_cases hj : j = i
 . subst hj
   by_cases hl : j < V.length
   . rw [List.getElem?_set_self (by rw [FT_len]; exact hl)]; simp [hl, h1]
   . rw [List.getElem?_eq_none (by rw [List.length_set, FT_len]; omega), List.getElem?_eq_none (by omega)]; rfl
 . rw [List.getElem?_set_ne (Ne.symm hj), FT_at]
   cases V[j]? with
   | none => rfl
   | some x => simp [h2 j hj x]
theorem Fst.ob_f (s : Fst) (o : AObj) : s.ob s.f o = .cells 79 s.cs := by simp [Fst.ob]
theorem Fst.ob_m {s : Fst} (h : s.f ≠ s.m) (o : AObj) : s.ob s.m o = .map (s.es.map ent) := by simp [Fst.ob, Ne.symm h]
theorem Fst.ob_b {s : Fst} (h : s.f ≠ s.b) (h' : s.m ≠ s.b) (o : AObj) : s.ob s.b o = .buf 72 1 (ptrs s.bc) := by simp [Fst.ob, Ne.symm h, Ne.symm h']
theorem Fst.In.ne {s : Fst} {n : Nat} (h : s.In n) {i : Nat} {x : Nd} (hi : s.nd i = some x) : i ≠ s.f /\ i ≠ s.m /\ i ≠ s.b :=
 ⟨fun e => (by rw [e, h.nf] at hi; cases hi), fun e => (by rw [e, h.nm] at hi; cases hi), fun e => (by rw [e, h.nb] at hi; cases hi)⟩
theorem Fst.In.ob_n {s : Fst} {n : Nat} (h : s.In n) {i : Nat} {x : Nd} (hi : s.nd i = some x) (o : AObj) : s.ob i o = .cells 75 x.cs := by
 obtain ⟨h1, h2, h3⟩ := h.ne hi
 simp [Fst.ob, h1, h2, h3, hi]
theorem FT_app {V : Tbl} {s : Fst} {i : Nat} (h : i < V.length) (l : Tbl) : (FT V s ++ l)[i]? = (FT V s)[i]? := List.getElem?_append_left (by rw [FT_len]; exact h)
theorem FT_apps {V : Tbl} {s : Fst} {i : Nat} (h : i < V.length) (l : Tbl) (o : AObj) : (FT V s ++ l).set i o = (FT V s).set i o ++ l := List.set_append_left _ _ (by rw [FT_len]; exact h)
theorem Fst.In.gf {V : Tbl} {s : Fst} (h : s.In V.length) : (FT V s)[s.f]? = some (.cells 79 s.cs) := by
 obtain ⟨o, ho⟩ := FT_some h.f s; rw [ho, Fst.ob_f]
theorem Fst.In.gm {V : Tbl} {s : Fst} (h : s.In V.length) : (FT V s)[s.m]? = some (.map (s.es.map ent)) := by
 obtain ⟨o, ho⟩ := FT_some h.m s; rw [ho, Fst.ob_m h.fm]
theorem Fst.In.gb {V : Tbl} {s : Fst} (h : s.In V.length) : (FT V s)[s.b]? = some (.buf 72 1 (ptrs s.bc)) := by
 obtain ⟨o, ho⟩ := FT_some h.b s; rw [ho, Fst.ob_b h.fb h.mb]
theorem Fst.In.gn {V : Tbl} {s : Fst} (h : s.In V.length) {i : Nat} {x : Nd} (hi : s.nd i = some x) : (FT V s)[i]? = some (.cells 75 x.cs) := by
 obtain ⟨o, ho⟩ := FT_some (h.nn i x hi) s; rw [ho, h.ob_n hi]
theorem Fst.In.sf {V : Tbl} {s : Fst} (h : s.In V.length) {s' : Fst} (e : s' = { s with p := s'.p, room := s'.room, oa := s'.oa, top := s'.top }) {c : List AV} (hc : c = s'.cs) : (FT V s).set s.f (.cells 79 c) = FT V s' := by
 have e1 : s'.f = s.f := by rw [e]
 have e2 : s'.m = s.m := by rw [e]
 have e3 : s'.b = s.b := by rw [e]
 have e4 : s'.es = s.es := by rw [e]
 have e5 : s'.bc = s.bc := by rw [e]
 have e6 : s'.nd = s.nd := by rw [e]
 refine FT_set (fun x => by rw [hc, <- e1, Fst.ob_f]) fun j hj x => ?_
 simp only [Fst.ob, e1, e2, e3, e4, e5, e6, hj, if_false]
theorem Fst.In.sn {V : Tbl} {s : Fst} (h : s.In V.length) {i : Nat} {x : Nd} (hi : s.nd i = some x) (y : Nd) : (FT V s).set i (.cells 75 y.cs) = FT V (s.setN i y) := by
 obtain ⟨h1, h2, h3⟩ := h.ne hi
 refine FT_set (fun o => ?_) fun j hj o => ?_
 . simp [Fst.ob, Fst.setN, h1, h2, h3]
 . simp [Fst.ob, Fst.setN, hj, Fst.cs]
theorem Fst.In.sm {V : Tbl} {s : Fst} (h : s.In V.length) (es : List (List UInt8 × Nat)) : (FT V s).set s.m (.map (es.map ent)) = FT V { s with es := es } := by
 refine FT_set (fun o => Fst.ob_m (s := { s with es := es }) h.fm o) fun j hj o => ?_
 simp [Fst.ob, hj, Fst.cs]
theorem Fst.In.sb {V : Tbl} {s : Fst} (h : s.In V.length) (bc : List Nat) : (FT V s).set s.b (.buf 72 1 (ptrs bc)) = FT V { s with bc := bc } := by
 refine FT_set (fun o => Fst.ob_b (s := { s with bc := bc }) h.fb h.mb o) fun j hj o => ?_
 simp [Fst.ob, hj, Fst.cs]
theorem Fst.In.setN {s : Fst} {n : Nat} (h : s.In n) {i : Nat} {x : Nd} (hi : s.nd i = some x) (y : Nd) : (s.setN i y).In n := by
 obtain ⟨h1, h2, h3⟩ := h.ne hi
 refine ⟨h.f, h.m, h.b, h.fm, h.fb, h.mb, ?_, ?_, ?_, fun j z hj => ?_⟩
 . simp [Fst.setN, Ne.symm h1, h.nf]
 . simp [Fst.setN, Ne.symm h2, h.nm]
 . simp [Fst.setN, Ne.symm h3, h.nb]
 . simp only [Fst.setN] at hj
   split at hj
   . rename_i e; rw [e]; exact h.nn i x hi
   . exact h.nn j z hj
theorem Fst.In.mono {s : Fst} {n n' : Nat} (h : s.In n) (hn : n <= n') : s.In n' := ⟨by have := h.f; omega, by have := h.m; omega, by have := h.b; omega, h.fm, h.fb, h.mb, h.nf, h.nm, h.nb, fun i x hi => by have := h.nn i x hi; omega⟩
theorem Fst.In.put {s : Fst} {n : Nat} (h : s.In n) (p : Par) (room : Nat) (oa : AV) (top : Nat) (es : List (List UInt8 × Nat)) (bc : List Nat) : Fst.In { s with p := p, room := room, oa := oa, top := top, es := es, bc := bc } n := ⟨h.f, h.m, h.b, h.fm, h.fb, h.mb, h.nf, h.nm, h.nb, h.nn⟩
theorem Fst.rules {s : Fst} (ok : s.p.Ok) : s.cs.length = 76 /\ List.take 72 (List.drop 0 s.cs) = s.p.cs /\ List.take 72 s.cs = s.p.cs /\ s.cs[72]? = some (wint (s.room : Int)) /\ s.cs[73]? = some (.mp s.m) /\ s.cs[74]? = some s.oa /\ s.cs[75]? = some (.ptr s.top 0) /\
 (∀ a, s.cs.set 74 a = Fst.cs { s with oa := a }) /\ (∀ i, s.cs.set 75 (.ptr i 0) = Fst.cs { s with top := i }) := by
 have hl := (Par.rules ok).1
 have hg : ∀ k, s.cs[72 + k]? = [wint (s.room : Int), .mp s.m, s.oa, .ptr s.top 0][k]? := fun k => by
  rw [Fst.cs, List.getElem?_append_right (by omega), hl, Nat.add_sub_cancel_left]
 have hs : ∀ k a, s.cs.set (72 + k) a = s.p.cs ++ [wint (s.room : Int), .mp s.m, s.oa, .ptr s.top 0].set k a := fun k a => by
  rw [Fst.cs, List.set_append_right _ _ (by omega), hl, Nat.add_sub_cancel_left]
 have ht : List.take 72 s.cs = s.p.cs := by rw [Fst.cs, <- hl, List.take_left]
 exact ⟨by rw [Fst.cs, List.length_append, hl]; rfl, by rw [List.drop_zero]; exact ht, ht, hg 0, hg 1, hg 2, hg 3, fun a => hs 2 a, fun i => hs 3 _⟩
structure Fst.Ref (s : Fst) (n : Nat) : Prop where
 p : s.p.Ok
 h : ∀ i x, s.nd i = some x -> x.h.Ok
 o : ∀ q : Nat -> Bool, (∀ i, i < n -> q i = false) -> s.oa.wo q = s.oa
 t : s.top < n
 e : ∀ x ∈ s.es, x.2 < n
 b : ∀ i ∈ s.bc, i < n
 on : ∀ i x j, s.nd i = some x -> x.on = some j -> j < n
theorem Fst.cs_wo {s : Fst} {q : Nat -> Bool} (ok : s.p.Ok) (h1 : q s.m = false) (h2 : q s.top = false) : s.cs.map (AV.wo q) = Fst.cs { s with oa := s.oa.wo q } := by
 rw [Fst.cs, List.map_append, (Par.rules ok).2.2.2.2.2.2.2.2.2.2.1]
 simp only [List.map_cons, List.map_nil, Fst.cs, wint, AV.wo, h1, h2, Bool.false_eq_true, if_false]
theorem ptrs_wo {l : List Nat} {q : Nat -> Bool} (h : ∀ i ∈ l, q i = false) : (ptrs l).map (AV.wo q) = ptrs l := by
 rw [ptrs, List.map_map]
 refine List.map_congr_left fun i hi => ?_
 show AV.wo q (.ptr i 0) = _
 rw [AV.wo, h i hi]; rfl
theorem ent_wo {l : List (List UInt8 × Nat)} {q : Nat -> Bool} (h : ∀ e ∈ l, q e.2 = false) : (l.map ent).map (fun e => (e.1, AV.wo q e.2)) = l.map ent := by
 rw [List.map_map]
 refine List.map_congr_left fun e he => ?_
 show (_, AV.wo q (.ptr e.2 0)) = _
 rw [AV.wo, h e he]; rfl
theorem FT_wo {V : Tbl} {s : Fst} {q : Nat -> Bool} (hp : s.p.Ok) (hh : ∀ i x, s.nd i = some x -> x.h.Ok) (hm : q s.m = false) (ht : q s.top = false) (he : ∀ e ∈ s.es, q e.2 = false) (hb : ∀ i ∈ s.bc, q i = false) (hn : ∀ i x j, s.nd i = some x -> x.on = some j -> q j = false) :
 (FT V s).map (AObj.wo q) = FT (V.map (AObj.wo q)) { s with oa := s.oa.wo q } := by
 refine List.ext_getElem? fun i => ?_
 rw [List.getElem?_map, FT_at, FT_at, List.getElem?_map]
 cases V[i]? with
 | none => rfl
 | some o =>
   simp only [Option.map_some, Fst.ob, Option.some.injEq]
   split
   . rw [AObj.wo, Fst.cs_wo hp hm ht]
   . split
     . rw [AObj.wo, ent_wo he]
     . split
       . rw [AObj.wo, ptrs_wo hb]
       . cases hi : s.nd i with
         | none => rfl
         | some x =>
           show AObj.wo q (.cells _ x.cs) = _
           rw [AObj.wo, Nd.wo (hh i x hi) fun j hj => hn i x j hi hj]
structure Vok (V : Tbl) (b : Nat) : Prop where
 wo : ∀ q : Nat -> Bool, (∀ i, i < V.length -> q i = false) -> V.map (AObj.wo q) = V
 b : V.map (AObj.wo (· == b)) = V
theorem Fst.Ref.wo {V : Tbl} {s : Fst} (h : s.Ref V.length) (hI : s.In V.length) {b : Nat} (hV : Vok V b) {q : Nat -> Bool} (hq : ∀ i, i < V.length -> q i = false) : (FT V s).map (AObj.wo q) = FT V s := by
 rw [FT_wo h.p h.h (hq _ hI.m) (hq _ h.t) (fun e he => hq _ (h.e e he)) (fun i hi => hq _ (h.b i hi)) (fun i x j hi hj => hq _ (h.on i x j hi hj)), hV.wo q hq, h.o q hq]
theorem Fst.Ref.t' {V : Tbl} {s : Fst} (h : s.Ref V.length) (hI : s.In V.length) {b : Nat} (hV : Vok V b) :
 (∀ k, (FT V s).map (AObj.wo (fun i => decide (V.length + k <= i))) = FT V s) /\ ((FT V s).map (AObj.wo (fun i => decide (V.length <= i))) = FT V s) /\ (∀ k, (FT V s).map (AObj.wo (fun i => i == V.length + k)) = FT V s) /\ ((FT V s).map (AObj.wo (fun i => i == V.length)) = FT V s) /\
 (∀ k cs, (FT V s).map (AObj.pub (V.length + k) cs) = FT V s) /\ (∀ cs, (FT V s).map (AObj.pub V.length cs) = FT V s) := by
 have key : ∀ q : Nat -> Bool, (∀ i, i < V.length -> q i = false) -> (FT V s).map (AObj.wo q) = FT V s := fun q hq => h.wo hI hV hq
 have kp : ∀ j, V.length <= j -> ∀ cs, (FT V s).map (AObj.pub j cs) = FT V s := by
  intro j hj cs
  refine (List.map_congr_left fun o ho => ?_).trans (List.map_id (FT V s))
  exact pub_woO j cs o (List.map_inj_left.1 ((key (fun i => i == j) fun i hi => by simp; omega).trans (List.map_id (FT V s)).symm) o ho)
 exact ⟨fun k => key _ fun i hi => by simp; omega, key _ fun i hi => by simp; omega, fun k => key _ fun i hi => by simp; omega, key _ fun i hi => by simp; omega, fun k cs => kp _ (by omega) cs, fun cs => kp _ (Nat.le_refl _) cs⟩
theorem vft : (∀ V s, (FT V s).length = V.length) /\ (∀ V s a l, (FT V s ++ a :: l)[V.length]? = some a) /\ (∀ V s a b l, (FT V s ++ a :: b :: l)[V.length + 1]? = some b) /\ (∀ V s a b c l, (FT V s ++ a :: b :: c :: l)[V.length + 2]? = some c) /\
 (∀ V s a b c d l, (FT V s ++ a :: b :: c :: d :: l)[V.length + 3]? = some d) /\ (∀ V s a b c d e l, (FT V s ++ a :: b :: c :: d :: e :: l)[V.length + 4]? = some e) /\ (∀ V s a b c d e f l, (FT V s ++ a :: b :: c :: d :: e :: f :: l)[V.length + 5]? = some f) /\
 (∀ V s a b c d e f g l, (FT V s ++ a :: b :: c :: d :: e :: f :: g :: l)[V.length + 6]? = some g) /\
 (∀ V s l k, List.take (V.length + k) (FT V s ++ l) = FT V s ++ l.take k) /\ (∀ V s l, List.take V.length (FT V s ++ l) = FT V s) /\ (∀ V s, List.take V.length (FT V s) = FT V s) /\
 (∀ V s a l o, (FT V s ++ a :: l).set V.length o = FT V s ++ o :: l) /\ (∀ V s a b l o, (FT V s ++ a :: b :: l).set (V.length + 1) o = FT V s ++ a :: o :: l) /\ (∀ V s a b c l o, (FT V s ++ a :: b :: c :: l).set (V.length + 2) o = FT V s ++ a :: b :: o :: l) /\
 (∀ V s a b c d l o, (FT V s ++ a :: b :: c :: d :: l).set (V.length + 3) o = FT V s ++ a :: b :: c :: o :: l) /\ (∀ V s a b c d e l o, (FT V s ++ a :: b :: c :: d :: e :: l).set (V.length + 4) o = FT V s ++ a :: b :: c :: d :: o :: l) := by
 have hg : ∀ (V : Tbl) s (l : Tbl) k, (FT V s ++ l)[V.length + k]? = l[k]? := fun V s l k => by rw [List.getElem?_append_right (by rw [FT_len]; omega), FT_len, Nat.add_sub_cancel_left]
 have hs : ∀ (V : Tbl) s (l : Tbl) k o, (FT V s ++ l).set (V.length + k) o = FT V s ++ l.set k o := fun V s l k o => by rw [List.set_append_right _ _ (by rw [FT_len]; omega), FT_len, Nat.add_sub_cancel_left]
 have ht : ∀ (V : Tbl) s (l : Tbl) k, List.take (V.length + k) (FT V s ++ l) = FT V s ++ l.take k := fun V s l k => by rw [<- FT_len V s, take_more]
 refine ⟨FT_len, fun V s a l => hg V s _ 0, fun V s a b l => hg V s _ 1, fun V s a b c l => hg V s _ 2, fun V s a b c d l => hg V s _ 3, fun V s a b c d e l => hg V s _ 4, fun V s a b c d e f l => hg V s _ 5, fun V s a b c d e f g l => hg V s _ 6, ht, fun V s l => ?_, fun V s => ?_,
  fun V s a l o => hs V s _ 0 o, fun V s a b l o => hs V s _ 1 o, fun V s a b c l o => hs V s _ 2 o, fun V s a b c d l o => hs V s _ 3 o, fun V s a b c d e l o => hs V s _ 4 o⟩
 . have := ht V s l 0; simpa using this
 . rw [List.take_of_length_le (by rw [FT_len]; exact Nat.le_refl _)]
theorem vkf : (∀ V s l k, keepT (fun i => decide (i < V.length + k)) (FT V s ++ l) = FT V s ++ (l.take k ++ (l.drop k).map fun _ => .gone)) /\ (∀ V s l, keepT (fun i => decide (i < V.length)) (FT V s ++ l) = FT V s ++ l.map fun _ => .gone) /\ (∀ V s, keepT (fun i => decide (i < V.length)) (FT V s) = FT V s) := by
 refine ⟨fun V s l k => ?_, fun V s l => ?_, fun V s => ?_⟩
 . have := keep_app (FT V s) l k; rwa [FT_len] at this
 . have := keep_app (FT V s) l 0; rw [FT_len] at this; simpa using this
 . have := keep_app (FT V s) [] 0; rw [FT_len] at this; simpa using this
theorem Fst.In.rules {V : Tbl} {s : Fst} (h : s.In V.length) :
 ((FT V s)[s.f]? = some (.cells 79 s.cs)) /\ (∀ l, (FT V s ++ l)[s.f]? = some (.cells 79 s.cs)) /\ ((FT V s)[s.m]? = some (.map (s.es.map ent))) /\ (∀ l, (FT V s ++ l)[s.m]? = some (.map (s.es.map ent))) /\
 ((FT V s)[s.b]? = some (.buf 72 1 (ptrs s.bc))) /\ (∀ l, (FT V s ++ l)[s.b]? = some (.buf 72 1 (ptrs s.bc))) /\ (∀ l o, (FT V s ++ l).set s.f o = (FT V s).set s.f o ++ l) /\ (∀ l o, (FT V s ++ l).set s.m o = (FT V s).set s.m o ++ l) /\ (∀ l o, (FT V s ++ l).set s.b o = (FT V s).set s.b o ++ l) :=
 ⟨h.gf, fun l => by rw [FT_app h.f, h.gf], h.gm, fun l => by rw [FT_app h.m, h.gm], h.gb, fun l => by rw [FT_app h.b, h.gb], fun l o => FT_apps h.f l o, fun l o => FT_apps h.m l o, fun l o => FT_apps h.b l o⟩
theorem Fst.In.nrules {V : Tbl} {s : Fst} (h : s.In V.length) {i : Nat} {x : Nd} (hi : s.nd i = some x) :
 ((FT V s)[i]? = some (.cells 75 x.cs)) /\ (∀ l, (FT V s ++ l)[i]? = some (.cells 75 x.cs)) /\ (∀ l o, (FT V s ++ l).set i o = (FT V s).set i o ++ l) /\ (∀ y : Nd, (FT V s).set i (.cells 75 y.cs) = FT V (s.setN i y)) :=
 ⟨h.gn hi, fun l => by rw [FT_app (h.nn i x hi), h.gn hi], fun l o => FT_apps (h.nn i x hi) l o, h.sn hi⟩
def EF (n : Nat) : Eff := (List.range n).map fun i => (i, false)
theorem EF_mem {n i : Nat} {b : Bool} : (i, b) ∈ EF n ↔ i < n /\ b = false := by
 simp only [EF, List.mem_map, List.mem_range, Prod.mk.injEq]
 exact ⟨fun ⟨a, h1, h2, h3⟩ => ⟨h2 ▸ h1, h3.symm⟩, fun ⟨h1, h2⟩ => ⟨i, h1, rfl, h2.symm⟩⟩
theorem EF_still (n : Nat) : still (EF n) = true := by
 have : ∀ l : List Nat, still (l.map fun i => (i, false)) = true := fun l => by
  induction l with
  | nil => rfl
  | cons a r ih => simp [still, ih]
 exact this _
theorem EF_slots (n : Nat) : (∀ l, slots (EF n) l = l) /\ (∀ l, slotsT (EF n) l = l) := by
 constructor <;> intro l
 . unfold slots; rw [EF_still]
 . unfold slotsT; rw [EF_still]
theorem EF_moved (n i : Nat) : moved (EF n) i = false := by
 cases h : moved (EF n) i with
 | false => rfl
 | true => have := (EF_mem.1 (moved_spec.1 h)).2; cases this
def mulhi (x y : UInt64) : UInt64 :=
 let w := (u64_shr x 32) * (y &&& UInt64.ofInt 4294967295) + u64_shr ((x &&& UInt64.ofInt 4294967295) * (y &&& UInt64.ofInt 4294967295)) 32
 u64_shr x 32 * u64_shr y 32 + u64_shr w 32 + u64_shr ((w &&& UInt64.ofInt 4294967295) + (x &&& UInt64.ofInt 4294967295) * u64_shr y 32) 32
theorem mul64_ok {T : Tbl} {x y : UInt64} : CallA prog G 123 [.p (.int .u64 (x.toNat : Int)), .p (.int .u64 (y.toNat : Int))] T fun v T' es => v = .tu [.p (.int .u64 ((mulhi x y).toNat : Int)), .p (.int .u64 ((x * y).toNat : Int))] /\ T' = T /\ es = [] := by
 refine CallA.eV 51 func123 ntmps123 results123 ?_
 refine sqax ?_
 exact Vw.done ⟨rfl, rfl, rfl⟩
end Go.Proofs.YtfpjalgfnjjcmaaGreatDoor
namespace Go.Proofs.YtfpjalgfnjjcmaaGreatDoor
open Go.E Go.Proofs.YtfpjalgfnjjcmaaGreatDoor.Tryz Go.Proofs.Tryz
theorem Bg_put {w k r : Nat} (hw : w < 2 ^ 256) (hk : k < 4) (hr : r < 2 ^ 64) : ∃ w', w' < 2 ^ 256 /\ (∀ u : UInt64, u.toNat = r -> (Bg w).set k (.p (.int .u64 (u.toNat : Int))) = Bg w') /\ w' % 2 ^ (64 * k) = w % 2 ^ (64 * k) /\ w' / 2 ^ (64 * k) % 2 ^ 64 = r /\ w' / 2 ^ (64 * (k + 1)) = w / 2 ^ (64 * (k + 1)) := by
 have key : ∀ w', (∀ i, i < 4 -> i ≠ k -> w' / 2 ^ (64 * i) % 2 ^ 64 = w / 2 ^ (64 * i) % 2 ^ 64) -> w' / 2 ^ (64 * k) % 2 ^ 64 = r -> ∀ u : UInt64, u.toNat = r -> (Bg w).set k (.p (.int .u64 (u.toNat : Int))) = Bg w' := by
  intro w' h1 h2 u hu
  refine Bg_set hk (UInt64.toNat_inj.1 (by rw [hu, limb_nat, h2])) fun i hi hn => UInt64.toNat_inj.1 (by rw [limb_nat, limb_nat, h1 i hi hn])
 have i4 : ∀ {P : Nat -> Prop}, (∀ i, i < 4 -> i ≠ k -> P i) ↔ ((0 ≠ k -> P 0) /\ (1 ≠ k -> P 1) /\ (2 ≠ k -> P 2) /\ (3 ≠ k -> P 3)) := by
  intro P
  constructor
  . exact fun h => ⟨h 0 (by omega), h 1 (by omega), h 2 (by omega), h 3 (by omega)⟩
  . rintro ⟨a, b, c, d⟩ i hi hn
    match i, hi with
    | 0, _ => exact a hn
    | 1, _ => exact b hn
    | 2, _ => exact c hn
    | 3, _ => exact d hn
 match k, hk with
 | 0, _ =>
   refine ⟨r + w / 2 ^ 64 * 2 ^ 64, by omega, key _ (i4.2 ?_) ?_, ?_, ?_, ?_⟩ <;> simp only [Nat.mul_zero, Nat.pow_zero, Nat.div_one, Nat.mul_one, Nat.reduceMul, Nat.reduceAdd, Nat.mod_one] <;> omega
 | 1, _ =>
   refine ⟨w % 2 ^ 64 + r * 2 ^ 64 + w / 2 ^ 128 * 2 ^ 128, by omega, key _ (i4.2 ?_) ?_, ?_, ?_, ?_⟩ <;> simp only [Nat.mul_zero, Nat.pow_zero, Nat.div_one, Nat.mul_one, Nat.reduceMul, Nat.reduceAdd] <;> omega
 | 2, _ =>
   refine ⟨w % 2 ^ 128 + r * 2 ^ 128 + w / 2 ^ 192 * 2 ^ 192, by omega, key _ (i4.2 ?_) ?_, ?_, ?_, ?_⟩ <;> simp only [Nat.mul_zero, Nat.pow_zero, Nat.div_one, Nat.mul_one, Nat.reduceMul, Nat.reduceAdd] <;> omega
 | 3, _ =>
   refine ⟨w % 2 ^ 192 + r * 2 ^ 192, by omega, key _ (i4.2 ?_) ?_, ?_, ?_, ?_⟩ <;> simp only [Nat.mul_zero, Nat.pow_zero, Nat.div_one, Nat.mul_one, Nat.reduceMul, Nat.reduceAdd] <;> omega
theorem mod_next (x k : Nat) : x % 2 ^ (64 * (k + 1)) = x % 2 ^ (64 * k) + 2 ^ (64 * k) * (x / 2 ^ (64 * k) % 2 ^ 64) := by
 rw [Nat.mul_add, Nat.mul_one, Nat.pow_add, Nat.mod_mul]
theorem div_next (x k : Nat) : x / 2 ^ (64 * k) = x / 2 ^ (64 * (k + 1)) * 2 ^ 64 + x / 2 ^ (64 * k) % 2 ^ 64 := by
 have h := Nat.div_add_mod (x / 2 ^ (64 * k)) (2 ^ 64)
 rw [Nat.div_div_eq_div_mul, <- Nat.pow_add, show 64 * k + 64 = 64 * (k + 1) by omega] at h
 omega
theorem shr64 (x : UInt64) {k : Nat} (h : k < 64) : (u64_shr x k).toNat = x.toNat / 2 ^ k := by
 rw [u64_shr, if_pos h, UInt64.toNat_shiftRight]
 show x.toNat >>> ((UInt64.ofNat k).toNat % 64) = _
 rw [UInt64.toNat_ofNat', Nat.mod_eq_of_lt (a := k) (b := 2 ^ 64) (by omega), Nat.mod_eq_of_lt h, Nat.shiftRight_eq_div_pow]
theorem and64 (x : UInt64) : (x &&& UInt64.ofInt 4294967295).toNat = x.toNat % 2 ^ 32 := by
 rw [UInt64.toNat_and]
 show x.toNat &&& (2 ^ 32 - 1) = _
 rw [Nat.and_two_pow_sub_one_eq_mod]
theorem mulhi_nat (x y : UInt64) : (mulhi x y).toNat = x.toNat * y.toNat / 2 ^ 64 := by
 obtain ⟨a, ha⟩ : ∃ a, a = x.toNat / 2 ^ 32 := ⟨_, rfl⟩
 obtain ⟨b, hb⟩ : ∃ b, b = x.toNat % 2 ^ 32 := ⟨_, rfl⟩
 obtain ⟨c, hc⟩ : ∃ c, c = y.toNat / 2 ^ 32 := ⟨_, rfl⟩
 obtain ⟨d, hd⟩ : ∃ d, d = y.toNat % 2 ^ 32 := ⟨_, rfl⟩
 have hx : x.toNat = a * 2 ^ 32 + b := by omega
 have hy : y.toNat = c * 2 ^ 32 + d := by omega
 have hx1 := x.toNat_lt
 have hy1 := y.toNat_lt
 have m1 : ∀ p q : Nat, p < 2 ^ 32 -> q < 2 ^ 32 -> p * q <= (2 ^ 32 - 1) * (2 ^ 32 - 1) := fun p q h1 h2 => Nat.mul_le_mul (by omega) (by omega)
 have ac := m1 a c (by omega) (by omega)
 have ad := m1 a d (by omega) (by omega)
 have bc := m1 b c (by omega) (by omega)
 have bd := m1 b d (by omega) (by omega)
 have e : x.toNat * y.toNat = a * c * 2 ^ 64 + (a * d + b * c) * 2 ^ 32 + b * d := by
  rw [hx, hy, Nat.mul_add, Nat.add_mul, Nat.add_mul]
  have e1 : a * 2 ^ 32 * (c * 2 ^ 32) = a * c * 2 ^ 64 := by rw [Nat.mul_mul_mul_comm]
  have e2 : b * (c * 2 ^ 32) = b * c * 2 ^ 32 := by rw [Nat.mul_assoc]
  have e3 : a * 2 ^ 32 * d = a * d * 2 ^ 32 := by rw [Nat.mul_right_comm]
  rw [e1, e2, e3]; omega
 unfold mulhi
 simp only [UInt64.toNat_add, UInt64.toNat_mul, shr64 _ (show 32 < 64 by decide), and64, <- ha, <- hb, <- hc, <- hd]
 rw [e]
 generalize a * c = p at *
 generalize a * d = q at *
 generalize b * c = r at *
 generalize b * d = s at *
 omega
section
variable {P : Program} {G : Nat -> AV}
theorem ExtA.tu {f : FuncId} {args vs : List Value} {T : Tbl} {K : AV -> Tbl -> Eff -> Prop} (h : ∀ w, (callFunc f args.toArray).run P w = .ok (.value (.tuple vs.toArray)) w) (hk : K (.tu (vs.map .p)) T []) : ExtA P G f (args.map .p) T K := by
 intro Z ρ w us hG hs hr
 obtain rfl := hr.ps_inv
 refine RunV.of_ok (v := .tuple vs.toArray) (w' := w) ?_ ⟨Z, ρ, T, [], .tu (vs.map .p), hs, Ext.refl rfl, Rel.tu' (RelL.ps vs), hk⟩
 simp [h w, Result.andThen]
end
def addE : Array Value -> Sem Value := fun args => do
 let (x, y, c) <- Extern.MathBitsCarry.three "Add64" args
 pure (Extern.MathBitsCarry.pair ((x + y + c) % Extern.MathBitsCarry.m64) ((x + y + c) / Extern.MathBitsCarry.m64))
def subE : Array Value -> Sem Value := fun args => do
 let (x, y, b) <- Extern.MathBitsCarry.three "Sub64" args
 pure (Extern.MathBitsCarry.pair ((x + Extern.MathBitsCarry.m64 - y - b) % Extern.MathBitsCarry.m64) (if x < y + b then 1 else 0))
theorem run_addE (P : Program) (x y c : Nat) (hc : c <= 1) (w : World) : (addE #[.int .u64 x, .int .u64 y, .int .u64 c]).run P w = .ok (.tuple #[.int .u64 (((x + y + c) % 18446744073709551616 : Nat) : Int), .int .u64 (((x + y + c) / 18446744073709551616 : Nat) : Int)]) w := by
 rcases (show c = 0 ∨ c = 1 by omega) with rfl | rfl <;> rfl
theorem run_subE (P : Program) (x y c : Nat) (hc : c <= 1) (w : World) : (subE #[.int .u64 x, .int .u64 y, .int .u64 c]).run P w = .ok (.tuple #[.int .u64 (((x + 18446744073709551616 - y - c) % 18446744073709551616 : Nat) : Int), .int .u64 ((if x < y + c then 1 else 0 : Nat) : Int)]) w := by
 rcases (show c = 0 ∨ c = 1 by omega) with rfl | rfl <;> rfl
theorem addX {T : Tbl} {x y c : UInt64} {K : AV -> Tbl -> Eff -> Prop} (hc : c.toNat <= 1) (hk : K (.tu [w64 (UInt64.ofNat ((x.toNat + y.toNat + c.toNat) % 2 ^ 64)), w64 (UInt64.ofNat ((x.toNat + y.toNat + c.toNat) / 2 ^ 64))]) T []) : ExtA prog G 80 [w64 x, w64 y, w64 c] T K := by
 have h1 := x.toNat_lt
 have h2 := y.toNat_lt
 refine ExtA.tu (args := [.int .u64 x.toNat, .int .u64 y.toNat, .int .u64 c.toNat]) (vs := [.int .u64 (((x.toNat + y.toNat + c.toNat) % 18446744073709551616 : Nat) : Int), .int .u64 (((x.toNat + y.toNat + c.toNat) / 18446744073709551616 : Nat) : Int)]) (fun w => ?_) ?_
 . have hr := run_callFunc_extern (P := prog) func80 (by kernel_rfl) (by kernel_rfl) (by kernel_rfl) (e := addE) (by kernel_rfl) #[.int .u64 x.toNat, .int .u64 y.toNat, .int .u64 c.toNat] w
   rw [run_addE _ _ _ _ hc] at hr
   simpa [Result.andThen] using hr
 . rw [w64, w64, UInt64.toNat_ofNat', UInt64.toNat_ofNat', Nat.mod_eq_of_lt (b := 2 ^ 64) (Nat.mod_lt _ (by decide)), Nat.mod_eq_of_lt (a := (x.toNat + y.toNat + c.toNat) / 2 ^ 64) (by omega)] at hk
   exact hk
theorem subX {T : Tbl} {x y c : UInt64} {K : AV -> Tbl -> Eff -> Prop} (hc : c.toNat <= 1) (hk : K (.tu [w64 (UInt64.ofNat ((x.toNat + 2 ^ 64 - y.toNat - c.toNat) % 2 ^ 64)), w64 (UInt64.ofNat (if x.toNat < y.toNat + c.toNat then 1 else 0))]) T []) : ExtA prog G 111 [w64 x, w64 y, w64 c] T K := by
 refine ExtA.tu (args := [.int .u64 x.toNat, .int .u64 y.toNat, .int .u64 c.toNat]) (vs := [.int .u64 (((x.toNat + 18446744073709551616 - y.toNat - c.toNat) % 18446744073709551616 : Nat) : Int), .int .u64 ((if x.toNat < y.toNat + c.toNat then 1 else 0 : Nat) : Int)]) (fun w => ?_) ?_
 . have hr := run_callFunc_extern (P := prog) func111 (by kernel_rfl) (by kernel_rfl) (by kernel_rfl) (e := subE) (by kernel_rfl) #[.int .u64 x.toNat, .int .u64 y.toNat, .int .u64 c.toNat] w
   rw [run_subE _ _ _ _ hc] at hr
   simpa [Result.andThen] using hr
 . rw [w64, w64, UInt64.toNat_ofNat', UInt64.toNat_ofNat', Nat.mod_eq_of_lt (b := 2 ^ 64) (Nat.mod_lt _ (by decide)), Nat.mod_eq_of_lt (a := if x.toNat < y.toNat + c.toNat then 1 else 0) (by split <;> decide)] at hk
   exact hk
theorem pof_ok {T : Tbl} {n : UInt64} : CallA prog G 96 [w64 n] T fun v T' es => v = .ag (Bg n.toNat) /\ T' = T /\ es = [] := by
 refine CallA.wfs fun wf => ?_
 have wt := wf.t
 refine CallA.eV 3 func96 ntmps96 results96 ?_
 refine sqbx ?_
 rw [wrA_all (by rfl)]
 refine ⟨Nat.le_refl 4, ?_⟩
 refine Vw.cut ⟨?_, rfl, rfl⟩
 rw [<- bg_small, tkB', AV.wo, AV.woL_eq, Bg_wo]
theorem psub_ok {T : Tbl} {x y : Nat} (hx : x < 2 ^ 256) (hy : y < 2 ^ 256) : CallA prog G 81 [.ag (Bg x), .ag (Bg y)] T fun v T' es => v = .tu [.ag (Bg ((x + 2 ^ 256 - y) % 2 ^ 256)), .p (.bool (decide (x < y)))] /\ T' = T /\ es = [] := by
 refine CallA.wfs fun wf => ?_
 have wt := wf.t
 have ez : [oQ, oQ, oQ, oQ] = Bg 0 := rfl
 have esub : entered prog 111 = false := (by kernel_rfl)
 refine CallA.eV 11 func81 ntmps81 results81 ?_
 refine sqbx ?_
 refine tqbz (cj2 @ez @vbg) ?_
 refine SemA.loopE (fun s : Nat × Nat × UInt64 => [(2, .ptr T.length 0), (4, .ptr (T.length + 2) 0), (6, w64 s.2.2), (9, .ag (Bg y)), (10, wint (s.1 : Int))]) (fun s => T ++ [.cells 47 (Bg s.2.1), .cells 47 (Bg y), .cells 47 (Bg 0)]) (fun s => s.1 <= 4 /\ s.2.1 < 2 ^ 256 /\ s.2.2.toNat <= 1 /\ s.2.1 / 2 ^ (64 * s.1) = x / 2 ^ (64 * s.1) /\ x % 2 ^ (64 * s.1) + 2 ^ (64 * s.1) * s.2.2.toNat = y % 2 ^ (64 * s.1) + s.2.1 % 2 ^ (64 * s.1)) (fun s => 4 - s.1) (0, x, 0) [] 0 (fun c : UInt64 => [(2, .ptr T.length 0), (4, .ptr (T.length + 2) 0), (6, w64 c)]) (fun _ => T ++ [.cells 47 (Bg ((x + 2 ^ 256 - y) % 2 ^ 256)), .cells 47 (Bg y), .cells 47 (Bg 0)]) (fun c => c.toNat = if x < y then 1 else 0) ⟨by simp, hx, by simp, rfl, by simp [Nat.mod_one]⟩ (by (simp -dsimp +decide (disch := omega) only [v1q, ↓reduceIte, Nat.reduceSub, Nat.reduceAdd, Nat.reduceMul, Nat.reduceLT, Int.reduceAdd, Int.reduceSub, Int.reduceToNat, v4q]); first | rfl | done) rfl (by simp) ?_ ?_
 . rintro ⟨k, w, c⟩ g ⟨hk, hw, hc, h1, h2⟩
   dsimp only at hk hw hc h1 h2
   refine SemA.o ?_
   refine sqby ?_
   refine CondP.dec (fun h => ?_) (fun h => ?_)
   . have hk4 : k < 4 := by omega
     have hgy := Bg_get y hk4
     have hgw := Bg_get w hk4
     have g0 := fun l => gn0 T (.cells 47 (Bg w)) l
     refine tqbz (cj6 @vbg @g0 @hgy @hgw @Bg_len @esub) ?_
     refine ⟨⟨by omega, by omega⟩, ⟨by omega, by omega⟩, subX hc ?_⟩
     have ly : (limb y k).toNat < 2 ^ 64 := UInt64.toNat_lt _
     have lx : (limb w k).toNat < 2 ^ 64 := UInt64.toNat_lt _
     obtain ⟨r, hr⟩ : ∃ r, r = ((limb w k).toNat + 2 ^ 64 - (limb y k).toNat - c.toNat) % 2 ^ 64 := ⟨_, rfl⟩
     obtain ⟨d, hd⟩ : ∃ d, d = if (limb w k).toNat < (limb y k).toNat + c.toNat then 1 else 0 := ⟨_, rfl⟩
     have hrl : r < 2 ^ 64 := by omega
     have hdl : d <= 1 := by rw [hd]; split <;> omega
     rw [<- hr, <- hd]
     obtain ⟨w', hw', hs, g1, g2, g3⟩ := Bg_put hw hk4 hrl
     have hs2 := hs (UInt64.ofNat r) (by rw [UInt64.toNat_ofNat', Nat.mod_eq_of_lt hrl])
     have hd2 : (UInt64.ofNat d).toNat = d := by rw [UInt64.toNat_ofNat', Nat.mod_eq_of_lt (by omega)]
     refine tqbz (cj4 @vbg @g0 @hs2 @Bg_len) ?_
     refine ⟨⟨by omega, by omega⟩, by omega, (k + 1, w', UInt64.ofNat d), ⟨⟨by dsimp only; omega, hw', by dsimp only; omega, ?_, ?_⟩, by dsimp only; omega⟩, ⟨rfl, rfl⟩, rfl⟩
     . dsimp only
       rw [g3]
       have := div_next w k
       have := div_next x k
       omega
     . dsimp only
       have hx2 := mod_next x k
       have hy2 := mod_next y k
       have hw2 := mod_next w' k
       have e1 : x / 2 ^ (64 * k) % 2 ^ 64 = w / 2 ^ (64 * k) % 2 ^ 64 := by rw [h1]
       rw [limb_nat] at hr hd lx ly
       rw [limb_nat] at hr hd
       rw [hx2, hy2, hw2, g1, g2, e1, hd2]
       have e2 : w / 2 ^ (64 * k) % 2 ^ 64 + 2 ^ 64 * d = y / 2 ^ (64 * k) % 2 ^ 64 + c.toNat + r := by
        split at hd <;> omega
       have e3 : 2 ^ (64 * (k + 1)) * d = 2 ^ (64 * k) * (2 ^ 64 * d) := by rw [Nat.mul_add, Nat.mul_one, Nat.pow_add, Nat.mul_assoc]
       have e4 : 2 ^ (64 * k) * (w / 2 ^ (64 * k) % 2 ^ 64 + 2 ^ 64 * d) = 2 ^ (64 * k) * (y / 2 ^ (64 * k) % 2 ^ 64 + c.toNat + r) := by rw [e2]
       rw [Nat.mul_add, Nat.mul_add, Nat.mul_add] at e4
       rw [e3]
       omega
   . have e : k = 4 := by omega
     subst e
     refine tqbz @vbg ?_
     simp only [Nat.reduceMul] at h1 h2
     refine ⟨c, ?_, rfl, ?_⟩
     . split <;> omega
     . have : w = (x + 2 ^ 256 - y) % 2 ^ 256 := by omega
       rw [this]
 . rintro c g tmp hc
   have hb : (!decide ((c.toNat : Int) = 0)) = decide (x < y) := by
    by_cases h : x < y
    . rw [if_pos h] at hc; rw [hc]; simp [h]
    . rw [if_neg h] at hc; rw [hc]; simp [h]
   refine tqbz (cj4 @vbg @vres @vone @hb) ?_
   exact Vw.cut ⟨by rw [AV.wo, AV.woL_eq]; simp only [List.map_cons, List.map_nil, AV.wo, AV.woL_eq, Bg_wo], rfl, rfl⟩
theorem pless_ok {T : Tbl} {x y : Nat} (hx : x < 2 ^ 256) (hy : y < 2 ^ 256) : CallA prog G 38 [.ag (Bg x), .ag (Bg y)] T fun v T' es => v = .p (.bool (decide (x < y))) /\ T' = T /\ es = [] := by
 refine CallA.wfs fun wf => ?_
 have wt := wf.t
 have ez : [oQ, oQ, oQ, oQ] = Bg 0 := rfl
 refine CallA.eV 7 func38 ntmps38 results38 ?_
 refine sqbx ?_
 refine tqbz (cj2 @ez @vbg) ?_
 refine (psub_ok hx hy).det' ?_
 refine tqbz (cj2 @ez @vbg) ?_
 exact Vw.cut ⟨rfl, rfl, rfl⟩
theorem pmul_ok {T : Tbl} {x : Nat} {n : UInt64} (hx : x < 2 ^ 256) : CallA prog G 117 [.ag (Bg x), w64 n] T fun v T' es => v = .tu [.ag (Bg (x * n.toNat % 2 ^ 256)), w64 (UInt64.ofNat (x * n.toNat / 2 ^ 256))] /\ T' = T /\ es = [] := by
 refine CallA.wfs fun wf => ?_
 have wt := wf.t
 have ez : [oQ, oQ, oQ, oQ] = Bg 0 := rfl
 have eadd : entered prog 80 = false := (by kernel_rfl)
 have hn := n.toNat_lt
 refine CallA.eV 15 func117 ntmps117 results117 ?_
 refine sqbx ?_
 refine tqbz (cj2 @ez @vbg) ?_
 refine SemA.loopE (fun s : Nat × Nat × UInt64 => [(1, w64 n), (2, .ptr T.length 0), (4, .ptr (T.length + 1) 0), (6, w64 s.2.2), (13, .ag (Bg x)), (14, wint (s.1 : Int))]) (fun s => T ++ [.cells 47 (Bg s.2.1), .cells 47 (Bg 0)]) (fun s => s.1 <= 4 /\ s.2.1 < 2 ^ 256 /\ s.2.1 / 2 ^ (64 * s.1) = x / 2 ^ (64 * s.1) /\ x % 2 ^ (64 * s.1) * n.toNat = s.2.1 % 2 ^ (64 * s.1) + 2 ^ (64 * s.1) * s.2.2.toNat) (fun s => 4 - s.1) (0, x, 0) [] 0 (fun _ : Unit => [(2, .ptr T.length 0), (4, .ptr (T.length + 1) 0), (6, w64 (UInt64.ofNat (x * n.toNat / 2 ^ 256)))]) (fun _ => T ++ [.cells 47 (Bg (x * n.toNat % 2 ^ 256)), .cells 47 (Bg 0)]) (fun _ => True) ⟨by simp, hx, rfl, by simp [Nat.mod_one]⟩ (by (simp -dsimp +decide (disch := omega) only [v1q, ↓reduceIte, Nat.reduceSub, Nat.reduceAdd, Nat.reduceMul, Nat.reduceLT, Int.reduceAdd, Int.reduceSub, Int.reduceToNat, v4q]); first | rfl | done) rfl (by simp) ?_ ?_
 . rintro ⟨k, w, c⟩ g ⟨hk, hw, h1, h2⟩
   dsimp only at hk hw h1 h2
   refine SemA.o ?_
   refine sqby ?_
   refine CondP.dec (fun h => ?_) (fun h => ?_)
   . have hk4 : k < 4 := by omega
     have hgx := Bg_get x hk4
     have hgw := Bg_get w hk4
     have g0 := fun l => gn0 T (.cells 47 (Bg w)) l
     refine tqbz (cj6 @vbg @g0 @hgx @hgw @Bg_len @eadd) ?_
     refine ⟨⟨by omega, by omega⟩, mul64_ok.det' ?_⟩
     refine tqbz (cj6 @vbg @g0 @hgx @hgw @Bg_len @eadd) ?_
     refine addX (c := 0) (by decide) ?_
     have c0 : (0 : UInt64).toNat = 0 := rfl
     obtain ⟨l, hl⟩ : ∃ l, l = (limb x k).toNat := ⟨_, rfl⟩
     have lx : l < 2 ^ 64 := by rw [hl]; exact UInt64.toNat_lt _
     have hc := c.toNat_lt
     have hp : l * n.toNat <= (2 ^ 64 - 1) * (2 ^ 64 - 1) := Nat.mul_le_mul (by omega) (by omega)
     have hlo : (limb x k * n).toNat = l * n.toNat % 2 ^ 64 := by rw [UInt64.toNat_mul, hl]
     have hhi : (mulhi (limb x k) n).toNat = l * n.toNat / 2 ^ 64 := by rw [mulhi_nat, hl]
     obtain ⟨p, hpp⟩ : ∃ p, p = l * n.toNat := ⟨_, rfl⟩
     rw [<- hpp] at hp hlo hhi
     rw [hlo, c0, Nat.add_zero]
     obtain ⟨r, hr⟩ : ∃ r, r = (p % 2 ^ 64 + c.toNat) % 2 ^ 64 := ⟨_, rfl⟩
     have hrl : r < 2 ^ 64 := by omega
     obtain ⟨d, hd⟩ : ∃ d, d = mulhi (limb x k) n + UInt64.ofNat ((p % 2 ^ 64 + c.toNat) / 2 ^ 64) := ⟨_, rfl⟩
     have hdn : d.toNat = (p + c.toNat) / 2 ^ 64 := by
      rw [hd, UInt64.toNat_add, hhi, UInt64.toNat_ofNat']; omega
     rw [<- hr]
     obtain ⟨w', hw', hs, g1, g2, g3⟩ := Bg_put hw hk4 hrl
     have hs2 := hs (UInt64.ofNat r) (by rw [UInt64.toNat_ofNat', Nat.mod_eq_of_lt hrl])
     simp -dsimp +decide (disch := omega) only [v1q, ↓reduceIte, Nat.reduceSub, Nat.reduceAdd, Nat.reduceMul, Nat.reduceLT, Int.reduceAdd, Int.reduceSub, Int.reduceToNat, v2q, vbg, g0, hs2, Bg_len, <- hd]
     refine ⟨⟨by omega, by omega⟩, by omega, (k + 1, w', d), ⟨⟨by dsimp only; omega, hw', ?_, ?_⟩, by dsimp only; omega⟩, ⟨rfl, rfl⟩, rfl⟩
     . dsimp only
       rw [g3]
       have := div_next w k
       have := div_next x k
       omega
     . dsimp only
       have hx2 := mod_next x k
       have hw2 := mod_next w' k
       have e1 : x / 2 ^ (64 * k) % 2 ^ 64 = l := by rw [hl, limb_nat]
       rw [hx2, hw2, g1, g2, e1, hdn, Nat.add_mul, h2, Nat.mul_assoc (2 ^ (64 * k)), <- hpp]
       have e2 : p + c.toNat = r + 2 ^ 64 * ((p + c.toNat) / 2 ^ 64) := by omega
       have e3 : 2 ^ (64 * (k + 1)) * ((p + c.toNat) / 2 ^ 64) = 2 ^ (64 * k) * (2 ^ 64 * ((p + c.toNat) / 2 ^ 64)) := by rw [Nat.mul_add 64, Nat.mul_one, Nat.pow_add, Nat.mul_assoc]
       have e4 : 2 ^ (64 * k) * (p + c.toNat) = 2 ^ (64 * k) * (r + 2 ^ 64 * ((p + c.toNat) / 2 ^ 64)) := by rw [<- e2]
       rw [Nat.mul_add, Nat.mul_add] at e4
       rw [e3]
       omega
   . have e : k = 4 := by omega
     subst e
     refine tqbz @vbg ?_
     simp only [Nat.reduceMul] at h1 h2
     rw [Nat.mod_eq_of_lt hx, Nat.mod_eq_of_lt hw] at h2
     have e1 : x * n.toNat % 2 ^ 256 = w := by omega
     have e2 : x * n.toNat / 2 ^ 256 = c.toNat := by omega
     rw [e1, e2, UInt64.ofNat_toNat]
     exact ⟨(), rfl, rfl⟩
 . rintro _ g tmp -
   refine tqbz (cj3 @vbg @vres @vone) ?_
   exact Vw.cut ⟨by rw [AV.wo, AV.woL_eq]; simp only [List.map_cons, List.map_nil, AV.wo, AV.woL_eq, Bg_wo]; rfl, rfl, rfl⟩
end Go.Proofs.YtfpjalgfnjjcmaaGreatDoor
namespace Go.Proofs.YtfpjalgfnjjcmaaGreatDoor
open Go.E Go.Proofs.YtfpjalgfnjjcmaaGreatDoor.Tryz Go.Proofs.Tryz
def D (d : Array UInt32) : List AV := d.toList.map w32
def TB (T : Tbl) (i : Nat) (d : Array UInt32) : Tbl := T.set i (.buf 23 1 (D d))
def ltU (x y : UInt32) : Bool := decide (x < y)
theorem swoU : Sort.SWO ltU where
 irrefl := fun x => by simp [ltU]
 trans := fun x y z h1 h2 => by simp [ltU] at *; exact UInt32.lt_trans h1 h2
 ntrans := fun x y z h1 h2 => by simp [ltU] at *; exact UInt32.le_trans h2 h1
theorem D_at (d : Array UInt32) {k : Nat} (h : k < d.size) : (D d)[k]? = some (w32 d[k]!) := by
 unfold D
 rw [List.getElem?_map, Array.getElem?_toList, getElem!_pos d k h]; simp [h]
theorem D_len (d : Array UInt32) : (D d).length = d.size := by simp [D]
theorem D_set (d : Array UInt32) (k : Nat) (v : UInt32) : (D d).set k (w32 v) = D (d.setIfInBounds k v) := by
 simp [D, List.map_set]
theorem D_sv (d : Array UInt32) (k : Nat) (v : UInt32) : (D d).set k (.p (.int .u32 (v.toNat : Int))) = D (d.setIfInBounds k v) := D_set d k v
theorem D_ns (d : Array UInt32) (k : Nat) (v : UInt32) : (D (d.setIfInBounds k v) ≠ []) = (D d ≠ []) := by rw [<- D_set]; simp
theorem D_ls (d : Array UInt32) (k : Nat) (v : UInt32) : (D (d.setIfInBounds k v)).length = d.size := by simp [D]
theorem D_ne (d : Array UInt32) (h : 0 < d.size) : (D d ≠ []) = True := by
 simp [D]; intro e; simp [e] at h
theorem TB_get {T : Tbl} {i : Nat} (hi : i < T.length) :
 (∀ d, (TB T i d)[i]? = some (.buf 23 1 (D d))) /\ (∀ d l, (TB T i d ++ l)[i]? = some (.buf 23 1 (D d))) /\ (∀ d d', (TB T i d).set i (.buf 23 1 (D d')) = TB T i d') /\
 (∀ d l d', (TB T i d ++ l).set i (.buf 23 1 (D d')) = TB T i d' ++ l) /\ (∀ d, (TB T i d).length = T.length) /\ (∀ es x, recE T.length ((i, x) :: es) [] = (i, x) :: recE T.length es []) /\ (∀ E, rec1 T.length i false E = (i, false) :: E) := by
 refine ⟨fun d => by simp [TB, hi], fun d l => ?_, fun d d' => by simp [TB], fun d l d' => ?_, fun d => by simp [TB], fun es x => by simp [recE, rec1, hi], fun E => by simp [rec1, hi]⟩
 . rw [List.getElem?_append_left (by simp [TB, hi])]; simp [TB, hi]
 . rw [List.set_append_left _ _ (by simp [TB, hi])]; simp [TB]
theorem isNaN_ok {T : Tbl} {x : UInt32} : CallA prog G 142 [w32 x] T fun v T' es => v = .p (.bool false) /\ T' = T /\ es = [] := by
 refine CallA.eV 3 func142 ntmps142 results142 ?_
 refine sqbx ?_
 exact Vw.done ⟨by simp, rfl, rfl⟩
theorem less_ok {T : Tbl} {x y : UInt32} : CallA prog G 131 [w32 x, w32 y] T fun v T' es => v = .p (.bool (ltU x y)) /\ T' = T /\ es = [] := by
 refine CallA.eV 5 func131 ntmps131 results131 ?_
 refine sqbx ?_
 refine isNaN_ok.det ?_
 refine sqbx ?_
 refine Vw.done ⟨?_, rfl, rfl⟩
 simp [ltU, UInt32.lt_iff_toNat_lt]
theorem insInner_step {a j : Nat} {d : Array UInt32} (h : a < j) (hl : ltU d[j]! d[j - 1]! = true) : Sort.insInner ltU a j d = Sort.insInner ltU a (j - 1) (Sort.swp d j (j - 1)) := by
 cases j with
 | zero => omega
 | succ j => rw [Sort.insInner]; simp only [Nat.add_sub_cancel] at hl ⊢; simp [hl, h]
theorem insInner_stop {a j : Nat} {d : Array UInt32} (h : ¬ (a < j /\ ltU d[j]! d[j - 1]! = true)) : Sort.insInner ltU a j d = d := by
 cases j with
 | zero => rfl
 | succ j =>
   rw [Sort.insInner]; simp only [Nat.add_sub_cancel] at h
   rw [if_neg]; simpa using h
theorem ins_ok {T : Tbl} {i a b n : Nat} {d : Array UInt32} (hi : i < T.length) (hn : d.size = n) (hab : a <= b) (hb : b <= n) (hB : n <= 1099511627776) :
 CallA prog G 125 [.sl i 0 n, wint (a : Int), wint (b : Int)] (TB T i d) fun v T' es => v = .tu [] /\ T' = TB T i (Sort.insertionSort ltU d a b) /\ es = [(i, false)] := by
 have tg := TB_get hi
 refine CallA.eV 8 func125 ntmps125 results125 ?_
 refine sqbx ?_
 refine tqby @tg ?_
 refine SemA.loopL (fun s : Nat × Array UInt32 => [(0, .sl i 0 n), (1, wint (a : Int)), (2, wint (b : Int)), (6, wint (s.1 : Int))]) (fun s => TB T i s.2) (fun s => a + 1 <= s.1 /\ s.1 <= max (a + 1) b /\ s.2.size = n /\ Sort.insOuter ltU a b s.1 s.2 = Sort.insertionSort ltU d a b) (fun s => b + 1 - s.1) (a + 1, d) [(i, false)] (by kernel_rfl) ⟨by simp, by simp; omega, hn, rfl⟩ (by (simp -dsimp +decide (disch := omega) only [v1q, ↓reduceIte, Nat.reduceSub, Nat.reduceAdd, Nat.reduceMul, Nat.reduceLT, Int.reduceAdd, Int.reduceSub, Int.reduceToNat, v4q]); simp) rfl (by simp) ?_
 rintro ⟨k, d1⟩ g ⟨hk1, hk2, hs, hk⟩
 dsimp only at hk1 hk2 hs hk
 refine tqby @tg ?_
 refine CondP.dec (fun h => ?_) (fun h => ?_)
 . refine tqby @tg ?_
   refine SemA.loopL (fun s : Nat × Array UInt32 => [(0, .sl i 0 n), (1, wint (a : Int)), (2, wint (b : Int)), (6, wint (k : Int)), (7, wint (s.1 : Int))]) (fun s => TB T i s.2) (fun s => s.1 <= k /\ s.2.size = n /\ Sort.insInner ltU a s.1 s.2 = Sort.insInner ltU a k d1) (fun s => s.1) (k, d1) [(i, false)] (by kernel_rfl) ⟨by simp, hs, rfl⟩ (by (simp -dsimp +decide (disch := omega) only [v1q, ↓reduceIte, Nat.reduceSub, Nat.reduceAdd, Nat.reduceMul, Nat.reduceLT, Int.reduceAdd, Int.reduceSub, Int.reduceToNat, v4q])) rfl (by simp) ?_
   rintro ⟨j, d2⟩ g2 ⟨hj1, hs2, hj⟩
   dsimp only at hj1 hs2 hj
   refine tqby @tg ?_
   by_cases hja : a < j
   . have hgt : ((a : Int) < (j : Int)) = True := by simp; omega
     have hne := D_ne d2 (by omega)
     refine SemA.drawS (.fl 0 (.fl 1 (.fl 2 (.fl 3 (.fl 4 (.fl 5 (.fl 6 (.fl 7 (.fl 8 (.fl 9 (.fl 10 (.fl 11 (.fl 12 (.sq 13 (.fl 14 .nil))))))))))))))) mixed (by kernel_rfl) ?_
     refine tqby (cj4 @tg @hgt @hne @D_at) ?_
     refine ⟨by omega, by omega, ?_⟩
     refine less_ok.det ?_
     refine tqby (cj4 @tg @hgt @hne @D_at) ?_
     by_cases hl : ltU d2[j]! d2[j - 1]! = true
     . rw [hl]
       refine tqby @tg ?_
       refine SemA.drawS (.fl 0 (.fl 1 (.fl 2 (.fl 3 (.fp 4 (.fl 5 (.fl 6 (.fl 7 (.fl 8 (.fl 9 (.fl 10 (.fl 11 (.fl 12 (.fl 13 (.fl 14 (.sq 15 (.fl 16 (.sq 17 .nil)))))))))))))))))) mixed (by kernel_rfl) ?_
       simp -dsimp +decide (disch := omega) only [v1q, ↓reduceIte, Nat.reduceSub, Nat.reduceAdd, Nat.reduceMul, Nat.reduceLT, Int.reduceAdd, Int.reduceSub, Int.reduceToNat, v4q, tg, hne, D_sv, D_ns, D_ls, D_at, D_len, Array.size_setIfInBounds]
       and_intros
       all_goals first | omega | (simp; done) | skip
       refine ⟨(j - 1, Sort.swp d2 j (j - 1)), ⟨by dsimp only; omega, ?_, ?_⟩, by dsimp only; omega, ?_, rfl⟩
       . rw [Sort.size_swp]; exact hs2
       . rw [<- insInner_step hja hl]; exact hj
       . dsimp only; rw [show ((j - 1 : Nat) : Int) = (j : Int) - 1 by omega]
     . have hl : ltU d2[j]! d2[j - 1]! = false := by simpa using hl
       rw [hl]
       refine tqby @tg ?_
       refine ⟨(k + 1, d2), ⟨by dsimp only; omega, by dsimp only; omega, hs2, ?_⟩, by dsimp only; omega, rfl, rfl⟩
       have e := insInner_stop (a := a) (j := j) (d := d2) (by simp [hl])
       rw [<- hk]
       conv => rhs; rw [Sort.insOuter, if_pos (by omega)]
       dsimp only
       rw [<- hj, e]
   . have hgt : ((a : Int) < (j : Int)) = False := by simp; omega
     refine SemA.drawS (.fl 0 (.fl 1 (.fl 2 (.fl 3 (.fl 4 (.fl 5 (.fl 6 (.fl 7 (.fl 8 (.fl 9 (.fl 10 (.fl 11 (.fl 12 (.sq 13 (.fl 14 .nil))))))))))))))) mixed (by kernel_rfl) ?_
     refine tqby (cj2 @tg @hgt) ?_
     refine ⟨(k + 1, d2), ⟨by dsimp only; omega, by dsimp only; omega, hs2, ?_⟩, by dsimp only; omega, rfl, rfl⟩
     have e := insInner_stop (a := a) (j := j) (d := d2) (by omega)
     rw [<- hk]
     conv => rhs; rw [Sort.insOuter, if_pos (by omega)]
     dsimp only
     rw [<- hj, e]
 . refine tqby @tg ?_
   refine Vw.done ⟨rfl, ?_, rfl⟩
   rw [<- hk, Sort.insOuter, if_neg (by omega)]
theorem bl_shift (k n : Nat) (h : 2 ^ k <= n) : Sort.bitsLen n = Sort.bitsLen (n / 2 ^ k) + k := by
 have h0 : n ≠ 0 := by have := Nat.two_pow_pos k; omega
 have h1 : n / 2 ^ k ≠ 0 := by
  have := Nat.div_pos h (Nat.two_pow_pos k); omega
 unfold Sort.bitsLen
 rw [if_neg h0, if_neg h1]
 have : n.log2 = (n / 2 ^ k).log2 + k := by
  refine (Nat.log2_eq_iff h0).2 ⟨?_, ?_⟩
  . have := Nat.log2_self_le h1
    rw [Nat.pow_add]
    exact Nat.le_trans (Nat.mul_le_mul_right _ this) (Nat.div_mul_le_self n (2 ^ k))
  . have := Nat.lt_log2_self (n := n / 2 ^ k)
    have h2 : n < (n / 2 ^ k + 1) * 2 ^ k := by
     have := Nat.lt_div_mul_add (a := n) (Nat.two_pow_pos k)
     rw [Nat.succ_mul]; exact this
    rw [show (n / 2 ^ k).log2 + k + 1 = (n / 2 ^ k).log2 + 1 + k by omega, Nat.pow_add]
    exact Nat.lt_of_lt_of_le h2 (Nat.mul_le_mul_right _ this)
 omega
theorem getO_tab {s : ByteArray} (hs : ∀ k, k < 256 -> s[k]? = some (UInt8.ofNat (Sort.bitsLen k))) {n : Nat} (hn : n < 256) {K : UInt8 -> Prop} (hk : K (UInt8.ofNat (Sort.bitsLen n))) : getO s[n]? K := by
 rw [hs n hn]; exact hk
theorem bl_le (n : Nat) (h : n < 256) : (UInt8.ofNat (Sort.bitsLen n)).toNat = Sort.bitsLen n := by
 have : Sort.bitsLen n <= 8 := (Sort.bitsLen_le_iff n 8).2 h
 simp; omega
theorem len64_ok {T : Tbl} {x : UInt64} : CallA prog G 113 [w64 x] T fun v T' es => v = wint (Sort.bitsLen x.toNat : Int) /\ T' = T /\ es = [] := by
 have hx := x.toNat_lt
 refine CallA.enterZ 3 func113 ntmps113 (congrArg Array.toList results113) rfl ⟨by simp, by simp⟩ (by kernel_rfl) ?_
 refine SemA.cutAt [] (fun s : UInt64 × Nat => [(0, w64 s.1), (2, wint (s.2 : Int))]) (fun _ => T) (fun s => s.1.toNat < 4294967296 /\ Sort.bitsLen s.1.toNat + s.2 = Sort.bitsLen x.toNat /\ s.2 <= 32) [] 2 rfl (by kernel_rfl) ?_ ?_
 . refine sqbx ?_
   obtain ⟨y, hy⟩ : ∃ y, y = x := ⟨_, rfl⟩
   obtain ⟨m, hm⟩ : ∃ m : Nat, m = 0 := ⟨_, rfl⟩
   have hy2 : Sort.bitsLen y.toNat + m = Sort.bitsLen x.toNat := by rw [hy, hm]; rfl
   rw [<- hy]
   have hyl := y.toNat_lt
   refine CondP.split (fun h => ?_) (fun h => ?_)
   . refine sqby ?_
     refine ⟨(u64_shr y 32, 32), ?_, rfl, rfl⟩
     rw [decide_eq_true_iff] at h
     have hk : (u64_shr y 32).toNat = y.toNat / 2 ^ 32 := by rw [u64_shr, if_pos (by omega), UInt64.toNat_shiftRight]; show y.toNat >>> 32 = _; rw [Nat.shiftRight_eq_div_pow]
     dsimp only
     rw [hk]
     refine ⟨by omega, ?_, by omega⟩
     rw [bl_shift 32 y.toNat (by omega)]
   . refine sqby ?_
     rw [decide_eq_false_iff_not] at h
     exact ⟨(y, 0), ⟨by dsimp only; omega, by dsimp only; omega, by dsimp only; omega⟩, rfl, rfl⟩
 rintro ⟨y, m⟩ g tmp ⟨hy1, hy2, hm⟩
 dsimp only at hy1 hy2 hm
 refine SemA.cutAt [] (fun s : UInt64 × Nat => [(0, w64 s.1), (2, wint (s.2 : Int))]) (fun _ => T) (fun s => s.1.toNat < 65536 /\ Sort.bitsLen s.1.toNat + s.2 = Sort.bitsLen x.toNat /\ s.2 <= 48) [] 1 rfl (by kernel_rfl) ?_ ?_
 . refine sqby ?_
   refine CondP.split (fun h => ?_) (fun h => ?_)
   . refine sqby ?_
     refine ⟨(u64_shr y 16, m + 16), ?_, rfl, rfl⟩
     rw [decide_eq_true_iff] at h
     have hk : (u64_shr y 16).toNat = y.toNat / 2 ^ 16 := by rw [u64_shr, if_pos (by omega), UInt64.toNat_shiftRight]; show y.toNat >>> 16 = _; rw [Nat.shiftRight_eq_div_pow]
     dsimp only
     rw [hk]
     refine ⟨by omega, ?_, by omega⟩
     rw [<- hy2, bl_shift 16 y.toNat (by omega)]; omega
   . refine sqby ?_
     rw [decide_eq_false_iff_not] at h
     exact ⟨(y, m), ⟨by dsimp only; omega, hy2, by dsimp only; omega⟩, rfl, rfl⟩
 clear hy1 hy2 hm y m
 rintro ⟨y, m⟩ g tmp ⟨hy1, hy2, hm⟩
 dsimp only at hy1 hy2 hm
 refine SemA.cutAt [] (fun s : UInt64 × Nat => [(0, w64 s.1), (2, wint (s.2 : Int))]) (fun _ => T) (fun s => s.1.toNat < 256 /\ Sort.bitsLen s.1.toNat + s.2 = Sort.bitsLen x.toNat /\ s.2 <= 56) [] 1 rfl (by kernel_rfl) ?_ ?_
 . refine sqby ?_
   refine CondP.split (fun h => ?_) (fun h => ?_)
   . refine sqby ?_
     refine ⟨(u64_shr y 8, m + 8), ?_, rfl, rfl⟩
     rw [decide_eq_true_iff] at h
     have hk : (u64_shr y 8).toNat = y.toNat / 2 ^ 8 := by rw [u64_shr, if_pos (by omega), UInt64.toNat_shiftRight]; show y.toNat >>> 8 = _; rw [Nat.shiftRight_eq_div_pow]
     dsimp only
     rw [hk]
     refine ⟨by omega, ?_, by omega⟩
     rw [<- hy2, bl_shift 8 y.toNat (by omega)]; omega
   . refine sqby ?_
     rw [decide_eq_false_iff_not] at h
     exact ⟨(y, m), ⟨by dsimp only; omega, hy2, by dsimp only; omega⟩, rfl, rfl⟩
 clear hy1 hy2 hm y m
 rintro ⟨y, m⟩ g tmp ⟨hy1, hy2, hm⟩
 dsimp only at hy1 hy2 hm
 refine SemA.o ?_
 have hy8 : y.toUInt8.toNat = y.toNat := by rw [UInt64.toNat_toUInt8]; omega
 refine tqby @hy8 ?_
 refine getO_tab (by decide +kernel) hy1 ?_
 have hb := bl_le y.toNat hy1
 refine tqby @hb ?_
 refine Vw.done ⟨?_, rfl, rfl⟩
 have : Sort.bitsLen y.toNat <= 8 := (Sort.bitsLen_le_iff _ 8).2 hy1
 rw [IntWalk.i64_in (Sort.bitsLen y.toNat : Int) (by omega), IntWalk.i64_in _ (by omega), <- hy2]
 show AV.p (.int .i64 _) = AV.p (.int .i64 _)
 congr 2; omega
theorem len_ok {T : Tbl} {x : UInt64} : CallA prog G 120 [w64 x] T fun v T' es => v = wint (Sort.bitsLen x.toNat : Int) /\ T' = T /\ es = [] := by
 refine CallA.eV 3 func120 ntmps120 results120 ?_
 refine sqbx ?_
 refine (len64_ok (x := x)).det ?_
 refine sqbx ?_
 exact Vw.done ⟨rfl, rfl, rfl⟩
theorem pdqs_ok {T : Tbl} {i n : Nat} {d : Array UInt32} {lim : Int} (hi : i < T.length) (hn : d.size = n) (hB : n <= 12) :
 CallA prog G 119 [.sl i 0 n, wint (0 : Nat), wint (n : Int), .p (.int .i64 lim)] (TB T i d) fun v T' es => v = .tu [] /\ T' = TB T i (Sort.insertionSort ltU d 0 n) /\ es = [(i, false)] := by
 have tg := TB_get hi
 refine CallA.eV 19 func119 ntmps119 results119 ?_
 refine sqbx ?_
 refine tqby @tg ?_
 refine SemA.loopE (fun _ : Unit => [(0, .sl i 0 n), (1, wint (0 : Nat)), (2, wint (n : Int)), (3, .p (.int .i64 lim))]) (fun _ => TB T i d) (fun _ => True) (fun _ => 0) () [(i, false)] 0 (fun _ : Unit => []) (fun _ => T) (fun _ => False) trivial (by (simp -dsimp +decide (disch := omega) only [v1q, ↓reduceIte, Nat.reduceSub, Nat.reduceAdd, Nat.reduceMul, Nat.reduceLT, Int.reduceAdd, Int.reduceSub, Int.reduceToNat, v4q])) rfl (by simp) ?_ (fun _ _ _ h => h.elim)
 rintro _ g -
 refine SemA.blk ?_
 refine SemA.o ?_
 refine tqby @tg ?_
 refine CondP.dec (fun h => ?_) (fun h => ?_)
 . refine tqby @tg ?_
   refine (ins_ok (a := 0) (b := n) hi hn (Nat.zero_le _) (Nat.le_refl _) (by omega)).det' ?_
   refine tqby @tg ?_
   refine Vw.eff (E' := [(i, false)]) (by simp) ?_
   exact Vw.done ⟨rfl, rfl, rfl⟩
 . omega
theorem sorts_ok {T : Tbl} {i n : Nat} {d : Array UInt32} (hi : i < T.length) (hn : d.size = n) (hB : n <= 12) :
 CallA prog G 109 [.sl i 0 n] (TB T i d) fun v T' es => v = .tu [] /\ T' = TB T i (Sort.sort ltU d) /\ es = [(i, false)] := by
 have tg := TB_get hi
 refine CallA.eV 3 func109 ntmps109 results109 ?_
 refine sqbx ?_
 have h1 : (UInt64.ofInt (n : Int)).toNat = n := by rw [UInt64.ofInt]; simp; omega
 refine (len_ok (x := UInt64.ofInt (n : Int))).det ?_
 refine tqby @tg ?_
 refine (pdqs_ok hi hn hB).det' ?_
 refine tqby @tg ?_
 refine Vw.done ⟨rfl, ?_, rfl⟩
 congr 1
 obtain ⟨k1, k2⟩ := Sort.sort_sorts ltU swoU d
 obtain ⟨k3, k4⟩ := Sort.insertionSort_holds swoU d 0 n (Nat.zero_le _) (by omega)
 subst hn
 have ha : ∀ x y, ltU x y = false -> ltU y x = false -> x = y := fun x y h1 h2 => by simp [ltU] at h1 h2; exact UInt32.le_antisymm h2 h1
 have u1 := Sort.sorted_unique_holds swoU ha d _ k3 k4
 have u2 := Sort.sorted_unique_holds swoU ha d _ k1 k2
 exact Array.toList_inj.1 (u1.trans u2.symm)
theorem bl_blen (n : Nat) : Sort.bitsLen n = blen n := rfl
theorem blen_hi {a b n : Nat} (hb : b < 2 ^ n) (ha : a ≠ 0) : blen (b + 2 ^ n * a) = n + blen a := by
 refine isLen_unique (blen_is _) ?_
 obtain ⟨h1, h2⟩ := blen_is a
 have h0 : blen a ≠ 0 := fun e => by rw [e] at h1; omega
 refine ⟨?_, .inr ?_⟩
 . rw [Nat.pow_add]
   calc b + 2 ^ n * a < 2 ^ n + 2 ^ n * a := by omega
    _ = 2 ^ n * (a + 1) := by rw [Nat.mul_add, Nat.mul_one, Nat.add_comm]
    _ <= 2 ^ n * 2 ^ blen a := Nat.mul_le_mul_left _ h1
 . rcases h2 with h2 | h2
   . exact absurd h2 h0
   . rw [show n + blen a - 1 = n + (blen a - 1) by omega, Nat.pow_add]
     calc 2 ^ n * 2 ^ (blen a - 1) <= 2 ^ n * a := Nat.mul_le_mul_left _ h2
      _ <= b + 2 ^ n * a := Nat.le_add_left ..
theorem pbits_ok {T : Tbl} {x : Nat} (hx : x < 2 ^ 256) : CallA prog G 99 [.ag (Bg x)] T fun v T' es => v = wint (blen x : Int) /\ T' = T /\ es = [] := by
 refine CallA.wfs fun wf => ?_
 have wt := wf.t
 refine CallA.eV 8 func99 ntmps99 results99 ?_
 refine sqbx ?_
 refine tqbz @vbg ?_
 refine SemA.loopE (fun k : Nat => [(3, wint (blen (x % 2 ^ (64 * k)) : Int)), (6, .ag (Bg x)), (7, wint (k : Int))]) (fun _ => T ++ [.cells 47 (Bg x)]) (fun k => k <= 4) (fun k => 4 - k) 0 [] 0 (fun _ : Unit => [(3, wint (blen x : Int))]) (fun _ => T ++ [.cells 47 (Bg x)]) (fun _ => True) (by simp) (by (simp -dsimp +decide (disch := omega) only [v1q, ↓reduceIte, Nat.reduceSub, Nat.reduceAdd, Nat.reduceMul, Nat.reduceLT, Int.reduceAdd, Int.reduceSub, Int.reduceToNat, v4q]); rw [Nat.pow_zero, Nat.mod_one]; rfl) rfl (by simp) ?_ ?_
 . rintro k g hk
   refine SemA.o ?_
   refine sqby ?_
   refine CondP.dec (fun h => ?_) (fun h => ?_)
   . have hk4 : k < 4 := by omega
     have hgx := Bg_get x hk4
     have hm := mod_next x k
     rw [<- limb_nat] at hm
     have hlt : x % 2 ^ (64 * k) < 2 ^ (64 * k) := Nat.mod_lt _ (Nat.two_pow_pos _)
     refine tqbz (cj2 @vbg @hgx) ?_
     refine ⟨⟨by omega, by omega⟩, ?_⟩
     by_cases h0 : (limb x k).toNat = 0
     . have i0 : (((limb x k).toNat : Int) = 0) = True := eq_true (by omega)
       refine tqbz (cj3 @vbg @i0 @bb2) ?_
       exact ⟨k + 1, ⟨by omega, by omega⟩, by rw [hm, h0, Nat.mul_zero, Nat.add_zero], rfl⟩
     . have i0 : (((limb x k).toNat : Int) = 0) = False := eq_false (by omega)
       refine tqbz (cj3 @vbg @i0 @bb2) ?_
       refine (len64_ok (x := limb x k)).det' ?_
       have hb := blen_hi hlt h0
       rw [<- hm] at hb
       have h64 : blen (limb x k).toNat <= 64 := blen_le (UInt64.toNat_lt _)
       rw [bl_blen]
       refine tqbz @vbg ?_
       refine ⟨k + 1, ⟨by omega, by omega⟩, ?_⟩
       rw [hb]
       exact ⟨rfl, rfl⟩
   . have e : k = 4 := by omega
     subst e
     refine tqbz @vbg ?_
     rw [Nat.mod_eq_of_lt hx]
     exact ⟨(), rfl⟩
 . rintro _ g tmp -
   refine tqbz @vbg ?_
   exact Vw.cut ⟨rfl, rfl, rfl⟩
theorem shl_bit (u : UInt64) {s : Nat} (hs : s < 64) (i : Nat) : (u64_shl u s).toNat.testBit i = (decide (i < 64) && (decide (s <= i) && u.toNat.testBit (i - s))) := by
 rw [u64_shl, if_pos hs, UInt64.toNat_shiftLeft]
 show (u.toNat <<< ((UInt64.ofNat s).toNat % 64) % 2 ^ 64).testBit i = _
 rw [UInt64.toNat_ofNat', Nat.mod_eq_of_lt (a := s) (b := 2 ^ 64) (by omega), Nat.mod_eq_of_lt hs, Nat.testBit_mod_two_pow, Nat.testBit_shiftLeft]
theorem shr_bit (u : UInt64) {s : Nat} (hs : s < 64) (i : Nat) : (u64_shr u s).toNat.testBit i = u.toNat.testBit (s + i) := by
 rw [shr64 u hs, Nat.testBit_div_two_pow, Nat.add_comm]
theorem up_limb {x n k s i : Nat} (hi : i < 4) (hs : n = 64 * k + s) (hs64 : s < 64) (hk : k <= i) : limb (x * 2 ^ n % 2 ^ 256) i = u64_shl (limb x (i - k)) s ||| (if k < i then u64_shr (u64_shr (limb x (i - k - 1)) 1) (63 - s) else 0) := by
 symm
 refine limb_ext fun t ht => ?_
 rw [UInt64.toNat_or, Nat.testBit_or, shl_bit _ hs64, Nat.testBit_mod_two_pow, Nat.mul_comm x, Nat.testBit_two_pow_mul]
 simp only [ht, decide_true, Bool.true_and, limb_bit]
 rw [show decide (64 * i + t < 256) = true from decide_eq_true (by omega), Bool.true_and]
 by_cases h1 : s <= t
 . rw [decide_eq_true h1, decide_eq_true (show 64 * i + t ≥ n by omega), decide_eq_true (show t - s < 64 by omega), show 64 * (i - k) + (t - s) = 64 * i + t - n by omega]
   split
   . rw [shr_bit _ (by omega), shr_bit _ (by omega), limb_bit, decide_eq_false (show ¬ (1 + (63 - s + t) < 64) by omega)]; simp
   . simp
 . rw [decide_eq_false h1]
   split
   . rw [shr_bit _ (by omega), shr_bit _ (by omega), limb_bit, decide_eq_true (show 1 + (63 - s + t) < 64 by omega), decide_eq_true (show 64 * i + t ≥ n by omega), show 64 * (i - k - 1) + (1 + (63 - s + t)) = 64 * i + t - n by omega]; simp
   . rw [decide_eq_false (show ¬ (64 * i + t ≥ n) by omega)]; simp
theorem up_limb0 {x n k s i : Nat} (hi : i < 4) (hs : n = 64 * k + s) (hk : i < k) : limb (x * 2 ^ n % 2 ^ 256) i = 0 := by
 symm
 refine limb_ext fun t ht => ?_
 rw [Nat.testBit_mod_two_pow, Nat.mul_comm x, Nat.testBit_two_pow_mul, decide_eq_false (show ¬ (64 * i + t ≥ n) by omega)]
 simp
theorem down_limb {x n k s i : Nat} (hx : x < 2 ^ 256) (hs : n = 64 * k + s) (hs64 : s < 64) (hk : i + k < 4) : limb (x / 2 ^ n) i = u64_shr (limb x (i + k)) s ||| (if i + k + 1 < 4 then u64_shl (u64_shl (limb x (i + k + 1)) 1) (63 - s) else 0) := by
 symm
 refine limb_ext fun t ht => ?_
 rw [UInt64.toNat_or, Nat.testBit_or, shr_bit _ hs64, Nat.testBit_div_two_pow, limb_bit]
 by_cases h1 : s + t < 64
 . rw [decide_eq_true h1, show 64 * (i + k) + (s + t) = 64 * i + t + n by omega]
   split
   . rw [shl_bit _ (by omega), shl_bit _ (by omega), decide_eq_true ht]
     by_cases h2 : 63 - s <= t
     . rw [decide_eq_true h2, decide_eq_true (show t - (63 - s) < 64 by omega), decide_eq_false (show ¬ (1 <= t - (63 - s)) by omega)]; simp
     . rw [decide_eq_false h2]; simp
   . simp
 . rw [decide_eq_false h1]
   split
   . rw [shl_bit _ (by omega), shl_bit _ (by omega), decide_eq_true ht, decide_eq_true (show 63 - s <= t by omega), decide_eq_true (show t - (63 - s) < 64 by omega), decide_eq_true (show 1 <= t - (63 - s) by omega), limb_bit, decide_eq_true (show t - (63 - s) - 1 < 64 by omega), show 64 * (i + k + 1) + (t - (63 - s) - 1) = 64 * i + t + n by omega]; simp
   . have : x.testBit (64 * i + t + n) = false := Nat.testBit_lt_two_pow (Nat.lt_of_lt_of_le hx (Nat.pow_le_pow_right (by decide) (by omega)))
     rw [this]; simp
theorem down_limb0 {x n k s i : Nat} (hx : x < 2 ^ 256) (hs : n = 64 * k + s) (hk : 4 <= i + k) : limb (x / 2 ^ n) i = 0 := by
 symm
 refine limb_ext fun t ht => ?_
 have : x.testBit (64 * i + t + n) = false := Nat.testBit_lt_two_pow (Nat.lt_of_lt_of_le hx (Nat.pow_le_pow_right (by decide) (by omega)))
 rw [Nat.testBit_div_two_pow, this]; simp
theorem Bg_next {r i : Nat} (hi : i < 4) (v : UInt64) (hv : v = limb r i) : (Bg (r % 2 ^ (64 * i))).set i (w64 v) = Bg (r % 2 ^ (64 * (i + 1))) := by
 refine Bg_set hi ?_ fun j hj hn => ?_
 . rw [hv]
   refine limb_ext fun t ht => ?_
   rw [limb_bit, decide_eq_true ht, Bool.true_and, Nat.testBit_mod_two_pow, decide_eq_true (show 64 * i + t < 64 * (i + 1) by omega), Bool.true_and]
 . symm
   refine limb_ext fun t ht => ?_
   rw [limb_bit, decide_eq_true ht, Bool.true_and, Nat.testBit_mod_two_pow, Nat.testBit_mod_two_pow]
   by_cases h : j < i
   . rw [decide_eq_true (show 64 * j + t < 64 * i by omega), decide_eq_true (show 64 * j + t < 64 * (i + 1) by omega)]
   . rw [decide_eq_false (show ¬ (64 * j + t < 64 * i) by omega), decide_eq_false (show ¬ (64 * j + t < 64 * (i + 1)) by omega)]
theorem Bg_skip {r i : Nat} (h : limb r i = 0) : Bg (r % 2 ^ (64 * i)) = Bg (r % 2 ^ (64 * (i + 1))) := by
 have : (limb r i).toNat = 0 := by rw [h]; rfl
 rw [limb_nat] at this
 rw [mod_next, this, Nat.mul_zero, Nat.add_zero]
theorem bgs (x i : Nat) (v v' : UInt64) (h : i < 4) : ((Bg x).set i (.p (.int .u64 (v.toNat : Int)))).length = 4 /\ ((Bg x).set i (.p (.int .u64 (v.toNat : Int))))[i]? = some (w64 v) /\ ((Bg x).set i (.p (.int .u64 (v.toNat : Int)))).set i (.p (.int .u64 (v'.toNat : Int))) = (Bg x).set i (w64 v') := by
 refine ⟨by simp [Bg_len], ?_, by rw [List.set_set]; rfl⟩
 rw [List.getElem?_set, if_pos rfl, if_pos (by rw [Bg_len]; exact h)]; rfl
theorem pup_ok {T : Tbl} {x n : Nat} (hx : x < 2 ^ 256) (hn : n <= 1000000) : CallA prog G 98 [.ag (Bg x), wint (n : Int)] T fun v T' es => v = .ag (Bg (x * 2 ^ n % 2 ^ 256)) /\ T' = T /\ es = [] := by
 refine CallA.wfs fun wf => ?_
 have wt := wf.t
 have g0 := fun l => gn0 T (.cells 47 (Bg x)) l
 have ez : [oQ, oQ, oQ, oQ] = Bg 0 := rfl
 refine CallA.eV 12 func98 ntmps98 results98 ?_
 refine sqbx ?_
 by_cases h0 : n = 0
 . subst h0
   rw [Nat.pow_zero, Nat.mul_one, Nat.mod_eq_of_lt hx]
   have h1 : (((0 : Nat) : Int) <= 0) = True := by simp
   refine tqbz (cj4 @vbg @ez @g0 @h1) ?_
   exact Vw.cut ⟨by rw [AV.wo, AV.woL_eq, Bg_wo], rfl, rfl⟩
 have h1 : ((n : Int) <= 0) = False := by simp; omega
 obtain ⟨r, hr⟩ : ∃ r, r = x * 2 ^ n % 2 ^ 256 := ⟨_, rfl⟩
 have hrl : r < 2 ^ 256 := by rw [hr]; exact Nat.mod_lt _ (by decide)
 rw [<- hr]
 refine tqbz (cj4 @vbg @ez @g0 @h1) ?_
 refine SemA.loopE (fun i : Nat => [(1, wint (n : Int)), (2, .ptr T.length 0), (4, .ptr (T.length + 1) 0), (5, .ptr (T.length + 2) 0), (11, wint (i : Int))]) (fun i => T ++ [.cells 47 (Bg x), .cells 47 (Bg 0), .cells 47 (Bg (r % 2 ^ (64 * i)))]) (fun i => i <= 4) (fun i => 4 - i) 0 [] 0 (fun _ : Unit => [(4, .ptr (T.length + 1) 0), (5, .ptr (T.length + 2) 0)]) (fun _ => T ++ [.cells 47 (Bg x), .cells 47 (Bg 0), .cells 47 (Bg r)]) (fun _ => True) (by simp) (by (simp -dsimp +decide (disch := omega) only [v1q, ↓reduceIte, Nat.reduceSub, Nat.reduceAdd, Nat.reduceMul, Nat.reduceLT, Int.reduceAdd, Int.reduceSub, Int.reduceToNat, v4q]); first | rfl | done) (by rw [Nat.mul_zero, Nat.pow_zero, Nat.mod_one]) (by simp) ?_ ?_
 . rintro i g hi
   refine SemA.o ?_
   refine sqby ?_
   refine CondP.dec (fun h => ?_) (fun h => ?_)
   . have hi4 : i < 4 := by omega
     have g2 := fun a b l => gn2 T a b (.cells 47 (Bg (r % 2 ^ (64 * i)))) l
     have hs64 : n % 64 < 64 := Nat.mod_lt _ (by decide)
     have hsn : n = 64 * (n / 64) + n % 64 := by omega
     refine tqbz (cj2 @vbg @n64) ?_
     by_cases hk : n / 64 <= i
     . have hk1 : ((0 : Int) <= (i : Int) - ((n / 64 : Nat) : Int)) = True := eq_true (by omega)
       have hn256 : ((n : Int) < 256) = True := eq_true (by omega)
       have hsub : (i : Int) - ((n / 64 : Nat) : Int) = ((i - n / 64 : Nat) : Int) := by omega
       have hk2 : ((0 : Int) <= ((i - n / 64 : Nat) : Int)) = True := eq_true (by omega)
       have hgx := Bg_get x (j := i - n / 64) (by omega)
       have hul := up_limb (x := x) hi4 hsn hs64 hk
       rw [<- hr] at hul
       have hcn : (UInt64.ofInt ((n % 64 : Nat) : Int)).toNat = n % 64 := ofInt_lt (by omega)
       obtain ⟨u1, hu1⟩ : ∃ u1, u1 = u64_shl (limb x (i - n / 64)) (n % 64) := ⟨_, rfl⟩
       rw [<- hu1] at hul
       simp -dsimp +decide (disch := omega) only [v1q, ↓reduceIte, Nat.reduceSub, Nat.reduceAdd, Nat.reduceMul, Nat.reduceLT, Int.reduceAdd, Int.reduceSub, Int.reduceToNat, v2q, vbg, g0, g2, hk1, hk2, hn256, hsub, hgx, Bg_len, n64, bb2, hcn, <- hu1]
       refine ⟨by omega, by omega, ⟨by omega, by omega⟩, by omega, CondP.dec (fun h3 => ?_) (fun h3 => ?_)⟩
       . have hgy := Bg_get x (j := i - n / 64 - 1) (by omega)
         have hsub2 : ((i - n / 64 : Nat) : Int) - 1 = ((i - n / 64 - 1 : Nat) : Int) := by omega
         have hsub3 : (63 : Int) - ((n % 64 : Nat) : Int) = ((63 - n % 64 : Nat) : Int) := by omega
         have hcn2 : (UInt64.ofInt ((63 - n % 64 : Nat) : Int)).toNat = 63 - n % 64 := ofInt_lt (by omega)
         have g2b := fun a b l => gn2 T a b (.cells 47 ((Bg (r % 2 ^ (64 * i))).set i (w64 u1))) l
         have hb := bgs (r % 2 ^ (64 * i)) i u1 (limb r i) hi4
         rw [if_pos (by omega)] at hul
         refine SemA.draw (fun i => true) [(0, true), (1, true), (2, true), (3, true), (4, true), (5, true), (6, true), (7, true), (8, true), (9, true), (10, true), (11, true), (12, true), (13, true), (14, false)] mixed (by kernel_rfl) ?_
         simp -dsimp +decide (disch := omega) only [v1q, ↓reduceIte, Nat.reduceSub, Nat.reduceAdd, Nat.reduceMul, Nat.reduceLT, Int.reduceAdd, Int.reduceSub, Int.reduceToNat, v2q, vbg, g0, g2b, hsub2, hsub3, hgy, hcn2, Bg_len, n64, bb2, hb, kallT, <- hul]
         exact ⟨⟨by omega, by omega⟩, ⟨by omega, by omega⟩, by omega, ⟨by omega, by omega⟩, by omega, i + 1, ⟨by omega, by omega⟩, rfl, by rw [<- Bg_next hi4 (limb r i) rfl]; rfl⟩
       . rw [if_neg (by omega), UInt64.or_zero] at hul
         refine tqbz @vbg ?_
         exact ⟨i + 1, ⟨by omega, by omega⟩, rfl, by rw [<- Bg_next hi4 u1 hul.symm]; rfl⟩
     . have hk1 : ((0 : Int) <= (i : Int) - ((n / 64 : Nat) : Int)) = False := eq_false (by omega)
       have hul := up_limb0 (x := x) hi4 hsn (by omega)
       rw [<- hr] at hul
       refine tqbz (cj5 @vbg @g0 @g2 @hk1 @bb2) ?_
       exact ⟨i + 1, ⟨by omega, by omega⟩, rfl, by rw [Bg_skip hul]⟩
   . have e : i = 4 := by omega
     subst e
     refine tqbz @vbg ?_
     rw [Nat.mod_eq_of_lt hrl]
     exact ⟨(), rfl⟩
 . rintro _ g tmp -
   refine tqbz (cj2 @vbg @vres) ?_
   exact Vw.cut ⟨by rw [AV.wo, AV.woL_eq, Bg_wo], rfl, rfl⟩
theorem pdown_ok {T : Tbl} {x n : Nat} (hx : x < 2 ^ 256) (hn : n <= 1000000) : CallA prog G 97 [.ag (Bg x), wint (n : Int)] T fun v T' es => v = .ag (Bg (x / 2 ^ n)) /\ T' = T /\ es = [] := by
 refine CallA.wfs fun wf => ?_
 have wt := wf.t
 have g0 := fun l => gn0 T (.cells 47 (Bg x)) l
 have ez : [oQ, oQ, oQ, oQ] = Bg 0 := rfl
 refine CallA.eV 12 func97 ntmps97 results97 ?_
 refine sqbx ?_
 by_cases h0 : n = 0
 . subst h0
   rw [Nat.pow_zero, Nat.div_one]
   have h1 : (((0 : Nat) : Int) <= 0) = True := by simp
   refine tqbz (cj4 @vbg @ez @g0 @h1) ?_
   exact Vw.cut ⟨by rw [AV.wo, AV.woL_eq, Bg_wo], rfl, rfl⟩
 have h1 : ((n : Int) <= 0) = False := by simp; omega
 obtain ⟨r, hr⟩ : ∃ r, r = x / 2 ^ n := ⟨_, rfl⟩
 have hrl : r < 2 ^ 256 := by rw [hr]; exact Nat.lt_of_le_of_lt (Nat.div_le_self _ _) hx
 rw [<- hr]
 refine tqbz (cj4 @vbg @ez @g0 @h1) ?_
 refine SemA.loopE (fun i : Nat => [(1, wint (n : Int)), (2, .ptr T.length 0), (4, .ptr (T.length + 1) 0), (5, .ptr (T.length + 2) 0), (11, wint (i : Int))]) (fun i => T ++ [.cells 47 (Bg x), .cells 47 (Bg 0), .cells 47 (Bg (r % 2 ^ (64 * i)))]) (fun i => i <= 4) (fun i => 4 - i) 0 [] 0 (fun _ : Unit => [(4, .ptr (T.length + 1) 0), (5, .ptr (T.length + 2) 0)]) (fun _ => T ++ [.cells 47 (Bg x), .cells 47 (Bg 0), .cells 47 (Bg r)]) (fun _ => True) (by simp) (by (simp -dsimp +decide (disch := omega) only [v1q, ↓reduceIte, Nat.reduceSub, Nat.reduceAdd, Nat.reduceMul, Nat.reduceLT, Int.reduceAdd, Int.reduceSub, Int.reduceToNat, v4q]); first | rfl | done) (by rw [Nat.mul_zero, Nat.pow_zero, Nat.mod_one]) (by simp) ?_ ?_
 . rintro i g hi
   refine SemA.o ?_
   refine sqby ?_
   refine CondP.dec (fun h => ?_) (fun h => ?_)
   . have hi4 : i < 4 := by omega
     have g2 := fun a b l => gn2 T a b (.cells 47 (Bg (r % 2 ^ (64 * i)))) l
     have hs64 : n % 64 < 64 := Nat.mod_lt _ (by decide)
     have hsn : n = 64 * (n / 64) + n % 64 := by omega
     by_cases hn2 : (256 : Int) <= (n : Int)
     . have r0 : r = 0 := by
        rw [hr]
        exact Nat.div_eq_of_lt (Nat.lt_of_lt_of_le hx (Nat.pow_le_pow_right (by decide) (by omega)))
       refine tqbz (cj3 @vbg @n64 @hn2) ?_
       rw [r0, Nat.zero_mod]
       exact ⟨(), rfl⟩
     have i2 : ((256 : Int) <= (n : Int)) = False := eq_false hn2
     refine tqbz (cj3 @vbg @n64 @i2) ?_
     by_cases hk : i + n / 64 < 4
     . have hul := down_limb hx hsn hs64 hk
       obtain ⟨q, hq⟩ : ∃ q, q = i + n / 64 := ⟨_, rfl⟩
       rw [<- hq] at hul hk
       have hsum : (i : Int) + ((n / 64 : Nat) : Int) = (q : Int) := by omega
       have hk1 : (((q : Nat) : Int) < 4) = True := eq_true (by omega)
       have hgx := Bg_get x (j := q) hk
       rw [<- hr] at hul
       have hcn : (UInt64.ofInt ((n % 64 : Nat) : Int)).toNat = n % 64 := ofInt_lt (by omega)
       obtain ⟨u1, hu1⟩ : ∃ u1, u1 = u64_shr (limb x (q)) (n % 64) := ⟨_, rfl⟩
       rw [<- hu1] at hul
       rw [hsum]
       simp -dsimp +decide (disch := omega) only [v1q, ↓reduceIte, Nat.reduceSub, Nat.reduceAdd, Nat.reduceMul, Nat.reduceLT, Int.reduceAdd, Int.reduceSub, Int.reduceToNat, v2q, vbg, g0, g2, hk1, hsum, hgx, Bg_len, n64, bb2, hcn, <- hu1]
       refine ⟨by omega, by omega, ⟨by omega, by omega⟩, by omega, CondP.dec (fun h3 => ?_) (fun h3 => ?_)⟩
       . have hgy := Bg_get x (j := q + 1) (by omega)
         have hsub2 : ((q : Nat) : Int) + 1 = ((q + 1 : Nat) : Int) := by omega
         have hsub3 : (63 : Int) - ((n % 64 : Nat) : Int) = ((63 - n % 64 : Nat) : Int) := by omega
         have hcn2 : (UInt64.ofInt ((63 - n % 64 : Nat) : Int)).toNat = 63 - n % 64 := ofInt_lt (by omega)
         have g2b := fun a b l => gn2 T a b (.cells 47 ((Bg (r % 2 ^ (64 * i))).set i (w64 u1))) l
         have hb := bgs (r % 2 ^ (64 * i)) i u1 (limb r i) hi4
         rw [if_pos (by omega)] at hul
         refine SemA.draw (fun i => true) [(0, true), (1, true), (2, true), (3, true), (4, true), (5, true), (6, true), (7, true), (8, true), (9, true), (10, true), (11, true), (12, true), (13, true), (14, false)] mixed (by kernel_rfl) ?_
         simp -dsimp +decide (disch := omega) only [v1q, ↓reduceIte, Nat.reduceSub, Nat.reduceAdd, Nat.reduceMul, Nat.reduceLT, Int.reduceAdd, Int.reduceSub, Int.reduceToNat, v2q, vbg, g0, g2b, hsub2, hsub3, hgy, hcn2, Bg_len, n64, bb2, hb, kallT, <- hul]
         exact ⟨⟨by omega, by omega⟩, ⟨by omega, by omega⟩, by omega, ⟨by omega, by omega⟩, by omega, i + 1, ⟨by omega, by omega⟩, rfl, by rw [<- Bg_next hi4 (limb r i) rfl]; rfl⟩
       . rw [if_neg (by omega), UInt64.or_zero] at hul
         refine tqbz @vbg ?_
         exact ⟨i + 1, ⟨by omega, by omega⟩, rfl, by rw [<- Bg_next hi4 u1 hul.symm]; rfl⟩
     . have hk1 : ((i : Int) + ((n / 64 : Nat) : Int) < 4) = False := eq_false (by omega)
       have hul := down_limb0 (i := i) hx hsn (by omega)
       rw [<- hr] at hul
       refine tqbz (cj5 @vbg @g0 @g2 @hk1 @bb2) ?_
       exact ⟨i + 1, ⟨by omega, by omega⟩, rfl, by rw [Bg_skip hul]⟩
   . have e : i = 4 := by omega
     subst e
     refine tqbz @vbg ?_
     rw [Nat.mod_eq_of_lt hrl]
     exact ⟨(), rfl⟩
 . rintro _ g tmp -
   refine tqbz (cj2 @vbg @vres) ?_
   exact Vw.cut ⟨by rw [AV.wo, AV.woL_eq, Bg_wo], rfl, rfl⟩
theorem hN_tb (l : List UInt8) (i : Nat) : (hN l).testBit i = match l[i / 8]? with | none => false | some b => b.toNat.testBit (i % 8) := by
 have h := hN_bit l i
 rw [Nat.testBit_eq_decide_div_mod_eq]
 unfold bitN at h
 rw [h]
 cases l[i / 8]? with
 | none => rfl
 | some b => simp only; rw [Nat.testBit_eq_decide_div_mod_eq]
theorem take_at {h : List UInt8} {i j : Nat} {b : UInt8} (hb : h[i]? = some b) : (h.take (i + 1))[j]? = if j = i then some b else (h.take i)[j]? := by
 rw [List.getElem?_take, List.getElem?_take]
 by_cases h1 : j = i
 . subst h1; rw [if_pos (by omega), if_pos rfl, hb]
 . rw [if_neg h1]
   by_cases h2 : j < i
   . rw [if_pos (by omega), if_pos h2]
   . rw [if_neg (by omega), if_neg h2]
theorem b8_high (b : UInt8) {k : Nat} (h : 8 <= k) : b.toNat.testBit k = false :=
 Nat.testBit_lt_two_pow (Nat.lt_of_lt_of_le b.toNat_lt (Nat.pow_le_pow_right (by decide) h))
theorem hN_step {h : List UInt8} {i : Nat} {b : UInt8} (hb : h[i]? = some b) (hi : i < 32) : (Bg (hN (h.take i))).set (i / 8) (.p (.int .u64 ((limb (hN (h.take i)) (i / 8) ||| u64_shl b.toUInt64 (8 * (i % 8))).toNat : Int))) = Bg (hN (h.take (i + 1))) := by
 refine Bg_set (by omega) ?_ fun j hj hn => ?_
 . refine limb_ext fun t ht => ?_
   rw [UInt64.toNat_or, Nat.testBit_or, limb_bit, shl_bit _ (by omega), decide_eq_true ht, Bool.true_and, Bool.true_and, hN_tb, hN_tb, take_at hb, UInt8.toNat_toUInt64]
   have e8 : (64 * (i / 8) + t) % 8 = t % 8 := by omega
   rw [e8]
   by_cases h1 : (64 * (i / 8) + t) / 8 = i
   . rw [if_pos h1, h1, decide_eq_true (show 8 * (i % 8) <= t by omega), Bool.true_and, show t - 8 * (i % 8) = t % 8 by omega]
     have : (h.take i)[i]? = none := by rw [List.getElem?_eq_none]; simp; omega
     rw [this]; simp
   . rw [if_neg h1]
     by_cases h2 : 8 * (i % 8) <= t
     . rw [b8_high b (show 8 <= t - 8 * (i % 8) by omega)]; simp
     . rw [decide_eq_false h2]; simp
 . refine UInt64.toNat_inj.1 ?_
   refine Nat.eq_of_testBit_eq fun t => ?_
   rw [limb_bit, limb_bit, hN_tb, hN_tb, take_at hb]
   by_cases ht : t < 64
   . rw [if_neg (by omega)]
   . rw [decide_eq_false ht, Bool.false_and, Bool.false_and]
theorem pofhash_ok {T : Tbl} {h : List UInt8} (hh : h.length = 32) : CallA prog G 108 [.ag (h.map by8)] T fun v T' es => v = .ag (Bg (hN h)) /\ T' = T /\ es = [] := by
 refine CallA.wfs fun wf => ?_
 have wt := wf.t
 have ez : [oQ, oQ, oQ, oQ] = Bg 0 := rfl
 have t8 : (∀ a : Nat, (a : Int).tmod 8 = ((a % 8 : Nat) : Int)) /\ (∀ a : Nat, (a : Int).tdiv 8 = ((a / 8 : Nat) : Int)) := ⟨fun _ => rfl, fun _ => rfl⟩
 refine CallA.eV 8 func108 ntmps108 results108 ?_
 refine sqbx ?_
 refine tqbz (cj4 @vbg @ez @vh @hh) ?_
 refine SemA.loopE (fun i : Nat => [(2, .ptr (T.length + 1) 0), (3, .ptr (T.length + 2) 0), (6, .ag (h.map by8)), (7, wint (i : Int))]) (fun i => T ++ [.cells 26 (h.map by8), .cells 47 (Bg 0), .cells 47 (Bg (hN (h.take i)))]) (fun i => i <= 32) (fun i => 32 - i) 0 [] 0 (fun _ : Unit => [(2, .ptr (T.length + 1) 0), (3, .ptr (T.length + 2) 0)]) (fun _ => T ++ [.cells 26 (h.map by8), .cells 47 (Bg 0), .cells 47 (Bg (hN h))]) (fun _ => True) (by simp) (by (simp -dsimp +decide (disch := omega) only [v1q, ↓reduceIte, Nat.reduceSub, Nat.reduceAdd, Nat.reduceMul, Nat.reduceLT, Int.reduceAdd, Int.reduceSub, Int.reduceToNat, v4q, vh, hh, List.drop_zero]); first | rfl | done) rfl (by simp) ?_ ?_
 . rintro i g hi
   refine SemA.o ?_
   refine sqby ?_
   refine CondP.dec (fun h1 => ?_) (fun h1 => ?_)
   . have hi4 : i < 32 := by omega
     have g2 := fun a b l => gn2 T a b (.cells 47 (Bg (hN (h.take i)))) l
     obtain ⟨b, hb⟩ : ∃ b, h[i]? = some b := ⟨h[i]'(by omega), by simp⟩
     have hbg : (h.map by8)[i]? = some (by8 b) := by rw [List.getElem?_map, hb]; rfl
     have hgw := Bg_get (hN (h.take i)) (j := i / 8) (by omega)
     have hst := hN_step hb hi4
     have hmul : (8 : Int) * ((i % 8 : Nat) : Int) = ((8 * (i % 8) : Nat) : Int) := by omega
     have hcn : (UInt64.ofInt ((8 * (i % 8) : Nat) : Int)).toNat = 8 * (i % 8) := ofInt_lt (by omega)
     refine tqbz (cj5 @vbg @g2 @hbg @hb @t8) ?_
     refine ⟨⟨by omega, by omega⟩, ?_⟩
     refine SemA.draw (fun i => true) [(0, true), (1, true), (2, true), (3, true), (4, true), (5, true), (6, true), (7, true), (8, true), (9, true), (10, true), (11, true), (12, false)] mixed (by kernel_rfl) ?_
     refine tqbz (cj11 @vbg @g2 @hbg @hgw @hb @t8 @hmul @hcn @Bg_len @hst @kallT) ?_
     exact ⟨⟨by omega, by omega⟩, by omega, ⟨by omega, by omega⟩, by omega, i + 1, ⟨by omega, by omega⟩, rfl, rfl⟩
   . have e : i = 32 := by omega
     subst e
     refine tqbz @vbg ?_
     rw [List.take_of_length_le (by omega)]
     exact ⟨(), rfl⟩
 . rintro _ g tmp -
   refine tqbz (cj2 @vbg @vres) ?_
   exact Vw.cut ⟨by rw [AV.wo, AV.woL_eq, Bg_wo], rfl, rfl⟩
theorem pof03_ok {T : Tbl} {b : UInt32} : CallA prog G 60 [w32 b] T fun v T' es => v = ofV (ofT b.toNat) /\ T' = T /\ es = [] := by
 refine CallA.wfs fun wf => ?_
 have wt := wf.t
 have hb := b.toNat_lt
 refine CallA.eV 28 func60 ntmps60 results60 ?_
 refine sqbx ?_
 have ez : [oQ, oQ, oQ, oQ] = Bg 0 := rfl
 have z256 : 0 < 2 ^ 256 := by decide
 obtain ⟨s, hs⟩ : ∃ s, s = b.toNat / 2 ^ 24 := ⟨_, rfl⟩
 obtain ⟨m, hm2⟩ : ∃ m, m = b.toNat % 2 ^ 23 := ⟨_, rfl⟩
 have hm : m < 2 ^ 23 := by rw [hm2]; exact Nat.mod_lt _ (by decide)
 have hs8 : s < 256 := by omega
 have e2 : (u32_shr b 24).toNat = s := by rw [u32_hi, hs]
 have e1 : (b &&& UInt32.ofInt 8388607).toUInt64.toNat = m := by rw [UInt32.toNat_toUInt64, u32_lo, hm2]
 have e3 := u32_sign b
 have hof : ofT b.toNat = if tgt b.toNat = 0 ∨ 2 ^ 256 <= tgt b.toNat ∨ b.toNat / 2 ^ 23 % 2 = 1 then none else some (tgt b.toNat) := rfl
 have htg : tgt b.toNat = if s < 3 then m / 2 ^ (8 * (3 - s)) else m * 2 ^ (8 * (s - 3)) := by rw [hs, hm2]; rfl
 have hmx : m < 2 ^ 256 := by omega
 refine tqbz (cj3 @ez @vbg @e2) ?_
 refine pof_ok.det' ?_
 rw [e1]
 refine tqbz (cj2 @ez @vbg) ?_
 rw [e2]
 have fin : ∀ (t : Nat), t < 2 ^ 256 -> tgt b.toNat = t -> ofT b.toNat = if t = 0 ∨ ¬ (b &&& UInt32.ofInt 8388608).toNat = 0 then none else some t := by
  intro t ht h
  rw [hof, h]
  have hiff : (t = 0 ∨ 2 ^ 256 <= t ∨ b.toNat / 2 ^ 23 % 2 = 1) ↔ (t = 0 ∨ ¬ (b &&& UInt32.ofInt 8388608).toNat = 0) := by
   rw [e3]
   constructor
   . rintro (h | h | h)
     . exact .inl h
     . omega
     . exact .inr (by omega)
   . rintro (h | h)
     . exact .inl h
     . exact .inr (.inr (by omega))
  by_cases hc : t = 0 ∨ 2 ^ 256 <= t ∨ b.toNat / 2 ^ 23 % 2 = 1
  . rw [if_pos hc, if_pos (hiff.1 hc)]
  . rw [if_neg hc, if_neg (mt hiff.2 hc)]
 by_cases h3 : ((s : Int) < 3)
 . have hp : (8 : Int) * (3 - (s : Int)) = ((8 * (3 - s) : Nat) : Int) := by omega
   rw [if_pos (by omega)] at htg
   have htx : m / 2 ^ (8 * (3 - s)) < 2 ^ 256 := Nat.lt_of_le_of_lt (Nat.div_le_self _ _) hmx
   have hF := fin _ htx htg
   have i3 := eq_true h3
   refine tqbz (cj4 @ez @vbg @i3 @hp) ?_
   refine (pdown_ok hmx (by omega)).det' ?_
   revert hF htx
   generalize m / 2 ^ (8 * (3 - s)) = t
   intro htx hF
   have g2 := fun a b l => gn2 T a b (.cells 47 (Bg t)) l
   rw [hF]
   by_cases hsg : (b &&& UInt32.ofInt 8388608).toNat = 0
   . have hsI : (((b &&& UInt32.ofInt 8388608).toNat : Int) = 0) = True := eq_true (by omega)
     by_cases t0 : t = 0
     . rw [if_pos (.inl t0)]
       have t0' : (t = 0) = True := eq_true t0
       simp -dsimp +decide (disch := omega) only [v1q, ↓reduceIte, Nat.reduceSub, Nat.reduceAdd, Nat.reduceMul, Nat.reduceLT, Int.reduceAdd, Int.reduceSub, Int.reduceToNat, v2q, ez, vbg, g2, eqB htx z256, hsI, t0', bb2, vres, vone]
       exact Vw.cut ⟨by rw [AV.wo, AV.woL_eq]; simp only [ofV, List.map_cons, List.map_nil, AV.wo, AV.woL_eq, Bg_wo], rfl, rfl⟩
     . rw [if_neg (by rw [not_or]; exact ⟨t0, fun h => h hsg⟩)]
       have t0' : (t = 0) = False := eq_false t0
       simp -dsimp +decide (disch := omega) only [v1q, ↓reduceIte, Nat.reduceSub, Nat.reduceAdd, Nat.reduceMul, Nat.reduceLT, Int.reduceAdd, Int.reduceSub, Int.reduceToNat, v2q, ez, vbg, g2, eqB htx z256, hsI, t0', bb2, vres, vone]
       exact Vw.cut ⟨by rw [AV.wo, AV.woL_eq]; simp only [ofV, List.map_cons, List.map_nil, AV.wo, AV.woL_eq, Bg_wo], rfl, rfl⟩
   . have hsI : (((b &&& UInt32.ofInt 8388608).toNat : Int) = 0) = False := eq_false (by omega)
     rw [if_pos (.inr hsg)]
     simp -dsimp +decide (disch := omega) only [v1q, ↓reduceIte, Nat.reduceSub, Nat.reduceAdd, Nat.reduceMul, Nat.reduceLT, Int.reduceAdd, Int.reduceSub, Int.reduceToNat, v2q, ez, vbg, g2, eqB htx z256, hsI, bb2, vres, vone]
     exact Vw.cut ⟨by rw [AV.wo, AV.woL_eq]; simp only [ofV, List.map_cons, List.map_nil, AV.wo, AV.woL_eq, Bg_wo], rfl, rfl⟩
 . have i3 := eq_false h3
   have hp : (8 : Int) * ((s : Int) - 3) = ((8 * (s - 3) : Nat) : Int) := by omega
   have hk : 8 * (s - 3) <= 2024 := by omega
   rw [if_neg (by omega)] at htg
   generalize 8 * (s - 3) = k at hp hk htg
   refine tqbz (cj4 @ez @vbg @i3 @hp) ?_
   refine (pup_ok (n := k) hmx (by omega)).det' ?_
   obtain ⟨t, ht⟩ : ∃ t, t = m * 2 ^ k % 2 ^ 256 := ⟨_, rfl⟩
   have htx : t < 2 ^ 256 := by rw [ht]; exact Nat.mod_lt _ (by decide)
   have g2 := fun a b l => gn2 T a b (.cells 47 (Bg t)) l
   have g1 := fun a l => gn1 T a (.cells 47 (Bg m)) l
   rw [<- ht]
   have hdx : t / 2 ^ k < 2 ^ 256 := Nat.lt_of_le_of_lt (Nat.div_le_self _ _) htx
   refine tqbz (cj2 @ez @vbg) ?_
   refine SemA.draw (fun i => true) [(0, true), (1, true), (2, true), (3, true), (5, true), (4, false), (6, true)] mixed (by kernel_rfl) ?_
   refine tqbz (cj6 @ez @vbg @g1 @g2 @hp @kallT) ?_
   refine (pdown_ok (n := k) htx (by omega)).det' ?_
   by_cases hd : t / 2 ^ k = m
   . have htm : t = m * 2 ^ k := by
      have h1 : m * 2 ^ k <= t := by rw [<- hd]; exact Nat.div_mul_le_self _ _
      rw [ht, Nat.mod_eq_of_lt (by omega)]
     have hF := fin t htx (by rw [htg, htm])
     have i4 := eq_true hd
     rw [hF]
     by_cases hsg : (b &&& UInt32.ofInt 8388608).toNat = 0
     . have hsI : (((b &&& UInt32.ofInt 8388608).toNat : Int) = 0) = True := eq_true (by omega)
       by_cases t0 : t = 0
       . rw [if_pos (.inl t0)]
         have t0' : (t = 0) = True := eq_true t0
         simp -dsimp +decide (disch := omega) only [v1q, ↓reduceIte, Nat.reduceSub, Nat.reduceAdd, Nat.reduceMul, Nat.reduceLT, Int.reduceAdd, Int.reduceSub, Int.reduceToNat, v2q, ez, vbg, g1, g2, hp, kallT, neB hdx hmx, eqB htx z256, i4, hsI, t0', bb2, vres, vone]
         exact Vw.cut ⟨by rw [AV.wo, AV.woL_eq]; simp only [ofV, List.map_cons, List.map_nil, AV.wo, AV.woL_eq, Bg_wo], rfl, rfl⟩
       . rw [if_neg (by rw [not_or]; exact ⟨t0, fun h => h hsg⟩)]
         have t0' : (t = 0) = False := eq_false t0
         simp -dsimp +decide (disch := omega) only [v1q, ↓reduceIte, Nat.reduceSub, Nat.reduceAdd, Nat.reduceMul, Nat.reduceLT, Int.reduceAdd, Int.reduceSub, Int.reduceToNat, v2q, ez, vbg, g1, g2, hp, kallT, neB hdx hmx, eqB htx z256, i4, hsI, t0', bb2, vres, vone]
         exact Vw.cut ⟨by rw [AV.wo, AV.woL_eq]; simp only [ofV, List.map_cons, List.map_nil, AV.wo, AV.woL_eq, Bg_wo], rfl, rfl⟩
     . have hsI : (((b &&& UInt32.ofInt 8388608).toNat : Int) = 0) = False := eq_false (by omega)
       rw [if_pos (.inr hsg)]
       simp -dsimp +decide (disch := omega) only [v1q, ↓reduceIte, Nat.reduceSub, Nat.reduceAdd, Nat.reduceMul, Nat.reduceLT, Int.reduceAdd, Int.reduceSub, Int.reduceToNat, v2q, ez, vbg, g1, g2, hp, kallT, neB hdx hmx, eqB htx z256, i4, hsI, bb2, vres, vone]
       exact Vw.cut ⟨by rw [AV.wo, AV.woL_eq]; simp only [ofV, List.map_cons, List.map_nil, AV.wo, AV.woL_eq, Bg_wo], rfl, rfl⟩
   . have hF : ofT b.toNat = none := by
      rw [hof, htg]
      refine if_pos (.inr (.inl ?_))
      refine Classical.byContradiction fun h => hd ?_
      rw [ht, Nat.mod_eq_of_lt (by omega), Nat.mul_div_cancel _ (Nat.two_pow_pos k)]
     have i4 := eq_false hd
     rw [hF]
     unfold ofV
     simp -dsimp +decide (disch := omega) only [v1q, ↓reduceIte, Nat.reduceSub, Nat.reduceAdd, Nat.reduceMul, Nat.reduceLT, Int.reduceAdd, Int.reduceSub, Int.reduceToNat, v2q, ez, vbg, g1, g2, hp, kallT, neB hdx hmx, i4, bb2, vres, vone]
     exact Vw.cut ⟨by rw [AV.wo, AV.woL_eq]; simp only [ofV, List.map_cons, List.map_nil, AV.wo, AV.woL_eq, Bg_wo], rfl, rfl⟩
theorem cmpN_eq (t : Nat) : cmpN t = if 2 ^ 23 <= cmpP t then ((blen t + 7) / 8 + 1) * 2 ^ 24 + cmpP t / 2 ^ 8 else (blen t + 7) / 8 * 2 ^ 24 + cmpP t := by
 by_cases h : t = 0
 . subst h; rfl
 . rw [cmpN, if_neg h]
theorem limb_shr8 {p : Nat} (hp : p < 2 ^ 24) : u64_shr (limb p 0) 8 = limb (p / 2 ^ 8) 0 := by
 apply UInt64.toNat_inj.1
 rw [shr64 _ (by decide), limb0_nat (by omega), limb0_nat (by omega)]
theorem pcompact_ok {T : Tbl} {t : Nat} (ht : t < 2 ^ 256) : CallA prog G 61 [.ag (Bg t)] T fun v T' es => v = w32 (UInt32.ofNat (cmpN t)) /\ T' = T /\ es = [] := by
 refine CallA.wfs fun wf => ?_
 have wt := wf.t
 refine CallA.eV 16 func61 ntmps61 results61 ?_
 refine sqbx ?_
 rw [cmpN_eq]
 have hP := cmpP_lt t
 have hbl := blen_le ht
 have hcp : cmpP t = if (blen t + 7) / 8 < 3 then t * 2 ^ (8 * (3 - (blen t + 7) / 8)) else t / 2 ^ (8 * ((blen t + 7) / 8 - 3)) := rfl
 have g0 := fun l => gn0 T (.cells 47 (Bg t)) l
 refine tqbz (cj2 @vbg @g0) ?_
 refine (pbits_ok ht).det' ?_
 have hq : ((blen t : Int) + 7).tdiv 8 = (((blen t + 7) / 8 : Nat) : Int) := by
  rw [Int.tdiv_eq_ediv_of_nonneg (by omega)]; omega
 obtain ⟨n, hn⟩ : ∃ n, n = (blen t + 7) / 8 := ⟨_, rfl⟩
 rw [<- hn] at hq hcp ⊢
 have hn32 : n <= 32 := by omega
 refine tqbz (cj3 @vbg @hq @g0) ?_
 have hPx : cmpP t < 2 ^ 256 := by omega
 have hl0 := limb0_nat (p := cmpP t) (by omega)
 have hl8 := limb_shr8 hP
 by_cases h3 : ((3 : Int) <= (n : Int))
 . have i3 := eq_true h3
   have hp : (8 : Int) * ((n : Int) - 3) = ((8 * (n - 3) : Nat) : Int) := by omega
   rw [if_neg (show ¬ n < 3 by omega)] at hcp
   refine tqbz (cj4 @vbg @i3 @hp @g0) ?_
   refine (pdown_ok ht (by omega)).det' ?_
   rw [<- hcp]
   have hg := Bg_get (cmpP t) (j := 0) (by omega)
   revert hP hg hPx hl0 hl8
   generalize cmpP t = p
   intro hP hPx hl0 hl8 hg
   refine tqbz (cj3 @vbg @hg @g0) ?_
   refine CondP.dec (fun h => ?_) (fun h => ?_)
   . rw [if_pos (by omega)]
     refine tqbz (cj3 @vbg @hg @hl8) ?_
     rw [show UInt32.ofInt (n : Int) + UInt32.ofInt 1 = UInt32.ofInt ((n + 1 : Nat) : Int) by rw [<- UInt32.ofInt_add]; rfl, compact_or (by omega) (by omega)]
     exact Vw.cut ⟨rfl, rfl, rfl⟩
   . rw [if_neg (by omega)]
     refine tqbz (cj2 @vbg @hg) ?_
     rw [compact_or (by omega) hP]
     exact Vw.cut ⟨rfl, rfl, rfl⟩
 . have i3 := eq_false h3
   have hp : (8 : Int) * (3 - (n : Int)) = ((8 * (3 - n) : Nat) : Int) := by omega
   rw [if_pos (show n < 3 by omega)] at hcp
   have hg := Bg_get t (j := 0) (by omega)
   have hcn : (UInt64.ofInt ((8 * (3 - n) : Nat) : Int)).toNat = 8 * (3 - n) := ofInt_lt (by omega)
   have hsh : u64_shl (limb t 0) (8 * (3 - n)) = limb (cmpP t) 0 := by
    have := up_limb (x := t) (n := 8 * (3 - n)) (k := 0) (s := 8 * (3 - n)) (i := 0) (by omega) (by omega) (by omega) (by omega)
    rw [if_neg (by omega), UInt64.or_zero, <- hcp, Nat.mod_eq_of_lt hPx] at this
    exact this.symm
   revert hP hPx hl0 hl8 hsh
   generalize cmpP t = p
   intro hP hPx hl0 hl8 hsh
   refine tqbz (cj8 @vbg @i3 @hp @g0 @hg @hcn @hsh @Bg_len) ?_
   refine ⟨by omega, ?_⟩
   refine CondP.dec (fun h => ?_) (fun h => ?_)
   . rw [if_pos (by omega)]
     refine tqbz (cj2 @vbg @hl8) ?_
     rw [show UInt32.ofInt (n : Int) + UInt32.ofInt 1 = UInt32.ofInt ((n + 1 : Nat) : Int) by rw [<- UInt32.ofInt_add]; rfl, compact_or (by omega) (by omega)]
     exact Vw.cut ⟨rfl, rfl, rfl⟩
   . rw [if_neg (by omega)]
     refine tqbz @vbg ?_
     rw [compact_or (by omega) hP]
     exact Vw.cut ⟨rfl, rfl, rfl⟩
theorem pmeets_ok {T : Tbl} {h : List UInt8} {t : Nat} (hh : h.length = 32) (ht : t < 2 ^ 256) : CallA prog G 74 [.ag (h.map by8), .ag (Bg t)] T fun v T' es => v = .p (.bool (decide (t ≠ 0 /\ hN h <= t))) /\ T' = T /\ es = [] := by
 refine CallA.wfs fun wf => ?_
 have wt := wf.t
 have z256 : 0 < 2 ^ 256 := by decide
 have hx : hN h < 2 ^ 256 := by have := hN_lt h; rwa [hh] at this
 have g0 := fun l => gn0 T (.cells 26 (h.map by8)) l
 have g1 := fun a l => gn1 T a (.cells 47 (Bg t)) l
 have ez : [oQ, oQ, oQ, oQ] = Bg 0 := rfl
 refine CallA.eV 5 func74 ntmps74 results74 ?_
 refine sqbx ?_
 refine SemA.draw (fun _ => true) [(0, true), (1, false), (2, true), (3, true), (4, true), (5, true), (6, false), (7, false), (8, true), (9, true), (10, true)] mixed (by kernel_rfl) ?_
 by_cases t0 : t = 0
 . have t0' : (t = 0) = True := eq_true t0
   rw [show decide (t ≠ 0 /\ hN h <= t) = false by simp [t0]]
   simp -dsimp +decide (disch := omega) only [v1q, ↓reduceIte, Nat.reduceSub, Nat.reduceAdd, Nat.reduceMul, Nat.reduceLT, Int.reduceAdd, Int.reduceSub, Int.reduceToNat, v2q, ez, vbg, vh, hh, neB ht z256, t0', g0, g1]
   exact Vw.cut ⟨rfl, rfl, rfl⟩
 . have t0' : (t = 0) = False := eq_false t0
   simp -dsimp +decide (disch := omega) only [v1q, ↓reduceIte, Nat.reduceSub, Nat.reduceAdd, Nat.reduceMul, Nat.reduceLT, Int.reduceAdd, Int.reduceSub, Int.reduceToNat, v2q, ez, vbg, vh, hh, List.drop_zero, neB ht z256, t0', g0, g1]
   refine (pofhash_ok hh).det' ?_
   refine tqbz (cj7 @ez @vbg @vh @hh @List.drop_zero.{0} @g0 @g1) ?_
   refine (pless_ok ht hx).det' ?_
   rw [show decide (t ≠ 0 /\ hN h <= t) = !decide (t < hN h) by rw [<- decide_not, decide_eq_decide]; omega]
   refine tqbz (cj7 @ez @vbg @vh @hh @List.drop_zero.{0} @g0 @g1) ?_
   exact Vw.cut ⟨rfl, rfl, rfl⟩
def atN : Nat -> Nat
 | 0 => 0
 | 1 => 68
 | 2 => 72
 | _ => 76
def offN : Nat -> Nat
 | 0 => 0
 | 1 => 65
 | 2 => 66
 | _ => 67
def Hdr.num (h : Hdr) : Nat -> UInt32
 | 0 => h.v
 | 1 => h.time
 | 2 => h.bits
 | _ => h.nonce
def numsA (i : Nat) : List AV := [wint 0, .ptr i 0, wint 68, .ptr i 65, wint 72, .ptr i 66, wint 76, .ptr i 67]
theorem hnums_ok {T : Tbl} {i : Nat} (hi : i < T.length) : CallA prog G 101 [.ptr i 0] T fun v T' es => v = .ag (numsA i) /\ T' = T /\ es = [] := by
 refine CallA.wfs fun wf => ?_
 have wt := wf.t
 refine CallA.eV 3 func101 ntmps101 results101 ?_
 refine sqcx ?_
 refine SemA.draw (fun i => true) [(0, true), (1, true), (2, true), (3, true), (4, true), (5, true), (6, true), (7, true), (8, true), (9, true), (10, true), (11, true), (12, true), (13, true), (14, true), (15, true), (16, true), (17, false)] mixed (by kernel_rfl) ?_
 refine tqcz @kallT ?_
 show getO (some (numsA i)) _
 refine tqcz @kallT ?_
 have hd : decide (T.length <= i) = false := decide_eq_false (by omega)
 refine ⟨⟨rfl, Nat.succ_pos _, Nat.le_refl _, rfl⟩, Nat.le_refl 8, Vw.cut ⟨?_, rfl, rfl⟩⟩
 show AV.wo _ (AV.ag (numsA i)) = _
 rw [AV.wo, AV.woL_eq]
 simp [numsA, AV.wo, hd]
 exact ⟨rfl, rfl, rfl, rfl⟩
def lowb (n : UInt32) (i : Nat) : UInt8 := (u32_shr n (8 * i)).toUInt8
def put4 (b : List UInt8) (a : Nat) (n : UInt32) : Nat -> List UInt8
 | 0 => b
 | i + 1 => (put4 b a n i).set (a + i) (lowb n i)
theorem put4_len (b : List UInt8) (a : Nat) (n : UInt32) : ∀ i, (put4 b a n i).length = b.length
 | 0 => rfl
 | i + 1 => by rw [put4, List.length_set, put4_len b a n i]
def bufP (h : Hdr) : Nat -> List UInt8
 | 0 => List.replicate 80 0
 | k + 1 => put4 (bufP h k) (atN k) (h.num k) 4
theorem bufP_len (h : Hdr) : ∀ k, (bufP h k).length = 80
 | 0 => List.length_replicate
 | k + 1 => by rw [bufP, put4_len, bufP_len h k]
theorem nums_at (i : Nat) {k : Nat} (h : k < 4) : List.take 2 (List.drop (k * 2) (numsA i)) = [wint (atN k), .ptr i (offN k)] := by
 match k, h with
 | 0, _ => rfl
 | 1, _ => rfl
 | 2, _ => rfl
 | 3, _ => rfl
theorem at_le {k : Nat} (h : k < 4) : atN k <= 76 := by
 match k, h with
 | 0, _ => decide
 | 1, _ => decide
 | 2, _ => decide
 | 3, _ => decide
theorem Hdr.off {h : Hdr} (ok : h.Ok) {k : Nat} (hk : k < 4) : h.cs[offN k]? = some (w32 (h.num k)) := by
 have hr := Hdr.rules ok
 match k, hk with
 | 0, _ => exact hr.2.1
 | 1, _ => exact hr.2.2.2.2.1
 | 2, _ => exact hr.2.2.2.2.2.1
 | 3, _ => exact hr.2.2.2.2.2.2.1
theorem shr0 (n : UInt32) : u32_shr n 0 = n := by
 apply UInt32.toNat_inj.1
 rw [u32_shr, if_pos (by decide), UInt32.toNat_shiftRight]
 show n.toNat >>> 0 = _
 rfl
theorem lw4_low (n : UInt32) : lw4 n = [lowb n 0, lowb n 1, lowb n 2, lowb n 3] := by
 rw [lw4, lowb, lowb, lowb, lowb, Nat.mul_zero, shr0]
theorem bufP_end (h : Hdr) : bufP h 4 = lw4 h.v ++ (List.replicate 64 0 ++ (lw4 h.time ++ (lw4 h.bits ++ lw4 h.nonce))) := by
 rw [lw4_low, lw4_low, lw4_low, lw4_low]
 simp only [bufP, put4, Hdr.num, atN]
 generalize lowb h.v 0 = a0
 generalize lowb h.v 1 = a1
 generalize lowb h.v 2 = a2
 generalize lowb h.v 3 = a3
 generalize lowb h.time 0 = b0
 generalize lowb h.time 1 = b1
 generalize lowb h.time 2 = b2
 generalize lowb h.time 3 = b3
 generalize lowb h.bits 0 = c0
 generalize lowb h.bits 1 = c1
 generalize lowb h.bits 2 = c2
 generalize lowb h.bits 3 = c3
 generalize lowb h.nonce 0 = d0
 generalize lowb h.nonce 1 = d1
 generalize lowb h.nonce 2 = d2
 generalize lowb h.nonce 3 = d3
 rfl
theorem wrA_by8 {L m : List UInt8} {off : Nat} (h : off + m.length <= L.length) : wrA (L.map by8) off (m.map by8) = (L.take off ++ m ++ L.drop (off + m.length)).map by8 := by
 rw [wrA_eq (by rw [List.length_map, List.length_map]; exact h), List.length_map, List.map_append, List.map_append, List.map_take, List.map_drop]
theorem pput_ok {T : Tbl} {h : Hdr} (ok : h.Ok) : CallA prog G 63 [.ag h.cs] T fun v T' es => v = .vs (h.bytes.map by8) 80 /\ T' = T /\ es = [] := by
 refine CallA.wfs fun wf => ?_
 have wt := wf.t
 have wp := wf.p
 have hr := Hdr.rules ok
 have hlc := Hdr.cs_len ok
 refine CallA.eV 13 func63 ntmps63 results63 ?_
 refine sqcx ?_
 refine (hnums_ok (i := T.length) (by simp)).det' ?_
 refine tqcz @hr ?_
 have hz : (List.replicate 80 [oB]).flatten = (bufP h 0).map by8 := by
  rw [bufP, List.map_replicate]; simp; rfl
 rw [hz]
 refine SemA.loopK (T.length + 2) (fun k : Nat => [(1, .ptr T.length 0), (3, .sl (T.length + 1) 0 80), (8, .ag (numsA T.length)), (9, wint (k : Int))]) (fun k => T ++ [.cells 28 h.cs, .buf 5 1 ((bufP h k).map by8)]) (fun k => k <= 4) (fun k => 4 - k) 0 [] 0 (fun _ : Unit => [(1, .ptr T.length 0), (3, .sl (T.length + 1) 0 80)]) (fun _ => T ++ [.cells 28 h.cs, .buf 5 1 ((bufP h 4).map by8)]) (fun _ => True) (by omega) (by simp) (by (simp -dsimp +decide (disch := omega) only [vt2, vy, vz, vze, v1q, ↓reduceIte, Nat.reduceSub, Nat.reduceAdd, Nat.reduceMul, Nat.reduceLT, Int.reduceAdd, Int.reduceSub, Int.reduceToNat, v4q]); first | rfl | exact ⟨rfl, rfl, rfl, rfl⟩ | done) rfl (by simp) ?_ ?_
 . rintro k g hk
   refine SemA.o ?_
   refine sqcz ?_
   refine CondP.dec (fun hc => ?_) (fun hc => ?_)
   . have hk4 : k < 4 := by omega
     have hna := nums_at T.length hk4
     have hat := at_le hk4
     have hof := Hdr.off ok hk4
     obtain ⟨B, hB⟩ : ∃ B, B = bufP h k := ⟨_, rfl⟩
     have hBl : B.length = 80 := by rw [hB, bufP_len]
     have hnx : bufP h (k + 1) = put4 B (atN k) (h.num k) 4 := by rw [bufP, hB]
     rw [<- hB]
     refine tqcz @hna ?_
     refine ⟨⟨by omega, by omega⟩, by show k * 2 + 2 <= 8; omega, ?_⟩
     refine SemA.loopE (fun i : Nat => [(1, .ptr T.length 0), (3, .sl (T.length + 1) 0 80), (5, .ptr (T.length + 2) 0), (8, .ag (numsA T.length)), (9, wint (k : Int)), (12, wint (i : Int))]) (fun i => T ++ [.cells 28 h.cs, .buf 5 1 ((put4 B (atN k) (h.num k) i).map by8), .cells 138 [wint (atN k), .ptr T.length (offN k)]]) (fun i => i <= 4) (fun i => 4 - i) 0 [] 2 (fun _ : Unit => [(1, .ptr T.length 0), (3, .sl (T.length + 1) 0 80), (8, .ag (numsA T.length)), (9, wint (k : Int))]) (fun _ => T ++ [.cells 28 h.cs, .buf 5 1 ((put4 B (atN k) (h.num k) 4).map by8), .cells 138 [wint (atN k), .ptr T.length (offN k)]]) (fun _ => True) (by simp) (by (simp -dsimp +decide (disch := omega) only [vt2, vy, vz, vze, v1q, ↓reduceIte, Nat.reduceSub, Nat.reduceAdd, Nat.reduceMul, Nat.reduceLT, Int.reduceAdd, Int.reduceSub, Int.reduceToNat, v4q]); first | rfl | exact ⟨rfl, rfl, rfl, rfl, rfl, rfl⟩ | done) rfl (by simp) ?_ ?_
     . rintro i g hi
       refine SemA.o ?_
       refine sqcz ?_
       refine CondP.dec (fun hc2 => ?_) (fun hc2 => ?_)
       . obtain ⟨C, hC⟩ : ∃ C, C = put4 B (atN k) (h.num k) i := ⟨_, rfl⟩
         have hCl : C.length = 80 := by rw [hC, put4_len, hBl]
         have hnx2 : put4 B (atN k) (h.num k) (i + 1) = C.set (atN k + i) (lowb (h.num k) i) := by rw [put4, hC]
         rw [<- hC]
         have g0 := fun l => gn0 T (.cells 28 h.cs) l
         have g2 := fun a b l => gn2 T a b (.cells 138 [wint (atN k), .ptr T.length (offN k)]) l
         have hsum : ((atN k : Nat) : Int) + (i : Int) = ((atN k + i : Nat) : Int) := by omega
         have hmul : (8 : Int) * (i : Int) = ((8 * i : Nat) : Int) := by omega
         have hcn : (UInt64.ofInt ((8 * i : Nat) : Int)).toNat = 8 * i := ofInt_lt (by omega)
         have hlb : (u32_shr (h.num k) (8 * i)).toUInt8 = lowb (h.num k) i := rfl
         refine sqcz ?_
         refine SemA.draw (fun i => true) [(0, true), (1, true), (2, true), (3, true), (4, true), (5, true), (6, true), (7, true), (8, true), (9, true), (10, true), (11, true), (12, true), (13, true), (14, false)] mixed (by kernel_rfl) ?_
         refine tqcz (cj10 @g0 @g2 @hof @hsum @hmul @hcn @hlb @kallT @List.length_map.{0, 0} @hCl) ?_
         have hCne : List.map by8 C ≠ [] := fun e => by have := congrArg List.length e; rw [List.length_map, hCl] at this; cases this
         exact ⟨by omega, ⟨by omega, by omega, hCne⟩, by omega, i + 1, ⟨by omega, by omega⟩, rfl, by rw [hnx2]⟩
       . have e : i = 4 := by omega
         subst e
         refine tqcz @wt ?_
         first | exact ⟨(), trivial⟩ | exact ⟨(), rfl⟩ | exact ⟨(), rfl, rfl⟩
     . rintro _ g tmp -
       have hnw : List.map (AV.wo fun x => decide (T.length + 2 <= x)) (numsA T.length) = numsA T.length := by
        simp [numsA, AV.wo]
        exact ⟨rfl, rfl, rfl, rfl⟩
       refine tqcz (cj2 @wt @hr) ?_
       exact ⟨k + 1, ⟨by omega, by omega⟩, ⟨by rw [hnw], rfl⟩, by rw [hnx]⟩
   . have e : k = 4 := by omega
     subst e
     refine tqcz (cj2 @wt @hr) ?_
     first | exact ⟨(), trivial⟩ | exact ⟨(), rfl⟩ | exact ⟨(), rfl, rfl⟩
 . rintro _ g tmp -
   have hbl := bufP_len h 4
   have g0 := fun l => gn0 T (.cells 28 h.cs) l
   have ht1 : List.take 32 h.prev = h.prev := List.take_of_length_le (Nat.le_of_eq ok.p)
   have ht2 : List.take 32 h.root = h.root := List.take_of_length_le (Nat.le_of_eq ok.r)
   have m1 : min 32 76 = 32 := rfl
   have m2 : min 32 44 = 32 := rfl
   have hcp1 := wrA_by8 (L := bufP h 4) (off := 4) (m := h.prev) (by rw [ok.p, hbl]; decide)
   rw [ok.p] at hcp1
   obtain ⟨R, hR⟩ : ∃ R, R = lw4 h.time ++ (lw4 h.bits ++ lw4 h.nonce) := ⟨_, rfl⟩
   have hW1 : List.take 4 (bufP h 4) ++ h.prev ++ List.drop (4 + 32) (bufP h 4) = lw4 h.v ++ (h.prev ++ (List.replicate 32 0 ++ R)) := by
    rw [bufP_end, List.append_assoc, hR]; rfl
   rw [hW1] at hcp1
   obtain ⟨W, hW⟩ : ∃ W, W = lw4 h.v ++ (h.prev ++ (List.replicate 32 0 ++ R)) := ⟨_, rfl⟩
   have hWl : W.length = 80 := by rw [hW, hR]; simp [lw4, ok.p]
   rw [<- hW] at hcp1
   have hcp2 := wrA_by8 (L := W) (off := 36) (m := h.root) (by rw [ok.r, hWl]; decide)
   rw [ok.r] at hcp2
   have hW2 : List.take 36 W ++ h.root ++ List.drop (36 + 32) W = h.bytes := by
    have e1 : W = (lw4 h.v ++ h.prev) ++ (List.replicate 32 0 ++ R) := by rw [hW, List.append_assoc]
    have e2 : W = ((lw4 h.v ++ h.prev) ++ List.replicate 32 0) ++ R := by rw [hW]; simp only [List.append_assoc]
    have t1 : List.take 36 W = lw4 h.v ++ h.prev := by rw [e1, List.take_left' (by simp [lw4, ok.p])]
    have t2 : List.drop (36 + 32) W = R := by rw [e2, List.drop_left' (by simp [lw4, ok.p])]
    rw [t1, t2, hR, Hdr.bytes]; simp only [List.append_assoc]
   rw [hW2] at hcp2
   refine SemA.draw (fun i => true) [(0, true), (1, true), (2, true), (3, true), (4, false)] mixed (by kernel_rfl) ?_
   simp -dsimp +decide (disch := omega) only [vt2, vy, vz, vze, v1q, ↓reduceIte, Nat.reduceSub, Nat.reduceAdd, Nat.reduceMul, Nat.reduceLT, Int.reduceAdd, Int.reduceSub, Int.reduceToNat, v2q, g0, kallT, List.length_map, hbl, hr, vh, ok.p, ok.r, m1, m2, hcp1, ht1]
   refine SemA.draw (fun i => true) [(0, true), (1, true), (2, true), (3, true), (4, false)] mixed (by kernel_rfl) ?_
   simp -dsimp +decide (disch := omega) only [vt2, vy, vz, vze, v1q, ↓reduceIte, Nat.reduceSub, Nat.reduceAdd, Nat.reduceMul, Nat.reduceLT, Int.reduceAdd, Int.reduceSub, Int.reduceToNat, v2q, g0, kallT, List.length_map, hbl, hWl, hr, vh, ok.p, ok.r, m1, m2, hcp2, ht2]
   refine Vw.pub (T.length + 1) (o := .buf 5 1 (h.bytes.map by8)) (gn1 T _ _ _) rfl (clean8 _) ?_
   refine tqcx (cj2 @vt @wp) ?_
   exact Vw.cut ⟨rfl, rfl, rfl⟩
theorem pid_ok {T : Tbl} {h : Hdr} (ok : h.Ok) : CallA prog G 28 [.ag h.cs] T fun v T' es => v = .ag (h.id.map by8) /\ T' = T /\ es = [] := by
 refine CallA.wfs fun wf => ?_
 have wt := wf.t
 have hr := Hdr.rules ok
 have hl := Hdr.bytes_len ok
 have hi := h.id_len
 have hb : ∀ T', Bs T' (.vs (h.bytes.map by8) 80) h.bytes := fun T' => hl ▸ Sl.vs _ _ (by simp)
 refine CallA.eV 3 func28 ntmps28 results28 ?_
 refine sqcx ?_
 refine tqcz (cj2 @hr @ez32) ?_
 refine (pput_ok ok).det' ?_
 refine tqcz (cj2 @hr @ez32) ?_
 refine (twice_ok (hb _)).det' ?_
 rw [show twice h.bytes = h.id from rfl]
 refine tqcz (cj5 @hr @vh @hi @vres @List.drop_zero.{0}) ?_
 exact Vw.cut ⟨by rw [AV.wo, AV.woL_eq, wb8], rfl, rfl⟩
def z68 : List AV := w32 0 :: (z32 ++ (z32 ++ [w32 0, w32 0, w32 0]))
theorem ez68 : [oW, oB, oB, oB, oB, oB, oB, oB, oB, oB, oB, oB, oB, oB, oB, oB, oB, oB, oB, oB, oB, oB, oB, oB, oB, oB, oB, oB, oB, oB, oB, oB, oB, oB, oB, oB, oB, oB, oB, oB, oB, oB, oB, oB, oB, oB, oB, oB, oB, oB, oB, oB, oB, oB, oB, oB, oB, oB, oB, oB, oB, oB, oB, oB, oB, oW, oW, oW] = z68 := rfl
theorem vz68 : z68.length = 68 /\ (∀ h : Hdr, h.Ok -> wrA z68 0 h.cs = h.cs) := ⟨rfl, fun h ok => wrA_all (by rw [Hdr.cs_len ok]; rfl)⟩
theorem vmm (P : Program) (ts : Array TypeId) (ty : TypeId) (k k2 : IntKind) (x y : Int) (K : AV -> Prop) :
 (pureK P K (Builtin.max_ ts ty #[.int k x, .int k2 y]) = K (.p (.int k (max x y)))) /\ (pureK P K (Builtin.min_ ts ty #[.int k x, .int k2 y]) = K (.p (.int k (min x y)))) := by
 have h1 : max x y = if y > x then y else x := by split <;> omega
 have h2 : min x y = if y < x then y else x := by split <;> omega
 rw [h1, h2]
 exact ⟨pureK_det fun _ => rfl, pureK_det fun _ => rfl⟩
def ofN (b : UInt32) : Nat := (ofT b.toNat).getD 0
theorem ofV_n (b : UInt32) : ofV (ofT b.toNat) = .tu [.ag (Bg (ofN b)), .p (.bool (ofT b.toNat).isSome)] := by
 unfold ofN ofV
 cases ofT b.toNat <;> rfl
theorem ofN_lt (b : UInt32) : ofN b < 2 ^ 256 := by
 unfold ofN
 cases h : ofT b.toNat with
 | none => simp
 | some t => exact (ofT_lt h).1
theorem mayB_is {p : Par} (h : mayB p = true) : 2 <= p.interval /\ p.interval <= 2016 /\ 1 <= p.spacing.toNat /\ p.spacing.toNat <= 3600 /\ p.first.bits = p.limit /\ mayP p = true /\ UInt32.ofNat (cmpN (ofN p.limit)) = p.limit /\ ofT p.limit.toNat = some (ofN p.limit) := by
 unfold mayB at h
 unfold ofN
 cases ho : ofT p.limit.toNat with
 | none => rw [ho] at h; cases h
 | some t =>
   rw [ho] at h
   simp only [Bool.and_eq_true, decide_eq_true_eq] at h
   exact ⟨h.1.1.1.1.1.2, h.1.1.1.1.2, h.1.1.1.2, h.1.1.2, h.1.2, h.2, h.1.1.1.1.1.1, rfl⟩
def wantN (p : Par) : Nat := p.interval.toNat * p.spacing.toNat
def spanN (p : Par) (la fi : UInt32) : Nat := (min (max ((la.toNat : Int) - fi.toNat) ((wantN p / 4 : Nat) : Int)) ((4 * wantN p : Nat) : Int)).toNat
def turnB (p : Par) (la fi : Hdr) : UInt32 := UInt32.ofNat (cmpN (max 1 (min (ofN la.bits * spanN p la.time fi.time / wantN p) (ofN p.limit))))
noncomputable def bitsB (p : Par) (hs : List Hdr) : UInt32 := match hs.getLast? with
 | none => 0
 | some la => if mayB p = false then 0 else if hs.length % p.interval.toNat ≠ 0 then la.bits else
   match hs[hs.length - p.interval.toNat]? with
   | none => 0
   | some fi => turnB p la fi
theorem part13N {T : Tbl} {x most n m : Nat} (hx : x < 2 ^ 256) (hmost : most < 2 ^ 256) (hn : n < 2 ^ 64) (hm2 : m < 2 ^ 64) (hm : 0 < m) :
 CallA prog G 85 [.ag (Bg x), .p (.int .u64 (n : Int)), .p (.int .u64 (m : Int)), .ag (Bg most)] T fun v T' es => v = .ag (Bg (min (x * n / m) most)) /\ T' = T /\ es = [] := by
 have e : ∀ k, k < 2 ^ 64 -> (UInt64.ofNat k).toNat = k := fun k h => by rw [UInt64.toNat_ofNat', Nat.mod_eq_of_lt h]
 have := part13_ok (T := T) (n := UInt64.ofNat n) (m := UInt64.ofNat m) hx hmost (by rw [e m hm2]; exact hm)
 rw [w64, w64, e n hn, e m hm2] at this
 exact this
theorem bits13_ok {T : Tbl} {p : Par} (ok : p.Ok) {a : AV} {hs : List Hdr} (hb : Es T 68 Hdr.cs a hs) (hok : ∀ x ∈ hs, x.Ok) (hl : hs.length <= 1000000) : CallA prog G 43 [.ag p.cs, a] T fun v T' es => v = w32 (bitsB p hs) /\ T' = T /\ es = [] := by
 refine CallA.wfs fun wf => ?_
 have wt := wf.t
 have hr := Par.rules ok
 have hsr := Sl.rules hb.sl (by decide)
 have hld := hb.ld (P := prog) (t := 28) (by (simp -dsimp +decide only [v5q, ↓reduceIte, Nat.reduceSub, Nat.reduceAdd, Nat.reduceMul, Nat.reduceLT, Int.reduceAdd, Int.reduceSub, Int.reduceToNat, ci])) (by (simp -dsimp +decide only [v5q, ↓reduceIte, Nat.reduceSub, Nat.reduceAdd, Nat.reduceMul, Nat.reduceLT, Int.reduceAdd, Int.reduceSub, Int.reduceToNat, ci])) (by decide)
 have hl1 := Sl.loads hb.sl (P := prog) (t := 23) (by (simp -dsimp +decide only [v5q, ↓reduceIte, Nat.reduceSub, Nat.reduceAdd, Nat.reduceMul, Nat.reduceLT, Int.reduceAdd, Int.reduceSub, Int.reduceToNat, ci]))
 have g0 := fun l => gn0 T (.cells 30 p.cs) l
 have ez : [oQ, oQ, oQ, oQ] = Bg 0 := rfl
 refine CallA.eV 16 func43 ntmps43 results43 ?_
 refine sqax ?_
 cases hn : hs.getLast? with
 | none =>
   rw [List.getLast?_eq_none_iff] at hn
   subst hn
   rw [show bitsB p [] = 0 from rfl]
   refine tqaz (cj3 @hr @hsr @List.length_nil.{0}) ?_
   exact Vw.cut ⟨rfl, rfl, rfl⟩
 | some la =>
   have hlast : hs[hs.length - 1]? = some la := by rw [<- List.getLast?_eq_getElem?, hn]
   have hne : 0 < hs.length := by
    rcases hs with _ | ⟨x, l⟩
    . cases hn
    . exact Nat.succ_pos _
   have hla := hok la (List.mem_of_getElem? hlast)
   have hlr := Hdr.rules hla
   have hl0 : ((hs.length : Int) = 0) = False := eq_false (by omega)
   refine tqaz (cj4 @hr @hsr @hl0 @g0) ?_
   refine (may13_ok ok).det' ?_
   cases hm : mayB p with
   | false =>
     rw [show bitsB p hs = 0 by unfold bitsB; rw [hn]; simp [hm]]
     refine tqaz (cj5 @hr @hsr @hl0 @g0 @bb2) ?_
     exact Vw.cut ⟨rfl, rfl, rfl⟩
   | true =>
     obtain ⟨m1, m2, m3, m4, -, -, -, m5⟩ := mayB_is hm
     obtain ⟨iv, hiv⟩ := Int.eq_ofNat_of_zero_le (show 0 <= p.interval by omega)
     refine tqaz (cj5 @hr @hsr @hl0 @g0 @bb2) ?_
     refine ⟨⟨by omega, by omega⟩, ?_⟩
     have hiv2 : 2 <= iv := by omega
     have hrem : (hs.length : Int).tmod (p.interval) = ((hs.length % iv : Nat) : Int) := by rw [hiv]; rfl
     refine tqaz (cj12 @hr @hsr @hl0 @g0 @bb2 @hld @hlast @ez68 @vz68 @hlr @hla @hrem) ?_
     refine ⟨by omega, CondP.ndec (fun h => ?_) (fun h => ?_)⟩
     . rw [show bitsB p hs = la.bits by unfold bitsB; rw [hn]; simp only [hm]; rw [hiv, Int.toNat_natCast, if_neg (by decide), if_pos (by omega)]]
       refine tqaz (cj6 @hr @hsr @hl0 @g0 @hld @hlr) ?_
       exact Vw.cut ⟨rfl, rfl, rfl⟩
     have h0 : hs.length % iv = 0 := by omega
     have hle : iv <= hs.length := Nat.le_of_dvd hne (Nat.dvd_of_mod_eq_zero h0)
     obtain ⟨fi, hfi⟩ : ∃ fi, hs[hs.length - iv]? = some fi := ⟨hs[hs.length - iv]'(by omega), by simp⟩
     have hfo := hok fi (List.mem_of_getElem? hfi)
     rw [show bitsB p hs = turnB p la fi by unfold bitsB; rw [hn]; simp only [hm]; rw [hiv, Int.toNat_natCast, if_neg (by decide), if_neg (by omega), hfi]]
     have hsub : (hs.length : Int) - p.interval = ((hs.length - iv : Nat) : Int) := by omega
     have hmul : p.interval * (p.spacing.toNat : Int) = ((wantN p : Nat) : Int) := by unfold wantN; rw [hiv, Int.toNat_natCast]; rfl
     have hw : wantN p <= 2016 * 3600 := by unfold wantN; exact Nat.mul_le_mul (by omega) m4
     have hw2 : 2 <= wantN p := by unfold wantN; exact Nat.mul_le_mul (show 2 <= p.interval.toNat by omega) m3
     have hfd := fun j k (K : AV -> Prop) => Sl.fld (K := K) hb.sl hne j k
     have hcell : (hs.flatMap Hdr.cs)[(hs.length - iv) * 68 + 65]? = some (w32 fi.time) := by
      rw [flat_cell hb.wd hfi (by decide)]; exact (Hdr.rules hfo).2.2.2.2.1
     have g1 := fun a l => gn1 T a (.cells 28 la.cs) l
     have g2 := fun a b c l => gn2 T a b (.cells 47 c) l
     have t1 := la.time.toNat_lt
     have t2 := fi.time.toNat_lt
     refine tqaz (cj10 @hr @hsr @hl0 @g0 @g1 @bb2 @hld @hl1 @hlr @hmul) ?_
     refine SemA.draw (fun i => true) [(0, true), (1, true), (2, true), (3, true), (4, true), (5, true), (6, true), (7, true), (8, true), (9, true), (10, true), (11, true), (12, true), (13, true)] mixed (by kernel_rfl) ?_
     refine tqaz (cj13 @hr @hsr @hl0 @g0 @g1 @bb2 @hld @hl1 @hlr @hsub @hfd @hcell @vmm) ?_
     refine ⟨⟨by omega, by omega⟩, ?_⟩
     have hspan : min (max ((la.time.toNat : Int) - (fi.time.toNat : Int)) ((wantN p / 4 : Nat) : Int)) (4 * ((wantN p : Nat) : Int)) = ((spanN p la.time fi.time : Nat) : Int) := by unfold spanN; omega
     have hsl : spanN p la.time fi.time <= 4 * wantN p := by unfold spanN; omega
     rw [hspan]
     refine of03_ok.det' ?_
     rw [ofV_n]
     refine tqaz (cj9 @hr @hsr @hl0 @g0 @g1 @bb2 @vbg @ez @hlr) ?_
     refine of03_ok.det' ?_
     rw [ofV_n]
     have hu1 : (UInt64.ofInt ((spanN p la.time fi.time : Nat) : Int)).toNat = spanN p la.time fi.time := ofInt_lt (by omega)
     have hu2 : (UInt64.ofInt ((wantN p : Nat) : Int)).toNat = wantN p := ofInt_lt (by omega)
     refine tqaz (cj12 @hr @hsr @hl0 @g0 @g1 @g2 @bb2 @vbg @ez @hlr @hu1 @hu2) ?_
     refine (part13N (ofN_lt _) (ofN_lt _) (by omega) (by omega) (by omega)).det' ?_
     have ht : min (ofN la.bits * spanN p la.time fi.time / wantN p) (ofN p.limit) < 2 ^ 256 := Nat.lt_of_le_of_lt (Nat.min_le_right _ _) (ofN_lt _)
     unfold turnB
     revert ht
     generalize min (ofN la.bits * spanN p la.time fi.time / wantN p) (ofN p.limit) = t
     intro ht
     have e1 : [AV.p (Value.int IntKind.u64 1), oQ, oQ, oQ] = Bg 1 := rfl
     have g4 := fun a b c d e l => gn4 T a b c d (.cells 47 e) l
     simp -dsimp +decide (disch := omega) only [v5q, ↓reduceIte, Nat.reduceSub, Nat.reduceAdd, Nat.reduceMul, Nat.reduceLT, Int.reduceAdd, Int.reduceSub, Int.reduceToNat, v2q, hr, hsr, hl0, g0, g1, g2, bb2, vbg, ez, e1, hlr, eqB ht (show 0 < 2 ^ 256 by decide)]
     refine CondP.dec (fun h => ?_) (fun h => ?_)
     . subst h
       refine tqaz (cj3 @ez @e1 @vbg) ?_
       refine (compact03_ok (show 1 < 2 ^ 256 by decide)).det' ?_
       refine tqaz (cj2 @vbg @wt) ?_
       exact Vw.cut ⟨rfl, rfl, rfl⟩
     . refine tqaz (cj3 @ez @e1 @vbg) ?_
       refine (compact03_ok ht).det' ?_
       rw [Nat.max_eq_right (by omega)]
       refine tqaz (cj2 @vbg @wt) ?_
       exact Vw.cut ⟨rfl, rfl, rfl⟩
def lastH (pts : List Pt) : Nat -> Int
 | 0 => -1
 | k + 1 => match pts[k]? with
   | some x => x.h
   | none => -1
theorem ptOK_last {f : List UInt8} {pts : List Pt} {k : Nat} {x : Pt} (hx : pts[k]? = some x) (hp : ∀ j, j < k -> ptOK f pts j) : ptOK f pts k ↔ lastH pts k < x.h /\ (x.h = 0 -> x.id = f) := by
 cases k with
 | zero =>
   constructor
   . intro h
     have := h x hx
     exact ⟨by show (-1 : Int) < x.h; omega, this.2.2⟩
   . rintro ⟨h1, h2⟩ y hy
     rw [hx] at hy; cases hy
     have h1 : (-1 : Int) < x.h := h1
     exact ⟨by omega, fun _ h _ => absurd h (by omega), h2⟩
 | succ k =>
   obtain ⟨y, hy⟩ : ∃ y, pts[k]? = some y := ⟨pts[k]'(by have := (List.getElem?_eq_some_iff.1 hx).1; omega), by simp⟩
   have hl : lastH pts (k + 1) = y.h := by rw [lastH, hy]
   rw [hl]
   constructor
   . intro h
     have := h x hx
     exact ⟨this.2.1 y (by omega) hy, this.2.2⟩
   . rintro ⟨h1, h2⟩ z hz
     rw [hx] at hz; cases hz
     have := hp k (by omega) y hy
     refine ⟨by omega, fun z _ hz => ?_, h2⟩
     rw [Nat.add_sub_cancel, hy] at hz; cases hz; exact h1
theorem lastH_next {pts : List Pt} {k : Nat} {x : Pt} (hx : pts[k]? = some x) : lastH pts (k + 1) = x.h := by rw [lastH, hx]
theorem pmay_ok {T : Tbl} {p : Par} (ok : p.Ok) : CallA prog G 26 [.ag p.cs] T fun v T' es => v = .p (.bool (mayB p)) /\ T' = T /\ es = [] := by
 refine CallA.wfs fun wf => ?_
 have wt := wf.t
 have hr := Par.rules ok
 have g0 := fun l => gn0 T (.cells 30 p.cs) l
 have ez : [oQ, oQ, oQ, oQ] = Bg 0 := rfl
 refine CallA.eV 45 func26 ntmps26 results26 ?_
 refine sqcx ?_
 refine tqcz (cj3 @hr @ez @vbg) ?_
 refine pof03_ok.det' ?_
 cases ho : ofT p.limit.toNat with
 | none =>
   rw [show mayB p = false by rw [mayB, ho]]
   unfold ofV
   refine tqcz (cj4 @hr @ez @vbg @bb2) ?_
   exact Vw.cut ⟨rfl, rfl, rfl⟩
 | some t =>
   obtain ⟨htx, ht0⟩ := ofT_lt ho
   rw [show mayB p = (decide (UInt32.ofNat (cmpN t) = p.limit) && decide (2 <= p.interval) && decide (p.interval <= 2016) && decide (1 <= p.spacing.toNat) && decide (p.spacing.toNat <= 3600) && decide (p.first.bits = p.limit) && mayP p) by rw [mayB, ho]]
   unfold ofV
   have g1 := fun a l => gn1 T a (.cells 47 (Bg t)) l
   refine tqcz (cj4 @hr @ez @vbg @bb2) ?_
   refine SemA.draw (fun i => true) [(0, true), (2, true), (3, true), (1, false), (4, true), (5, true)] mixed (by kernel_rfl) ?_
   refine tqcz (cj7 @hr @ez @vbg @g0 @g1 @bb2 @kallT) ?_
   refine (pcompact_ok htx).det' ?_
   by_cases c1 : UInt32.ofNat (cmpN t) = p.limit
   rotate_left
   . have ic1 : (((UInt32.ofNat (cmpN t)).toNat : Int) = (p.limit.toNat : Int)) = False := eq_false fun e => c1 (UInt32.toNat_inj.1 (by omega))
     rw [show decide (UInt32.ofNat (cmpN t) = p.limit) = false from decide_eq_false c1]
     refine tqcz (cj9 @hr @ez @vbg @g0 @g1 @bb2 @ic1 @Bool.and_false @Bool.false_and) ?_
     exact Vw.cut ⟨rfl, rfl, rfl⟩
   have ic1 : (((UInt32.ofNat (cmpN t)).toNat : Int) = (p.limit.toNat : Int)) = True := eq_true (by rw [c1])
   rw [show decide (UInt32.ofNat (cmpN t) = p.limit) = true from decide_eq_true c1]
   by_cases c6 : p.first.bits = p.limit
   rotate_left
   . have ic6 : ((p.first.bits.toNat : Int) = (p.limit.toNat : Int)) = False := eq_false fun e => c6 (UInt32.toNat_inj.1 (by omega))
     rw [show decide (p.first.bits = p.limit) = false from decide_eq_false c6]
     refine tqcz (cj10 @hr @ez @vbg @g0 @g1 @bb2 @ic1 @ic6 @Bool.and_false @Bool.false_and) ?_
     exact Vw.cut ⟨by simp [AV.wo], rfl, rfl⟩
   have ic6 : ((p.first.bits.toNat : Int) = (p.limit.toNat : Int)) = True := eq_true (by rw [c6])
   rw [show decide (p.first.bits = p.limit) = true from decide_eq_true c6]
   by_cases c2 : 2 <= p.interval
   rotate_left
   . have ic2 : (p.interval < 2) = True := eq_true (by omega)
     rw [show decide (2 <= p.interval) = false from decide_eq_false c2]
     refine tqcz (cj11 @hr @ez @vbg @g0 @g1 @bb2 @ic1 @ic6 @ic2 @Bool.and_false @Bool.false_and) ?_
     exact Vw.cut ⟨rfl, rfl, rfl⟩
   have ic2 : (p.interval < 2) = False := eq_false (by omega)
   rw [show decide (2 <= p.interval) = true from decide_eq_true c2]
   by_cases c3 : p.interval <= 2016
   rotate_left
   . have ic3 : (2016 < p.interval) = True := eq_true (by omega)
     rw [show decide (p.interval <= 2016) = false from decide_eq_false c3]
     refine tqcz (cj12 @hr @ez @vbg @g0 @g1 @bb2 @ic1 @ic6 @ic2 @ic3 @Bool.and_false @Bool.false_and) ?_
     exact Vw.cut ⟨rfl, rfl, rfl⟩
   have ic3 : (2016 < p.interval) = False := eq_false (by omega)
   rw [show decide (p.interval <= 2016) = true from decide_eq_true c3]
   by_cases c4 : 1 <= p.spacing.toNat
   rotate_left
   . have ic4 : ((p.spacing.toNat : Int) < 1) = True := eq_true (by omega)
     rw [show decide (1 <= p.spacing.toNat) = false from decide_eq_false c4]
     refine tqcz (cj13 @hr @ez @vbg @g0 @g1 @bb2 @ic1 @ic6 @ic2 @ic3 @ic4 @Bool.and_false @Bool.false_and) ?_
     exact Vw.cut ⟨rfl, rfl, rfl⟩
   have ic4 : ((p.spacing.toNat : Int) < 1) = False := eq_false (by omega)
   rw [show decide (1 <= p.spacing.toNat) = true from decide_eq_true c4]
   by_cases c5 : p.spacing.toNat <= 3600
   rotate_left
   . have ic5 : ((3600 : Int) < (p.spacing.toNat : Int)) = True := eq_true (by omega)
     rw [show decide (p.spacing.toNat <= 3600) = false from decide_eq_false c5]
     refine tqcz (cj14 @hr @ez @vbg @g0 @g1 @bb2 @ic1 @ic6 @ic2 @ic3 @ic4 @ic5 @Bool.and_false @Bool.false_and) ?_
     exact Vw.cut ⟨rfl, rfl, rfl⟩
   have ic5 : ((3600 : Int) < (p.spacing.toNat : Int)) = False := eq_false (by omega)
   rw [show decide (p.spacing.toNat <= 3600) = true from decide_eq_true c5]
   have hpl := ok.l
   have hb := ok.a T
   have hsr := Sl.rules hb.sl (by decide)
   have hld := hb.ld (P := prog) (t := 71) (by (simp -dsimp +decide only [vt2, v1q, ↓reduceIte, Nat.reduceSub, Nat.reduceAdd, Nat.reduceMul, Nat.reduceLT, Int.reduceAdd, Int.reduceSub, Int.reduceToNat, ci])) (by (simp -dsimp +decide only [vt2, v1q, ↓reduceIte, Nat.reduceSub, Nat.reduceAdd, Nat.reduceMul, Nat.reduceLT, Int.reduceAdd, Int.reduceSub, Int.reduceToNat, ci])) (by decide)
   have hpw := ok.wo
   refine tqcz (cj15 @hr @hsr @ez @vbg @g0 @g1 @bb2 @ic1 @ic6 @ic2 @ic3 @ic4 @ic5 @Bool.true_and @Bool.and_true) ?_
   refine SemA.loopK (T.length + 2) (fun k : Nat => [(1, .ptr T.length 0), (5, wint (lastH p.pts k)), (42, p.pa), (43, wint (p.pts.length : Int)), (44, wint (k : Int))]) (fun _ => T ++ [.cells 30 p.cs, .cells 47 (Bg t)]) (fun k => k <= p.pts.length /\ ∀ j, j < k -> ptOK p.first.id p.pts j) (fun k => p.pts.length - k) 0 [] 1 (fun _ : Unit => []) (fun _ => T ++ [.cells 30 p.cs, .cells 47 (Bg t)]) (fun _ => ∀ j, j < p.pts.length -> ptOK p.first.id p.pts j) (by omega) ⟨by omega, fun j hj => by omega⟩ (by (simp -dsimp +decide (disch := omega) only [vt2, v1q, ↓reduceIte, Nat.reduceSub, Nat.reduceAdd, Nat.reduceMul, Nat.reduceLT, Int.reduceAdd, Int.reduceSub, Int.reduceToNat, v4q]); first | rfl | exact ⟨rfl, rfl⟩ | done) rfl (by simp) ?_ ?_
   . rintro k g ⟨hk, hq⟩
     refine SemA.o ?_
     refine tqcz (cj3 @hr @hsr @g0) ?_
     refine CondP.dec (fun h => ?_) (fun h => ?_)
     . obtain ⟨x, hx⟩ : ∃ x, p.pts[k]? = some x := ⟨p.pts[k]'(by omega), by simp⟩
       have hx32 := ok.id x (List.mem_of_getElem? hx)
       have hxr := Pt.rules hx32
       have hx4 : List.take 32 (List.drop 1 (AV.p (Value.int IntKind.i64 x.h) :: x.id.map by8)) = x.id.map by8 := hxr.2.2.2.1
       have hxh := ok.h x (List.mem_of_getElem? hx)
       have g2 := fun a b l => gn2 T a b (.cells 71 (wint x.h :: x.id.map by8)) l
       have hid := p.first.id_len
       have hiff := ptOK_last hx hq
       have hnx := lastH_next hx
       have no : ¬ ptOK p.first.id p.pts k -> mayP p = false := fun hn => by
        unfold mayP
        simp only [decide_eq_false_iff_not]
        exact fun h => hn (h k (by omega))
       have yes : ptOK p.first.id p.pts k -> ∀ j, j < k + 1 -> ptOK p.first.id p.pts j := fun h j hj => by
        rcases Nat.lt_or_eq_of_le (Nat.le_of_lt_succ hj) with h2 | rfl
        . exact hq j h2
        . exact h
       refine tqcz (cj7 @hr @hsr @hld @hx @ez33 @hxr @g0) ?_
       refine ⟨⟨by omega, by omega⟩, ?_⟩
       by_cases d1 : x.h <= lastH p.pts k
       . rw [no fun h => by have := (hiff.1 h).1; omega]
         have i1 := eq_true d1
         refine SemA.draw (fun i => true) [(0, true), (1, true), (2, true), (3, true), (4, true), (5, true), (6, true), (7, true), (8, true), (9, true), (10, true), (11, true), (12, true), (13, false), (14, true), (15, true), (16, true)] mixed (by kernel_rfl) ?_
         refine tqcz (cj11 @hr @hsr @hld @hx @ez33 @hxr @g0 @g2 @kallT @i1 @bb2) ?_
         exact Vw.cut ⟨rfl, rfl, rfl⟩
       have i1 : (x.h <= lastH p.pts k) = False := eq_false d1
       by_cases d3 : x.h = 0
       . have i3 : (x.h = 0) = True := eq_true d3
         refine SemA.draw (fun i => true) [(0, true), (1, true), (2, true), (3, true), (4, true), (5, true), (6, true), (7, true), (8, true), (9, true), (10, true), (11, true), (12, true), (13, false), (14, true), (15, true), (16, true)] mixed (by kernel_rfl) ?_
         refine tqcz (cj13 @hr @hsr @hld @hx @ez33 @hxr @g0 @g2 @kallT @vbg @i1 @bb2 @i3) ?_
         refine ⟨by omega, (pid_ok ok.f).det' ?_⟩
         by_cases d4 : x.id = p.first.id
         . have i4 : (x.id = p.first.id) = True := eq_true d4
           simp -dsimp +decide (disch := omega) only [vt2, v1q, ↓reduceIte, Nat.reduceSub, Nat.reduceAdd, Nat.reduceMul, Nat.reduceLT, Int.reduceAdd, Int.reduceSub, Int.reduceToNat, v2q, hr, hsr, hld, hx, ez33, hxr, g0, g2, kallT, vbg, i1, bb2, i3, hx4, neh hx32 hid, i4, wt, hpw]
           exact ⟨k + 1, ⟨⟨by omega, yes (hiff.2 ⟨by omega, fun _ => d4⟩)⟩, by omega⟩, by rw [hnx], rfl⟩
         . have i4 : (x.id = p.first.id) = False := eq_false d4
           rw [no fun h => d4 ((hiff.1 h).2 d3)]
           simp -dsimp +decide (disch := omega) only [vt2, v1q, ↓reduceIte, Nat.reduceSub, Nat.reduceAdd, Nat.reduceMul, Nat.reduceLT, Int.reduceAdd, Int.reduceSub, Int.reduceToNat, v2q, hr, hsr, hld, hx, ez33, hxr, g0, g2, kallT, vbg, i1, bb2, i3, hx4, neh hx32 hid, i4, wt]
           exact Vw.cut ⟨rfl, rfl, rfl⟩
       . have i3 : (x.h = 0) = False := eq_false d3
         refine SemA.draw (fun i => true) [(0, true), (1, true), (2, true), (3, true), (4, true), (5, true), (6, true), (7, true), (8, true), (9, true), (10, true), (11, true), (12, true), (13, false), (14, true), (15, true), (16, true)] mixed (by kernel_rfl) ?_
         refine tqcz (cj15 @hr @hsr @hld @hx @ez33 @hxr @g0 @g2 @kallT @vbg @i1 @bb2 @i3 @wt @hpw) ?_
         exact ⟨k + 1, ⟨⟨by omega, yes (hiff.2 ⟨by omega, fun h => absurd h d3⟩)⟩, by omega⟩, by rw [hnx], rfl⟩
     . have e : k = p.pts.length := by omega
       subst e
       refine tqcz (cj3 @wt @hr @vbg) ?_
       exact ⟨(), hq⟩
   . rintro _ g tmp hq
     rw [show mayP p = true by unfold mayP; simp only [decide_eq_true_eq]; exact hq]
     refine sqcy ?_
     exact Vw.cut ⟨rfl, rfl, rfl⟩
theorem shl64 (x : UInt64) {k : Nat} (h : k < 64) : (u64_shl x k).toNat = x.toNat * 2 ^ k % 2 ^ 64 := by
 rw [u64_shl, if_pos h, UInt64.toNat_shiftLeft]
 show x.toNat <<< ((UInt64.ofNat k).toNat % 64) % 2 ^ 64 = _
 rw [UInt64.toNat_ofNat', Nat.mod_eq_of_lt (a := k) (b := 2 ^ 64) (by omega), Nat.mod_eq_of_lt h, Nat.shiftLeft_eq]
theorem div_plain {hi lo y s yn a b q1 rh q0 r2 : Nat} (hy : 0 < y) (hlt : hi < y) (hs : 32 <= s) (hs2 : s < 64) (hyn : yn = y * 2 ^ (s - 32)) (ha : a = hi * 2 ^ s + lo / 2 ^ (64 - s)) (hb : b = lo * 2 ^ s % 2 ^ 64) (hlo : lo < 2 ^ 64)
 (h1 : q1 = a / yn) (h2 : rh = a % yn) (h3 : q0 = (rh * 2 ^ 32 + b / 2 ^ 32) / yn) (h4 : r2 = (rh * 2 ^ 32 + b / 2 ^ 32) % yn) :
 q1 * 2 ^ 32 + q0 = (hi * 2 ^ 64 + lo) / y /\ (r2 * 2 ^ 32 + b % 2 ^ 32) / 2 ^ s = (hi * 2 ^ 64 + lo) % y /\ q1 < 2 ^ 32 /\ q0 < 2 ^ 32 /\ rh < yn /\ r2 < yn := by
 have p32 : (2 : Nat) ^ s = 2 ^ (s - 32) * 2 ^ 32 := by rw [<- Nat.pow_add]; congr 1; omega
 have p64 : (2 : Nat) ^ 64 = 2 ^ (64 - s) * 2 ^ s := by rw [<- Nat.pow_add]; congr 1; omega
 have hY : y * 2 ^ s = yn * 2 ^ 32 := by rw [hyn, p32, Nat.mul_assoc]
 have hyn0 : 0 < yn := by rw [hyn]; exact Nat.mul_pos hy (Nat.two_pow_pos _)
 have e1 : (hi * 2 ^ 64 + lo) * 2 ^ s = a * 2 ^ 64 + b := by
  have h5 : lo * 2 ^ s = lo / 2 ^ (64 - s) * 2 ^ 64 + b := by
   have h6 := Nat.div_add_mod (lo * 2 ^ s) (2 ^ 64)
   rw [<- hb] at h6
   have h7 : lo * 2 ^ s / 2 ^ 64 = lo / 2 ^ (64 - s) := by rw [p64, Nat.mul_div_mul_right _ _ (Nat.two_pow_pos s)]
   rw [h7] at h6
   omega
  rw [Nat.add_mul, h5, ha, Nat.add_mul, Nat.mul_right_comm]; omega
 have hbl : b < 2 ^ 64 := by rw [hb]; exact Nat.mod_lt _ (by decide)
 have hal : a < yn * 2 ^ 32 := by
  rw [<- hY]
  have h5 : (hi * 2 ^ 64 + lo) * 2 ^ s < y * 2 ^ s * 2 ^ 64 := by
   rw [Nat.mul_right_comm]
   exact Nat.mul_lt_mul_of_pos_right (by omega) (Nat.two_pow_pos s)
  omega
 have hq1 : q1 < 2 ^ 32 := by rw [h1]; exact Nat.div_lt_of_lt_mul hal
 have hrh : rh < yn := by rw [h2]; exact Nat.mod_lt _ hyn0
 have hr2 : r2 < yn := by rw [h4]; exact Nat.mod_lt _ hyn0
 have hq0 : q0 < 2 ^ 32 := by rw [h3]; exact Nat.div_lt_of_lt_mul (by omega)
 have d1 := Nat.div_add_mod a yn
 rw [<- h1, <- h2] at d1
 have d2 := Nat.div_add_mod (rh * 2 ^ 32 + b / 2 ^ 32) yn
 rw [<- h3, <- h4] at d2
 have e2 : (hi * 2 ^ 64 + lo) * 2 ^ s = (q1 * 2 ^ 32 + q0) * (y * 2 ^ s) + (r2 * 2 ^ 32 + b % 2 ^ 32) := by
  rw [e1, hY, Nat.add_mul, <- d1]
  have k1 : q1 * 2 ^ 32 * (yn * 2 ^ 32) = yn * q1 * 2 ^ 64 := by rw [Nat.mul_mul_mul_comm, Nat.mul_comm q1]
  have k2 : q0 * (yn * 2 ^ 32) = yn * q0 * 2 ^ 32 := by rw [<- Nat.mul_assoc, Nat.mul_comm q0]
  rw [k1, k2]
  generalize yn * q1 = A at *
  generalize yn * q0 = B at *
  omega
 have hR : r2 * 2 ^ 32 + b % 2 ^ 32 < y * 2 ^ s := by rw [hY]; omega
 have hY0 : 0 < y * 2 ^ s := Nat.mul_pos hy (Nat.two_pow_pos s)
 refine ⟨?_, ?_, hq1, hq0, hrh, hr2⟩
 . rw [<- Nat.mul_div_mul_right (hi * 2 ^ 64 + lo) y (Nat.two_pow_pos s), e2, Nat.mul_comm (q1 * 2 ^ 32 + q0), Nat.mul_add_div hY0, Nat.div_eq_of_lt hR, Nat.add_zero]
 . have h5 : (hi * 2 ^ 64 + lo) * 2 ^ s % (y * 2 ^ s) = r2 * 2 ^ 32 + b % 2 ^ 32 := by
    rw [e2, Nat.mul_comm (q1 * 2 ^ 32 + q0), Nat.mul_add_mod, Nat.mod_eq_of_lt hR]
   rw [Nat.mul_mod_mul_right] at h5
   rw [<- h5, Nat.mul_div_cancel _ (Nat.two_pow_pos s)]
theorem leading_ok {T : Tbl} {x : UInt64} : CallA prog G 124 [w64 x] T fun v T' es => v = wint ((64 - blen x.toNat : Nat) : Int) /\ T' = T /\ es = [] := by
 have h := blen_le x.toNat_lt
 refine CallA.eV 3 func124 ntmps124 results124 ?_
 refine sqbx ?_
 refine (len64_ok (x := x)).det ?_
 rw [bl_blen]
 refine sqby ?_
 exact Vw.done ⟨congrArg (fun z => AV.p (.int .i64 z)) (show (64 : Int) - (blen x.toNat : Int) = ((64 - blen x.toNat : Nat) : Int) by omega), rfl, rfl⟩
theorem div64_ok {T : Tbl} {hi lo y : UInt64} (hlt : hi.toNat < y.toNat) (hy32 : y.toNat < 2 ^ 32) : CallA prog G 118 [w64 hi, w64 lo, w64 y] T fun v T' es => v = .tu [w64 (UInt64.ofNat ((hi.toNat * 2 ^ 64 + lo.toNat) / y.toNat)), w64 (UInt64.ofNat ((hi.toNat * 2 ^ 64 + lo.toNat) % y.toNat))] /\ T' = T /\ es = [] := by
 have hlo := lo.toNat_lt
 refine CallA.eV 19 func118 ntmps118 results118 ?_
 refine sqbx ?_
 have y0 : ((y.toNat : Int) = 0) = False := eq_false (by omega)
 have y1 : ((y.toNat : Int) <= (hi.toNat : Int)) = False := eq_false (by omega)
 by_cases h0 : (hi.toNat : Int) = 0
 . have h0' := eq_true h0
   have hz : hi.toNat = 0 := by omega
   have y2 : ((y.toNat : Int) <= 0) = False := eq_false (by omega)
   rw [hz, Nat.zero_mul, Nat.zero_add]
   have q1 : UInt64.ofInt ((lo.toNat : Int).tdiv (y.toNat : Int)) = UInt64.ofNat (lo.toNat / y.toNat) := by
    have hl := Nat.lt_of_le_of_lt (Nat.div_le_self lo.toNat y.toNat) hlo
    apply UInt64.toNat_inj.1
    rw [<- Int.ofNat_tdiv, ofInt_lt hl, UInt64.toNat_ofNat', Nat.mod_eq_of_lt hl]
   have q2 : ((lo.toNat : Int).tmod (y.toNat : Int)) = ((UInt64.ofNat (lo.toNat % y.toNat)).toNat : Int) := by
    rw [UInt64.toNat_ofNat', Nat.mod_eq_of_lt (Nat.lt_of_le_of_lt (Nat.mod_le _ _) hlo)]; rfl
   refine tqby (cj7 @y0 @y1 @h0' @y2 @hz @bb2 @vone) ?_
   refine SemA.draw (fun i => true) [(0, true), (1, true), (2, true), (3, true), (4, true), (5, true), (6, true), (7, true)] mixed (by kernel_rfl) ?_
   refine tqby (cj9 @y0 @y1 @h0' @y2 @hz @bb2 @vone @q1 @q2) ?_
   exact ⟨by omega, by omega, Vw.done ⟨rfl, rfl, rfl⟩⟩
 . have h0' := eq_false h0
   have hyb := blen_le (n := 32) hy32
   obtain ⟨hb1, hb2⟩ := blen_is y.toNat
   have hb0 : blen y.toNat ≠ 0 := fun e => by rw [e] at hb1; omega
   obtain ⟨s, hs⟩ : ∃ s, s = 64 - blen y.toNat := ⟨_, rfl⟩
   have hs1 : 32 <= s := by omega
   have hs2 : s < 64 := by omega
   have hYs : y.toNat * 2 ^ s < 2 ^ 64 := by
    rw [show (2 : Nat) ^ 64 = 2 ^ blen y.toNat * 2 ^ s by rw [<- Nat.pow_add]; congr 1; omega]
    exact Nat.mul_lt_mul_of_pos_right hb1 (Nat.two_pow_pos s)
   have hS : (UInt64.ofInt (s : Int)).toNat = s := ofInt_lt (by omega)
   have hS2 : (UInt64.ofInt 64 - UInt64.ofInt (s : Int)).toNat = 64 - s := by
    rw [UInt64.toNat_sub, hS, show (UInt64.ofInt 64).toNat = 64 from rfl]; omega
   obtain ⟨Y, hY⟩ : ∃ Y, Y = u64_shl y s := ⟨_, rfl⟩
   obtain ⟨yn, hyn⟩ : ∃ yn, yn = u64_shr Y 32 := ⟨_, rfl⟩
   obtain ⟨A, hA⟩ : ∃ A, A = u64_shl hi s ||| u64_shr lo (64 - s) := ⟨_, rfl⟩
   obtain ⟨B, hB⟩ : ∃ B, B = u64_shl lo s := ⟨_, rfl⟩
   obtain ⟨U1, hU1⟩ : ∃ U1, U1 = u64_shr B 32 := ⟨_, rfl⟩
   obtain ⟨U0, hU0⟩ : ∃ U0, U0 = B &&& UInt64.ofInt 4294967295 := ⟨_, rfl⟩
   obtain ⟨Q1, hQ1⟩ : ∃ Q1, Q1 = UInt64.ofInt ((A.toNat : Int).tdiv (yn.toNat : Int)) := ⟨_, rfl⟩
   obtain ⟨R1, hR1⟩ : ∃ R1, R1 = A - Q1 * yn := ⟨_, rfl⟩
   obtain ⟨D, hD⟩ : ∃ D, D = A * UInt64.ofInt 4294967296 + U1 - Q1 * Y := ⟨_, rfl⟩
   obtain ⟨Q0, hQ0⟩ : ∃ Q0, Q0 = UInt64.ofInt ((D.toNat : Int).tdiv (yn.toNat : Int)) := ⟨_, rfl⟩
   obtain ⟨R2, hR2⟩ : ∃ R2, R2 = D - Q0 * yn := ⟨_, rfl⟩
   have nY : Y.toNat = y.toNat * 2 ^ s := by rw [hY, shl64 _ hs2, Nat.mod_eq_of_lt hYs]
   have p32 : (2 : Nat) ^ s = 2 ^ (s - 32) * 2 ^ 32 := by rw [<- Nat.pow_add]; congr 1; omega
   have nyn : yn.toNat = y.toNat * 2 ^ (s - 32) := by rw [hyn, shr64 _ (by decide), nY, p32, <- Nat.mul_assoc, Nat.mul_div_cancel _ (by decide)]
   have nYy : Y.toNat = yn.toNat * 2 ^ 32 := by rw [nY, nyn, p32, Nat.mul_assoc]
   have hZ : Y &&& UInt64.ofInt 4294967295 = 0 := by
    apply UInt64.toNat_inj.1
    rw [and64, nYy, Nat.mul_mod_left]; rfl
   have nB : B.toNat = lo.toNat * 2 ^ s % 2 ^ 64 := by rw [hB, shl64 _ hs2]
   have hhi : hi.toNat * 2 ^ s < 2 ^ 64 := Nat.lt_of_le_of_lt (Nat.mul_le_mul_right _ (by omega)) hYs
   have hlos : lo.toNat / 2 ^ (64 - s) < 2 ^ s := by
    rw [Nat.div_lt_iff_lt_mul (Nat.two_pow_pos _), <- Nat.pow_add, show s + (64 - s) = 64 by omega]; exact hlo
   have nA : A.toNat = hi.toNat * 2 ^ s + lo.toNat / 2 ^ (64 - s) := by
    rw [hA, UInt64.toNat_or, shl64 _ hs2, shr64 _ (by omega), Nat.mod_eq_of_lt hhi, Nat.mul_comm, <- Nat.two_pow_add_eq_or_of_lt hlos]
   have nU1 : U1.toNat = B.toNat / 2 ^ 32 := by rw [hU1, shr64 _ (by decide)]
   have nU0 : U0.toNat = B.toNat % 2 ^ 32 := by rw [hU0, and64]
   have hyn0 : yn.toNat ≠ 0 := by
    rw [nyn]; exact Nat.ne_of_gt (Nat.mul_pos (by omega) (Nat.two_pow_pos _))
   have hP := div_plain (by omega) hlt hs1 hs2 nyn nA nB hlo rfl rfl rfl rfl
   obtain ⟨p1, p2, p3, p4, p5, p6⟩ := hP
   have hAl := A.toNat_lt
   have hYl := Y.toNat_lt
   have tdv : ∀ u v : UInt64, (UInt64.ofInt ((u.toNat : Int).tdiv (v.toNat : Int))).toNat = u.toNat / v.toNat := fun u v => by
    rw [<- Int.ofNat_tdiv, ofInt_lt (Nat.lt_of_le_of_lt (Nat.div_le_self _ _) u.toNat_lt)]
   have nQ1 : Q1.toNat = A.toNat / yn.toNat := by rw [hQ1, tdv]
   have submod : ∀ {u v : UInt64} (w : UInt64), w = UInt64.ofInt ((u.toNat : Int).tdiv (v.toNat : Int)) -> (u - w * v).toNat = u.toNat % v.toNat := by
    rintro u v w rfl
    have hd := Nat.div_add_mod u.toNat v.toNat
    have hu := u.toNat_lt
    have hm : u.toNat / v.toNat * v.toNat <= u.toNat := Nat.div_mul_le_self _ _
    rw [UInt64.toNat_sub, UInt64.toNat_mul, tdv, Nat.mod_eq_of_lt (a := u.toNat / v.toNat * v.toNat) (by omega)]
    rw [Nat.mul_comm] at hd
    omega
   have nR1 : R1.toNat = A.toNat % yn.toNat := by rw [hR1]; exact submod Q1 hQ1
   have nD : D.toNat = A.toNat % yn.toNat * 2 ^ 32 + B.toNat / 2 ^ 32 := by
    have hb32 : B.toNat / 2 ^ 32 < 2 ^ 32 := by have := B.toNat_lt; omega
    have hyn32 : yn.toNat < 2 ^ 32 := by omega
    have hd := Nat.div_add_mod A.toNat yn.toNat
    rw [hD, UInt64.toNat_sub, UInt64.toNat_add, UInt64.toNat_mul, UInt64.toNat_mul, nU1, nQ1, nYy, show (UInt64.ofInt 4294967296).toNat = 2 ^ 32 from rfl]
    have e : A.toNat / yn.toNat * (yn.toNat * 2 ^ 32) = yn.toNat * (A.toNat / yn.toNat) * 2 ^ 32 := by rw [<- Nat.mul_assoc, Nat.mul_comm yn.toNat]
    rw [e]
    generalize yn.toNat * (A.toNat / yn.toNat) = X at *
    omega
   have nQ0 : Q0.toNat = D.toNat / yn.toNat := by rw [hQ0, tdv]
   have nR2 : R2.toNat = D.toNat % yn.toNat := by rw [hR2]; exact submod Q0 hQ0
   rw [<- nD] at p1 p2 p4 p6
   rw [<- nQ1, <- nQ0] at p1
   rw [<- nR2] at p2 p6
   rw [<- nQ1] at p3
   rw [<- nQ0] at p4
   rw [<- nR1] at p5
   rw [<- nU0] at p2
   have c1 : ((4294967296 : Int) <= (Q1.toNat : Int)) = False := eq_false (by omega)
   have c2 : ((4294967296 : Int) <= (Q0.toNat : Int)) = False := eq_false (by omega)
   have c3 : ∀ x : UInt64, ((x.toNat : Int) < ((0 : UInt64).toNat : Int)) = False := fun x => eq_false (by simp)
   refine tqby (cj5 @y0 @y1 @h0' @bb2 @vone) ?_
   refine (leading_ok (x := y)).det' ?_
   rw [<- hs]
   simp -dsimp +decide (disch := omega) only [v1q, ↓reduceIte, Nat.reduceSub, Nat.reduceAdd, Nat.reduceMul, Nat.reduceLT, Int.reduceAdd, Int.reduceSub, Int.reduceToNat, v4q, y0, y1, h0', bb2, vone, hS, hS2, <- hY, <- hyn, hZ, <- hA, <- hB, <- hU1, <- hU0, <- hQ1, <- hR1]
   refine ⟨by omega, by omega, by omega, by omega, by omega, ?_⟩
   refine SemA.loopE (fun _ : Unit => [(2, w64 Y), (8, .p (.int .u64 (s : Int))), (9, w64 yn), (10, w64 0), (11, w64 A), (13, w64 U1), (14, w64 U0), (15, w64 Q1), (16, w64 R1)]) (fun _ => T) (fun _ => True) (fun _ => 0) () [] 0 (fun _ : Unit => [(2, w64 Y), (8, .p (.int .u64 (s : Int))), (9, w64 yn), (10, w64 0), (11, w64 A), (13, w64 U1), (14, w64 U0), (15, w64 Q1)]) (fun _ => T) (fun _ => True) trivial (by (simp -dsimp +decide (disch := omega) only [v1q, ↓reduceIte, Nat.reduceSub, Nat.reduceAdd, Nat.reduceMul, Nat.reduceLT, Int.reduceAdd, Int.reduceSub, Int.reduceToNat, v4q]); first | rfl | done) rfl (by simp) ?_ ?_
   . rintro _ g -
     refine SemA.o ?_
     simp -dsimp +decide (disch := omega) only [v1q, ↓reduceIte, Nat.reduceSub, Nat.reduceAdd, Nat.reduceMul, Nat.reduceLT, Int.reduceAdd, Int.reduceSub, Int.reduceToNat, v4q, c1, c3, UInt64.mul_zero, bb2]
     exact ⟨(), trivial⟩
   rintro _ g tmp -
   simp -dsimp +decide (disch := omega) only [v1q, ↓reduceIte, Nat.reduceSub, Nat.reduceAdd, Nat.reduceMul, Nat.reduceLT, Int.reduceAdd, Int.reduceSub, Int.reduceToNat, v4q, y0, y1, h0', bb2, <- hD, <- hQ0, <- hR2]
   refine ⟨by omega, ?_⟩
   refine SemA.loopE (fun _ : Unit => [(2, w64 Y), (8, .p (.int .u64 (s : Int))), (9, w64 yn), (10, w64 0), (14, w64 U0), (15, w64 Q1), (16, w64 R2), (17, w64 D), (18, w64 Q0)]) (fun _ => T) (fun _ => True) (fun _ => 0) () [] 2 (fun _ : Unit => [(2, w64 Y), (8, .p (.int .u64 (s : Int))), (14, w64 U0), (15, w64 Q1), (17, w64 D), (18, w64 Q0)]) (fun _ => T) (fun _ => True) trivial (by (simp -dsimp +decide (disch := omega) only [v1q, ↓reduceIte, Nat.reduceSub, Nat.reduceAdd, Nat.reduceMul, Nat.reduceLT, Int.reduceAdd, Int.reduceSub, Int.reduceToNat, v4q]); first | rfl | done) rfl (by simp) ?_ ?_
   . rintro _ g -
     refine SemA.o ?_
     simp -dsimp +decide (disch := omega) only [v1q, ↓reduceIte, Nat.reduceSub, Nat.reduceAdd, Nat.reduceMul, Nat.reduceLT, Int.reduceAdd, Int.reduceSub, Int.reduceToNat, v4q, c2, c3, UInt64.mul_zero, bb2]
     exact ⟨(), trivial⟩
   rintro _ g tmp -
   have hfin1 : Q1 * UInt64.ofInt 4294967296 + Q0 = UInt64.ofNat ((hi.toNat * 2 ^ 64 + lo.toNat) / y.toNat) := by
    apply UInt64.toNat_inj.1
    rw [<- p1, UInt64.toNat_add, UInt64.toNat_mul, UInt64.toNat_ofNat', show (UInt64.ofInt 4294967296).toNat = 2 ^ 32 from rfl]
    omega
   have hsn : (UInt64.ofNat s).toNat = s := by rw [UInt64.toNat_ofNat']; omega
   have hfin2 : u64_shr (D * UInt64.ofInt 4294967296 + U0 - Q0 * Y) s = UInt64.ofNat ((hi.toNat * 2 ^ 64 + lo.toNat) % y.toNat) := by
    apply UInt64.toNat_inj.1
    have hd := Nat.div_add_mod D.toNat yn.toNat
    rw [<- nQ0, <- nR2] at hd
    have hm : (D * UInt64.ofInt 4294967296 + U0 - Q0 * Y).toNat = R2.toNat * 2 ^ 32 + U0.toNat := by
     have hU0l : U0.toNat < 2 ^ 32 := by omega
     rw [UInt64.toNat_sub, UInt64.toNat_add, UInt64.toNat_mul, UInt64.toNat_mul, nYy, show (UInt64.ofInt 4294967296).toNat = 2 ^ 32 from rfl]
     have e : Q0.toNat * (yn.toNat * 2 ^ 32) = yn.toNat * Q0.toNat * 2 ^ 32 := by rw [<- Nat.mul_assoc, Nat.mul_comm yn.toNat]
     rw [e]
     generalize yn.toNat * Q0.toNat = X at *
     omega
    rw [shr64 _ hs2, hm, p2, UInt64.toNat_ofNat']
    exact (Nat.mod_eq_of_lt (Nat.lt_of_lt_of_le (Nat.mod_lt _ (show y.toNat > 0 by omega)) (show y.toNat <= 2 ^ 64 by omega))).symm
   refine tqby (cj7 @y0 @y1 @h0' @bb2 @vone @hfin1 @hfin2) ?_
   exact ⟨by omega, Vw.done ⟨rfl, rfl, rfl⟩⟩
theorem limb_of_mod {a b k : Nat} (h : a % 2 ^ (64 * (k + 1)) = b % 2 ^ (64 * (k + 1))) : limb a k = limb b k := by
 apply UInt64.toNat_inj.1
 rw [limb_nat, limb_nat]
 have e : ∀ x : Nat, x / 2 ^ (64 * k) % 2 ^ 64 = x % 2 ^ (64 * (k + 1)) / 2 ^ (64 * k) := fun x => by
  rw [Nat.mul_add, Nat.mul_one, Nat.pow_add, Nat.mod_mul_right_div_self]
 rw [e, e, h]
theorem mod_of_mod {a b k : Nat} (h : a % 2 ^ (64 * (k + 1)) = b % 2 ^ (64 * (k + 1))) : a % 2 ^ (64 * k) = b % 2 ^ (64 * k) := by
 have e : ∀ x : Nat, x % 2 ^ (64 * k) = x % 2 ^ (64 * (k + 1)) % 2 ^ (64 * k) := fun x => by
  rw [Nat.mul_add, Nat.mul_one, Nat.pow_add, Nat.mod_mul_right_mod]
 rw [e, e b, h]
theorem scaled_ok {T : Tbl} {x most n m : Nat} (hx : x < 2 ^ 256) (hmost : most < 2 ^ 256) (hn : n < 2 ^ 64) (hm0 : 0 < m) (hm : m < 2 ^ 32) :
 CallA prog G 107 [.ag (Bg x), .p (.int .u64 (n : Int)), .p (.int .u64 (m : Int)), .ag (Bg most)] T fun v T' es => v = .ag (Bg (min (x * n / m) most)) /\ T' = T /\ es = [] := by
 refine CallA.wfs fun wf => ?_
 have wt := wf.t
 have ez : [oQ, oQ, oQ, oQ] = Bg 0 := rfl
 have nn : ∀ k, k < 2 ^ 64 -> (UInt64.ofNat k).toNat = k := fun k h => by rw [UInt64.toNat_ofNat', Nat.mod_eq_of_lt h]
 have eN : AV.p (.int .u64 (n : Int)) = w64 (UInt64.ofNat n) := nat_w64 hn
 have eM : AV.p (.int .u64 (m : Int)) = w64 (UInt64.ofNat m) := nat_w64 (by omega)
 rw [eN, eM]
 have mul := pmul_ok (T := T) (n := UInt64.ofNat n) hx
 rw [nn n hn] at mul
 obtain ⟨N, hN⟩ : ∃ N, N = x * n := ⟨_, rfl⟩
 have hNl : N / 2 ^ 256 < 2 ^ 64 := by
  rw [Nat.div_lt_iff_lt_mul (by decide), hN]
  exact Nat.lt_of_le_of_lt (Nat.mul_le_mul_left x (Nat.le_of_lt hn)) (by rw [Nat.mul_comm]; exact Nat.mul_lt_mul_of_pos_left hx (by decide))
 have hx0 : N % 2 ^ 256 < 2 ^ 256 := Nat.mod_lt _ (by decide)
 have hov := nn _ hNl
 have hmm := nn m (by omega)
 rw [<- hN]
 refine CallA.eV 25 func107 ntmps107 results107 ?_
 refine sqbx ?_
 refine tqbz (cj2 @ez @vbg) ?_
 have mul2 := fun Y => pmul_ok (T := Y) (x := x) (n := UInt64.ofNat n) hx
 rw [nn n hn, <- hN] at mul2
 refine (mul2 _).det' ?_
 have g1 := fun a l => gn1 T a (.cells 47 (Bg most)) l
 by_cases ho : m <= N / 2 ^ 256
 . have io : (((UInt64.ofNat m).toNat : Int) <= ((UInt64.ofNat (N / 2 ^ 256)).toNat : Int)) = True := eq_true (by rw [hov, hmm]; omega)
   have hmin : min (N / m) most = most := by
    refine Nat.min_eq_right (Nat.le_trans (Nat.le_of_lt hmost) ?_)
    rw [Nat.le_div_iff_mul_le hm0]
    rw [Nat.mul_comm]
    exact Nat.le_trans (Nat.mul_le_mul_right (2 ^ 256) ho) (Nat.div_mul_le_self N (2 ^ 256))
   rw [hmin]
   refine tqbz (cj5 @ez @vbg @io @g1 @vres) ?_
   exact Vw.cut ⟨by rw [AV.wo, AV.woL_eq, Bg_wo], rfl, rfl⟩
 . have io : (((UInt64.ofNat m).toNat : Int) <= ((UInt64.ofNat (N / 2 ^ 256)).toNat : Int)) = False := eq_false (by rw [hov, hmm]; omega)
   refine tqbz (cj5 @ez @vbg @io @g1 @vres) ?_
   refine SemA.loopE (fun s : Nat × Nat × UInt64 => [(2, w64 (UInt64.ofNat m)), (4, .ptr T.length 0), (7, .ptr (T.length + 1) 0), (8, .ptr (T.length + 2) 0), (10, w64 s.2.2), (24, wint (s.1 : Int))]) (fun s => T ++ [.cells 47 (Bg s.2.1), .cells 47 (Bg most), .cells 47 (Bg 0)]) (fun s => s.1 <= 4 /\ s.2.1 < 2 ^ 256 /\ s.2.2.toNat < m /\ s.2.1 % 2 ^ (64 * (4 - s.1)) = N % 2 ^ 256 % 2 ^ (64 * (4 - s.1)) /\ N / 2 ^ (64 * (4 - s.1)) = s.2.1 / 2 ^ (64 * (4 - s.1)) * m + s.2.2.toNat) (fun s => 4 - s.1) (0, N % 2 ^ 256, UInt64.ofNat (N / 2 ^ 256)) [] 0 (fun _ : Unit => [(4, .ptr T.length 0), (7, .ptr (T.length + 1) 0), (8, .ptr (T.length + 2) 0)]) (fun _ => T ++ [.cells 47 (Bg (N / m)), .cells 47 (Bg most), .cells 47 (Bg 0)]) (fun _ => N / m < 2 ^ 256) ⟨by simp, hx0, by rw [hov]; omega, rfl, ?_⟩ (by (simp -dsimp +decide (disch := omega) only [v1q, ↓reduceIte, Nat.reduceSub, Nat.reduceAdd, Nat.reduceMul, Nat.reduceLT, Int.reduceAdd, Int.reduceSub, Int.reduceToNat, v4q]); first | rfl | done) rfl (by simp) ?_ ?_
   . dsimp only
     rw [hov, Nat.sub_zero, Nat.div_eq_of_lt hx0, Nat.zero_mul, Nat.zero_add]
   . rintro ⟨i, w, r⟩ g ⟨hi, hw, hr, h1, h2⟩
     dsimp only at hi hw hr h1 h2
     refine SemA.o ?_
     refine sqby ?_
     refine CondP.dec (fun h => ?_) (fun h => ?_)
     . obtain ⟨k, hk⟩ : ∃ k, k = 3 - i := ⟨_, rfl⟩
       have hk4 : k < 4 := by omega
       have hsub : (3 : Int) - (i : Int) = (k : Int) := by omega
       rw [show 4 - i = k + 1 by omega] at h1 h2
       have hgw := Bg_get w hk4
       have g0 := fun l => gn0 T (.cells 47 (Bg w)) l
       refine tqbz (cj5 @vbg @g0 @hsub @hgw @Bg_len) ?_
       refine ⟨⟨by omega, by omega⟩, (div64_ok (by rw [hmm]; exact hr) (by rw [hmm]; exact hm)).det' ?_⟩
       rw [hmm]
       obtain ⟨l, hl⟩ : ∃ l, l = (limb w k).toNat := ⟨_, rfl⟩
       have lx : l < 2 ^ 64 := by rw [hl]; exact UInt64.toNat_lt _
       rw [<- hl]
       obtain ⟨D, hD⟩ : ∃ D, D = r.toNat * 2 ^ 64 + l := ⟨_, rfl⟩
       rw [<- hD]
       have hq : D / m < 2 ^ 64 := by
        rw [Nat.div_lt_iff_lt_mul hm0, hD]
        have : (r.toNat + 1) * 2 ^ 64 <= m * 2 ^ 64 := Nat.mul_le_mul_right _ hr
        rw [Nat.mul_comm m] at this
        omega
       have hrm : D % m < m := Nat.mod_lt _ hm0
       obtain ⟨w', hw', hs, g1', g2', g3'⟩ := Bg_put hw hk4 hq
       have hs2 := hs (UInt64.ofNat (D / m)) (nn _ hq)
       refine tqbz (cj4 @vbg @g0 @hs2 @Bg_len) ?_
       refine ⟨⟨by omega, by omega⟩, by omega, (i + 1, w', UInt64.ofNat (D % m)), ⟨⟨by dsimp only; omega, hw', by rw [nn _ (by omega)]; exact hrm, ?_, ?_⟩, by dsimp only; omega⟩, ⟨by rw [hmm], rfl, rfl⟩, rfl⟩
       . dsimp only
         rw [show 4 - (i + 1) = k by omega, g1', mod_of_mod h1]
       . dsimp only
         rw [show 4 - (i + 1) = k by omega, nn _ (by omega)]
         have hd1 := div_next N k
         have hd2 := div_next w' k
         have hl2 : N / 2 ^ (64 * k) % 2 ^ 64 = l := by
          rw [hl, limb_of_mod h1, limb_nat]
          have : N / 2 ^ (64 * k) % 2 ^ 64 = N % 2 ^ 256 / 2 ^ (64 * k) % 2 ^ 64 := by
           have e : (limb N k).toNat = (limb (N % 2 ^ 256) k).toNat := by
            rw [limb_of_mod (a := N) (b := N % 2 ^ 256) (k := k)]
            rw [Nat.mod_mod_of_dvd]
            exact Nat.pow_dvd_pow 2 (by omega)
           rw [limb_nat, limb_nat] at e
           exact e
          exact this
         rw [hl2, h2] at hd1
         rw [g2', g3'] at hd2
         have hdm := Nat.div_add_mod D m
         rw [hd1, hd2, Nat.add_mul, Nat.add_mul, Nat.mul_right_comm]
         rw [hD] at hdm
         rw [<- hD] at hdm
         rw [Nat.mul_comm (D / m) m]
         omega
     . have e : i = 4 := by omega
       subst e
       simp only [Nat.sub_self, Nat.mul_zero, Nat.pow_zero, Nat.div_one] at h2
       have hq : N / m = w := by
        rw [h2, Nat.mul_comm, Nat.mul_add_div hm0, Nat.div_eq_of_lt hr, Nat.add_zero]
       refine tqbz @vbg ?_
       refine ⟨(), ?_, ?_⟩
       . rw [hq]; exact hw
       . rw [hq]
   . rintro _ g tmp hlt
     refine tqbz @vbg ?_
     refine (pless_ok hmost hlt).det' ?_
     have g0 := fun l => gn0 T (.cells 47 (Bg (N / m))) l
     by_cases hc : most < N / m
     . have ic := eq_true hc
       rw [Nat.min_eq_right (by omega)]
       refine tqbz (cj5 @vbg @g0 @g1 @ic @vres) ?_
       exact Vw.cut ⟨by rw [AV.wo, AV.woL_eq, Bg_wo], rfl, rfl⟩
     . have ic := eq_false hc
       rw [Nat.min_eq_left (by omega)]
       refine tqbz (cj5 @vbg @g0 @g1 @ic @vres) ?_
       exact Vw.cut ⟨by rw [AV.wo, AV.woL_eq, Bg_wo], rfl, rfl⟩
theorem rbits_ok {T : Tbl} {p : Par} (ok : p.Ok) {a : AV} {hs : List Hdr} (hb : Es T 68 Hdr.cs a hs) (hok : ∀ x ∈ hs, x.Ok) (hl : hs.length <= 1000000) : CallA prog G 72 [.ag p.cs, a] T fun v T' es => v = w32 (bitsB p hs) /\ T' = T /\ es = [] := by
 refine CallA.wfs fun wf => ?_
 have wt := wf.t
 have hr := Par.rules ok
 have hsr := Sl.rules hb.sl (by decide)
 have hld := hb.ld (P := prog) (t := 28) (by (simp -dsimp +decide only [v5q, ↓reduceIte, Nat.reduceSub, Nat.reduceAdd, Nat.reduceMul, Nat.reduceLT, Int.reduceAdd, Int.reduceSub, Int.reduceToNat, ci])) (by (simp -dsimp +decide only [v5q, ↓reduceIte, Nat.reduceSub, Nat.reduceAdd, Nat.reduceMul, Nat.reduceLT, Int.reduceAdd, Int.reduceSub, Int.reduceToNat, ci])) (by decide)
 have hl1 := Sl.loads hb.sl (P := prog) (t := 23) (by (simp -dsimp +decide only [v5q, ↓reduceIte, Nat.reduceSub, Nat.reduceAdd, Nat.reduceMul, Nat.reduceLT, Int.reduceAdd, Int.reduceSub, Int.reduceToNat, ci]))
 have g0 := fun l => gn0 T (.cells 30 p.cs) l
 have ez : [oQ, oQ, oQ, oQ] = Bg 0 := rfl
 refine CallA.eV 14 func72 ntmps72 results72 ?_
 refine sqax ?_
 cases hn : hs.getLast? with
 | none =>
   rw [List.getLast?_eq_none_iff] at hn
   subst hn
   rw [show bitsB p [] = 0 from rfl]
   refine tqaz (cj4 @hr @hsr @List.length_nil.{0} @bb2) ?_
   exact Vw.cut ⟨rfl, rfl, rfl⟩
 | some la =>
   have hlast : hs[hs.length - 1]? = some la := by rw [<- List.getLast?_eq_getElem?, hn]
   have hne : 0 < hs.length := by
    rcases hs with _ | ⟨x, l⟩
    . cases hn
    . exact Nat.succ_pos _
   have hla := hok la (List.mem_of_getElem? hlast)
   have hlr := Hdr.rules hla
   have hl0 : ((hs.length : Int) = 0) = False := eq_false (by omega)
   have hsub1 : (hs.length : Int) - 1 = ((hs.length - 1 : Nat) : Int) := by omega
   refine tqaz (cj5 @hr @hsr @hl0 @g0 @bb2) ?_
   refine (pmay_ok ok).det' ?_
   cases hm : mayB p with
   | false =>
     rw [show bitsB p hs = 0 by unfold bitsB; rw [hn]; simp [hm]]
     refine tqaz (cj5 @hr @hsr @hl0 @g0 @bb2) ?_
     exact Vw.cut ⟨rfl, rfl, rfl⟩
   | true =>
     obtain ⟨m1, m2, m3, m4, -, -, -, m5⟩ := mayB_is hm
     obtain ⟨iv, hiv⟩ := Int.eq_ofNat_of_zero_le (show 0 <= p.interval by omega)
     have hiv2 : 2 <= iv := by omega
     have hrem : (hs.length : Int).tmod (p.interval) = ((hs.length % iv : Nat) : Int) := by rw [hiv]; rfl
     refine tqaz (cj13 @hr @hsr @hl0 @g0 @bb2 @hsub1 @hld @hlast @ez68 @vz68 @hlr @hla @hrem) ?_
     refine ⟨⟨by omega, by omega⟩, by omega, CondP.ndec (fun h => ?_) (fun h => ?_)⟩
     . rw [show bitsB p hs = la.bits by unfold bitsB; rw [hn]; simp only [hm]; rw [hiv, Int.toNat_natCast, if_neg (by decide), if_pos (by omega)]]
       refine tqaz (cj6 @hr @hsr @hl0 @g0 @hld @hlr) ?_
       exact Vw.cut ⟨rfl, rfl, rfl⟩
     have h0 : hs.length % iv = 0 := by omega
     have hle : iv <= hs.length := Nat.le_of_dvd hne (Nat.dvd_of_mod_eq_zero h0)
     obtain ⟨fi, hfi⟩ : ∃ fi, hs[hs.length - iv]? = some fi := ⟨hs[hs.length - iv]'(by omega), by simp⟩
     have hfo := hok fi (List.mem_of_getElem? hfi)
     rw [show bitsB p hs = turnB p la fi by unfold bitsB; rw [hn]; simp only [hm]; rw [hiv, Int.toNat_natCast, if_neg (by decide), if_neg (by omega), hfi]]
     have hsub : (hs.length : Int) - p.interval = ((hs.length - iv : Nat) : Int) := by omega
     have hmul : p.interval * (p.spacing.toNat : Int) = ((wantN p : Nat) : Int) := by unfold wantN; rw [hiv, Int.toNat_natCast]; rfl
     have hw : wantN p <= 2016 * 3600 := by unfold wantN; exact Nat.mul_le_mul (by omega) m4
     have hw2 : 2 <= wantN p := by unfold wantN; exact Nat.mul_le_mul (show 2 <= p.interval.toNat by omega) m3
     have hfd := fun j k (K : AV -> Prop) => Sl.fld (K := K) hb.sl hne j k
     have hcell : (hs.flatMap Hdr.cs)[(hs.length - iv) * 68 + 65]? = some (w32 fi.time) := by
      rw [flat_cell hb.wd hfi (by decide)]; exact (Hdr.rules hfo).2.2.2.2.1
     have g1 := fun a l => gn1 T a (.cells 28 la.cs) l
     have g2 := fun a b c l => gn2 T a b (.cells 47 c) l
     have g3 := fun a b c d l => gn3 T a b c (.cells 47 d) l
     have t1 := la.time.toNat_lt
     have t2 := fi.time.toNat_lt
     refine tqaz (cj10 @hr @hsr @hl0 @g0 @g1 @bb2 @hld @hl1 @hlr @hmul) ?_
     refine SemA.draw (fun i => true) [(0, true), (1, true), (2, true), (3, true), (4, true), (5, true), (6, true), (7, true), (8, true), (9, true), (10, true), (11, true), (12, true), (13, true)] mixed (by kernel_rfl) ?_
     refine tqaz (cj14 @hr @hsr @hl0 @g0 @g1 @bb2 @hld @hl1 @hlr @hsub @hfd @hcell @vmm @kallT) ?_
     refine ⟨⟨by omega, by omega⟩, ?_⟩
     have hspan : max ((wantN p / 4 : Nat) : Int) (min (4 * ((wantN p : Nat) : Int)) ((la.time.toNat : Int) - (fi.time.toNat : Int))) = ((spanN p la.time fi.time : Nat) : Int) := by unfold spanN; omega
     have hsl : spanN p la.time fi.time <= 4 * wantN p := by unfold spanN; omega
     rw [hspan]
     refine pof03_ok.det' ?_
     rw [ofV_n]
     refine tqaz (cj9 @hr @hsr @hl0 @g0 @g1 @bb2 @vbg @ez @hlr) ?_
     refine pof03_ok.det' ?_
     rw [ofV_n]
     have hu1 : (UInt64.ofInt ((spanN p la.time fi.time : Nat) : Int)).toNat = spanN p la.time fi.time := ofInt_lt (by omega)
     have hu2 : (UInt64.ofInt ((wantN p : Nat) : Int)).toNat = wantN p := ofInt_lt (by omega)
     refine tqaz (cj13 @hr @hsr @hl0 @g0 @g1 @g2 @g3 @bb2 @vbg @ez @hlr @hu1 @hu2) ?_
     refine (scaled_ok (ofN_lt _) (ofN_lt _) (by omega) (by omega) (by omega)).det' ?_
     have ht : min (ofN la.bits * spanN p la.time fi.time / wantN p) (ofN p.limit) < 2 ^ 256 := Nat.lt_of_le_of_lt (Nat.min_le_right _ _) (ofN_lt _)
     unfold turnB
     revert ht
     generalize min (ofN la.bits * spanN p la.time fi.time / wantN p) (ofN p.limit) = t
     intro ht
     have g4 := fun a b c d e l => gn4 T a b c d (.cells 47 e) l
     simp -dsimp +decide (disch := omega) only [v5q, ↓reduceIte, Nat.reduceSub, Nat.reduceAdd, Nat.reduceMul, Nat.reduceLT, Int.reduceAdd, Int.reduceSub, Int.reduceToNat, v2q, hr, hsr, hl0, g0, g1, g2, g4, bb2, vbg, ez, hlr, eqB ht (show 0 < 2 ^ 256 by decide)]
     refine CondP.dec (fun h => ?_) (fun h => ?_)
     . subst h
       refine tqaz (cj3 @ez @vbg @g4) ?_
       refine (pof_ok (n := 1)).det' ?_
       refine tqaz (cj3 @ez @vbg @g4) ?_
       refine (pcompact_ok (show 1 < 2 ^ 256 by decide)).det' ?_
       refine tqaz (cj2 @vbg @wt) ?_
       exact Vw.cut ⟨rfl, rfl, rfl⟩
     . refine tqaz (cj3 @ez @vbg @g4) ?_
       refine (pcompact_ok ht).det' ?_
       rw [Nat.max_eq_right (by omega)]
       refine tqaz (cj2 @vbg @wt) ?_
       exact Vw.cut ⟨rfl, rfl, rfl⟩
def sortU (l : List UInt32) : List UInt32 := l.mergeSort fun a b => decide (a <= b)
theorem sortU_is {s l : List UInt32} (hp : s.Perm l) (hs : s.Pairwise (· <= ·)) : s = sortU l := by
 refine List.Perm.eq_of_pairwise (le := (· <= ·)) (fun a b _ _ h1 h2 => UInt32.le_antisymm h1 h2) hs ?_ (hp.trans (List.mergeSort_perm l _).symm)
 have := List.pairwise_mergeSort (le := fun a b : UInt32 => decide (a <= b)) (fun a b c h1 h2 => by simp only [decide_eq_true_eq] at *; exact UInt32.le_trans h1 h2) (fun a b => by
  rcases UInt32.le_total a b with h | h
  . simp [h]
  . simp [h]) l
 exact this.imp fun h => by simpa using h
def lastT (hs : List Hdr) : List UInt32 := (hs.drop (hs.length - 11)).map Hdr.time
def medT (ts : List UInt32) : UInt32 := ((sortU ts)[ts.length / 2]?).getD 0
def medB (hs : List Hdr) : UInt32 := medT (lastT hs)
theorem ins_perm {x : UInt32} {s l : List UInt32} {j : Nat} (hp : s.Perm l) : (s.take j ++ x :: s.drop j).Perm (l ++ [x]) := by
 refine List.perm_middle.trans ?_
 rw [List.take_append_drop]
 exact (List.Perm.cons x hp).trans (List.perm_append_singleton x l).symm
theorem ins_sorted {x : UInt32} {s : List UInt32} {j : Nat} (hs : s.Pairwise (· <= ·)) (h1 : ∀ y, 0 < j -> s[j - 1]? = some y -> y <= x) (h2 : ∀ y ∈ s.drop j, x < y) (hj : j <= s.length) : (s.take j ++ x :: s.drop j).Pairwise (· <= ·) := by
 have e := List.take_append_drop j s
 rw [<- e, List.pairwise_append] at hs
 obtain ⟨p1, p2, p3⟩ := hs
 have hle : ∀ y ∈ s.take j, y <= x := fun y hy => by
  obtain ⟨i, hi, rfl⟩ := List.mem_iff_getElem.1 hy
  have hi2 : i < j /\ i < s.length := by rw [List.length_take] at hi; omega
  have hk : j - 1 < s.length := by omega
  have hz := h1 (s[j - 1]) (by omega) (by simp [hk])
  refine UInt32.le_trans ?_ hz
  rw [List.getElem_take]
  rcases Nat.lt_or_ge i (j - 1) with hl | hl
  . have hsw : s.Pairwise (· <= ·) := by rw [<- e, List.pairwise_append]; exact ⟨p1, p2, p3⟩
    exact List.pairwise_iff_getElem.1 hsw i (j - 1) hi2.2 hk hl
  . have : i = j - 1 := by omega
    subst this; exact UInt32.le_refl _
 rw [List.pairwise_append]
 refine ⟨p1, List.pairwise_cons.2 ⟨fun y hy => UInt32.le_of_lt (h2 y hy), p2⟩, fun y hy z hz => ?_⟩
 rcases List.mem_cons.1 hz with rfl | hz
 . exact hle y hy
 . exact p3 y hy z hz
theorem median13_ok {T : Tbl} {a : AV} {hs : List Hdr} (hb : Es T 68 Hdr.cs a hs) (hok : ∀ x ∈ hs, x.Ok) (hl : hs.length <= 1000000) : CallA prog G 31 [a] T fun v T' es => v = w32 (medB hs) /\ T' = T /\ es = [] := by
 refine CallA.wfs fun wf => ?_
 have wt := wf.t
 have wa := wf.arg a (by simp)
 have hsr := Sl.rules hb.sl (by decide)
 have hl1 := Sl.loads hb.sl (P := prog) (t := 23) (by (simp -dsimp +decide only [vt2, v1q, ↓reduceIte, Nat.reduceSub, Nat.reduceAdd, Nat.reduceMul, Nat.reduceLT, Int.reduceAdd, Int.reduceSub, Int.reduceToNat, ci]))
 obtain ⟨f, hf⟩ : ∃ f, f = hs.length - 11 := ⟨_, rfl⟩
 have hmx : max ((hs.length : Int) - 11) 0 = (f : Int) := by omega
 have hlast : lastT hs = (hs.drop f).map Hdr.time := by rw [lastT, hf]
 refine CallA.eV 6 func31 ntmps31 results31 ?_
 refine sqcx ?_
 refine tqcz (cj3 @hsr @vmm @hmx) ?_
 refine SemA.adopt 3 23 1 (by decide) rfl ?_
 refine tqcx @vt ?_
 refine SemA.loopK (T.length + 1) (fun s : Nat × List UInt32 => [(0, a), (3, .sl T.length 0 s.1), (4, wint ((f + s.1 : Nat) : Int))]) (fun s => T ++ [.buf 23 1 (s.2.map w32)]) (fun s => f + s.1 <= hs.length /\ s.2.length = s.1 /\ s.2.Perm ((lastT hs).take s.1) /\ s.2.Pairwise (· <= ·)) (fun s => hs.length - s.1) (0, []) [] 0 (fun _ : Unit => [(3, .sl T.length 0 (lastT hs).length)]) (fun _ => T ++ [.buf 23 1 ((sortU (lastT hs)).map w32)]) (fun _ => True) (by omega) ⟨by dsimp only; omega, rfl, by simp, by simp⟩ (by (simp -dsimp +decide (disch := omega) only [vt2, v1q, ↓reduceIte, Nat.reduceSub, Nat.reduceAdd, Nat.reduceMul, Nat.reduceLT, Int.reduceAdd, Int.reduceSub, Int.reduceToNat, v4q]); first | rfl | done) rfl (by simp) ?_ ?_
 . rintro ⟨k, s⟩ g ⟨hk, hsl, hp, hst⟩
   dsimp only at hk hsl hp hst
   refine SemA.o ?_
   refine tqcz @hsr ?_
   refine CondP.dec (fun h => ?_) (fun h => ?_)
   . obtain ⟨x, hx⟩ : ∃ x, hs[f + k]? = some x := ⟨hs[f + k]'(by omega), by simp⟩
     have hxo := hok x (List.mem_of_getElem? hx)
     have hne : 0 < hs.length := by omega
     have hfd := fun j k (K : AV -> Prop) => Sl.fld (K := K) hb.sl hne j k
     have hcell : (hs.flatMap Hdr.cs)[(f + k) * 68 + 65]? = some (w32 x.time) := by
      rw [flat_cell hb.wd hx (by decide)]; exact (Hdr.rules hxo).2.2.2.2.1
     refine tqcz (cj4 @hsr @hl1 @hfd @hcell) ?_
     refine ⟨⟨by omega, by omega⟩, ⟨hsl, by omega, by omega⟩, ?_⟩
     refine SemA.cut (T.length + 1) (by omega) ?_
     refine tqcz (cj2 @wt @wa) ?_
     refine SemA.loopK (T.length + 1) (fun q : Nat × UInt32 => [(0, a), (3, .sl T.length 0 (k + 1)), (4, wint ((f + k : Nat) : Int)), (5, wint (q.1 : Int))]) (fun q => T ++ [.buf 23 1 ((s.take q.1 ++ q.2 :: s.drop q.1).map w32)]) (fun q => q.1 <= k /\ ∀ y ∈ s.drop q.1, x.time < y) (fun q => q.1) (k, x.time) [] 2 (fun q : Nat × UInt32 => [(0, a), (3, .sl T.length 0 (k + 1)), (4, wint ((f + k : Nat) : Int)), (5, wint (q.1 : Int))]) (fun q => T ++ [.buf 23 1 ((s.take q.1 ++ q.2 :: s.drop q.1).map w32)]) (fun q => q.1 <= k /\ (∀ y ∈ s.drop q.1, x.time < y) /\ (∀ y, 0 < q.1 -> s[q.1 - 1]? = some y -> y <= x.time)) (by omega) ⟨by dsimp only; omega, by simp [<- hsl]⟩ (by (simp -dsimp +decide (disch := omega) only [vt2, v1q, ↓reduceIte, Nat.reduceSub, Nat.reduceAdd, Nat.reduceMul, Nat.reduceLT, Int.reduceAdd, Int.reduceSub, Int.reduceToNat, v4q]); first | rfl | done) (by simp [<- hsl, w32]) (by simp) ?_ ?_
     . rintro ⟨j, c⟩ g ⟨hj, hgt⟩
       dsimp only at hj hgt
       have hlen : (s.take j ++ c :: s.drop j).length = k + 1 := by simp; omega
       refine SemA.o ?_
       by_cases h0 : j = 0
       . have i0 : ((0 : Int) < (j : Int)) = False := eq_false (by omega)
         refine SemA.draw (fun i => true) [(0, true), (1, true), (2, true), (3, true), (4, true), (5, true), (6, true), (7, true), (8, true), (9, true), (10, true), (11, true), (12, true), (13, true), (14, true)] mixed (by kernel_rfl) ?_
         refine tqcz (cj3 @hsr @i0 @bb2) ?_
         exact ⟨(j, c), ⟨hj, hgt, fun y hy => by omega⟩, ⟨wa.1 1, rfl⟩, by rw [wt.1 1]⟩
       . obtain ⟨y, hy⟩ : ∃ y, s[j - 1]? = some y := ⟨s[j - 1]'(by omega), by simp⟩
         have i0 : ((0 : Int) < (j : Int)) = True := eq_true (by omega)
         have hc : (j : Int) - 1 = ((j - 1 : Nat) : Int) := by omega
         have hyc : ((s.take j ++ c :: s.drop j).map w32)[j - 1]? = some (w32 y) := by
          rw [List.getElem?_map, List.getElem?_append_left (by simp; omega), List.getElem?_take_of_lt (by omega), hy]; rfl
         refine SemA.draw (fun i => true) [(0, true), (1, true), (2, true), (3, true), (4, true), (5, true), (6, true), (7, true), (8, true), (9, true), (10, true), (11, true), (12, true), (13, true), (14, true)] mixed (by kernel_rfl) ?_
         refine tqcz (cj7 @hsr @i0 @hc @hyc @hl1 @hfd @hcell) ?_
         have hnil : (s.take j ++ c :: s.drop j).map w32 ≠ [] := by simp
         refine ⟨⟨by omega, by omega, hnil⟩, ⟨by omega, by omega⟩, CondP.dec (fun h => ?_) (fun h => ?_)⟩
         . refine tqcz (cj3 @hsr @hc @hyc) ?_
           have e2 : s.drop (j - 1) = y :: s.drop j := by
            have := List.drop_eq_getElem_cons (l := s) (i := j - 1) (by omega)
            rw [this, show j - 1 + 1 = j by omega]
            rw [List.getElem?_eq_getElem (by omega)] at hy
            rw [Option.some.inj hy]
           have e1 : s.take j = s.take (j - 1) ++ [y] := by
            have := List.take_add_one (l := s) (i := j - 1)
            rw [show j - 1 + 1 = j by omega, hy] at this
            exact this
           refine ⟨⟨by omega, by omega, hnil⟩, ⟨by omega, by omega, hnil⟩, by omega, (j - 1, y), ⟨⟨by dsimp only; omega, ?_⟩, by dsimp only; omega⟩, ⟨wa.1 1, rfl⟩, ?_⟩
           . dsimp only
             rw [e2]
             intro z hz
             rcases List.mem_cons.1 hz with rfl | hz
             . exact UInt32.lt_iff_toNat_lt.2 (by omega)
             . exact hgt z hz
           . dsimp only
             rw [wt.1 1, List.set_append_right _ _ (by simp; omega), show j - (s.take j).length = 0 by simp; omega, e2, e1, List.append_assoc]
             rfl
         . refine tqcz @hsr ?_
           refine ⟨(j, c), ⟨hj, hgt, fun z _ hz => ?_⟩, ⟨wa.1 1, rfl⟩, by rw [wt.1 1]⟩
           rw [hy] at hz; cases hz
           exact UInt32.le_iff_toNat_le.2 (by omega)
     . rintro ⟨j, c⟩ g tmp ⟨hj, hgt, hle⟩
       dsimp only at hj hgt hle
       refine tqcz (cj4 @hsr @hl1 @hfd @hcell) ?_
       have hlen : (s.take j ++ c :: s.drop j).length = k + 1 := by simp; omega
       have hnil : (s.take j ++ c :: s.drop j).map w32 ≠ [] := by simp
       refine ⟨⟨by omega, by omega⟩, ⟨by omega, by omega, hnil⟩, by omega, (k + 1, s.take j ++ x.time :: s.drop j), ⟨⟨by dsimp only; omega, by simp; omega, ?_, ins_sorted hst hle hgt (by omega)⟩, by dsimp only; omega⟩, ⟨wa.1 1, rfl, rfl⟩, ?_⟩
       . dsimp only
         have hx2 : (lastT hs)[k]? = some x.time := by rw [hlast, List.getElem?_map, List.getElem?_drop, hx]; rfl
         rw [List.take_add_one, hx2]
         exact ins_perm hp
       . rw [wt.1 1, List.set_append_right _ _ (by simp; omega), show j - (s.take j).length = 0 by simp; omega]
         rfl
   . have e : f + k = hs.length := by omega
     have hkl : k = (lastT hs).length := by rw [hlast]; simp; omega
     subst hkl
     rw [List.take_length] at hp
     rw [sortU_is hp hst]
     refine tqcz @wt ?_
     exact ⟨(), trivial⟩
 . rintro _ g tmp -
   have hsl : (sortU (lastT hs)).length = (lastT hs).length := List.length_mergeSort _
   have hll : (lastT hs).length <= 11 := by rw [lastT]; simp; omega
   refine sqcz ?_
   refine CondP.dec (fun h => ?_) (fun h => ?_)
   . have h0 : lastT hs = [] := List.length_eq_zero_iff.1 (by omega)
     rw [show medB hs = 0 by rw [medB, h0]; simp [medT, sortU]]
     refine tqcz @wt ?_
     exact Vw.cut ⟨rfl, rfl, rfl⟩
   . obtain ⟨m, hm⟩ : ∃ m, (sortU (lastT hs))[(lastT hs).length / 2]? = some m := ⟨(sortU (lastT hs))[(lastT hs).length / 2]'(by omega), by simp⟩
     have hmc : ((sortU (lastT hs)).map w32)[(lastT hs).length / 2]? = some (w32 m) := by rw [List.getElem?_map, hm]; rfl
     have hq : ((lastT hs).length : Int).tdiv 2 = (((lastT hs).length / 2 : Nat) : Int) := rfl
     have hnil : (sortU (lastT hs)).map w32 ≠ [] := fun e => by rw [List.map_eq_nil_iff] at e; rw [e] at hsl; simp at hsl; omega
     rw [show medB hs = m by rw [medB, medT, hm]; rfl]
     refine tqcz (cj3 @wt @hq @hmc) ?_
     refine ⟨⟨by omega, by omega, hnil⟩, ?_⟩
     exact Vw.cut ⟨rfl, rfl, rfl⟩
theorem TB_self {T : Tbl} {i : Nat} {d : Array UInt32} (h : T[i]? = some (.buf 23 1 (D d))) : TB T i d = T := by
 unfold TB
 obtain ⟨h1, h2⟩ := List.getElem?_eq_some_iff.1 h
 rw [<- h2, List.set_getElem_self]
theorem sort_at {T : Tbl} {i n : Nat} {d : Array UInt32} (hT : T[i]? = some (.buf 23 1 (D d))) (hn : d.size = n) (hB : n <= 12) :
 CallA prog G 109 [.sl i 0 n] T fun v T' es => v = .tu [] /\ T' = T.set i (.buf 23 1 (D (Sort.sort ltU d))) /\ es = [(i, false)] := by
 have := sorts_ok (T := T) (i := i) (d := d) (List.getElem?_eq_some_iff.1 hT).1 hn hB
 rw [TB_self hT] at this
 exact this
theorem sort_is (l : List UInt32) : (Sort.sort ltU l.toArray).toList = sortU l := by
 obtain ⟨⟨k0, k1, k2⟩, k3⟩ := Sort.sort_sorts ltU swoU l.toArray
 have hsz : (Sort.sort ltU l.toArray).size = l.length := by simpa using k0
 refine sortU_is ?_ ?_
 . have e1 : (Sort.sort ltU l.toArray).extract 0 l.toArray.size = Sort.sort ltU l.toArray := by
    rw [show l.toArray.size = (Sort.sort ltU l.toArray).size by rw [k0]]; simp
   have e2 : l.toArray.extract 0 l.toArray.size = l.toArray := by simp
   rw [e1, e2] at k2
   simpa using k2
 . refine List.pairwise_iff_getElem.2 fun i j hi hj hij => ?_
   have hj' : j < l.length := by rw [Array.length_toList, hsz] at hj; exact hj
   have := k3 i j (Nat.zero_le _) hij (by simpa using hj')
   rw [getElem!_pos _ j (by omega), getElem!_pos _ i (by omega)] at this
   simp only [ltU, decide_eq_false_iff_not] at this
   rw [Array.getElem_toList, Array.getElem_toList]
   exact UInt32.not_lt.1 this
theorem D_sort (l : List UInt32) : D (Sort.sort ltU l.toArray) = (sortU l).map w32 := by rw [D, sort_is]
theorem sortU_len (l : List UInt32) : (sortU l).length = l.length := by rw [sortU, List.length_mergeSort]
theorem sub_wo {q : Nat -> Bool} {a : AV} {sz l m : Nat} (h : a.wo q = a) : (a.sub sz l m).wo q = a.sub sz l m := by
 cases a <;> simp_all [AV.sub, AV.wo]
theorem pmedian_ok {T : Tbl} {a : AV} {hs : List Hdr} (hb : Es T 68 Hdr.cs a hs) (hok : ∀ x ∈ hs, x.Ok) (hl : hs.length <= 1000000) : CallA prog G 76 [a] T fun v T' es => v = w32 (medB hs) /\ T' = T /\ es = [] := by
 refine CallA.wfs fun wf => ?_
 have wt := wf.t
 have wa := wf.arg a (by simp)
 have hsr := Sl.rules hb.sl (by decide)
 obtain ⟨f, hf⟩ : ∃ f, f = hs.length - 11 := ⟨_, rfl⟩
 have hfl : f <= hs.length := by omega
 have hmx : max (0 : Int) ((hs.length : Int) - 11) = (f : Int) := by omega
 have hlast : lastT hs = (hs.drop f).map Hdr.time := by rw [lastT, hf]
 refine CallA.eV 14 func76 ntmps76 results76 ?_
 refine sqcx ?_
 refine tqcz (cj3 @hsr @vmm @hmx) ?_
 refine ⟨by omega, ⟨by omega, by omega⟩, ?_⟩
 have hb2 := hb.sub hfl (Nat.le_refl _)
 rw [List.take_of_length_le (by simp)] at hb2
 have hw1 := fun k => sub_wo (sz := 68) (l := f) (m := hs.length) (wa.1 k)
 obtain ⟨a2, ha2⟩ : ∃ a2, a2 = a.sub 68 f hs.length := ⟨_, rfl⟩
 obtain ⟨l, hll⟩ : ∃ l, l = hs.drop f := ⟨_, rfl⟩
 rw [<- ha2] at hb2 hw1 ⊢
 rw [<- hll] at hb2 hlast
 have hln : l.length <= 11 := by rw [hll, List.length_drop]; omega
 have hok2 : ∀ x ∈ l, x.Ok := fun x hx => hok x (List.mem_of_mem_drop (hll ▸ hx))
 have hsr2 := Sl.rules hb2.sl (by decide)
 have hld2 := hb2.ld (P := prog) (t := 28) (by (simp -dsimp +decide only [vt2, v1q, ↓reduceIte, Nat.reduceSub, Nat.reduceAdd, Nat.reduceMul, Nat.reduceLT, Int.reduceAdd, Int.reduceSub, Int.reduceToNat, ci])) (by (simp -dsimp +decide only [vt2, v1q, ↓reduceIte, Nat.reduceSub, Nat.reduceAdd, Nat.reduceMul, Nat.reduceLT, Int.reduceAdd, Int.reduceSub, Int.reduceToNat, ci])) (by decide)
 refine tqcz @hsr2 ?_
 refine SemA.adopt 3 23 1 (by decide) rfl ?_
 refine tqcx @vt ?_
 refine SemA.loopK (T.length + 1) (fun k : Nat => [(3, .sl T.length 0 k), (11, a2), (12, wint (l.length : Int)), (13, wint (k : Int))]) (fun k => T ++ [.buf 23 1 (((l.take k).map Hdr.time).map w32)]) (fun k => k <= l.length) (fun k => l.length - k) 0 [] 0 (fun _ : Unit => [(3, .sl T.length 0 l.length)]) (fun _ => T ++ [.buf 23 1 ((l.map Hdr.time).map w32)]) (fun _ => True) (by omega) (by simp) (by (simp -dsimp +decide (disch := omega) only [vt2, v1q, ↓reduceIte, Nat.reduceSub, Nat.reduceAdd, Nat.reduceMul, Nat.reduceLT, Int.reduceAdd, Int.reduceSub, Int.reduceToNat, v4q]); first | rfl | exact ⟨rfl, rfl⟩ | done) rfl (by simp) ?_ ?_
 . rintro k g hk
   refine SemA.o ?_
   refine tqcz @hsr2 ?_
   refine CondP.dec (fun h => ?_) (fun h => ?_)
   . obtain ⟨x, hx⟩ : ∃ x, l[k]? = some x := ⟨l[k]'(by omega), by simp⟩
     have hxo := hok2 x (List.mem_of_getElem? hx)
     have hxr := Hdr.rules hxo
     have g1 := fun a l => gn1 T a (.cells 28 x.cs) l
     have hnx : (l.take k).map Hdr.time ++ [x.time] = (l.take (k + 1)).map Hdr.time := by rw [List.take_add_one, hx]; simp
     refine tqcz (cj10 @wt @hsr2 @hld2 @hx @ez68 @vz68 @hxo @hxr @g1 @hnx) ?_
     exact ⟨⟨by omega, by omega⟩, ⟨by simp; omega, by omega, by omega⟩, k + 1, ⟨by omega, by omega⟩, ⟨rfl, hw1 1, rfl⟩, rfl⟩
   . have e : k = l.length := by omega
     subst e
     refine tqcz @wt ?_
     rw [List.take_length]
     exact ⟨(), rfl⟩
 . rintro _ g tmp -
   rw [medB, hlast]
   refine sqcz ?_
   refine CondP.dec (fun h => ?_) (fun h => ?_)
   . have : l = [] := List.eq_nil_of_length_eq_zero (by omega)
     subst this
     rw [show medT (List.map Hdr.time []) = 0 from by simp [medT, sortU]]
     refine sqcz ?_
     exact Vw.cut ⟨rfl, rfl, rfl⟩
   . refine sqcz ?_
     refine (sort_at (d := ((l.map Hdr.time).toArray)) (gn0 T _ []) (by simp) (by omega)).det' ?_
     rw [D_sort]
     obtain ⟨S, hS⟩ : ∃ S, S = sortU (l.map Hdr.time) := ⟨_, rfl⟩
     have hSl : S.length = l.length := by rw [hS, sortU_len, List.length_map]
     obtain ⟨x, hx⟩ : ∃ x, S[l.length / 2]? = some x := ⟨S[l.length / 2]'(by omega), by simp⟩
     rw [show medT (l.map Hdr.time) = x by rw [medT, <- hS, List.length_map, hx]; rfl, <- hS]
     have hxc : (S.map w32)[l.length / 2]? = some (w32 x) := by rw [List.getElem?_map, hx]; rfl
     have hq : (l.length : Int).tdiv 2 = ((l.length / 2 : Nat) : Int) := rfl
     have hne : S.map w32 ≠ [] := fun e => by rw [e] at hxc; cases hxc
     refine tqcz (cj2 @hq @hxc) ?_
     exact ⟨⟨by omega, by omega, hne⟩, Vw.cut ⟨rfl, rfl, rfl⟩⟩
def h0b : List UInt8 := List.replicate 32 0
def easyP (i : Int) (s : UInt32) : Par := ⟨0x207fffff, i, s, .p (.slice none 0 0), [], ⟨1, h0b, h0b, 1000, 0x207fffff, 0⟩⟩
theorem easy_ok' {i : Int} {s : UInt32} (hi : -9223372036854775808 <= i /\ i <= 9223372036854775807) : (easyP i s).Ok where
 f := ⟨rfl, rfl⟩
 a := fun T => Es.nil
 l := Nat.zero_le _
 i := hi
 wo := fun q => by rw [easyP]; rfl
 pub := fun i cs => by rw [easyP]; rfl
 one := rfl
 h := by simp [easyP]
theorem easy13_ok {T : Tbl} {i : Int} {s : UInt32} (hi : -9223372036854775808 <= i /\ i <= 9223372036854775807) : CallA prog G 7 [wint i, w32 s] T fun v T' es => v = .ag (easyP i s).cs /\ T' = T /\ es = [] := by
 refine CallA.wfs fun wf => ?_
 have wt := wf.t
 have hr := Par.rules (easy_ok' (s := s) hi)
 refine CallA.eV 5 func7 ntmps7 results7 ?_
 refine sqax ?_
 and_intros
 all_goals first | rfl | exact Nat.le_of_ble_eq_true rfl | (exact Vw.cut ⟨rfl, rfl, rfl⟩)
theorem Hdr.wr {h : Hdr} (ok : h.Ok) : (∀ x : List UInt8, x.length = 32 -> wrA h.cs 1 (x.map by8) = Hdr.cs { h with prev := x }) /\ (∀ x : List UInt8, x.length = 32 -> wrA h.cs 33 (x.map by8) = Hdr.cs { h with root := x }) /\
 (∀ n : UInt32, h.cs.set 65 (.p (.int .u32 (n.toNat : Int))) = Hdr.cs { h with time := n }) /\ (∀ n : UInt32, h.cs.set 66 (.p (.int .u32 (n.toNat : Int))) = Hdr.cs { h with bits := n }) /\ (∀ n : UInt32, h.cs.set 67 (.p (.int .u32 (n.toNat : Int))) = Hdr.cs { h with nonce := n }) := by
 have hl := Hdr.cs_len ok
 have hp : (h.prev.map by8).length = 32 := by simp [ok.p]
 have hr : (h.root.map by8).length = 32 := by simp [ok.r]
 have e65 : ∀ (k : Nat) (v : AV), h.cs.set (65 + k) v = w32 h.v :: (h.prev.map by8 ++ (h.root.map by8 ++ [w32 h.time, w32 h.bits, w32 h.nonce].set k v)) := fun k v => by
  rw [Hdr.cs, show 65 + k = (32 + (32 + k)) + 1 by omega, List.set_cons_succ, List.set_append_right _ _ (by omega), List.set_append_right _ _ (by omega)]
  rw [hp, hr, show 32 + (32 + k) - 32 - 32 = k by omega]
 refine ⟨fun x hx => ?_, fun x hx => ?_, fun n => e65 0 _, fun n => e65 1 _, fun n => e65 2 _⟩
 . rw [wrA_eq (by simp [hx]; omega), Hdr.cs, List.length_map, hx, show List.drop (1 + 32) (w32 h.v :: (h.prev.map by8 ++ (h.root.map by8 ++ [w32 h.time, w32 h.bits, w32 h.nonce]))) = h.root.map by8 ++ [w32 h.time, w32 h.bits, w32 h.nonce] by
    rw [show 1 + 32 = 32 + 1 from rfl, List.drop_succ_cons, <- hp, List.drop_left]]
   rfl
 . rw [wrA_eq (by simp [hx]; omega), Hdr.cs, List.length_map, hx, show List.drop (33 + 32) (w32 h.v :: (h.prev.map by8 ++ (h.root.map by8 ++ [w32 h.time, w32 h.bits, w32 h.nonce]))) = [w32 h.time, w32 h.bits, w32 h.nonce] by
    rw [show 33 + 32 = (32 + 32) + 1 from rfl, List.drop_succ_cons, <- List.drop_drop, <- hp, List.drop_left, hp, <- hr, List.drop_left],
    show List.take 33 (w32 h.v :: (h.prev.map by8 ++ (h.root.map by8 ++ [w32 h.time, w32 h.bits, w32 h.nonce]))) = w32 h.v :: h.prev.map by8 by
    rw [show 33 = 32 + 1 from rfl, List.take_succ_cons, <- hp, List.take_left], List.cons_append, List.cons_append, List.append_assoc]
   rfl
theorem okZ (root : List UInt8) (v t b n : UInt32) (h : root.length = 32) : Hdr.Ok ⟨v, h0b, root, t, b, n⟩ := ⟨rfl, h⟩
theorem z68_set : z68.set 0 (AV.p (Value.int IntKind.u32 1)) = Hdr.cs ⟨1, h0b, h0b, 0, 0, 0⟩ := rfl
theorem wz68 (q : Nat -> Bool) : z68.map (AV.wo q) = z68 := by
 have := (Hdr.rules (okZ h0b 0 0 0 0 rfl)).2.2.2.2.2.2.2.2.2.1 q
 exact this
def meetsB (h : Hdr) (t : Nat) : Bool := decide (t ≠ 0 /\ hN h.id <= t)
def mineAt (h : Hdr) (t n : Nat) : Nat -> Hdr × Bool
 | 0 => (h, false)
 | k + 1 => if meetsB { h with nonce := UInt32.ofNat n } t then ({ h with nonce := UInt32.ofNat n }, true) else mineAt { h with nonce := UInt32.ofNat n } t (n + 1) k
noncomputable def mineB (p : Par) (hs : List Hdr) (time : UInt32) (root : List UInt8) (tries : UInt32) : Hdr × Bool := match hs.getLast? with
 | none => (⟨1, h0b, root, time, bitsB p hs, 0⟩, false)
 | some la => match ofT (bitsB p hs).toNat with
   | none => (⟨1, la.id, root, time, bitsB p hs, 0⟩, false)
   | some t => mineAt ⟨1, la.id, root, time, bitsB p hs, 0⟩ t 0 tries.toNat
theorem mine13_ok {T : Tbl} {p : Par} (ok : p.Ok) {a : AV} {hs : List Hdr} (hb : Es T 68 Hdr.cs a hs) (hok : ∀ x ∈ hs, x.Ok) (hl : hs.length <= 1000000) {time tries : UInt32} {root : List UInt8} (hrt : root.length = 32) :
 CallA prog G 30 [.ag p.cs, a, w32 time, .ag (root.map by8), w32 tries] T fun v T' es => v = .tu [.ag (mineB p hs time root tries).1.cs, .p (.bool (mineB p hs time root tries).2)] /\ T' = T /\ es = [] := by
 refine CallA.wfs fun wf => ?_
 have wt := wf.t
 have wa := wf.arg a (by simp)
 have hr := Par.rules ok
 have g0 := fun l => gn0 T (.cells 30 p.cs) l
 have g1 := fun a l => gn1 T a (.cells 26 (root.map by8)) l
 have g3 := fun a b c d l => gn3 T a b c (.cells 28 d) l
 refine CallA.eV 16 func30 ntmps30 results30 ?_
 refine sqcx ?_
 refine SemA.drawT [(1, a), (4, w32 tries), (10, .ptr (T.length + 2) 0), (12, .ptr (T.length + 3) 0)] (T ++ [.cells 30 p.cs, .cells 26 (root.map by8), .cells 28 z68, .cells 28 (Hdr.cs ⟨1, h0b, root, time, bitsB p hs, 0⟩)]) [] 7 (fun i => decide (i < T.length + 3)) (.st 0 true (.st 1 true (.st 2 true (.st 3 true (.alt 4 (.alt 5 (.st 6 false (.st 7 false .nil)) 6 (.st 5 false (.st 7 false .nil))) 6 (.st 4 false (.st 5 false (.st 7 false .nil)))))))) mixed (by kernel_rfl) ?_ ?_
 . have kk : (∀ k j : Nat, decide (T.length + k < T.length + j) = decide (k < j)) /\ (∀ j : Nat, decide (T.length < T.length + j) = decide (0 < j)) := ⟨fun k j => by simp, fun j => by simp⟩
   have t32 : List.take 32 (List.drop 0 root) = root := by rw [List.drop_zero, List.take_of_length_le (by omega)]
   refine tqcy (cj10 @vp @vt @wt @kk @hr @vh @hrt @ez68 @ez32 @t32) ?_
   refine ⟨(bits13_ok ok (hb.app _) hok hl).det' ?_, (bits13_ok ok (hb.app _) hok hl).det' ?_⟩
   all_goals
    have hw1 := (Hdr.wr (okZ h0b 1 0 0 0 rfl)).2.1 root hrt
    have hw2 := (Hdr.wr (okZ root 1 0 0 0 hrt)).2.2.1
    have hw3 := (Hdr.wr (okZ root 1 time 0 0 hrt)).2.2.2.1
    have hl1 := Hdr.cs_len (okZ root 1 0 0 0 hrt)
    have hl2 := Hdr.cs_len (okZ root 1 time 0 0 hrt)
    have hl3 := Hdr.cs_len (okZ root 1 time (bitsB p hs) 0 hrt)
    have hv := vz68.2 _ (okZ root 1 time (bitsB p hs) 0 hrt)
    refine tqcy (cj20 @vp @vt @wt @wa @kk @hr @vh @vz68 @hrt @ez68 @ez32 @t32 @z68_set @hw1 @hw2 @hw3 @hl1 @hl2 @hl3 @hv) ?_
    have hro := (Hdr.rules (okZ root 1 time (bitsB p hs) 0 hrt)).2.2.2.2.2.2.2.2.2.2.2
    and_intros
    all_goals first
     | exact hro
     | (refine SeeL.done ⟨rfl, ?_, rfl, by simp⟩
        (first | rfl | ((simp -dsimp +decide only [vt2, v1q, ↓reduceIte, Nat.reduceSub, Nat.reduceAdd, Nat.reduceMul, Nat.reduceLT, Int.reduceAdd, Int.reduceSub, Int.reduceToNat, ci]); done)))
 . intro g tmp
   have hsr := Sl.rules hb.sl (by decide)
   have hld := hb.ld (P := prog) (t := 28) (by (simp -dsimp +decide only [vt2, v1q, ↓reduceIte, Nat.reduceSub, Nat.reduceAdd, Nat.reduceMul, Nat.reduceLT, Int.reduceAdd, Int.reduceSub, Int.reduceToNat, ci])) (by (simp -dsimp +decide only [vt2, v1q, ↓reduceIte, Nat.reduceSub, Nat.reduceAdd, Nat.reduceMul, Nat.reduceLT, Int.reduceAdd, Int.reduceSub, Int.reduceToNat, ci])) (by decide)
   cases hn : hs.getLast? with
   | none =>
     have hm : mineB p hs time root tries = (⟨1, h0b, root, time, bitsB p hs, 0⟩, false) := by unfold mineB; rw [hn]
     rw [hm]
     rw [List.getLast?_eq_none_iff] at hn
     subst hn
     have hlr := Hdr.rules (okZ root 1 time (bitsB p []) 0 hrt)
     have hv := vz68.2 _ (okZ root 1 time (bitsB p []) 0 hrt)
     have g2 := fun a b d l => gn2 T a b (.cells 28 d) l
     simp -dsimp +decide (disch := omega) only [vt2, v1q, ↓reduceIte, Nat.reduceSub, Nat.reduceAdd, Nat.reduceMul, Nat.reduceLT, Int.reduceAdd, Int.reduceSub, Int.reduceToNat, v2q, hr, hsr, List.length_nil, g2, g3, hlr, hv, vz68, vres, vone, keepT_get, keepO]
     exact Vw.cut ⟨by rw [AV.wo, AV.woL_eq]; simp only [List.map_cons, List.map_nil, AV.wo, AV.woL_eq, hlr], rfl, rfl⟩
   | some la =>
     have hlast : hs[hs.length - 1]? = some la := by rw [<- List.getLast?_eq_getElem?, hn]
     have hne : 0 < hs.length := by
      rcases hs with _ | ⟨x, l⟩
      . cases hn
      . exact Nat.succ_pos _
     have hla := hok la (List.mem_of_getElem? hlast)
     have hlr := Hdr.rules hla
     have hl0 : ((hs.length : Int) = 0) = False := eq_false (by omega)
     have hid := la.id_len
     have hw := (Hdr.wr (okZ root 1 time (bitsB p hs) 0 hrt)).1 la.id hid
     have hl1 := Hdr.cs_len (okZ root 1 time (bitsB p hs) 0 hrt)
     refine tqcz (cj8 @hr @hsr @hl0 @hld @hlast @g3 @hlr @vz68) ?_
     refine ⟨⟨by omega, by omega⟩, (rid_ok hla).det' ?_⟩
     have okh : Hdr.Ok ⟨1, la.id, root, time, bitsB p hs, 0⟩ := ⟨hid, hrt⟩
     have hhr := Hdr.rules okh
     refine tqcz (cj6 @g3 @hw @hl1 @hhr @vh @hid) ?_
     refine of03_ok.det' ?_
     rw [ofV_n]
     have hR : (if (ofT (bitsB p hs).toNat).isSome then mineAt ⟨1, la.id, root, time, bitsB p hs, 0⟩ (ofN (bitsB p hs)) 0 tries.toNat else (⟨1, la.id, root, time, bitsB p hs, 0⟩, false)) = mineB p hs time root tries := by
      unfold mineB ofN
      rw [hn]
      cases ofT (bitsB p hs).toNat <;> rfl
     have htl := ofN_lt (bitsB p hs)
     revert hR htl
     generalize (ofT (bitsB p hs).toNat).isSome = is
     generalize ofN (bitsB p hs) = t
     generalize mineB p hs time root tries = R
     intro hR htl
     have ez : [oQ, oQ, oQ, oQ] = Bg 0 := rfl
     refine tqcz (cj8 @g3 @hw @hl1 @hhr @vh @hid @ez @vbg) ?_
     have htr := tries.toNat_lt
     refine SemA.loopK (T.length + 5) (fun s : Nat × Hdr => [(4, w32 tries), (10, .ptr (T.length + 2) 0), (12, .ptr (T.length + 3) 0), (13, .ptr (T.length + 4) 0), (14, .p (.bool is)), (15, .p (.int .u32 (s.1 : Int)))]) (fun s => T ++ [.cells 30 p.cs, .cells 26 (root.map by8), .cells 28 z68, .cells 28 s.2.cs, .cells 47 (Bg t)]) (fun s => s.1 <= tries.toNat /\ s.2.Ok /\ (if is then mineAt s.2 t s.1 (tries.toNat - s.1) else (s.2, false)) = R) (fun s => tries.toNat - s.1) (0, ⟨1, la.id, root, time, bitsB p hs, 0⟩) [] 0 (fun _ : Hdr => [(10, .ptr (T.length + 2) 0), (12, .ptr (T.length + 3) 0)]) (fun h => T ++ [.cells 30 p.cs, .cells 26 (root.map by8), .cells 28 z68, .cells 28 h.cs, .cells 47 (Bg t)]) (fun h => h.Ok /\ R = (h, false)) (by omega) ⟨by dsimp only; omega, okh, hR⟩ (by (simp -dsimp +decide (disch := omega) only [vt2, v1q, ↓reduceIte, Nat.reduceSub, Nat.reduceAdd, Nat.reduceMul, Nat.reduceLT, Int.reduceAdd, Int.reduceSub, Int.reduceToNat, v4q]); first | rfl | done) rfl (by simp) ?_ ?_
     . rintro ⟨n, h⟩ g ⟨hnt, hho, hres⟩
       dsimp only at hnt hho hres
       have hhr2 := Hdr.rules hho
       refine SemA.o ?_
       cases is with
       | false =>
         refine tqcz (cj7 @wt @hr @hhr2 @vbg @vh @vz68 @wz68) ?_
         exact ⟨h, ⟨hho, by simpa using hres.symm⟩, rfl⟩
       | true =>
         refine sqcz ?_
         refine CondP.dec (fun hlt => ?_) (fun hlt => ?_)
         . have hset : h.cs.set 67 (AV.p (.int .u32 (n : Int))) = Hdr.cs { h with nonce := UInt32.ofNat n } := by
            have := (Hdr.wr hho).2.2.2.2 (UInt32.ofNat n)
            rwa [UInt32.toNat_ofNat', Nat.mod_eq_of_lt (by omega)] at this
           have hk2 : Hdr.Ok { h with nonce := UInt32.ofNat n } := ⟨hho.p, hho.r⟩
           have hhr3 := Hdr.rules hk2
           have hl0' := Hdr.cs_len hho
           have hidl := Hdr.id_len { h with nonce := UInt32.ofNat n }
           have g4 := fun a b c d e l => gn4 T a b c d (.cells 47 e) l
           refine tqcz (cj4 @g3 @g4 @hset @hl0') ?_
           refine SemA.draw (fun i => true) [(0, true), (2, true), (1, false), (3, false)] mixed (by kernel_rfl) ?_
           refine tqcz (cj4 @g3 @g4 @hhr3 @vbg) ?_
           refine (rid_ok hk2).det' ?_
           refine tqcz (cj4 @g3 @g4 @hhr3 @vbg) ?_
           refine (meets03_ok hidl htl).det' ?_
           have hstep : mineAt h t n (tries.toNat - n) = if meetsB { h with nonce := UInt32.ofNat n } t then ({ h with nonce := UInt32.ofNat n }, true) else mineAt { h with nonce := UInt32.ofNat n } t (n + 1) (tries.toNat - (n + 1)) := by
            rw [show tries.toNat - n = tries.toNat - (n + 1) + 1 by omega, mineAt]
           rw [if_pos rfl, hstep] at hres
           have g2 := fun a b d l => gn2 T a b (.cells 28 d) l
           have hv := vz68.2 _ hk2
           by_cases hm : meetsB { h with nonce := UInt32.ofNat n } t = true
           . rw [show decide (t ≠ 0 /\ hN (Hdr.id { h with nonce := UInt32.ofNat n }) <= t) = true from hm]
             rw [if_pos hm] at hres
             simp -dsimp +decide (disch := omega) only [vt2, v1q, ↓reduceIte, Nat.reduceSub, Nat.reduceAdd, Nat.reduceMul, Nat.reduceLT, Int.reduceAdd, Int.reduceSub, Int.reduceToNat, v2q, g2, g3, g4, hhr3, vbg, hv, vz68, vres, vone, keepT_get, keepO]
             rw [<- hres]
             exact Vw.cut ⟨by rw [AV.wo, AV.woL_eq]; simp only [List.map_cons, List.map_nil, AV.wo, AV.woL_eq, hhr3], rfl, rfl⟩
           . have hm2 : meetsB { h with nonce := UInt32.ofNat n } t = false := by simpa using hm
             rw [show decide (t ≠ 0 /\ hN (Hdr.id { h with nonce := UInt32.ofNat n }) <= t) = false from hm2]
             rw [if_neg hm] at hres
             refine tqcz (cj11 @wt @hr @g2 @g3 @g4 @hhr3 @vbg @vh @hv @vz68 @wz68) ?_
             have hinc : (UInt32.ofInt (n : Int) + UInt32.ofInt 1).toNat = n + 1 := by
              have e1 : (UInt32.ofInt (n : Int)).toNat = n := by rw [UInt32.ofInt]; simp; omega
              rw [UInt32.toNat_add, e1, show (UInt32.ofInt 1).toNat = 1 from rfl, Nat.mod_eq_of_lt (by omega)]
             refine ⟨(n + 1, { h with nonce := UInt32.ofNat n }), ⟨⟨by dsimp only; omega, hk2, hres⟩, by dsimp only; omega⟩, ?_, rfl⟩
             rw [hinc]
         . refine tqcz (cj7 @wt @hr @hhr2 @vbg @vh @vz68 @wz68) ?_
           have : tries.toNat - n = 0 := by omega
           rw [if_pos rfl, this] at hres
           exact ⟨h, ⟨hho, hres.symm⟩, rfl⟩
     . rintro h g tmp ⟨hho, hres⟩
       have hhr2 := Hdr.rules hho
       have hv := vz68.2 _ hho
       have g2 := fun a b d l => gn2 T a b (.cells 28 d) l
       simp -dsimp +decide (disch := omega) only [vt2, v1q, ↓reduceIte, Nat.reduceSub, Nat.reduceAdd, Nat.reduceMul, Nat.reduceLT, Int.reduceAdd, Int.reduceSub, Int.reduceToNat, v2q, hhr2, g2, g3, hv, vz68, vres, vone, keepT_get, keepO]
       rw [hres]
       exact Vw.cut ⟨by rw [AV.wo, AV.woL_eq]; simp only [List.map_cons, List.map_nil, AV.wo, AV.woL_eq, hhr2], rfl, rfl⟩
theorem rt1_ok {W : Tbl} {p : Par} (ok : p.Ok) {i : Nat} (hi : W[i]? = some (.cells 30 p.cs)) : CallA prog G 69 [.ptr i 0] W fun v T' es => v = .p (.bool (mayB p)) /\ T' = W /\ es = [] := by
 have hr := Par.rules ok
 refine CallA.eV 3 func69 ntmps69 results69 ?_
 refine sqbx ?_
 refine tqbz (cj2 @hi @hr) ?_
 refine (pmay_ok ok).det' ?_
 refine tqbz (cj2 @hi @hr) ?_
 exact Vw.done ⟨rfl, rfl, rfl⟩
def prevB (hs : List Hdr) (h : Hdr) : Bool := match hs.getLast? with
 | none => false
 | some la => decide (h.prev = la.id)
theorem rt2_ok {W : Tbl} {a : AV} {hs : List Hdr} {h : Hdr} (hb : Es W 68 Hdr.cs a hs) (hok : ∀ x ∈ hs, x.Ok) (ok : h.Ok) (hl : hs.length <= 1000000) {j q : Nat} (hj : W[j]? = some (.cells 36 [a])) (hq : W[q]? = some (.cells 28 h.cs)) :
 CallA prog G 70 [.ptr j 0, .ptr q 0] W fun v T' es => v = .p (.bool (prevB hs h)) /\ T' = W /\ es = [] := by
 have hr := Hdr.rules ok
 have hsr := Sl.rules hb.sl (by decide)
 have hld := hb.ld (P := prog) (t := 28) (by (simp -dsimp +decide only [v1q, ↓reduceIte, Nat.reduceSub, Nat.reduceAdd, Nat.reduceMul, Nat.reduceLT, Int.reduceAdd, Int.reduceSub, Int.reduceToNat, ci])) (by (simp -dsimp +decide only [v1q, ↓reduceIte, Nat.reduceSub, Nat.reduceAdd, Nat.reduceMul, Nat.reduceLT, Int.reduceAdd, Int.reduceSub, Int.reduceToNat, ci])) (by decide)
 refine CallA.eV 3 func70 ntmps70 results70 ?_
 refine sqbx ?_
 refine SemA.draw (fun i => true) [(0, true), (1, true), (2, true), (3, true), (4, true), (5, true), (6, true), (7, true), (8, true), (9, true), (10, true), (11, true), (12, false), (13, true), (14, true), (15, true)] mixed (by kernel_rfl) ?_
 cases hn : hs.getLast? with
 | none =>
   rw [List.getLast?_eq_none_iff] at hn
   subst hn
   refine tqbz (cj7 @hj @hq @hr @hsr @List.length_nil.{0} @kallT @bb2) ?_
   exact Vw.done ⟨rfl, rfl, rfl⟩
 | some la =>
   have hlast : hs[hs.length - 1]? = some la := by rw [<- List.getLast?_eq_getElem?, hn]
   have hne : 0 < hs.length := by
    rcases hs with _ | ⟨x, l⟩
    . cases hn
    . exact Nat.succ_pos _
   have hla := hok la (List.mem_of_getElem? hlast)
   have hsub1 : (hs.length : Int) - 1 = ((hs.length - 1 : Nat) : Int) := by omega
   have h0 : ((0 : Int) < (hs.length : Int)) = True := eq_true (by omega)
   rw [show prevB hs h = decide (h.prev = la.id) by rw [prevB, hn]]
   refine tqbz (cj10 @hj @hq @hr @hsr @h0 @hsub1 @hld @hlast @kallT @bb2) ?_
   refine ⟨⟨by omega, by omega⟩, (pid_ok hla).det' ?_⟩
   simp -dsimp +decide (disch := omega) only [v1q, ↓reduceIte, Nat.reduceSub, Nat.reduceAdd, Nat.reduceMul, Nat.reduceLT, Int.reduceAdd, Int.reduceSub, Int.reduceToNat, v2q, hj, hq, hr, eqh ok.p la.id_len, kallT, bb2]
   exact Vw.done ⟨rfl, rfl, rfl⟩
theorem rt3_ok {W : Tbl} {p : Par} (okp : p.Ok) {a : AV} {hs : List Hdr} {h : Hdr} (hb : Es W 68 Hdr.cs a hs) (hok : ∀ x ∈ hs, x.Ok) (ok : h.Ok) (hl : hs.length <= 1000000) {i j q : Nat} (hi : W[i]? = some (.cells 30 p.cs)) (hj : W[j]? = some (.cells 36 [a])) (hq : W[q]? = some (.cells 28 h.cs)) :
 CallA prog G 71 [.ptr q 0, .ptr i 0, .ptr j 0] W fun v T' es => v = .p (.bool (decide (h.bits = bitsB p hs))) /\ T' = W /\ es = [] := by
 have hr := Hdr.rules ok
 have hr2 := Par.rules okp
 refine CallA.eV 4 func71 ntmps71 results71 ?_
 refine sqbx ?_
 refine SemA.draw (fun i => true) [(0, true), (1, true), (2, true), (3, true), (4, false), (5, true), (6, true)] mixed (by kernel_rfl) ?_
 refine tqbz (cj6 @hi @hj @hq @hr @hr2 @kallT) ?_
 refine (rbits_ok okp hb hok hl).det' ?_
 refine tqbz @kallT ?_
 exact Vw.done ⟨congrArg (fun b => AV.p (.bool b)) (decide_eq_decide.2 ⟨fun e => UInt32.toNat_inj.1 (by omega), fun e => by rw [e]⟩), rfl, rfl⟩
def workB (h : Hdr) : Bool := match ofT h.bits.toNat with
 | none => false
 | some t => meetsB h t
theorem rt4_ok {W : Tbl} {h : Hdr} (ok : h.Ok) {q m : Nat} (hq : W[q]? = some (.cells 28 h.cs)) (hm : W[m]? = some (.cells 26 (h.id.map by8))) :
 CallA prog G 73 [.ptr q 0, .ptr m 0] W fun v T' es => v = .p (.bool (workB h)) /\ T' = W /\ es = [] := by
 have hr := Hdr.rules ok
 refine CallA.wfs fun wf => ?_
 have wt := wf.t
 have ez : [oQ, oQ, oQ, oQ] = Bg 0 := rfl
 have gq := get_old hq
 have gm := get_old hm
 refine CallA.eV 5 func73 ntmps73 results73 ?_
 refine sqbx ?_
 refine tqbz (cj4 @hq @hr @ez @vbg) ?_
 refine pof03_ok.det' ?_
 cases ho : ofT h.bits.toNat with
 | none =>
   rw [show workB h = false by rw [workB, ho]]
   unfold ofV
   refine tqbz (cj6 @gq @gm @hr @ez @vbg @bb2) ?_
   exact Vw.cut ⟨rfl, rfl, rfl⟩
 | some t =>
   rw [show workB h = meetsB h t by rw [workB, ho]]
   unfold ofV
   have g0 := fun l => gn0 W (.cells 47 (Bg t)) l
   simp -dsimp +decide (disch := omega) only [v1q, ↓reduceIte, Nat.reduceSub, Nat.reduceAdd, Nat.reduceMul, Nat.reduceLT, Int.reduceAdd, Int.reduceSub, Int.reduceToNat, v2q, gq, gm, g0, hr, ez, vbg, vh, h.id_len, List.drop_zero, bb2]
   refine (pmeets_ok h.id_len (ofT_lt ho).1).det' ?_
   rw [show decide (t ≠ 0 /\ hN h.id <= t) = meetsB h t from rfl]
   refine tqbz @bb2 ?_
   exact Vw.cut ⟨rfl, rfl, rfl⟩
theorem rt5_ok {W : Tbl} {a : AV} {hs : List Hdr} {h : Hdr} (hb : Es W 68 Hdr.cs a hs) (hok : ∀ x ∈ hs, x.Ok) (ok : h.Ok) (hl : hs.length <= 1000000) {j q : Nat} (hj : W[j]? = some (.cells 36 [a])) (hq : W[q]? = some (.cells 28 h.cs)) :
 CallA prog G 75 [.ptr q 0, .ptr j 0] W fun v T' es => v = .p (.bool (decide ((medB hs).toNat < h.time.toNat))) /\ T' = W /\ es = [] := by
 have hr := Hdr.rules ok
 refine CallA.eV 3 func75 ntmps75 results75 ?_
 refine sqbx ?_
 refine SemA.draw (fun i => true) [(0, true), (1, true), (2, true), (3, false), (4, true), (5, true)] mixed (by kernel_rfl) ?_
 refine tqbz (cj4 @hj @hq @hr @kallT) ?_
 refine (pmedian_ok hb hok hl).det' ?_
 refine tqbz @kallT ?_
 exact Vw.done ⟨congrArg (fun b => AV.p (.bool b)) (decide_eq_decide.2 (by omega)), rfl, rfl⟩
def ptB (n : Nat) (id : List UInt8) (x : Pt) : Bool := decide (x.h = (n : Int)) && !decide (x.id = id)
theorem rp_ok {W : Tbl} {a : AV} {hs : List Hdr} {id : List UInt8} {x : Pt} (hb : Es W 68 Hdr.cs a hs) (hx : x.id.length = 32) (hid : id.length = 32) {j m : Nat} (hj : W[j]? = some (.cells 36 [a])) (hm : W[m]? = some (.cells 26 (id.map by8))) :
 CallA prog G 79 [.ag x.cs, .ptr j 0, .ptr m 0] W fun v T' es => v = .p (.bool (ptB hs.length id x)) /\ T' = W /\ es = [] := by
 refine CallA.wfs fun wf => ?_
 have wt := wf.t
 have hsr := Sl.rules hb.sl (by decide)
 have gj := get_old hj
 have gm := get_old hm
 have hxr := Pt.rules hx
 have hx4 : List.take 32 (List.drop 1 (AV.p (Value.int IntKind.i64 x.h) :: x.id.map by8)) = x.id.map by8 := hxr.2.2.2.1
 have ht : List.take 32 id = id := List.take_of_length_le (Nat.le_of_eq hid)
 refine CallA.eV 5 func79 ntmps79 results79 ?_
 refine sqbx ?_
 unfold ptB
 by_cases h0 : x.h = (hs.length : Int)
 . have i0 := eq_true h0
   rw [decide_eq_true h0]
   simp -dsimp +decide (disch := omega) only [v1q, ↓reduceIte, Nat.reduceSub, Nat.reduceAdd, Nat.reduceMul, Nat.reduceLT, Int.reduceAdd, Int.reduceSub, Int.reduceToNat, v2q, gj, gm, hsr, hxr, hx4, i0, vh, hx, hid, ht, List.drop_zero, neh hx hid, bb2]
   exact Vw.cut ⟨by rw [Bool.true_and]; rfl, rfl, rfl⟩
 . have i0 := eq_false h0
   rw [decide_eq_false h0]
   refine tqbz (cj7 @gj @gm @hsr @hxr @hx4 @i0 @bb2) ?_
   exact Vw.cut ⟨rfl, rfl, rfl⟩
theorem rix_ok {T : Tbl} {a : AV} {i j : Nat} {hs : List Pt} {q : Pt -> Bool} (hb : Es T 33 Pt.cs a hs) (hl : hs.length <= 1099511627776) (hc : ∀ x ∈ hs, CallA prog G 79 [.ag x.cs, .ptr i 0, .ptr j 0] T fun v T' es => v = .p (.bool (q x)) /\ T' = T /\ es = []) :
 CallA prog G 110 [a, .fn 79 [.ptr i 0, .ptr j 0]] T fun v T' es => (∃ k : Int, v = wint k /\ decide (0 <= k) = hs.any q) /\ T' = T /\ es = [] := by
 have hr := Sl.rules hb.sl (by decide)
 have hld := hb.ld (P := prog) (t := 71) (by (simp -dsimp +decide only [v1q, ↓reduceIte, Nat.reduceSub, Nat.reduceAdd, Nat.reduceMul, Nat.reduceLT, Int.reduceAdd, Int.reduceSub, Int.reduceToNat, ci])) (by (simp -dsimp +decide only [v1q, ↓reduceIte, Nat.reduceSub, Nat.reduceAdd, Nat.reduceMul, Nat.reduceLT, Int.reduceAdd, Int.reduceSub, Int.reduceToNat, ci])) (by decide)
 refine CallA.eV 10 func110 ntmps110 results110 ?_
 refine sqbx ?_
 refine tqby @hr ?_
 refine SemA.loopE (fun k : Nat => [(0, a), (1, .fn 79 [.ptr i 0, .ptr j 0]), (7, wint (hs.length : Int)), (8, wint (k : Int))]) (fun _ => T) (fun k => k <= hs.length /\ (hs.take k).any q = false) (fun k => hs.length - k) 0 [] 0 (fun _ : Unit => []) (fun _ => T) (fun _ => hs.any q = false) ⟨by omega, by simp⟩ (by (simp -dsimp +decide (disch := omega) only [v1q, ↓reduceIte, Nat.reduceSub, Nat.reduceAdd, Nat.reduceMul, Nat.reduceLT, Int.reduceAdd, Int.reduceSub, Int.reduceToNat, v4q]); first | rfl | done) rfl (by simp) ?_ ?_
 . rintro k g ⟨hk, hn⟩
   refine SemA.o ?_
   refine tqby @hr ?_
   refine CondP.dec (fun h => ?_) (fun h => ?_)
   . obtain ⟨y, hy⟩ : ∃ y, hs[k]? = some y := ⟨hs[k]'(by omega), by simp⟩
     refine tqby (cj3 @hr @hld @hy) ?_
     refine ⟨⟨by omega, by omega⟩, ?_⟩
     refine (hc y (List.mem_of_getElem? hy)).det ?_
     cases hq : q y with
     | true =>
       refine sqby ?_
       exact Vw.done ⟨⟨k, rfl, by rw [List.any_eq_true.2 ⟨y, List.mem_of_getElem? hy, hq⟩]; exact decide_eq_true (by omega)⟩, rfl, rfl⟩
     | false =>
       refine sqby ?_
       refine ⟨k + 1, ⟨⟨by omega, ?_⟩, by omega⟩, rfl⟩
       rw [List.take_add_one, hy, List.any_append, hn]
       simp [hq]
   . rw [List.take_of_length_le (by omega)] at hn
     refine sqby ?_
     exact ⟨(), hn⟩
 . rintro _ g tmp hn
   refine sqby ?_
   exact Vw.done ⟨⟨-1, rfl, by rw [hn]; rfl⟩, rfl, rfl⟩
theorem rcon_ok {T : Tbl} {a : AV} {i j : Nat} {hs : List Pt} {q : Pt -> Bool} (hb : Es T 33 Pt.cs a hs) (hl : hs.length <= 1099511627776) (hc : ∀ x ∈ hs, CallA prog G 79 [.ag x.cs, .ptr i 0, .ptr j 0] T fun v T' es => v = .p (.bool (q x)) /\ T' = T /\ es = []) :
 CallA prog G 78 [a, .fn 79 [.ptr i 0, .ptr j 0]] T fun v T' es => v = .p (.bool (hs.any q)) /\ T' = T /\ es = [] := by
 refine CallA.eV 6 func78 ntmps78 results78 ?_
 refine sqbx ?_
 refine (rix_ok hb hl hc).mono ?_
 rintro v T' es ⟨⟨k, rfl, hk⟩, rfl, rfl⟩
 refine sqby ?_
 exact Vw.done ⟨by rw [<- hk], rfl, rfl⟩
theorem rt6_ok {W : Tbl} {p : Par} (ok : p.Ok) {a : AV} {hs : List Hdr} {id : List UInt8} (hb : Es W 68 Hdr.cs a hs) (hid : id.length = 32) {i j m : Nat} (hi : W[i]? = some (.cells 30 p.cs)) (hj : W[j]? = some (.cells 36 [a])) (hm : W[m]? = some (.cells 26 (id.map by8))) :
 CallA prog G 77 [.ptr i 0, .ptr j 0, .ptr m 0] W fun v T' es => v = .p (.bool (!p.pts.any (ptB hs.length id))) /\ T' = W /\ es = [] := by
 have hr := Par.rules ok
 refine CallA.eV 4 func77 ntmps77 results77 ?_
 refine sqbx ?_
 refine tqbz (cj2 @hi @hr) ?_
 refine (rcon_ok (ok.a W) ok.l fun x hx => rp_ok hb (ok.id x hx) hid hj hm).det' ?_
 refine tqbz (cj2 @hi @hr) ?_
 exact Vw.done ⟨rfl, rfl, rfl⟩
def firstR (r0 r1 r2 r3 r4 r5 : Bool) : Int := if r0 = false then 1 else if r1 = false then 9 else if r2 = false then 10 else if r3 = false then 11 else if r4 = false then 12 else if r5 = false then 13 else 0
noncomputable def rightE (p : Par) (hs : List Hdr) (h : Hdr) : Int := firstR (mayB p) (prevB hs h) (decide (h.bits = bitsB p hs)) (workB h) (decide ((medB hs).toNat < h.time.toNat)) (!p.pts.any (ptB hs.length h.id))
def rl6 (r0 r1 r2 r3 r4 r5 : Bool) : Nat -> Bool
 | 0 => r0
 | 1 => r1
 | 2 => r2
 | 3 => r3
 | 4 => r4
 | _ => r5
theorem first_at {r0 r1 r2 r3 r4 r5 : Bool} {k : Nat} (hk : k < 6) (h : ∀ j, j < k -> rl6 r0 r1 r2 r3 r4 r5 j = true) (hn : rl6 r0 r1 r2 r3 r4 r5 k = false) : firstR r0 r1 r2 r3 r4 r5 = if k = 0 then 1 else k + 8 := by
 have h0 := h 0
 have h1 := h 1
 have h2 := h 2
 have h3 := h 3
 have h4 := h 4
 unfold firstR
 match k, hk with
 | 0, _ => simp_all [rl6]
 | 1, _ => simp_all [rl6]
 | 2, _ => simp_all [rl6]
 | 3, _ => simp_all [rl6]
 | 4, _ => simp_all [rl6]
 | 5, _ => simp_all [rl6]
theorem more {r0 r1 r2 r3 r4 r5 : Bool} {k : Nat} (h : ∀ j, j < k -> rl6 r0 r1 r2 r3 r4 r5 j = true) (hc : rl6 r0 r1 r2 r3 r4 r5 k = true) : ∀ j, j < k + 1 -> rl6 r0 r1 r2 r3 r4 r5 j = true := fun j hj => by
 rcases Nat.lt_or_eq_of_le (Nat.le_of_lt_succ hj) with h2 | rfl
 . exact h j h2
 . exact hc
theorem first_all {r0 r1 r2 r3 r4 r5 : Bool} (h : ∀ j, j < 6 -> rl6 r0 r1 r2 r3 r4 r5 j = true) : firstR r0 r1 r2 r3 r4 r5 = 0 := by
 have h0 := h 0
 have h1 := h 1
 have h2 := h 2
 have h3 := h 3
 have h4 := h 4
 have h5 := h 5
 unfold firstR
 simp_all [rl6]
def rulC (n : Nat) : List AV := [wint 1, .fn 69 [.ptr n 0], wint 9, .fn 70 [.ptr (n + 1) 0, .ptr (n + 2) 0], wint 10, .fn 71 [.ptr (n + 2) 0, .ptr n 0, .ptr (n + 1) 0], wint 11, .fn 73 [.ptr (n + 2) 0, .ptr (n + 3) 0], wint 12, .fn 75 [.ptr (n + 2) 0, .ptr (n + 1) 0], wint 13, .fn 77 [.ptr n 0, .ptr (n + 1) 0, .ptr (n + 3) 0]]
theorem slAlone {T : Tbl} {sz n : Nat} {a : AV} {cs : List AV} (h : Sl T sz a cs n) : a.known = some [a] /\ AV.one a = true := by
 obtain ⟨hl, rfl | ⟨i, off, o, ds, rfl, h2, h3⟩ | ⟨rfl, rfl⟩⟩ := h <;> exact ⟨rfl, rfl⟩
theorem right_ok' {T : Tbl} {p : Par} (okp : p.Ok) {a : AV} {hs : List Hdr} {h : Hdr} (hb : Es T 68 Hdr.cs a hs) (hok : ∀ x ∈ hs, x.Ok) (ok : h.Ok) (hl : hs.length <= 1000000) :
 CallA prog G 35 [.ag p.cs, a, .ag h.cs] T fun v T' es => v = .p (.int .i64 (rightE p hs h)) /\ T' = T /\ es = [] := by
 refine CallA.wfs fun wf => ?_
 have wt := wf.t
 have wa := wf.arg a (by simp)
 have hr := Hdr.rules ok
 have hr2 := Par.rules okp
 have hal := slAlone hb.sl
 have hil := h.id_len
 refine CallA.eV 27 func35 ntmps35 results35 ?_
 refine sqcx ?_
 refine tqcz (cj3 @hal @hr @hr2) ?_
 refine (pid_ok ok).det' ?_
 refine tqcz (cj7 @hr @hr2 @ez32 @vh @hil @wa @hal) ?_
 show getO (some (rulC T.length)) _
 refine sqcz ?_
 have hrl : (rulC T.length).length = 12 := rfl
 have hne : (rulC T.length ≠ []) = True := eq_true (by unfold rulC; simp)
 have k39 : tak prog 53 = some false /\ tsz prog 53 = 1 := ⟨(by kernel_rfl), (by kernel_rfl)⟩
 have hwr : List.map (AV.wo fun x => decide (T.length + 5 <= x)) (rulC T.length) = rulC T.length := by
  simp [rulC, AV.wo, AV.woL]
  exact ⟨rfl, rfl, rfl, rfl, rfl, rfl⟩
 refine SemA.loopK (T.length + 5) (fun k : Nat => [(24, .sl (T.length + 4) 0 6), (25, wint 6), (26, wint (k : Int))]) (fun _ => T ++ [.cells 30 p.cs, .cells 36 [a], .cells 28 h.cs, .cells 26 (h.id.map by8), .buf 116 2 (rulC T.length)]) (fun k => k <= 6 /\ ∀ j, j < k -> rl6 (mayB p) (prevB hs h) (decide (h.bits = bitsB p hs)) (workB h) (decide ((medB hs).toNat < h.time.toNat)) ((!p.pts.any (ptB hs.length h.id))) j = true) (fun k => 6 - k) 0 [] 0 (fun _ : Unit => []) (fun _ => T ++ [.cells 30 p.cs, .cells 36 [a], .cells 28 h.cs, .cells 26 (h.id.map by8), .buf 116 2 (rulC T.length)]) (fun _ => ∀ j, j < 6 -> rl6 (mayB p) (prevB hs h) (decide (h.bits = bitsB p hs)) (workB h) (decide ((medB hs).toNat < h.time.toNat)) ((!p.pts.any (ptB hs.length h.id))) j = true) (by omega) ⟨by omega, fun j hj => by omega⟩ (by (simp -dsimp +decide (disch := omega) only [vt2, v1q, ↓reduceIte, Nat.reduceSub, Nat.reduceAdd, Nat.reduceMul, Nat.reduceLT, Int.reduceAdd, Int.reduceSub, Int.reduceToNat, v4q]); first | rfl | exact ⟨rfl, rfl, rfl⟩ | done) rfl (by simp) ?_ ?_
 . rintro k g ⟨hk, hq⟩
   refine SemA.o ?_
   refine sqcz ?_
   refine CondP.dec (fun hc => ?_) (fun hc => ?_)
   . rcases (show k = 0 ∨ k = 1 ∨ k = 2 ∨ k = 3 ∨ k = 4 ∨ k = 5 by omega) with rfl | rfl | rfl | rfl | rfl | rfl
     . have hk1 : List.take 2 (rulC T.length) = [wint 1, .fn 69 [.ptr T.length 0]] := rfl
       refine tqcz (cj4 @hne @hrl @hk1 @k39) ?_
       refine (rt1_ok okp (gn0 T _ _)).det' ?_
       cases hc : mayB p with
       | false =>
         rw [show rightE p hs h = 1 from first_at (k := 0) (by omega) hq hc]
         refine tqcz @bb2 ?_
         exact Vw.cut ⟨rfl, rfl, rfl⟩
       | true =>
         have hmo := more (k := 0) hq hc
         rw [hc] at hmo
         refine tqcz (cj7 @wt @wa @hr @hr2 @hwr @bb2 @vh) ?_
         exact ⟨1, ⟨⟨by omega, hmo⟩, by omega⟩, rfl⟩
     . have hk1 : List.take 2 (List.drop 2 (rulC T.length)) = [wint 9, .fn 70 [.ptr (T.length + 1) 0, .ptr (T.length + 2) 0]] := rfl
       refine tqcz (cj4 @hne @hrl @hk1 @k39) ?_
       refine (rt2_ok (hb.app _) hok ok hl (gn1 T _ _ _) (gn2 T _ _ _ _)).det' ?_
       cases hc : prevB hs h with
       | false =>
         rw [show rightE p hs h = 9 from first_at (k := 1) (by omega) hq hc]
         refine tqcz @bb2 ?_
         exact Vw.cut ⟨rfl, rfl, rfl⟩
       | true =>
         have hmo := more (k := 1) hq hc
         rw [hc] at hmo
         refine tqcz (cj7 @wt @wa @hr @hr2 @hwr @bb2 @vh) ?_
         exact ⟨2, ⟨⟨by omega, hmo⟩, by omega⟩, rfl⟩
     . have hk1 : List.take 2 (List.drop 4 (rulC T.length)) = [wint 10, .fn 71 [.ptr (T.length + 2) 0, .ptr T.length 0, .ptr (T.length + 1) 0]] := rfl
       refine tqcz (cj4 @hne @hrl @hk1 @k39) ?_
       refine (rt3_ok okp (hb.app _) hok ok hl (gn0 T _ _) (gn1 T _ _ _) (gn2 T _ _ _ _)).det' ?_
       cases hc : decide (h.bits = bitsB p hs) with
       | false =>
         rw [show rightE p hs h = 10 from first_at (k := 2) (by omega) hq hc]
         refine tqcz @bb2 ?_
         exact Vw.cut ⟨rfl, rfl, rfl⟩
       | true =>
         have hmo := more (k := 2) hq hc
         rw [hc] at hmo
         refine tqcz (cj7 @wt @wa @hr @hr2 @hwr @bb2 @vh) ?_
         exact ⟨3, ⟨⟨by omega, hmo⟩, by omega⟩, rfl⟩
     . have hk1 : List.take 2 (List.drop 6 (rulC T.length)) = [wint 11, .fn 73 [.ptr (T.length + 2) 0, .ptr (T.length + 3) 0]] := rfl
       refine tqcz (cj4 @hne @hrl @hk1 @k39) ?_
       refine (rt4_ok ok (gn2 T _ _ _ _) (gn3 T _ _ _ _ _)).det' ?_
       cases hc : workB h with
       | false =>
         rw [show rightE p hs h = 11 from first_at (k := 3) (by omega) hq hc]
         refine tqcz @bb2 ?_
         exact Vw.cut ⟨rfl, rfl, rfl⟩
       | true =>
         have hmo := more (k := 3) hq hc
         rw [hc] at hmo
         refine tqcz (cj7 @wt @wa @hr @hr2 @hwr @bb2 @vh) ?_
         exact ⟨4, ⟨⟨by omega, hmo⟩, by omega⟩, rfl⟩
     . have hk1 : List.take 2 (List.drop 8 (rulC T.length)) = [wint 12, .fn 75 [.ptr (T.length + 2) 0, .ptr (T.length + 1) 0]] := rfl
       refine tqcz (cj4 @hne @hrl @hk1 @k39) ?_
       refine (rt5_ok (hb.app _) hok ok hl (gn1 T _ _ _) (gn2 T _ _ _ _)).det' ?_
       cases hc : decide ((medB hs).toNat < h.time.toNat) with
       | false =>
         rw [show rightE p hs h = 12 from first_at (k := 4) (by omega) hq hc]
         refine tqcz @bb2 ?_
         exact Vw.cut ⟨rfl, rfl, rfl⟩
       | true =>
         have hmo := more (k := 4) hq hc
         rw [hc] at hmo
         refine tqcz (cj7 @wt @wa @hr @hr2 @hwr @bb2 @vh) ?_
         exact ⟨5, ⟨⟨by omega, hmo⟩, by omega⟩, rfl⟩
     . have hk1 : List.take 2 (List.drop 10 (rulC T.length)) = [wint 13, .fn 77 [.ptr T.length 0, .ptr (T.length + 1) 0, .ptr (T.length + 3) 0]] := rfl
       refine tqcz (cj4 @hne @hrl @hk1 @k39) ?_
       refine (rt6_ok okp (hb.app _) h.id_len (gn0 T _ _) (gn1 T _ _ _) (gn3 T _ _ _ _ _)).det' ?_
       cases hc : (!p.pts.any (ptB hs.length h.id)) with
       | false =>
         rw [show rightE p hs h = 13 from first_at (k := 5) (by omega) hq hc]
         refine tqcz @bb2 ?_
         exact Vw.cut ⟨rfl, rfl, rfl⟩
       | true =>
         have hmo := more (k := 5) hq hc
         rw [hc] at hmo
         refine tqcz (cj7 @wt @wa @hr @hr2 @hwr @bb2 @vh) ?_
         exact ⟨6, ⟨⟨by omega, hmo⟩, by omega⟩, rfl⟩
   . have e : k = 6 := by omega
     subst e
     refine tqcz (cj6 @wt @wa @hr @hr2 @hwr @vh) ?_
     exact ⟨(), hq⟩
 . rintro _ g tmp hq
   rw [show rightE p hs h = 0 from first_all hq]
   refine sqcz ?_
   exact Vw.cut ⟨rfl, rfl, rfl⟩
theorem hdr_clean {h : Hdr} : ∀ a ∈ h.cs, a.Clean := by
 intro a ha
 simp only [Hdr.cs, List.mem_cons, List.mem_append, List.mem_map, List.not_mem_nil, or_false] at ha
 rcases ha with rfl | ⟨x, _, rfl⟩ | ⟨x, _, rfl⟩ | rfl | rfl | rfl <;> exact .p _
theorem hdrs_clean (l : List Hdr) : ∀ a ∈ l.flatMap Hdr.cs, a.Clean := by
 intro a ha; obtain ⟨x, _, hx⟩ := List.mem_flatMap.1 ha; exact hdr_clean a hx
theorem hdrs_wo (q : Nat -> Bool) {hs : List Hdr} (h : ∀ x ∈ hs, x.Ok) : List.map (AV.wo q) (hs.flatMap Hdr.cs) = hs.flatMap Hdr.cs := by
 rw [List.map_flatMap]
 simp only [List.flatMap]
 congr 1
 exact List.map_congr_left fun x hx => (Hdr.rules (h x hx)).2.2.2.2.2.2.2.2.2.1 q
theorem rep1 (l : List AV) : (List.replicate 1 l).flatten = l := by simp
theorem mineAt_ok (t : Nat) : ∀ (k n : Nat) (h : Hdr), h.Ok -> (mineAt h t n k).1.Ok
 | 0, _, _, hh => hh
 | k + 1, n, h, hh => by
   rw [mineAt]
   split
   . exact ⟨hh.p, hh.r⟩
   . exact mineAt_ok t k (n + 1) _ ⟨hh.p, hh.r⟩
theorem mineB_ok {p : Par} {hs : List Hdr} {time : UInt32} {root : List UInt8} {tries : UInt32} (hr : root.length = 32) : (mineB p hs time root tries).1.Ok := by
 unfold mineB
 cases hs.getLast? with
 | none => exact ⟨rfl, hr⟩
 | some la =>
   cases ofT (bitsB p hs).toNat with
   | none => exact ⟨la.id_len, hr⟩
   | some t => exact mineAt_ok _ _ _ _ ⟨la.id_len, hr⟩
theorem keep_frontN (T l : Tbl) (j : Nat) : ∃ l', keepT (fun i => decide (i < T.length + j)) (T ++ l) = T ++ l' := by
 refine ⟨(keepT (fun i => decide (i < T.length + j)) (T ++ l)).drop T.length, ?_⟩
 refine List.ext_getElem? fun k => ?_
 rw [keepT_get]
 by_cases hk : k < T.length
 . rw [List.getElem?_append_left hk, List.getElem?_append_left hk]
   have : keepO (fun i => decide (i < T.length + j)) k = id := by
    funext o; unfold keepO; simp only [decide_eq_true (show k < T.length + j by omega)]; rfl
   rw [this]; simp
 . rw [List.getElem?_append_right (l₁ := T) (by omega), List.getElem?_append_right (l₁ := T) (by omega), List.getElem?_drop, keepT_get, show T.length + (k - T.length) = k by omega, List.getElem?_append_right (by omega)]
def Good (p : Par) (hs : List Hdr) (h : Hdr) : Prop := prevB hs h = true /\ h.bits = bitsB p hs /\ workB h = true /\ (medB hs).toNat < h.time.toNat
theorem med_le {hs : List Hdr} {B : Nat} (h : ∀ x ∈ hs, x.time.toNat <= B) : (medB hs).toNat <= B := by
 unfold medB medT
 cases hx : (sortU (lastT hs))[(lastT hs).length / 2]? with
 | none => simp
 | some x =>
   have h1 : x ∈ sortU (lastT hs) := List.mem_of_getElem? hx
   rw [sortU, List.mem_mergeSort, lastT] at h1
   obtain ⟨y, hy, rfl⟩ := List.mem_map.1 h1
   exact h y (List.mem_of_mem_drop hy)
theorem right_good {p : Par} {hs : List Hdr} {h : Hdr} (hm : mayB p = true) (hg : Good p hs h) : rightE p hs h = if p.pts.any (ptB hs.length h.id) = true then 13 else 0 := by
 obtain ⟨h1, h2, h3, h4⟩ := hg
 rw [rightE, hm, h1, decide_eq_true h2, h3, decide_eq_true h4]
 unfold firstR
 cases p.pts.any (ptB hs.length h.id) <;> simp
theorem easy_may {i : Int} {s : UInt32} (h1 : 2 <= i) (h2 : i <= 2016) (h3 : 1 <= s.toNat) (h4 : s.toNat <= 3600) : mayB (easyP i s) = true := by
 have e : ofT (easyP i s).limit.toNat = some (0x7fffff * 2 ^ 232) := by
  show ofT 545259519 = _
  decide +kernel
 unfold mayB
 rw [e]
 simp only [Bool.and_eq_true, decide_eq_true_eq]
 refine ⟨⟨⟨⟨⟨⟨?_, h1⟩, h2⟩, h3⟩, h4⟩, rfl⟩, ?_⟩
 . show UInt32.ofNat (cmpN (0x7fffff * 2 ^ 232)) = 545259519
   decide +kernel
 . unfold mayP
   simp only [decide_eq_true_eq]
   intro k hk
   exact absurd hk (Nat.not_lt_zero k)
def lfd : List Lf := .i .u32 :: (lfh ++ (lfh ++ [.i .u32, .i .u32, .i .u32]))
theorem ktd : KT prog 28 lfd := ⟨(by kernel_rfl), (by kernel_rfl), (by kernel_rfl), (by kernel_rfl), Nat.le_of_ble_eq_true (by kernel_rfl), (by kernel_rfl)⟩
def Hdr.vals (h : Hdr) : List Value := .int .u32 (h.v.toNat : Int) :: (v8 h.prev ++ (v8 h.root ++ [.int .u32 (h.time.toNat : Int), .int .u32 (h.bits.toNat : Int), .int .u32 (h.nonce.toNat : Int)]))
theorem Hdr.cs_p (h : Hdr) : h.cs = h.vals.map .p := by
 simp only [Hdr.cs, Hdr.vals, List.map_cons, List.map_append, List.map_nil, by8_p]
 rfl
theorem fit32 (n : UInt32) : Fit (.i .u32) (.int .u32 (n.toNat : Int)) := by
 refine ⟨rfl, ?_⟩
 have := n.toNat_lt
 simp [Lit.wf, IntKind.min, IntKind.max, IntKind.bits, IntKind.signed]; omega
theorem Hdr.fit {h : Hdr} (ok : h.Ok) : FitL lfd h.vals := .cons (fit32 _) (.append (fith ok.p) (.append (fith ok.r) (.cons (fit32 _) (.cons (fit32 _) (.cons (fit32 _) .nil)))))
open Classical in
theorem nehd {h : Hdr} (ok : h.Ok) (xo yo : Operand) (K : AV -> Prop) : binA prog .neq 28 (.ag h.cs) (.ag h.cs) xo yo K = K (.p (.bool false)) := by
 rw [Hdr.cs_p, KT.neA ktd (Hdr.fit ok) (Hdr.fit ok), decide_eq_true rfl]; rfl
theorem hdrs_ones : ∀ {hs : List Hdr}, (∀ x ∈ hs, x.Ok) -> ones (hs.flatMap Hdr.cs) = true
 | [], _ => rfl
 | x :: l, h => by
   have h1 : ones x.cs = true := (Hdr.rules (h x (by simp))).2.2.2.2.2.2.2.2.2.2.2
   have h2 := hdrs_ones (hs := l) fun y hy => h y (by simp [hy])
   rw [ones] at h1 h2 ⊢
   rw [List.flatMap_cons, List.all_append, h1, h2]; rfl
theorem wrA_flat {α : Type} {f : α -> List AV} {sz : Nat} {xs : List α} (hw : ∀ x ∈ xs, (f x).length = sz) {n : Nat} {x y : α} (hx : xs[n]? = some x) {k : Nat} {c : List AV} (hk : k + c.length <= sz) (hy : wrA (f x) k c = f y) : wrA (xs.flatMap f) (n * sz + k) c = (xs.set n y).flatMap f := by
 have hn := (List.getElem?_eq_some_iff.1 hx).1
 have e : xs = xs.take n ++ x :: xs.drop (n + 1) := by
  have h1 := List.take_append_drop n xs
  rw [List.drop_eq_getElem_cons hn] at h1
  rw [List.getElem?_eq_getElem hn] at hx
  rw [Option.some.inj hx] at h1
  exact h1.symm
 have hl : ((xs.take n).flatMap f).length = n * sz := by
  rw [flat_len fun x hx => hw x (List.mem_of_mem_take hx), List.length_take, Nat.min_eq_left (by omega)]
 have hxl := hw x (List.mem_of_getElem? hx)
 have e2 : xs.flatMap f = (xs.take n).flatMap f ++ (f x ++ (xs.drop (n + 1)).flatMap f) := by
  conv => lhs; rw [e]
  rw [List.flatMap_append, List.flatMap_cons]
 have e3 : (xs.set n y).flatMap f = (xs.take n).flatMap f ++ (f y ++ (xs.drop (n + 1)).flatMap f) := by
  rw [List.set_eq_take_append_cons_drop, if_pos hn, List.flatMap_append, List.flatMap_cons]
 rw [e2, e3, <- hy, wrA_eq (by rw [List.length_append, List.length_append, hl, hxl]; omega), wrA_eq (by omega)]
 rw [List.take_append, List.take_of_length_le (by rw [hl]; omega), hl, show n * sz + k - n * sz = k by omega, List.take_append_of_le_length (by omega)]
 rw [show n * sz + k + c.length = n * sz + (k + c.length) by omega, <- hl, List.drop_length_add_append, List.drop_append_of_le_length (by omega)]
 simp only [List.append_assoc]
structure FW (V : Tbl) (s : Fst) : Prop where
 i : s.In V.length
 r : s.Ref V.length
 v : Vok V s.b
 o : s.oa = .sl s.b 0 s.bc.length
 k : ∀ e ∈ s.es, e.1.length = 32
 n : ∀ i x j, s.nd i = some x -> x.on = some j -> ∃ y, s.nd j = some y
 l : s.bc.length <= 1000000
theorem forks_ok {V : Tbl} {s : Fst} (h : FW V s) {x : Nd} (ht : s.nd s.top = some x) (hl : x.ht <= 1000000) :
 CallA prog G 40 [.ptr s.f 0] (FT V s) fun v T' es => v = wint ((s.bc.length : Int) - (x.ht : Int) - 1) /\ T' = FT V s /\ es = [] := by
 have hf := Fst.rules h.r.p
 have hi := h.i.rules
 have hn := h.i.nrules ht
 have hx := Nd.rules (h.r.h _ _ ht)
 have ho := h.o
 have hll := h.l
 refine CallA.eV 3 func40 ntmps40 results40 ?_
 refine sqcx ?_
 refine SemA.draw (fun i => true) [(0, true), (1, true), (2, true), (3, true), (4, true), (5, true), (6, true), (7, true), (8, true), (9, true), (10, true), (11, true), (12, true), (13, true), (14, true)] mixed (by kernel_rfl) ?_
 refine tqcz (cj7 @vft @hf @hi @hn @hx @ho @kallT) ?_
 exact Vw.done ⟨rfl, rfl, rfl⟩
theorem best_ok {V : Tbl} {s : Fst} (h : FW V s) {x : Nd} (ht : s.nd s.top = some x) :
 CallA prog G 16 [.ptr s.f 0] (FT V s) fun v T' es => v = .tu [.ag (x.h.id.map by8), wint (x.ht : Int)] /\ T' = FT V s /\ es = [] := by
 have hf := Fst.rules h.r.p
 have hi := h.i.rules
 have hn := h.i.nrules ht
 have hx := Nd.rules (h.r.h _ _ ht)
 have ho := h.o
 have wt := h.r.t' h.i h.v
 have hid := x.h.id_len
 refine CallA.eV 4 func16 ntmps16 results16 ?_
 refine sqcx ?_
 refine SemA.draw (fun i => decide (i < V.length)) [(0, true), (1, true), (2, true), (3, true), (4, true), (5, true), (6, true), (7, true), (8, true), (9, true), (10, true), (11, true), (12, true), (13, true), (14, false), (15, true)] mixed (by kernel_rfl) ?_
 refine tqcz (cj14 @vft @hf @hi @hn @hx @ho @vkf @hid @ez32 @vh @vres @vone @List.drop_zero.{0} @List.take_of_length_le.{0}) ?_
 exact ⟨.inl (by simp), Vw.cut ⟨by simp only [AV.wo, AV.woL, AV.woL_eq, wb8, wint], rfl, rfl⟩⟩
theorem fwork_ok {V : Tbl} {s : Fst} (h : FW V s) {x : Nd} (ht : s.nd s.top = some x) :
 CallA prog G 17 [.ptr s.f 0] (FT V s) fun v T' es => v = .ag (Bg x.wk) /\ T' = FT V s /\ es = [] := by
 have hf := Fst.rules h.r.p
 have hi := h.i.rules
 have hn := h.i.nrules ht
 have hx := Nd.rules (h.r.h _ _ ht)
 have ho := h.o
 have wt := h.r.t' h.i h.v
 have ez : [oQ, oQ, oQ, oQ] = Bg 0 := rfl
 refine CallA.eV 3 func17 ntmps17 results17 ?_
 refine sqcx ?_
 refine tqcz (cj8 @vft @hf @hi @hn @hx @ho @ez @vbg) ?_
 exact Vw.cut ⟨by rw [AV.wo, AV.woL_eq, Bg_wo], rfl, rfl⟩
def Path (s : Fst) : List Nat -> Prop
 | [] => False
 | [i] => ∃ x, s.nd i = some x /\ x.on = none /\ x.ht = 0
 | i :: j :: r => (∃ x, s.nd i = some x /\ x.on = some j /\ x.ht = r.length + 1) /\ Path s (j :: r)
theorem Path.head {s : Fst} {i : Nat} {r : List Nat} (h : Path s (i :: r)) : ∃ x, s.nd i = some x /\ x.ht = r.length /\ x.on = r.head? := by
 cases r with
 | nil => obtain ⟨x, h1, h2, h3⟩ := h; exact ⟨x, h1, h3, h2⟩
 | cons j r => obtain ⟨⟨x, h1, h2, h3⟩, _⟩ := h; exact ⟨x, h1, h3, h2⟩
theorem Path.all {s : Fst} : ∀ {l : List Nat}, Path s l -> ∀ i ∈ l, ∃ x, s.nd i = some x
 | [], h, _, _ => h.elim
 | [i], ⟨x, h1, _⟩, j, hj => by rw [List.mem_singleton.1 hj]; exact ⟨x, h1⟩
 | i :: k :: r, ⟨⟨x, h1, _⟩, h2⟩, j, hj => by
   rcases List.mem_cons.1 hj with rfl | hj
   . exact ⟨x, h1⟩
   . exact Path.all h2 j hj
def Fst.hd (s : Fst) (i : Nat) : Hdr := match s.nd i with
 | some x => x.h
 | none => ⟨0, h0b, h0b, 0, 0, 0⟩
def hds (s : Fst) (l : List Nat) : List Hdr := (l.map s.hd).reverse
def zH : Hdr := ⟨0, h0b, h0b, 0, 0, 0⟩
theorem zH_ok : zH.Ok := ⟨rfl, rfl⟩
theorem zH_cs : zH.cs = z68 := rfl
theorem rep_zH (n : Nat) : (List.replicate n z68).flatten = (List.replicate n zH).flatMap Hdr.cs := by
 rw [List.flatMap, List.map_replicate, zH_cs]
theorem Fst.hd_ok {s : Fst} {n : Nat} (h : s.Ref n) (i : Nat) : (s.hd i).Ok := by
 unfold Fst.hd
 cases hi : s.nd i with
 | none => exact ⟨rfl, rfl⟩
 | some x => exact h.h i x hi
theorem Path.drop {s : Fst} : ∀ {l : List Nat} {k : Nat}, Path s l -> k < l.length -> Path s (l.drop k)
 | l, 0, h, _ => h
 | [i], k + 1, _, hk => by simp at hk
 | i :: j :: r, k + 1, h, hk => by
   rw [List.drop_succ_cons]
   exact Path.drop (l := j :: r) h.2 (by simpa using hk)
theorem hds_at {s : Fst} {l : List Nat} {k i : Nat} (hk : l[k]? = some i) : (hds s l)[l.length - 1 - k]? = some (s.hd i) := by
 have hl := (List.getElem?_eq_some_iff.1 hk).1
 rw [hds, List.getElem?_reverse (by rw [List.length_map]; omega), List.length_map, show l.length - 1 - (l.length - 1 - k) = k by omega, List.getElem?_map, hk]; rfl
theorem hds_len (s : Fst) (l : List Nat) : (hds s l).length = l.length := by rw [hds, List.length_reverse, List.length_map]
def inH (H : List Hdr) (k : Nat) : List Hdr := List.replicate (H.length - k) zH ++ H.drop (H.length - k)
theorem inH_len (H : List Hdr) {k : Nat} (hk : k <= H.length) : (inH H k).length = H.length := by rw [inH, List.length_append, List.length_replicate, List.length_drop]; omega
theorem inH_next {H : List Hdr} {k : Nat} {h : Hdr} (hk : k < H.length) (hh : H[H.length - 1 - k]? = some h) : (inH H k).set (H.length - 1 - k) h = inH H (k + 1) := by
 have e : H.length - k = (H.length - (k + 1)) + 1 := by omega
 rw [inH, inH, e, List.replicate_succ', List.append_assoc, show H.length - 1 - k = H.length - (k + 1) by omega] at *
 rw [List.set_append_right _ _ (by rw [List.length_replicate]; exact Nat.le_refl _), List.length_replicate, Nat.sub_self]
 obtain ⟨hl, rfl⟩ := List.getElem?_eq_some_iff.1 hh
 rw [List.drop_eq_getElem_cons hl]; rfl
theorem inH_ok {H : List Hdr} (h : ∀ x ∈ H, x.Ok) (k : Nat) : ∀ x ∈ inH H k, x.Ok := fun x hx => by
 rcases List.mem_append.1 hx with hx | hx
 . rw [List.eq_of_mem_replicate hx]; exact zH_ok
 . exact h x (List.mem_of_mem_drop hx)
theorem Fst.hd_at {s : Fst} {i : Nat} {x : Nd} (h : s.nd i = some x) : s.hd i = x.h := by rw [Fst.hd, h]
theorem hchain_ok {V : Tbl} {s : Fst} (h : FW V s) {i : Nat} {r : List Nat} (hp : Path s (i :: r)) (hl : r.length <= 100000) :
 CallA prog G 36 [.ptr i 0] (FT V s) fun v T' es => v = .vs ((hds s (i :: r)).flatMap Hdr.cs) (r.length + 1) /\ T' = FT V s /\ es = [] := by
 have hi := h.i.rules
 obtain ⟨x, hx1, hx2, hx3⟩ := hp.head
 have hn := h.i.nrules hx1
 have hx := Nd.rules (h.r.h _ _ hx1)
 have wt := h.r.t' h.i h.v
 obtain ⟨l, hll⟩ : ∃ l, l = i :: r := ⟨_, rfl⟩
 obtain ⟨H, hH⟩ : ∃ H, H = hds s l := ⟨_, rfl⟩
 obtain ⟨n, hn1⟩ : ∃ n, n = r.length + 1 := ⟨_, rfl⟩
 have hHl : H.length = n := by rw [hH, hds_len, hll, hn1]; rfl
 have hln : l.length = n := by rw [hll, hn1]; rfl
 have hHo : ∀ y ∈ H, y.Ok := fun y hy => by
  rw [hH, hds, List.mem_reverse, List.mem_map] at hy
  obtain ⟨j, _, rfl⟩ := hy
  exact Fst.hd_ok h.r j
 have hto : ((r.length : Int) + 1) = (n : Int) := by omega
 have e0 : (List.replicate n z68).flatten = (inH H 0).flatMap Hdr.cs := by rw [rep_zH, inH, Nat.sub_zero, hHl, List.drop_of_length_le (by omega), List.append_nil]
 rw [<- hll, <- hH, <- hn1]
 refine CallA.eV 4 func36 ntmps36 results36 ?_
 refine sqcx ?_
 refine tqcz (cj9 @vft @hi @hn @hx @hx2 @ez68 @hto @Int.toNat_natCast @e0) ?_
 refine ⟨⟨by omega, by omega, by omega, by omega⟩, ?_⟩
 refine SemA.loopK (V.length + 1) (fun k : Nat => [(0, ptrO (l.drop k).head?), (3, .sl V.length 0 n)]) (fun k => FT V s ++ [.buf 28 68 ((inH H k).flatMap Hdr.cs)]) (fun k => k <= n) (fun k => n - k) 0 [] 0 (fun _ : Unit => [(3, .sl V.length 0 n)]) (fun _ => FT V s ++ [.buf 28 68 (H.flatMap Hdr.cs)]) (fun _ => True) (by omega) (by omega) (by rw [hll]; exact ⟨rfl, rfl, rfl⟩) rfl (by simp) ?_ ?_
 . rintro k g hk
   refine SemA.o ?_
   by_cases hkn : k = n
   . have hd : l.drop k = [] := List.drop_of_length_le (by omega)
     rw [hd]
     have : inH H k = H := by rw [inH, hHl, hkn, Nat.sub_self]; rfl
     rw [this]
     simp -dsimp +decide (disch := omega) only [vt2, v1q, ↓reduceIte, Nat.reduceSub, Nat.reduceAdd, Nat.reduceMul, Nat.reduceLT, Int.reduceAdd, Int.reduceSub, Int.reduceToNat, v2q, vft, List.head?_nil, ptrO, wt, hdrs_wo _ hHo]
     exact ⟨(), trivial⟩
   . obtain ⟨j, q, hd⟩ : ∃ j q, l.drop k = j :: q := ⟨l[k], _, List.drop_eq_getElem_cons (by omega)⟩
     have hpj := (hll ▸ hp : Path s l).drop (k := k) (by omega)
     rw [hd] at hpj ⊢
     obtain ⟨y, hy1, hy2, hy3⟩ := hpj.head
     have hql : q.length = n - 1 - k := by
      have := congrArg List.length hd
      rw [List.length_drop, List.length_cons] at this; omega
     have hny := h.i.nrules hy1
     have hyo := h.r.h _ _ hy1
     have hyr := Nd.rules hyo
     have hhy := Hdr.rules hyo
     have ho := inH_ok hHo k
     have hw := fun x hx => Hdr.cs_len (ho x hx)
     have hlk : l[k]? = some j := by
      have := congrArg (fun z : List Nat => z[0]?) hd
      simpa using this
     have hat : H[H.length - 1 - k]? = some y.h := by
      have := hds_at (s := s) hlk
      rw [<- hH, hln, <- hHl, Fst.hd_at hy1] at this
      exact this
     obtain ⟨z, hz⟩ : ∃ z, (inH H k)[n - 1 - k]? = some z := ⟨(inH H k)[n - 1 - k]'(by rw [inH_len _ (by omega)]; omega), by simp⟩
     have hst : wrA ((inH H k).flatMap Hdr.cs) ((n - 1 - k) * 68) y.h.cs = (inH H (k + 1)).flatMap Hdr.cs := by
      have := wrA_flat (f := Hdr.cs) (k := 0) (c := y.h.cs) (y := y.h) hw hz (by rw [hhy.1]; decide) (wrA_all (by rw [hhy.1, hw z (List.mem_of_getElem? hz)]))
      rw [<- hHl, inH_next (by omega) hat] at this
      rw [<- hHl]; exact this
     have hfl : ((inH H k).flatMap Hdr.cs).length = n * 68 := by rw [flat_len hw, inH_len _ (by omega), hHl]
     simp -dsimp +decide (disch := omega) only [vt2, v1q, ↓reduceIte, Nat.reduceSub, Nat.reduceAdd, Nat.reduceMul, Nat.reduceLT, Int.reduceAdd, Int.reduceSub, Int.reduceToNat, v2q, vft, List.head?_cons, ptrO]
     refine SemA.draw (fun i => true) [(0, true), (1, true), (2, true), (3, true), (4, true), (5, true), (6, true), (7, true), (8, true), (9, true), (10, false)] mixed (by kernel_rfl) ?_
     have hdk : l.drop (k + 1) = q := by
      have := congrArg (List.drop 1) hd
      rwa [List.drop_drop, List.drop_succ_cons, List.drop_zero] at this
     have hpw : AV.wo (fun x => decide (V.length + 1 <= x)) (ptrO y.on) = ptrO (l.drop (k + 1)).head? := by
      rw [hdk, <- hy3]
      exact ptrO_wo _ _ fun i hi => decide_eq_false (by have := h.r.on _ _ _ hy1 hi; omega)
     have hne : (inH H k).flatMap Hdr.cs ≠ [] := fun e => by rw [e] at hfl; simp at hfl; omega
     simp -dsimp +decide (disch := omega) only [vt2, v1q, ↓reduceIte, Nat.reduceSub, Nat.reduceAdd, Nat.reduceMul, Nat.reduceLT, Int.reduceAdd, Int.reduceSub, Int.reduceToNat, v2q, vft, hny, hyr, hy2, hql, hst, wt, hdrs_wo _ (inH_ok hHo (k + 1)), hpw]
     exact ⟨⟨by omega, by omega, hne⟩, ⟨hhy.1.symm, by rw [hhy.1]; decide, by rw [hhy.1, hfl]; omega, hhy.2.2.2.2.2.2.2.2.2.2.2⟩, k + 1, ⟨by omega, by omega⟩, rfl, rfl⟩
 . rintro _ g tmp -
   refine tqcz @vft ?_
   refine Vw.pub V.length (o := .buf 28 68 (H.flatMap Hdr.cs)) (vft.2.1 _ _ _ _) rfl (hdrs_clean _) ?_
   refine tqcz (cj2 @vft @wt) ?_
   exact Vw.cut ⟨by rw [AV.wo], rfl, rfl⟩
theorem flat8 (l : List UInt8) : AV.flat (.ag (List.map by8 l)) = some (hv l) := by
 show (plains (List.map by8 l)).map (fun vs => Value.agg vs.toArray) = _
 rw [show plains (List.map by8 l) = some (l.map fun b => .int .u8 (b.toNat : Int)) from plains_map' _ _]; rfl
theorem hv_inj {l m : List UInt8} (h : hv l = hv m) : l = m := by
 simp only [hv, Value.agg.injEq] at h
 have h2 := congrArg Array.toList h
 simp only [List.toList_toArray] at h2
 exact (List.map_inj_right (fun a b e => UInt8.toNat_inj.1 (by simp at e; omega))).1 h2
theorem hv_fold (y : List UInt8) : Value.agg (List.map (fun x : UInt8 => Value.int .u8 (x.toNat : Int)) y).toArray = hv y := rfl
def Fst.look (s : Fst) (id : List UInt8) : Option Nat := (s.es.find? fun e => decide (e.1 = id)).map (·.2)
open Classical in
theorem mfind_ent (l : List (List UInt8 × Nat)) (id : List UInt8) : mfind (l.map ent) (hv id) = ((l.find? fun e => decide (e.1 = id)).map (·.2)).map fun i => .ptr i 0 := by
 unfold mfind
 induction l with
 | nil => rfl
 | cons a r ih =>
   rw [List.map_cons, List.find?_cons, List.find?_cons]
   by_cases h : a.1 = id
   . simp [ent, h]
   . have h2 : ¬ (ent a).1 = hv id := fun e => h (hv_inj e)
     simp only [h, h2, decide_false]
     exact ih
theorem mapKO_ent {l : List (List UInt8 × Nat)} {id : List UInt8} (h : ∀ e ∈ l, e.1.length = 32) (hi : id.length = 32) : mapKO prog 26 (l.map ent) (hv id) = True := by
 refine eq_true ⟨_, kth.kl, kth.ky (fith hi), fun e he => ?_⟩
 obtain ⟨x, hx, rfl⟩ := List.mem_map.1 he
 exact kth.ky (fith (h x hx))
theorem Fst.look_some {s : Fst} {id : List UInt8} {i : Nat} (h : s.look id = some i) : (id, i) ∈ s.es := by
 unfold Fst.look at h
 cases he : s.es.find? fun e => decide (e.1 = id) with
 | none => rw [he] at h; cases h
 | some e =>
   rw [he] at h
   have h1 := List.find?_some he
   have h2 := List.mem_of_find?_eq_some he
   simp only [Option.map_some, Option.some.injEq] at h
   simp only [decide_eq_true_eq] at h1
   subst h1; subst h
   exact h2
theorem fchain_ok {V : Tbl} {s : Fst} (h : FW V s) {r : List Nat} (hp : Path s (s.top :: r)) (hl : r.length <= 100000) :
 CallA prog G 15 [.ptr s.f 0] (FT V s) fun v T' es => v = .vs ((hds s (s.top :: r)).flatMap Hdr.cs) (r.length + 1) /\ T' = FT V s /\ es = [] := by
 have hf := Fst.rules h.r.p
 have hi := h.i.rules
 refine CallA.eV 3 func15 ntmps15 results15 ?_
 refine sqcx ?_
 refine tqcz (cj3 @vft @hf @hi) ?_
 refine (hchain_ok h hp hl).det' ?_
 refine tqcz (cj3 @vft @hf @hi) ?_
 exact Vw.done ⟨rfl, rfl, rfl⟩
def Fst.setB (s : Fst) (l : List Nat) (b : Bool) : Fst := { s with nd := fun j => if j ∈ l then (s.nd j).map fun x => { x with best := b } else s.nd j }
theorem Fst.setB_nil (s : Fst) (b : Bool) : s.setB [] b = s := by simp [Fst.setB]
theorem Fst.setB_some {s : Fst} {l : List Nat} {b : Bool} {i : Nat} {x : Nd} (h : s.nd i = some x) : (s.setB l b).nd i = some (if i ∈ l then { x with best := b } else x) := by
 simp only [Fst.setB]
 split <;> simp [h]
theorem Fst.setB_inv {s : Fst} {l : List Nat} {b : Bool} {i : Nat} {y : Nd} (h : (s.setB l b).nd i = some y) : ∃ x, s.nd i = some x /\ y = if i ∈ l then { x with best := b } else x := by
 cases hi : s.nd i with
 | none => simp [Fst.setB, hi] at h
 | some x => rw [Fst.setB_some hi] at h; exact ⟨x, rfl, (Option.some.inj h).symm⟩
theorem Fst.setB_none {s : Fst} {l : List Nat} {b : Bool} {i : Nat} (h : s.nd i = none) : (s.setB l b).nd i = none := by simp [Fst.setB, h]
theorem Fst.setB_next {s : Fst} {l : List Nat} {b : Bool} {i : Nat} {y : Nd} (h : (s.setB l b).nd i = some y) : (s.setB l b).setN i { y with best := b } = s.setB (l ++ [i]) b := by
 obtain ⟨x, hx, hy⟩ := Fst.setB_inv h
 have : ∀ j, (if j = i then some { y with best := b } else (s.setB l b).nd j) = (s.setB (l ++ [i]) b).nd j := by
  intro j
  by_cases hj : j = i
  . subst hj
    rw [if_pos rfl, Fst.setB_some hx, if_pos (by simp), hy]
    split <;> rfl
  . rw [if_neg hj]
    simp [Fst.setB, hj]
 show Fst.mk _ _ _ _ _ _ _ _ _ _ = _
 rw [funext this]; rfl
theorem Fst.setB_in {s : Fst} {n : Nat} (h : s.In n) (l : List Nat) (b : Bool) : (s.setB l b).In n :=
 ⟨h.f, h.m, h.b, h.fm, h.fb, h.mb, Fst.setB_none h.nf, Fst.setB_none h.nm, Fst.setB_none h.nb, fun i y hy => by obtain ⟨x, hx, _⟩ := Fst.setB_inv hy; exact h.nn i x hx⟩
theorem Fst.setB_ref {s : Fst} {n : Nat} (h : s.Ref n) (l : List Nat) (b : Bool) : (s.setB l b).Ref n :=
 ⟨h.p, fun i y hy => by obtain ⟨x, hx, rfl⟩ := Fst.setB_inv hy; split <;> exact h.h i x hx, h.o, h.t, h.e, h.b, fun i y j hy hj => by
  obtain ⟨x, hx, rfl⟩ := Fst.setB_inv hy
  refine h.on i x j hx ?_
  split at hj <;> exact hj⟩
theorem FW.setB {V : Tbl} {s : Fst} (h : FW V s) (l : List Nat) (b : Bool) : FW V (s.setB l b) := ⟨Fst.setB_in h.i l b, Fst.setB_ref h.r l b, h.v, h.o, h.k, fun i y j hy hj => (by
 obtain ⟨x, hx, rfl⟩ := Fst.setB_inv hy
 obtain ⟨z, hz⟩ := h.n i x j hx (by split at hj <;> exact hj)
 exact ⟨_, Fst.setB_some hz⟩), h.l⟩
theorem Path.setB {s : Fst} (k : List Nat) (b : Bool) : ∀ {l : List Nat}, Path s l -> Path (s.setB k b) l
 | [], h => h
 | [i], ⟨x, h1, h2, h3⟩ => ⟨_, Fst.setB_some h1, by split <;> exact h2, by split <;> exact h3⟩
 | i :: j :: r, ⟨⟨x, h1, h2, h3⟩, h4⟩ => ⟨⟨_, Fst.setB_some h1, by split <;> exact h2, by split <;> exact h3⟩, Path.setB k b h4⟩
theorem ptrO_s : (∀ i, ptrO (some i) = .ptr i 0) /\ ptrO none = .p (.pointer none) := ⟨fun _ => rfl, rfl⟩
def Fst.turn (s : Fst) (lt lx : List Nat) (i : Nat) : Fst := { (s.setB lt false).setB lx true with top := i }
theorem subE_rec1 {N i : Nat} {n : Nat} (hi : i < n) {E : Eff} (h : Go.E.subE E (EF n)) : Go.E.subE (rec1 N i false E) (EF n) := by
 intro x hx
 unfold rec1 at hx
 split at hx
 . rcases List.mem_cons.1 hx with rfl | hx
   . exact EF_mem.2 ⟨hi, rfl⟩
   . exact h x hx
 . exact h x hx
theorem turn_ok {V : Tbl} {s : Fst} (h : FW V s) {rt : List Nat} (ht : Path s (s.top :: rt)) {i : Nat} {rx : List Nat} (hp : Path s (i :: rx)) :
 CallA prog G 39 [.ptr s.f 0, .ptr i 0] (FT V s) fun v T' es => v = .tu [] /\ T' = FT V (s.turn (s.top :: rt) (i :: rx) i) /\ es = EF V.length := by
 have hf := Fst.rules h.r.p
 have hi := h.i.rules
 obtain ⟨lt, hlt⟩ : ∃ l, l = s.top :: rt := ⟨_, rfl⟩
 obtain ⟨lx, hlx⟩ : ∃ l, l = i :: rx := ⟨_, rfl⟩
 rw [<- hlt] at ht ⊢
 rw [<- hlx] at hp ⊢
 have hil : i < V.length := by
  obtain ⟨x, hx⟩ := hp.all i (by rw [hlx]; simp)
  exact h.i.nn i x hx
 have hfl := h.i.f
 have w1 : ∀ k, k < V.length -> (if decide (V.length <= k) = true then AV.any else AV.ptr k 0) = AV.ptr k 0 := fun k hk => if_neg (by simp; omega)
 refine CallA.eV 6 func39 ntmps39 results39 ?_
 refine sqcx ?_
 refine tqcz (cj3 @vft @hf @hi) ?_
 refine SemA.loopK V.length (fun j : Nat => [(0, .ptr s.f 0), (1, .ptr i 0), (4, ptrO (lt.drop j).head?)]) (fun j => FT V (s.setB (lt.take j) false)) (fun j => j <= lt.length) (fun j => lt.length - j) 0 (EF V.length) 0 (fun _ : Unit => [(0, .ptr s.f 0), (1, .ptr i 0)]) (fun _ => FT V (s.setB lt false)) (fun _ => True) (by omega) (by omega) (by rw [hlt]; exact ⟨rfl, rfl, rfl, rfl⟩) (by rw [List.take_zero, Fst.setB_nil]) (by simp) ?_ ?_
 . rintro j g hj
   refine SemA.o ?_
   have wt := (Fst.setB_ref h.r (lt.take j) false).t' (h.setB (lt.take j) false).i h.v
   by_cases hjn : j = lt.length
   . have hd : lt.drop j = [] := List.drop_of_length_le (by omega)
     rw [hd, hjn, List.take_length]
     rw [hjn, List.take_length] at wt
     simp -dsimp +decide (disch := omega) only [vt2, v1q, ↓reduceIte, Nat.reduceSub, Nat.reduceAdd, Nat.reduceMul, Nat.reduceLT, Int.reduceAdd, Int.reduceSub, Int.reduceToNat, v2q, vft, List.head?_nil, ptrO_s, wt]
     exact ⟨(), w1 _ hfl, w1 _ hil⟩
   . obtain ⟨k, q, hd⟩ : ∃ k q, lt.drop j = k :: q := ⟨lt[j], _, List.drop_eq_getElem_cons (by omega)⟩
     have hpj := ((ht.setB (lt.take j) false)).drop (k := j) (by omega)
     rw [hd] at hpj ⊢
     obtain ⟨y, hy1, hy2, hy3⟩ := hpj.head
     obtain ⟨y0, hkn, -⟩ := Fst.setB_inv hy1
     have hny := (h.setB (lt.take j) false).i.nrules hy1
     have hyr := Nd.rules ((h.setB (lt.take j) false).r.h _ _ hy1)
     have hnx := Fst.setB_next hy1
     have htk : lt.take j ++ [k] = lt.take (j + 1) := by
      have hk : lt[j]? = some k := by
       have := congrArg (fun z : List Nat => z[0]?) hd
       simpa using this
      rw [List.take_add_one, hk]; rfl
     rw [htk] at hnx
     have hF := h.setB (lt.take (j + 1)) false
     have hy1' : (s.setB (lt.take (j + 1)) false).nd k = some { y with best := false } := by rw [<- hnx]; simp [Fst.setN]
     have hny' := hF.i.nrules hy1'
     have hyr' := Nd.rules (hF.r.h _ _ hy1')
     have wt' := hF.r.t' hF.i h.v
     have hdk : lt.drop (j + 1) = q := by
      have := congrArg (List.drop 1) hd
      rwa [List.drop_drop, List.drop_succ_cons, List.drop_zero] at this
     have hpw : AV.wo (fun x => decide (V.length <= x)) (ptrO y.on) = ptrO (lt.drop (j + 1)).head? := by
      rw [hdk, <- hy3]
      exact ptrO_wo _ _ fun i hi => decide_eq_false (by have := hF.r.on _ _ _ hy1' hi; omega)
     simp -dsimp +decide (disch := omega) only [vt2, v1q, ↓reduceIte, Nat.reduceSub, Nat.reduceAdd, Nat.reduceMul, Nat.reduceLT, Int.reduceAdd, Int.reduceSub, Int.reduceToNat, v2q, vft, hny, hyr, List.head?_cons, ptrO_s, hnx, hny', hyr', hpw, wt']
     exact ⟨⟨j + 1, ⟨by omega, by omega⟩, ⟨w1 _ hfl, w1 _ hil, rfl⟩, rfl⟩, subE_rec1 (h.i.nn _ _ hkn) fun x hx => hx⟩
 . rintro _ g tmp -
   have h1 := h.setB lt false
   have hp1 := hp.setB lt false
   have hi1 := h1.i.rules
   refine tqcz @vft ?_
   refine SemA.loopK V.length (fun j : Nat => [(0, .ptr s.f 0), (1, .ptr i 0), (5, ptrO (lx.drop j).head?)]) (fun j => FT V ((s.setB lt false).setB (lx.take j) true)) (fun j => j <= lx.length) (fun j => lx.length - j) 0 (EF V.length) 2 (fun _ : Unit => [(0, .ptr s.f 0), (1, .ptr i 0)]) (fun _ => FT V ((s.setB lt false).setB lx true)) (fun _ => True) (by omega) (by omega) (by rw [hlx]; exact ⟨rfl, rfl, rfl, rfl⟩) (by rw [List.take_zero, Fst.setB_nil]) (by simp) ?_ ?_
   . rintro j g hj
     refine SemA.o ?_
     have wt := (Fst.setB_ref h1.r (lx.take j) true).t' (h1.setB (lx.take j) true).i h.v
     by_cases hjn : j = lx.length
     . have hd : lx.drop j = [] := List.drop_of_length_le (by omega)
       rw [hd, hjn, List.take_length]
       rw [hjn, List.take_length] at wt
       simp -dsimp +decide (disch := omega) only [vt2, v1q, ↓reduceIte, Nat.reduceSub, Nat.reduceAdd, Nat.reduceMul, Nat.reduceLT, Int.reduceAdd, Int.reduceSub, Int.reduceToNat, v2q, vft, List.head?_nil, ptrO_s, wt]
       exact ⟨(), w1 _ hfl, w1 _ hil⟩
     . obtain ⟨k, q, hd⟩ : ∃ k q, lx.drop j = k :: q := ⟨lx[j], _, List.drop_eq_getElem_cons (by omega)⟩
       have hpj := ((hp1.setB (lx.take j) true)).drop (k := j) (by omega)
       rw [hd] at hpj ⊢
       obtain ⟨y, hy1, hy2, hy3⟩ := hpj.head
       obtain ⟨y0, hkn, -⟩ := Fst.setB_inv hy1
       have hny := (h1.setB (lx.take j) true).i.nrules hy1
       have hyr := Nd.rules ((h1.setB (lx.take j) true).r.h _ _ hy1)
       have hnx := Fst.setB_next hy1
       have htk : lx.take j ++ [k] = lx.take (j + 1) := by
        have hk : lx[j]? = some k := by
         have := congrArg (fun z : List Nat => z[0]?) hd
         simpa using this
        rw [List.take_add_one, hk]; rfl
       rw [htk] at hnx
       have hF := h1.setB (lx.take (j + 1)) true
       have hy1' : ((s.setB lt false).setB (lx.take (j + 1)) true).nd k = some { y with best := true } := by rw [<- hnx]; simp [Fst.setN]
       have hny' := hF.i.nrules hy1'
       have hyr' := Nd.rules (hF.r.h _ _ hy1')
       have wt' := hF.r.t' hF.i h.v
       have hdk : lx.drop (j + 1) = q := by
        have := congrArg (List.drop 1) hd
        rwa [List.drop_drop, List.drop_succ_cons, List.drop_zero] at this
       have hpw : AV.wo (fun x => decide (V.length <= x)) (ptrO y.on) = ptrO (lx.drop (j + 1)).head? := by
        rw [hdk, <- hy3]
        exact ptrO_wo _ _ fun i hi => decide_eq_false (by have := hF.r.on _ _ _ hy1' hi; omega)
       simp -dsimp +decide (disch := omega) only [vt2, v1q, ↓reduceIte, Nat.reduceSub, Nat.reduceAdd, Nat.reduceMul, Nat.reduceLT, Int.reduceAdd, Int.reduceSub, Int.reduceToNat, v2q, vft, hny, hyr, List.head?_cons, ptrO_s, hnx, hny', hyr', hpw, wt']
       exact ⟨⟨j + 1, ⟨by omega, by omega⟩, ⟨w1 _ hfl, w1 _ hil, rfl⟩, rfl⟩, subE_rec1 (h1.i.nn _ _ hkn) fun x hx => hx⟩
   . rintro _ g tmp -
     have h2 := h1.setB lx true
     have g2 : (FT V ((s.setB lt false).setB lx true))[s.f]? = some (.cells 79 ((s.setB lt false).setB lx true).cs) := h2.i.gf
     have hf2 := Fst.rules h2.r.p
     have g3 : (FT V ((s.setB lt false).setB lx true)).set s.f (.cells 79 (Fst.cs { (s.setB lt false).setB lx true with top := i })) = FT V (s.turn lt lx i) := h2.i.sf (s' := s.turn lt lx i) rfl rfl
     refine tqcz (cj4 @vft @g2 @hf2 @g3) ?_
     refine Vw.eff (E' := EF V.length) (subE_rec1 hfl fun x hx => hx) (Vw.done ⟨rfl, rfl, rfl⟩)
theorem ptrs_at {l : List Nat} {k i : Nat} (h : l[k]? = some i) : (ptrs l)[k]? = some (.ptr i 0) := by rw [ptrs, List.getElem?_map, h]; rfl
theorem ptrs_len (l : List Nat) : (ptrs l).length = l.length := by simp [ptrs]
theorem ptrs_erase (l : List Nat) (k : Nat) : (ptrs l).eraseIdx k = ptrs (l.eraseIdx k) := by
 rw [List.eraseIdx_eq_take_drop_succ, List.eraseIdx_eq_take_drop_succ, ptrs, ptrs, List.map_append, List.map_take, List.map_drop]
theorem ptrs_ptr (l : List Nat) : ∀ a ∈ ptrs l, PtrA a := fun a ha => by
 obtain ⟨i, _, rfl⟩ := List.mem_map.1 ha; exact PtrA.ptr _ _
theorem findex_ok {V : Tbl} {s : Fst} (h : s.In V.length) {n k i : Nat} (hl : s.bc.length = n) (hn6 : n <= 1000000) (hn : ∀ j ∈ s.bc, ∃ x, s.nd j = some x) (hk : s.bc[k]? = some i) (hf : ∀ j, j < k -> s.bc[j]? ≠ some i) :
 CallA prog G 83 [.sl s.b 0 n, .ptr i 0] (FT V s) fun v T' es => v = wint (k : Int) /\ T' = FT V s /\ es = [] := by
 have hi := h.rules
 refine CallA.wfs fun wf => ?_
 have wt := wf.t
 rw [FT_len] at wt
 obtain ⟨x, hx⟩ := hn i (List.mem_of_getElem? hk)
 have hnx := h.nrules hx
 have hkl := (List.getElem?_eq_some_iff.1 hk).1
 have hil := h.nn i x hx
 have hbl := h.b
 have w1 : ∀ (k o : Nat), k < V.length -> (if decide (V.length <= k) = true then AV.any else AV.ptr k o) = AV.ptr k o := fun k o hk => if_neg (by simp; omega)
 have w2 : ∀ (k o n : Nat), k < V.length -> (if decide (V.length <= k) = true then AV.any else AV.sl k o n) = AV.sl k o n := fun k o n hk => if_neg (by simp; omega)
 have hne : ptrs s.bc ≠ [] := fun e => by have := ptrs_len s.bc; rw [e] at this; simp at this; omega
 refine CallA.eV 9 func83 ntmps83 results83 ?_
 refine sqcx ?_
 refine tqcz (cj2 @vft @hi) ?_
 refine SemA.loopK V.length (fun j : Nat => [(0, .sl s.b 0 n), (1, .ptr i 0), (7, wint (n : Int)), (8, wint (j : Int))]) (fun j => FT V s) (fun j => j <= k) (fun j => n - j) 0 [] 0 (fun _ : Unit => []) (fun _ => FT V s) (fun _ => False) (by omega) (by omega) ⟨rfl, rfl, rfl, rfl, rfl⟩ rfl (by simp) ?_ ?_
 . rintro j g hj
   refine SemA.o ?_
   obtain ⟨q, hq⟩ : ∃ q, s.bc[j]? = some q := ⟨s.bc[j]'(by omega), by simp⟩
   have hpq := ptrs_at hq
   obtain ⟨y, hy⟩ := hn q (List.mem_of_getElem? hq)
   have hny := h.nrules hy
   have i1 := eq_true (show (j : Int) < (n : Int) by omega)
   by_cases hjk : j = k
   . subst hjk
     rw [hk] at hq; cases hq
     simp -dsimp +decide (disch := omega) only [vt2, v1q, ↓reduceIte, Nat.reduceSub, Nat.reduceAdd, Nat.reduceMul, Nat.reduceLT, Int.reduceAdd, Int.reduceSub, Int.reduceToNat, v2q, vft, hi, hnx, hpq, i1, hne, ccO, bb2]
     exact ⟨⟨by omega, hne⟩, Vw.done ⟨rfl, rfl, rfl⟩⟩
   . have hiq : i ≠ q := fun e => hf j (by omega) (by rw [hq, e])
     have i2 : decide (i = q /\ True) = false := decide_eq_false fun e => hiq e.1
     simp -dsimp +decide (disch := omega) only [vt2, v1q, ↓reduceIte, Nat.reduceSub, Nat.reduceAdd, Nat.reduceMul, Nat.reduceLT, Int.reduceAdd, Int.reduceSub, Int.reduceToNat, v2q, vft, hi, hnx, hny, hpq, i1, hne, ccO, bb2, hiq, wt]
     exact ⟨⟨by omega, hne⟩, j + 1, ⟨by omega, by omega⟩, w2 _ _ _ hbl, w1 _ _ hil, rfl⟩
 . rintro _ g tmp hh
   exact hh.elim
open Classical in
theorem mdel_ent (l : List (List UInt8 × Nat)) (id : List UInt8) : mdel (l.map ent) (hv id) = (l.filter fun e => decide (e.1 ≠ id)).map ent := by
 unfold mdel
 rw [List.filter_map]
 congr 1
 refine List.filter_congr fun e _ => ?_
 show (!decide (hv e.1 = hv id)) = _
 by_cases h : e.1 = id
 . simp [h]
 . have h2 : ¬ hv e.1 = hv id := fun e => h (hv_inj e)
   simp [h, h2]
def Fst.drop (s : Fst) (k : Nat) (x : Nd) (p : Nat) (y : Nd) : Fst := { s.setN p { y with kids := y.kids - 1 } with es := s.es.filter fun e => decide (e.1 ≠ x.h.id), bc := s.bc.eraseIdx k, oa := .sl s.b 0 (s.bc.length - 1) }
theorem drop_ok {V : Tbl} {s : Fst} (h : FW V s) (hn : ∀ j ∈ s.bc, ∃ x, s.nd j = some x) {k i p : Nat} {x y : Nd} (hx : s.nd i = some x) (hp : x.on = some p) (hip : i ≠ p) (hy : s.nd p = some y) (hy1 : 1 <= y.kids) (hyk : y.kids <= 1000000) (hk : s.bc[k]? = some i) (hf : ∀ j, j < k -> s.bc[j]? ≠ some i) :
 CallA prog G 42 [.ptr s.f 0, .ptr i 0] (FT V s) fun v T' es => v = .tu [] /\ T' = FT V (s.drop k x p y) /\ es = EF V.length := by
 have hfc := Fst.rules h.r.p
 have hi := h.i.rules
 have hnx := h.i.nrules hx
 have hny := h.i.nrules hy
 have hxr := Nd.rules (h.r.h _ _ hx)
 have hyr := Nd.rules (h.r.h _ _ hy)
 obtain ⟨y', hy'⟩ : ∃ y' : Nd, y' = { y with kids := y.kids - 1 } := ⟨_, rfl⟩
 have hkid : ((y.kids : Int) - 1) = ((y.kids - 1 : Nat) : Int) := by omega
 have h1 : (s.setN p y').In V.length := h.i.setN hy y'
 have hx1 : (s.setN p y').nd i = some x := by simp [Fst.setN, hip, hx]
 have hi1 := h1.rules
 have hnx1 := h1.nrules hx1
 obtain ⟨s2, hs2⟩ : ∃ s2 : Fst, s2 = { s.setN p y' with es := s.es.filter fun e => decide (e.1 ≠ x.h.id) } := ⟨_, rfl⟩
 have h2 : s2.In V.length := by rw [hs2]; exact h1.put _ _ _ _ _ _
 have e2b : s2.b = s.b := by rw [hs2]; rfl
 have e2f : s2.f = s.f := by rw [hs2]; rfl
 have e2c : s2.bc = s.bc := by rw [hs2]; rfl
 have hn2 : ∀ j ∈ s2.bc, ∃ x, s2.nd j = some x := fun j hj => by
  rw [e2c] at hj
  obtain ⟨z, hz⟩ := hn j hj
  by_cases hjp : j = p
  . exact ⟨y', by rw [hs2]; simp [Fst.setN, hjp]⟩
  . exact ⟨z, by rw [hs2]; simp [Fst.setN, hjp, hz]⟩
 refine CallA.eV 5 func42 ntmps42 results42 ?_
 refine sqcx ?_
 simp -dsimp +decide (disch := omega) only [vt2, v1q, ↓reduceIte, Nat.reduceSub, Nat.reduceAdd, Nat.reduceMul, Nat.reduceLT, Int.reduceAdd, Int.reduceSub, Int.reduceToNat, v2q, vft, hi, hfc, hnx, hny, hxr, hyr, hp, ptrO_s, hkid, <- hy']
 have g1m : (FT V (s.setN p y'))[s.m]? = some (.map (s.es.map ent)) := h1.gm
 have g1f : (FT V (s.setN p y'))[s.f]? = some (.cells 79 s.cs) := h1.gf
 have g1s : (FT V (s.setN p y')).set s.m (.map ((s.es.filter fun e => decide (e.1 ≠ x.h.id)).map ent)) = FT V s2 := by rw [hs2]; exact h1.sm _
 have hko := mapKO_ent h.k x.h.id_len
 have hfl := flat8 x.h.id
 have h32 : List.take 32 (List.drop 0 x.h.id) = x.h.id := by rw [List.drop_zero, List.take_of_length_le (by rw [x.h.id_len]; exact Nat.le_refl _)]
 have g2f : (FT V s2)[s.f]? = some (.cells 79 s.cs) := by rw [<- e2f, h2.gf, hs2]; rfl
 have hfi := findex_ok h2 (n := s.bc.length) (k := k) (i := i) (by rw [e2c]) h.l hn2 (by rw [e2c]; exact hk) (by rw [e2c]; exact hf)
 rw [e2b] at hfi
 refine SemA.draw (fun i => true) [(0, true), (1, true), (2, true), (3, true), (4, true), (5, true), (6, true), (7, true), (8, false)] mixed (by kernel_rfl) ?_
 simp -dsimp +decide (disch := omega) only [vt2, v1q, ↓reduceIte, Nat.reduceSub, Nat.reduceAdd, Nat.reduceMul, Nat.reduceLT, Int.reduceAdd, Int.reduceSub, Int.reduceToNat, v2q, vft, g1m, g1f, g1s, hfc, hnx1, hxr, hko, hfl, h32, hv_fold, mdel_ent, kallT, g2f, h.o]
 refine hfi.det' ?_
 have hkl := (List.getElem?_eq_some_iff.1 hk).1
 have g2b : (FT V s2)[s.b]? = some (.buf 72 1 (ptrs s.bc)) := by rw [<- e2b, h2.gb, hs2]; rfl
 have hdl := delete_ok g2b (ptrs_ptr _) (n := s.bc.length) (k := k) (by rw [ptrs_len]) hkl
 obtain ⟨s3, hs3⟩ : ∃ s3 : Fst, s3 = { s2 with bc := s.bc.eraseIdx k } := ⟨_, rfl⟩
 have g3 : (FT V s2).set s.b (.buf 72 1 ((ptrs s.bc).eraseIdx k)) = FT V s3 := by rw [ptrs_erase, <- e2b, hs3]; exact h2.sb _
 rw [g3] at hdl
 have h3 : s3.In V.length := by rw [hs3]; exact h2.put _ _ _ _ _ _
 have g3f : (FT V s3)[s.f]? = some (.cells 79 s.cs) := by
  have := h3.gf
  rw [show s3.f = s.f by rw [hs3]; exact e2f] at this
  rw [this, hs3, hs2]; rfl
 have g3s : (FT V s3).set s.f (.cells 79 (Fst.cs { s with oa := .sl s.b 0 (s.bc.length - 1) })) = FT V (s.drop k x p y) := by
  have := h3.sf (s' := s.drop k x p y) (by rw [hs3, hs2, hy']; rfl) rfl
  rw [show s3.f = s.f by rw [hs3]; exact e2f] at this
  exact this
 have hk1 : (k : Int) + 1 = ((k + 1 : Nat) : Int) := by omega
 have hll := h.l
 have hk2 : IntKind.i64.wrap ((k + 1 : Nat) : Int) = ((k + 1 : Nat) : Int) := IntWalk.i64_in _ (by omega)
 simp -dsimp +decide (disch := omega) only [vt2, v1q, ↓reduceIte, Nat.reduceSub, Nat.reduceAdd, Nat.reduceMul, Nat.reduceLT, Int.reduceAdd, Int.reduceSub, Int.reduceToNat, v2q, vft, g2f, hfc, h.o, hk1, hk2]
 refine hdl.det' ?_
 refine tqcz (cj4 @vft @g3f @hfc @g3s) ?_
 exact Vw.eff (E' := EF V.length) (subE_rec1 h.i.f (subE_rec1 h.i.b (subE_rec1 h.i.m (subE_rec1 (h.i.nn _ _ hy) fun x hx => by cases hx)))) (Vw.done ⟨rfl, rfl, rfl⟩)
def Fst.leaf (s : Fst) (i : Nat) : Bool := match s.nd i with
 | some x => !x.best && decide (x.kids = 0)
 | none => false
theorem leaves_ok {V : Tbl} {s : Fst} (l : Tbl) (hf : s.f < V.length) :
 CallA prog G 41 [.ptr s.f 0] (FT V s ++ l) fun v T' es => v = .fn 82 [.ptr (V.length + l.length) 0] /\ T' = FT V s ++ l ++ [.cells 32 [.ptr s.f 0]] /\ es = [] := by
 refine CallA.wfs fun wf => ?_
 have hl : (FT V s ++ l).length = V.length + l.length := by rw [List.length_append, FT_len]
 refine CallA.eV 3 func41 ntmps41 results41 ?_
 refine sqbx ?_
 exact Vw.done ⟨by rw [FT_len], List.append_assoc _ _ _ ▸ rfl, rfl⟩
def One (Gd : Tbl -> Prop) (J : List Nat -> Tbl -> Prop) : Prop := ∀ pre T, J pre T -> pre = [] /\ Gd T
theorem liter_ok {V : Tbl} {s : Fst} (h : s.In V.length) {n j i : Nat} (ho : s.oa = .sl s.b 0 n) (hp : s.p.Ok) (hl : s.bc.length = n) (hn6 : n <= 1000000) (hn : ∀ j ∈ s.bc, ∃ x, s.nd j = some x /\ x.h.Ok /\ x.kids <= 1000000) :
 Iter (One fun T => ∃ l, T = FT V s ++ l /\ T[j]? = some (.cells 32 [.ptr s.f 0])) prog G 82 [.ptr j 0] (fun i => [.ptr i 0]) (s.bc.filter s.leaf) i := by
 intro J Jx Ei T hC hEi hJ hy
 obtain ⟨-, l, rfl, hgj⟩ := hC _ _ hJ
 have hi := h.rules
 have hfc := Fst.rules hp
 refine CallA.wfs fun wf => ?_
 have wt := wf.t
 have hsm := slots_map Ei
 have hs1 := slot1_eq Ei
 have hsi := hs1.2.2.2.2.1 i hEi
 have hne : n ≠ 0 -> ptrs s.bc ≠ [] := fun h0 e => by have := ptrs_len s.bc; rw [e] at this; simp at this; omega
 refine CallA.eV 11 func82 ntmps82 results82 ?_
 refine sqbx ?_
 refine tqbz (cj5 @vft @hgj @hi @hfc @ho) ?_
 refine SemA.loopE (fun k : Nat => [(0, .yl i), (8, .sl s.b 0 n), (9, wint (n : Int)), (10, wint (k : Int))]) (fun k => FT V s ++ l) (fun k => k <= n /\ (s.bc.take k).filter s.leaf = []) (fun k => n - k) 0 Ei 0 (fun _ : Unit => []) (fun _ => FT V s ++ l) (fun _ => s.bc.filter s.leaf = []) ⟨by omega, rfl⟩ ⟨rfl, rfl, rfl, rfl, rfl⟩ rfl (by simp) ?_ ?_
 . rintro k g ⟨hk, hkf⟩
   refine SemA.o ?_
   by_cases hkn : k = n
   . have i1 := eq_false (show ¬ (k : Int) < (n : Int) by omega)
     refine tqby @i1 ?_
     rw [hkn, List.take_of_length_le (by omega)] at hkf
     exact ⟨(), hkf⟩
   . have i1 := eq_true (show (k : Int) < (n : Int) by omega)
     obtain ⟨q, hq⟩ : ∃ q, s.bc[k]? = some q := ⟨s.bc[k]'(by omega), by simp⟩
     obtain ⟨y, hy1, hyo, hyk⟩ := hn q (List.mem_of_getElem? hq)
     have hpq := ptrs_at hq
     have hny := h.nrules hy1
     have hyr := Nd.rules hyo
     have hne' := hne (by omega)
     have htk : s.bc.take (k + 1) = s.bc.take k ++ [q] := by rw [List.take_add_one, hq]; rfl
     have hlf : s.leaf q = (!y.best && decide (y.kids = 0)) := by rw [Fst.leaf, hy1]
     have hfq : (s.bc.take (k + 1)).filter s.leaf = if s.leaf q = true then [q] else [] := by rw [htk, List.filter_append, hkf, List.nil_append, List.filter_cons]; rfl
     have hkz : decide ((y.kids : Int) = 0) = decide (y.kids = 0) := decide_eq_decide.2 (by omega)
     cases c : s.leaf q with
     | false =>
       rw [c] at hfq hlf
       rw [if_neg (by decide)] at hfq
       cases hb : y.best with
       | true =>
         refine tqby (cj7 @hi @hpq @hny @hyr @i1 @hb @bb2) ?_
         exact ⟨⟨by omega, hne'⟩, k + 1, ⟨⟨by omega, hfq⟩, by omega⟩, rfl⟩
       | false =>
         have hb2 : decide (y.kids = 0) = false := by rw [hb] at hlf; exact hlf.symm
         refine tqby (cj9 @hi @hpq @hny @hyr @i1 @hb @hb2 @hkz @bb2) ?_
         exact ⟨⟨by omega, hne'⟩, k + 1, ⟨⟨by omega, hfq⟩, by omega⟩, rfl⟩
     | true =>
       rw [c] at hfq hlf
       rw [if_pos rfl] at hfq
       have hb1 : y.best = false := by cases hb : y.best with | false => rfl | true => rw [hb] at hlf; cases hlf
       have hb2 : decide (y.kids = 0) = true := by rw [hb1] at hlf; exact hlf.symm
       have hpre : [] ++ [q] <+: s.bc.filter s.leaf := by
        rw [List.nil_append, <- hfq]
        exact ⟨(s.bc.drop (k + 1)).filter s.leaf, by rw [<- List.filter_append, List.take_append_drop]⟩
       refine tqby (cj9 @hi @hpq @hny @hyr @i1 @hb1 @hb2 @hkz @bb2) ?_
       refine ⟨⟨by omega, hne'⟩, (hy [] q _ hpre hJ).mono ?_⟩
       rintro v T3 E3 ⟨rfl, ⟨rfl, hJ3⟩ | ⟨rfl, hJ3⟩⟩
       . have := (hC _ _ hJ3).1
         simp at this
       . refine tqby (cj5 @hsm @hs1 @hsi @subE_rec @bb2) ?_
         exact Vw.done ⟨fun y hy => (recE_mem.1 hy).elim (fun h => h.1) fun h => h, .inr ⟨_, hpre, hJ3⟩⟩
 . rintro _ g tmp hh
   refine sqby ?_
   exact Vw.done ⟨fun y hy => hy, .inl (by rw [hh]; exact hJ)⟩
theorem padd_ok {T : Tbl} {x y : Nat} (hx : x < 2 ^ 256) (hy : y < 2 ^ 256) : CallA prog G 37 [.ag (Bg x), .ag (Bg y)] T fun v T' es => v = .tu [.ag (Bg ((x + y) % 2 ^ 256)), .p (.bool (decide (2 ^ 256 <= x + y)))] /\ T' = T /\ es = [] := by
 refine CallA.wfs fun wf => ?_
 have wt := wf.t
 have ez : [oQ, oQ, oQ, oQ] = Bg 0 := rfl
 have eadd : entered prog 80 = false := (by kernel_rfl)
 refine CallA.eV 11 func37 ntmps37 results37 ?_
 refine sqbx ?_
 refine tqbz (cj2 @ez @vbg) ?_
 refine SemA.loopE (fun s : Nat × Nat × UInt64 => [(2, .ptr T.length 0), (4, .ptr (T.length + 2) 0), (6, w64 s.2.2), (9, .ag (Bg y)), (10, wint (s.1 : Int))]) (fun s => T ++ [.cells 47 (Bg s.2.1), .cells 47 (Bg y), .cells 47 (Bg 0)]) (fun s => s.1 <= 4 /\ s.2.1 < 2 ^ 256 /\ s.2.2.toNat <= 1 /\ s.2.1 / 2 ^ (64 * s.1) = x / 2 ^ (64 * s.1) /\ x % 2 ^ (64 * s.1) + y % 2 ^ (64 * s.1) = s.2.1 % 2 ^ (64 * s.1) + 2 ^ (64 * s.1) * s.2.2.toNat) (fun s => 4 - s.1) (0, x, 0) [] 0 (fun c : UInt64 => [(2, .ptr T.length 0), (4, .ptr (T.length + 2) 0), (6, w64 c)]) (fun _ => T ++ [.cells 47 (Bg ((x + y) % 2 ^ 256)), .cells 47 (Bg y), .cells 47 (Bg 0)]) (fun c => c.toNat = if 2 ^ 256 <= x + y then 1 else 0) ⟨by simp, hx, by simp, rfl, by simp [Nat.mod_one]⟩ (by (simp -dsimp +decide (disch := omega) only [v1q, ↓reduceIte, Nat.reduceSub, Nat.reduceAdd, Nat.reduceMul, Nat.reduceLT, Int.reduceAdd, Int.reduceSub, Int.reduceToNat, v4q]); first | rfl | done) rfl (by simp) ?_ ?_
 . rintro ⟨k, w, c⟩ g ⟨hk, hw, hc, h1, h2⟩
   dsimp only at hk hw hc h1 h2
   refine SemA.o ?_
   refine sqby ?_
   refine CondP.dec (fun h => ?_) (fun h => ?_)
   . have hk4 : k < 4 := by omega
     have hgy := Bg_get y hk4
     have hgw := Bg_get w hk4
     have g0 := fun l => gn0 T (.cells 47 (Bg w)) l
     refine tqbz (cj6 @vbg @g0 @hgy @hgw @Bg_len @eadd) ?_
     refine ⟨⟨by omega, by omega⟩, ⟨by omega, by omega⟩, addX hc ?_⟩
     have ly : (limb y k).toNat < 2 ^ 64 := UInt64.toNat_lt _
     have lx : (limb w k).toNat < 2 ^ 64 := UInt64.toNat_lt _
     obtain ⟨r, hr⟩ : ∃ r, r = ((limb w k).toNat + (limb y k).toNat + c.toNat) % 2 ^ 64 := ⟨_, rfl⟩
     obtain ⟨d, hd⟩ : ∃ d, d = ((limb w k).toNat + (limb y k).toNat + c.toNat) / 2 ^ 64 := ⟨_, rfl⟩
     have hrl : r < 2 ^ 64 := by omega
     have hdl : d <= 1 := by rw [hd]; omega
     rw [<- hr, <- hd]
     obtain ⟨w', hw', hs, g1, g2, g3⟩ := Bg_put hw hk4 hrl
     have hs2 := hs (UInt64.ofNat r) (by rw [UInt64.toNat_ofNat', Nat.mod_eq_of_lt hrl])
     have hd2 : (UInt64.ofNat d).toNat = d := by rw [UInt64.toNat_ofNat', Nat.mod_eq_of_lt (by omega)]
     refine tqbz (cj4 @vbg @g0 @hs2 @Bg_len) ?_
     refine ⟨⟨by omega, by omega⟩, by omega, (k + 1, w', UInt64.ofNat d), ⟨⟨by dsimp only; omega, hw', by dsimp only; omega, ?_, ?_⟩, by dsimp only; omega⟩, ⟨rfl, rfl⟩, rfl⟩
     . dsimp only
       rw [g3]
       have := div_next w k
       have := div_next x k
       omega
     . dsimp only
       have hx2 := mod_next x k
       have hy2 := mod_next y k
       have hw2 := mod_next w' k
       have e1 : x / 2 ^ (64 * k) % 2 ^ 64 = w / 2 ^ (64 * k) % 2 ^ 64 := by rw [h1]
       rw [limb_nat] at hr hd lx ly
       rw [limb_nat] at hr hd
       rw [hx2, hy2, hw2, g1, g2, e1, hd2]
       have e2 : w / 2 ^ (64 * k) % 2 ^ 64 + (y / 2 ^ (64 * k) % 2 ^ 64 + c.toNat) = r + 2 ^ 64 * d := by omega
       have e3 : 2 ^ (64 * (k + 1)) * d = 2 ^ (64 * k) * (2 ^ 64 * d) := by rw [Nat.mul_add, Nat.mul_one, Nat.pow_add, Nat.mul_assoc]
       have e4 : 2 ^ (64 * k) * (w / 2 ^ (64 * k) % 2 ^ 64 + (y / 2 ^ (64 * k) % 2 ^ 64 + c.toNat)) = 2 ^ (64 * k) * (r + 2 ^ 64 * d) := by rw [e2]
       rw [Nat.mul_add, Nat.mul_add, Nat.mul_add] at e4
       rw [e3]
       omega
   . have e : k = 4 := by omega
     subst e
     refine tqbz @vbg ?_
     simp only [Nat.reduceMul] at h1 h2
     refine ⟨c, ?_, rfl, ?_⟩
     . split <;> omega
     . have : w = (x + y) % 2 ^ 256 := by omega
       rw [this]
 . rintro c g tmp hc
   have hb : (!decide ((c.toNat : Int) = 0)) = decide (2 ^ 256 <= x + y) := by
    by_cases h : 2 ^ 256 <= x + y
    . rw [if_pos h] at hc; rw [hc]; simp [h]
    . rw [if_neg h] at hc; rw [hc]; simp [h]
   refine tqbz (cj4 @vbg @vres @vone @hb) ?_
   exact Vw.cut ⟨by rw [AV.wo, AV.woL_eq]; simp only [List.map_cons, List.map_nil, AV.wo, AV.woL_eq, Bg_wo], rfl, rfl⟩
theorem Bg_inc {z : Nat} (h : z + 1 < 2 ^ 256) (he : z % 2 = 0) : (Bg z).set 0 (.p (.int .u64 ((limb z 0 + UInt64.ofInt 1).toNat : Int))) = Bg (z + 1) := by
 refine Bg_set (by decide) (UInt64.toNat_inj.1 ?_) fun i hi hn => UInt64.toNat_inj.1 ?_
 . rw [UInt64.toNat_add, limb_nat, limb_nat, show (UInt64.ofInt 1).toNat = 1 from rfl]; simp only [Nat.mul_zero, Nat.pow_zero, Nat.div_one]; omega
 . rw [limb_nat, limb_nat]
   match i, hi with
   | 0, _ => exact absurd rfl hn
   | 1, _ => simp only [Nat.mul_one]; omega
   | 2, _ => simp only [Nat.reduceMul]; omega
   | 3, _ => simp only [Nat.reduceMul]; omega
theorem pup_neg {T : Tbl} {x : Nat} {n : Int} (hn : n <= 0) : CallA prog G 98 [.ag (Bg x), wint n] T fun v T' es => v = .ag (Bg x) /\ T' = T /\ es = [] := by
 refine CallA.wfs fun wf => ?_
 have wt := wf.t
 have i1 := eq_true hn
 have ez : [oQ, oQ, oQ, oQ] = Bg 0 := rfl
 refine CallA.eV 6 func98 ntmps98 results98 ?_
 refine sqbx ?_
 refine tqbz (cj3 @ez @vbg @i1) ?_
 exact Vw.cut ⟨by rw [AV.wo, AV.woL_eq, Bg_wo], rfl, rfl⟩
theorem blen_lt (x : Nat) : x < 2 ^ blen x := (blen_is x).1
theorem blen_ge {x : Nat} (h : x ≠ 0) : 2 ^ (blen x - 1) <= x := by
 unfold blen
 rw [if_neg h, Nat.add_sub_cancel]
 exact Nat.log2_self_le h
theorem halfdiv (x M : Nat) (hM : 0 < M) : x / M = 2 * (x / (2 * M)) + (if M <= x % (2 * M) then 1 else 0) /\ x % M = x % (2 * M) - (if M <= x % (2 * M) then M else 0) := by
 have h1 := Nat.div_add_mod x (2 * M)
 have h2 := Nat.mod_lt x (show 0 < 2 * M by omega)
 generalize x / (2 * M) = q at *
 generalize x % (2 * M) = r at *
 subst h1
 split
 . rename_i h
   have e : 2 * M * q + r = (r - M) + M * (2 * q + 1) := by rw [Nat.mul_add, Nat.mul_one, Nat.mul_comm 2 M, Nat.mul_assoc]; omega
   rw [e, Nat.add_mul_div_left _ _ hM, Nat.add_mul_mod_self_left, Nat.div_eq_of_lt (by omega), Nat.mod_eq_of_lt (by omega)]
   omega
 . rename_i h
   have e : 2 * M * q + r = r + M * (2 * q) := by rw [Nat.mul_comm 2 M, Nat.mul_assoc]; omega
   rw [e, Nat.add_mul_div_left _ _ hM, Nat.add_mul_mod_self_left, Nat.div_eq_of_lt (by omega), Nat.mod_eq_of_lt (by omega)]
   omega
end Go.Proofs.YtfpjalgfnjjcmaaGreatDoor
