/-
  Part 5 of the proof: no statement of its own. No condition but those in each theorem.
-/
import Derived.Test.YtmcbdlefakjpoaaGreatDoorPk4
import Derived.Sort.AssemblyPlain
set_option linter.unusedSimpArgs false
set_option linter.unusedVariables false
set_option linter.unusedSectionVars false
set_option maxRecDepth 8000
set_option maxHeartbeats 4000000
namespace Go.Proofs.YtmcbdlefakjpoaaGreatDoor
open Go.E Go.Proofs.YtmcbdlefakjpoaaGreatDoor.Tryz Go.Proofs.Tryz
theorem keep_frontN (T l : Tbl) (n : Nat) : ∃ l', keepT (fun i => decide (i < T.length + n)) (T ++ l) = T ++ l' := by
 refine ⟨(keepT (fun i => decide (i < T.length + n)) (T ++ l)).drop T.length, ?_⟩
 conv => lhs; rw [<- List.take_append_drop T.length (keepT (fun i => decide (i < T.length + n)) (T ++ l))]
 congr 1
 refine List.ext_getElem? fun i => ?_
 rw [List.getElem?_take]
 split
 . rename_i h
   rw [keepT_get, List.getElem?_append_left h, List.getElem?_eq_getElem h]
   simp [keepO, show i < T.length + n by omega]
 . rename_i h
   rw [List.getElem?_eq_none (by omega)]
structure Spd where
 fro : UInt8
 two : Bool
 to : By
 part : UInt8
 extra : UInt8
def Spd.cs (s : Spd) : List AV := [by8 s.fro, .p (.bool s.two), s.to.a, by8 s.part, by8 s.extra]
structure Spd.Ok (s : Spd) : Prop where
 t : s.to.Ok
 l : s.to.b.length <= 1099511627776
theorem Spd.rules {x : Spd} (ok : x.Ok) : x.cs.length = 5 /\ x.cs[0]? = some (by8 x.fro) /\ x.cs[1]? = some (.p (.bool x.two)) /\ x.cs[2]? = some x.to.a /\ x.cs[3]? = some (by8 x.part) /\ x.cs[4]? = some (by8 x.extra) /\
 List.take 5 (List.drop 0 x.cs) = x.cs /\ List.take 5 x.cs = x.cs /\ (∀ q, x.cs.map (AV.wo q) = x.cs) /\ (∀ i cs, x.cs.map (AV.pub i cs) = x.cs) /\ (∀ f, x.cs.map (AV.ren f) = x.cs) /\ ones x.cs = true := by
 have k := ok.t.k
 have hw : ∀ q, x.cs.map (AV.wo q) = x.cs := fun q => by simp only [Spd.cs, List.map_cons, List.map_nil, k.wo, by8, AV.wo]
 refine ⟨rfl, rfl, rfl, rfl, rfl, rfl, rfl, rfl, hw, fun i cs => ?_, fun f => ren_all hw, ?_⟩
 . simp only [Spd.cs, List.map_cons, List.map_nil, k.pub, by8, AV.pub]
 . simp only [Spd.cs, ones, List.all_cons, List.all_nil, k.one, Bool.and_true]; rfl
def icl (p : Plc) (a b c : AV) : List AV := pcs p ++ [a, b, c]
def zI36 : List AV := icl (h0b, 0) (.p (.slice none 0 0)) (w32 0) (.p (.slice none 0 0))
theorem ezI : [oB, oB, oB, oB, oB, oB, oB, oB, oB, oB, oB, oB, oB, oB, oB, oB, oB, oB, oB, oB, oB, oB, oB, oB, oB, oB, oB, oB, oB, oB, oB, oB, oW, AV.p (Value.slice none 0 0), oW, AV.p (Value.slice none 0 0)] = zI36 := rfl
theorem icl_rules {p : Plc} (h : p.1.length = 32) : (∀ a b c, (icl p a b c).length = 36) /\ (zI36.length = 36) /\ (wrA zI36 0 (pcs p) = icl p (.p (.slice none 0 0)) (w32 0) (.p (.slice none 0 0))) /\ (∀ a b c x, (icl p a b c).set 33 x = icl p x b c) /\ (∀ a b c x, (icl p a b c).set 34 x = icl p a x c) /\ (∀ a b c x, (icl p a b c).set 35 x = icl p a b x) /\
 (∀ (sc : By) (sq : UInt32) (wa : AV) (wit : List By), icl p sc.a (w32 sq) wa = TIn.cs ⟨p.1, p.2, sc, sq, wa, wit⟩) /\ (pcs p).length = 33 /\ (∀ q a b c, (icl p a b c).map (AV.wo q) = icl p (a.wo q) (b.wo q) (c.wo q)) /\ (∀ i cs a b c, (icl p a b c).map (AV.pub i cs) = icl p (a.pub i cs) (b.pub i cs) (c.pub i cs)) /\ (∀ f a b c, (icl p a b c).map (AV.ren f) = icl p (a.ren f) (b.ren f) (c.ren f)) /\
 (∀ a b c, wrA zI36 0 (icl p a b c) = icl p a b c) /\ (∀ a b c, List.take 36 (icl p a b c) = icl p a b c) := by
 have hl := pcs_l h
 have e : ∀ a b c k v, (icl p a b c).set (33 + k) v = pcs p ++ [a, b, c].set k v := fun a b c k v => by
  rw [icl, List.set_append_right _ _ (by omega), hl, show 33 + k - 33 = k by omega]
 have hL : ∀ a b c, (icl p a b c).length = 36 := fun a b c => by rw [icl, List.length_append, hl]; rfl
 refine ⟨hL, rfl, ?_, fun a b c x => e a b c 0 x, fun a b c x => e a b c 1 x, fun a b c x => e a b c 2 x, fun sc sq wa wit => ?_, hl, fun q a b c => ?_, fun i cs a b c => ?_, fun f a b c => ?_, fun a b c => wrA_all (by rw [hL]; rfl), fun a b c => List.take_of_length_le (by rw [hL]; exact Nat.le_refl _)⟩
 . rw [wrA_eq (by rw [hl]; decide), hl]; rfl
 . rw [icl, TIn.cs, pcs, plc, List.append_assoc]; rfl
 . rw [icl, List.map_append, pcs_wo]; rfl
 . rw [icl, List.map_append, pcs_pub]; rfl
 . rw [icl, List.map_append, ren_all fun q => pcs_wo q p]; rfl
theorem cl0 : ∀ a ∈ ([] : List AV), a.Clean := fun _ h => nomatch h
theorem cl1 (v : Value) : ∀ a ∈ [AV.p v], a.Clean := by
 intro a ha; rw [List.mem_singleton.1 ha]; exact .p _
theorem cl2 (c d : List AV) (n m : Nat) : ∀ a ∈ [AV.vs c n, AV.vs d m], a.Clean := by
 intro a ha
 rcases List.mem_cons.1 ha with rfl | ha
 . exact .vs _ _
 . rw [List.mem_singleton.1 ha]; exact .vs _ _
theorem gn5 (T : Tbl) (a b c d e o : AObj) (l : Tbl) : (T ++ a :: b :: c :: d :: e :: o :: l)[T.length + 5]? = some o := by simp
theorem gn6 (T : Tbl) (a b c d e f o : AObj) (l : Tbl) : (T ++ a :: b :: c :: d :: e :: f :: o :: l)[T.length + 6]? = some o := by simp
theorem gn7 (T : Tbl) (a b c d e f g o : AObj) (l : Tbl) : (T ++ a :: b :: c :: d :: e :: f :: g :: o :: l)[T.length + 7]? = some o := by simp
theorem ones_icl (p : Plc) (a b c : AV) : ones (icl p a b c) = (a.one && (b.one && (c.one && true))) := by
 have h := @onesp p
 rw [ones] at h
 rw [icl, ones, List.all_append, h]; rfl
def z4 : List AV := [w32 0, .p (.slice none 0 0), .p (.slice none 0 0), w32 0]
structure Fine (t : TTx) : Prop where
 ok : t.Ok
 i1 : 1 <= t.ins.length
 i2 : t.ins.length <= 2
 o1 : 1 <= t.outs.length
 o2 : t.outs.length <= 4
theorem TIn.cleanf {xs : List TIn} (h : ∀ x ∈ xs, x.Ok) : ∀ a ∈ xs.flatMap TIn.cs, a.Clean := by
 intro a ha
 obtain ⟨x, hx, ha⟩ := List.mem_flatMap.1 ha
 rw [TIn.cs] at ha
 rcases List.mem_append.1 ha with ha | ha
 . exact clean8 _ a ha
 . simp only [List.mem_cons, List.not_mem_nil, or_false] at ha
   rcases ha with rfl | rfl | rfl | rfl
   . exact .p _
   . exact (h x hx).s.k.cl
   . exact .p _
   . exact (h x hx).w.k.cl
theorem TOut.cleanf {xs : List TOut} (h : ∀ x ∈ xs, x.Ok) : ∀ a ∈ xs.flatMap TOut.cs, a.Clean := by
 intro a ha
 obtain ⟨x, hx, ha⟩ := List.mem_flatMap.1 ha
 simp only [TOut.cs, List.mem_cons, List.not_mem_nil, or_false] at ha
 rcases ha with rfl | rfl
 . exact .p _
 . exact (h x hx).s.k.cl
theorem TIn.wof {xs : List TIn} (h : ∀ x ∈ xs, x.Ok) (q : Nat -> Bool) : (xs.flatMap TIn.cs).map (AV.wo q) = xs.flatMap TIn.cs := by
 induction xs with
 | nil => rfl
 | cons x r ih => rw [List.flatMap_cons, List.map_append, (TIn.rules (h x (by simp))).2.2.2.2.2.2.2.2.2.1, ih fun y hy => h y (by simp [hy])]
theorem TIn.pubf {xs : List TIn} (h : ∀ x ∈ xs, x.Ok) (i : Nat) (cs : List AV) : (xs.flatMap TIn.cs).map (AV.pub i cs) = xs.flatMap TIn.cs := by
 induction xs with
 | nil => rfl
 | cons x r ih => rw [List.flatMap_cons, List.map_append, (TIn.rules (h x (by simp))).2.2.2.2.2.2.2.2.2.2.1, ih fun y hy => h y (by simp [hy])]
theorem TOut.wof {xs : List TOut} (h : ∀ x ∈ xs, x.Ok) (q : Nat -> Bool) : (xs.flatMap TOut.cs).map (AV.wo q) = xs.flatMap TOut.cs := by
 induction xs with
 | nil => rfl
 | cons x r ih => rw [List.flatMap_cons, List.map_append, (TOut.rules (h x (by simp))).2.2.2.2.1, ih fun y hy => h y (by simp [hy])]
theorem TOut.pubf {xs : List TOut} (h : ∀ x ∈ xs, x.Ok) (i : Nat) (cs : List AV) : (xs.flatMap TOut.cs).map (AV.pub i cs) = xs.flatMap TOut.cs := by
 induction xs with
 | nil => rfl
 | cons x r ih =>
   have k1 := (h x (by simp)).s.k
   rw [List.flatMap_cons, List.map_append, ih fun y hy => h y (by simp [hy])]
   simp only [TOut.cs, List.map_cons, List.map_nil, k1.pub, w64, AV.pub]
theorem tk4 (x y z w : AV) : List.take 4 [x, y, z, w] = [x, y, z, w] /\ [x, y, z, w].length = 4 /\ wrA z4 0 [x, y, z, w] = [x, y, z, w] /\ z4.length = 4 := ⟨rfl, rfl, rfl, rfl⟩
theorem z4w (q : Nat -> Bool) : z4.map (AV.wo q) = z4 := by simp only [z4, w32, List.map_cons, List.map_nil, AV.wo]
def SpendV (v : AV) : Prop := ∃ (t : TTx) (b : Bool), t.Ok /\ (b = true -> Fine t) /\ v = .tu [.ag t.cs, .p (.bool b)]
theorem spend15_ok {T : Tbl} {sp : Spd} (ok : sp.Ok) {ps : List Plc} {vals : List UInt64} {a c : AV} (ha : Es T 33 pcs a ps) (hc : Sl T 1 c (vals.map w64) vals.length) (hpv : ps.length = vals.length) (h32 : P32 ps) (hpl : ps.length <= 100000000000) {mark : UInt32} :
 CallA prog G 45 [.ag sp.cs, a, c, w32 mark] T fun v T' es => SpendV v /\ T' = T /\ es = [] := by
 refine CallA.wfs fun wf => ?_
 have wt := wf.t
 have wp := wf.p
 have hr := Spd.rules ok
 have wa := wf.arg a (by simp)
 have wc := wf.arg c (by simp)
 have wap := wf.argp a (by simp)
 have wcp := wf.argp c (by simp)
 have hsp := Sl.rules ha.sl (by decide)
 have hsv := Sl.rules hc (by decide)
 have hto := Sl.rules (ok.t.bs T) (by decide)
 have w0 : wrA [oW, AV.p (Value.slice none 0 0), AV.p (Value.slice none 0 0), oW] 0 [oW, AV.p (Value.slice none 0 0), AV.p (Value.slice none 0 0), oW] = [oW, AV.p (Value.slice none 0 0), AV.p (Value.slice none 0 0), oW] := rfl
 have w4 : ∀ x0 x1 x2 x3 : AV, wrA [oW, AV.p (Value.slice none 0 0), AV.p (Value.slice none 0 0), oW] 0 [x0, x1, x2, x3] = [x0, x1, x2, x3] := fun _ _ _ _ => rfl
 have r2 : ∀ x : AV, (List.replicate 2 [x]).flatten = [x, x] := fun _ => rfl
 have tz4 := fun x y z : AV => (show List.take 4 [oW, x, y, z] = [oW, x, y, z] from rfl)
 have g1 := fun a c l => gn1 T a (.cells 63 c) l
 have hno : SpendV (.tu [.ag z4, .p (.bool false)]) := ⟨⟨0, .p (.slice none 0 0), [], .p (.slice none 0 0), [], 0⟩, false, ⟨⟨by simp, .inr ⟨rfl, rfl⟩⟩, ⟨by simp, .inr ⟨rfl, rfl⟩⟩, by simp, by simp, by simp, by simp⟩, by simp, rfl⟩
 have kk : (∀ k j : Nat, decide (T.length + k < T.length + j) = decide (k < j)) /\ (∀ j : Nat, decide (T.length < T.length + j) = decide (0 < j)) := ⟨fun k j => by simp, fun j => by simp⟩
 refine CallA.enterZ 122 func45 ntmps45 (congrArg Array.toList results45) rfl ⟨by simp, by simp⟩ (by kernel_rfl) ?_
 refine SemA.cutAt [] (fun s : List TIn × UInt64 => [(3, w32 mark), (4, .ptr T.length 0), (8, .ptr (T.length + 1) 0), (9, .p (.bool false)), (11, .ptr (T.length + 2) 0), (12, w64 s.2)]) (fun s => T ++ [.cells 118 sp.cs, .cells 63 z4, .cells 63 [w32 2, .sl (T.length + 3) 0 s.1.length, .p (.slice none 0 0), w32 mark], .buf 68 36 (s.1.flatMap TIn.cs)]) (fun s => sp.to.b.length ≠ 0 /\ 1 <= s.1.length /\ s.1.length <= 2 /\ ∀ x ∈ s.1, x.Ok) [] 6 rfl (by kernel_rfl) ?_ ?_
 . by_cases h0 : ps.length = 0
   . have i0 : ((ps.length : Int) = 0) = True := eq_true (by omega)
     simp -dsimp +decide (disch := omega) only [vq, ty, ↓reduceIte, Nat.reduceSub, Nat.reduceAdd, vt, hsp, i0, w0, g1, vres, vone, tz4]
     exact Vw.cut ⟨hno, rfl, rfl⟩
   have i0 : ((ps.length : Int) = 0) = False := eq_false (by omega)
   by_cases h1 : sp.to.b.length = 0
   . have i1 : ((sp.to.b.length : Int) = 0) = True := eq_true (by omega)
     simp -dsimp +decide (disch := omega) only [vq, ty, ↓reduceIte, Nat.reduceSub, Nat.reduceAdd, vt, hr, hsp, hto, i0, i1, w0, g1, vres, vone, tz4]
     exact Vw.cut ⟨hno, rfl, rfl⟩
   have i1 : ((sp.to.b.length : Int) = 0) = False := eq_false (by omega)
   obtain ⟨k, hk, hkl⟩ : ∃ k, k = sp.fro.toNat % ps.length /\ k < ps.length := ⟨_, rfl, Nat.mod_lt _ (by omega)⟩
   have hmod : (sp.fro.toNat : Int).tmod (ps.length : Int) = (k : Int) := by rw [hk]; rfl
   obtain ⟨p, hp⟩ : ∃ p, ps[k]? = some p := ⟨ps[k]'hkl, by simp [hkl]⟩
   obtain ⟨v0, hv0⟩ : ∃ v, vals[k]? = some v := ⟨vals[k]'(by omega), by simp [<- hpv, hkl]⟩
   have hp32 := h32 p (List.mem_of_getElem? hp)
   have hw8 : IntKind.i64.wrap (sp.fro.toNat : Int) = (sp.fro.toNat : Int) := IntWalk.i64_in _ (by have := sp.fro.toNat_lt; omega)
   simp -dsimp +decide (disch := omega) only [vq, ty, ↓reduceIte, Nat.reduceSub, Nat.reduceAdd, vt, hr, hsp, hto, i0, i1, hw8, hmod]
   refine ⟨by omega, ?_⟩
   refine SemA.drawU [(1, a), (2, c), (3, w32 mark), (4, .ptr T.length 0), (8, .ptr (T.length + 1) 0), (9, .p (.bool false)), (10, wint (k : Int)), (11, .ptr (T.length + 2) 0)] (T ++ [.cells 118 sp.cs, .cells 63 z4, .cells 63 [w32 2, .sl (T.length + 3) 0 1, .p (.slice none 0 0), w32 mark], .buf 68 36 (icl p (.p (.slice none 0 0)) (w32 sp.extra.toUInt32) (.p (.slice none 0 0)))]) [] 12 (fun i => decide (i < T.length + 2)) (.st 0 true (.st 1 true (.st 2 true (.st 3 true (.st 4 true (.st 5 true (.st 6 true (.st 7 true (.alt 8 (.alt 9 (.alt 10 (.st 11 false (.st 12 false .nil)) 11 (.st 10 false (.st 12 false .nil))) 11 (.st 9 false (.st 10 false (.st 12 false .nil)))) 11 (.st 8 false (.st 9 false (.st 10 false (.st 12 false .nil))))))))))))) mixed (by kernel_rfl) ?_ ?_
   . have kf : ∀ l2, ∃ l', keepT (fun i => decide (i < T.length + 2)) (T ++ l2) = T ++ l' := fun l2 => keep_frontN T l2 2
     have kix := fun (l2 : Tbl) (ik : IntKind) (z : Int) (K : AV -> Prop) => (show ixA 33 a (.p (.int ik z)) (keepT (fun i => decide (i < T.length + 2)) (T ++ l2)) K = ((0 <= z /\ z < ps.length) /\ K (a.pl (z.toNat * 33))) by
      obtain ⟨l', e⟩ := kf l2
      rw [e]; exact (ha.app l').sl.ix (by decide) ik z)
     have kld := fun (l2 : Tbl) (K : AV -> Prop) => (show loadA prog 65 (a.pl (k * 33)) (keepT (fun i => decide (i < T.length + 2)) (T ++ l2)) K = K (.ag (pcs p)) by
      obtain ⟨l', e⟩ := kf l2
      rw [e, ((ha.app l').ld (P := prog) (t := 65) (by (simp -dsimp +decide only [])) (by (simp -dsimp +decide only [])) (by decide)).2 k K hkl, hp]; rfl)
     have hic := icl_rules hp32
     simp -dsimp +decide (disch := omega) only [vr, ty, ↓reduceIte, Nat.reduceAdd, Nat.reduceLT, vpu, hr, kix, kld, kk, keepO, ezI, hic, rep1, w4]
     have hwi := tbl_ren (permF_id T.length [0, 1, 3, 2]) wt.2.1
     have hra := AV.ren_of (permF_id T.length [0, 1, 3, 2]) a wa.2.1
     have hrc := AV.ren_of (permF_id T.length [0, 1, 3, 2]) c wc.2.1
     have hv := vn (permF T.length [0, 1, 3, 2]) T.length [0, 1, 3, 2]
     have hix : idxO [0, 1, 3, 2] 0 = some 0 /\ idxO [0, 1, 3, 2] 1 = some 1 /\ idxO [0, 1, 3, 2] 2 = some 3 /\ idxO [0, 1, 3, 2] 3 = some 2 := ⟨rfl, rfl, rfl, rfl⟩
     refine ⟨⟨by omega, by omega⟩, ⟨⟨?_, ?_⟩, ?_⟩, ?_⟩
     iterate 2
      . refine SeeL.perm T _ [0, 1, 3, 2] rfl (by decide) (by simp) (Nat.le_refl _) hwi ?_
        simp -dsimp +decide only [va, hv, hix, hra, hrc, hr, hic, List.getElem?_cons_zero, List.getElem?_cons_succ, Option.getD_some, List.map_cons, List.map_nil]
        refine SeeL.done ⟨rfl, ?_, rfl, by simp⟩
        simp -dsimp +decide only [vp0, Nat.reduceAdd]
     all_goals
      refine SeeL.done ⟨rfl, ?_, rfl, by simp⟩
      simp -dsimp +decide only [vp0, Nat.reduceAdd]
   . intro g tmp
     have hldv := fun (X : Tbl) (K : AV -> Prop) => (show loadA prog 69 (c.pl k) (T ++ X) K = K (w64 v0) by
      rw [(hc.app X).ld (P := prog) (t := 69) (by (simp -dsimp +decide only [])) k (by omega), List.getElem?_map, hv0]; rfl)
     have hic := icl_rules hp32
     have hx0 : TIn.Ok ⟨p.1, p.2, ⟨.p (.slice none 0 0), []⟩, sp.extra.toUInt32, .p (.slice none 0 0), []⟩ := ⟨hp32, .inr ⟨rfl, rfl⟩, by simp, ⟨by simp, .inr ⟨rfl, rfl⟩⟩, by simp, by simp⟩
     by_cases h2 : sp.two = true /\ k + 1 < ps.length
     . have j1 : sp.two = true := h2.1
       have j2 : ((k : Int) + 1 < (ps.length : Int)) = True := eq_true (by omega)
       simp -dsimp +decide (disch := omega) only [vq, ty, ↓reduceIte, Nat.reduceAdd, vi, hr, hsp, hsv, hldv, j1, j2]
       obtain ⟨p2, hp2⟩ : ∃ p, ps[k + 1]? = some p := ⟨ps[k + 1]'h2.2, by simp [h2.2]⟩
       obtain ⟨v1, hv1⟩ : ∃ v, vals[k + 1]? = some v := ⟨vals[k + 1]'(by omega), by simp [<- hpv, h2.2]⟩
       have hp232 := h32 p2 (List.mem_of_getElem? hp2)
       have hic2 := icl_rules hp232
       refine ⟨by omega, ?_⟩
       refine SemA.drawU [(1, a), (2, c), (3, w32 mark), (4, .ptr T.length 0), (8, .ptr (T.length + 1) 0), (9, .p (.bool false)), (10, wint (k : Int)), (11, .ptr (T.length + 2) 0), (12, w64 v0)] (T ++ [.cells 118 sp.cs, .cells 63 z4, .cells 63 [w32 2, .sl (T.length + 3) 0 2, .p (.slice none 0 0), w32 mark], .buf 68 36 (icl p (.p (.slice none 0 0)) (w32 sp.extra.toUInt32) (.p (.slice none 0 0)) ++ icl p2 (.vs [by8 sp.extra] 1) (w32 0) (.vs [.vs [by8 sp.part] 1, .vs [] 0] 2))]) [] 19 (fun i => decide (i < T.length + 3)) (.st 0 true (.st 1 true (.st 2 true (.st 3 true (.st 4 true (.st 5 true (.st 6 true (.st 7 true (.st 8 true (.st 10 true (.st 11 true (.al3 9 (.alt 12 (.st 13 false (.st 14 false (.st 15 false (.st 16 false (.st 17 false (.st 18 true (.st 19 false .nil))))))) 13 (.st 12 false (.st 14 false (.st 15 false (.st 16 false (.st 17 false (.st 18 true (.st 19 false .nil)))))))) 12 (.alt 9 (.st 13 false (.st 14 false (.st 15 false (.st 16 false (.st 17 false (.st 18 true (.st 19 false .nil))))))) 13 (.alt 9 (.st 14 false (.st 15 false (.st 16 false (.st 17 false (.st 18 true (.st 19 false .nil)))))) 14 (.st 9 false (.st 15 false (.st 16 false (.st 17 false (.st 18 true (.st 19 false .nil)))))))) 13 (.alt 9 (.st 12 false (.st 14 false (.st 15 false (.st 16 false (.st 17 false (.st 18 true (.st 19 false .nil))))))) 12 (.alt 9 (.st 14 false (.st 15 false (.st 16 false (.st 17 false (.st 18 true (.st 19 false .nil)))))) 14 (.st 9 false (.st 15 false (.st 16 false (.st 17 false (.st 18 true (.st 19 false .nil)))))))))))))))))))) mixed (by kernel_rfl) ?_ ?_
       . have kf : ∀ l2, ∃ l', keepT (fun i => decide (i < T.length + 3)) (T ++ l2) = T ++ l' := fun l2 => keep_frontN T l2 3
         have kix := fun (l2 : Tbl) (ik : IntKind) (z : Int) (K : AV -> Prop) => (show ixA 33 a (.p (.int ik z)) (keepT (fun i => decide (i < T.length + 3)) (T ++ l2)) K = ((0 <= z /\ z < ps.length) /\ K (a.pl (z.toNat * 33))) by
          obtain ⟨l', e⟩ := kf l2
          rw [e]; exact (ha.app l').sl.ix (by decide) ik z)
         have kld := fun (l2 : Tbl) (K : AV -> Prop) => (show loadA prog 65 (a.pl ((k + 1) * 33)) (keepT (fun i => decide (i < T.length + 3)) (T ++ l2)) K = K (.ag (pcs p2)) by
          obtain ⟨l', e⟩ := kf l2
          rw [e, ((ha.app l').ld (P := prog) (t := 65) (by (simp -dsimp +decide only [])) (by (simp -dsimp +decide only [])) (by decide)).2 (k + 1) K h2.2, hp2]; rfl)
         have htn : ((k : Int) + 1).toNat = k + 1 := by omega
         simp -dsimp +decide (disch := omega) only [vq, ty, ↓reduceIte, Nat.reduceAdd, Nat.reduceMul, Nat.reduceLT, vi, vpu, vt, wt, wa, wc, hr, kix, kld, htn, kk, keepO, ezI, hic2, hic, rep1, r2]
         refine ⟨⟨by omega, by omega⟩, ?_⟩
         and_intros
         all_goals first
          | (rw [ones_icl]; rfl)
          | (refine SeeL.pub (T.length + 4) (gn4 T _ _ _ _ _ _) rfl (by first | exact cl1 _ | exact cl0 | exact cl2 _ _ _ _) ?_
             simp -dsimp +decide only [va, ↓reduceIte, vt, wp, wap, wcp, hr, hic2]
             refine SeeL.pub (T.length + 5) (gn5 T _ _ _ _ _ _ _) rfl (by first | exact cl1 _ | exact cl0 | exact cl2 _ _ _ _) ?_
             simp -dsimp +decide only [va, ↓reduceIte, vt, wp, wap, wcp, hr, hic2]
             refine SeeL.pub (T.length + 6) (gn6 T _ _ _ _ _ _ _ _) rfl (by first | exact cl1 _ | exact cl0 | exact cl2 _ _ _ _) ?_
             simp -dsimp +decide only [va, ↓reduceIte, vt, wp, wap, wcp, hr, hic2]
             refine SeeL.pub (T.length + 7) (gn7 T _ _ _ _ _ _ _ _ _) rfl (by first | exact cl1 _ | exact cl0 | exact cl2 _ _ _ _) ?_
             simp -dsimp +decide only [va, ↓reduceIte, vt, wp, wap, wcp, hr, hic2]
             refine SeeL.cut (T.length + 4) (by omega) ?_
             simp -dsimp +decide only [vp0, ↓reduceIte, vt, wt, wa, wc, hr, hic, hic2, List.map_append]
             refine SeeL.done ⟨rfl, ?_, rfl, by simp⟩
             (simp -dsimp +decide only [vp0, Nat.reduceAdd]))
       . intro g tmp
         have hldv2 := fun (X : Tbl) (K : AV -> Prop) => (show loadA prog 69 (c.pl (k + 1)) (T ++ X) K = K (w64 v1) by
          rw [(hc.app X).ld (P := prog) (t := 69) (by (simp -dsimp +decide only [])) (k + 1) (by omega), List.getElem?_map, hv1]; rfl)
         have htn : ((k : Int) + 1).toNat = k + 1 := by omega
         simp -dsimp +decide (disch := omega) only [vz, vze, vz, vze, vr, ty, ↓reduceIte, Nat.reduceAdd, vi, hsv, hldv2, htn]
         refine ⟨⟨by omega, by omega⟩, ([⟨p.1, p.2, ⟨.p (.slice none 0 0), []⟩, sp.extra.toUInt32, .p (.slice none 0 0), []⟩, ⟨p2.1, p2.2, ⟨.vs [by8 sp.extra] 1, [sp.extra]⟩, 0, .vs [.vs [by8 sp.part] 1, .vs [] 0] 2, [⟨.vs [by8 sp.part] 1, [sp.part]⟩, ⟨.vs [] 0, []⟩]⟩], v0 + v1), ⟨h1, by simp, by simp, ?_⟩, rfl, ?_⟩
         . intro x hx
           rcases List.mem_cons.1 hx with rfl | hx
           . exact hx0
           . rw [List.mem_singleton.1 hx]
             refine ⟨hp232, .inl rfl, by simp, ⟨by simp, .inl rfl⟩, fun y hy => ?_, by simp⟩
             rcases List.mem_cons.1 hy with rfl | hy
             . exact .inl rfl
             . rw [List.mem_singleton.1 hy]; exact .inl rfl
         . simp only [List.flatMap_cons, List.flatMap_nil, List.append_nil, <- hic.2.2.2.2.2.2.1, <- hic2.2.2.2.2.2.2.1]
           rfl
     . have j2 : sp.two = false ∨ ((k : Int) + 1 < (ps.length : Int)) = False := by
        by_cases ht : sp.two = true
        . exact .inr (eq_false fun h => h2 ⟨ht, by omega⟩)
        . exact .inl (by simpa using ht)
       rcases Bool.eq_false_or_eq_true sp.two with ht | ht
       . have j3 : ((k : Int) + 1 < (ps.length : Int)) = False := eq_false fun h => h2 ⟨ht, by omega⟩
         simp -dsimp +decide (disch := omega) only [vz, vze, vz, vze, vq, ty, ↓reduceIte, Nat.reduceAdd, vi, hr, hsp, hsv, hldv, ht, j3]
         exact ⟨⟨by omega, by omega⟩, ([⟨p.1, p.2, ⟨.p (.slice none 0 0), []⟩, sp.extra.toUInt32, .p (.slice none 0 0), []⟩], v0), ⟨h1, by simp, by simp, fun x hx => by rw [List.mem_singleton.1 hx]; exact hx0⟩, rfl, by simp only [List.flatMap_cons, List.flatMap_nil, List.append_nil, <- hic.2.2.2.2.2.2.1]; rfl⟩
       . simp -dsimp +decide (disch := omega) only [vz, vze, vz, vze, vq, ty, ↓reduceIte, Nat.reduceAdd, hr, hsv, hldv, ht]
         exact ⟨⟨by omega, by omega⟩, ([⟨p.1, p.2, ⟨.p (.slice none 0 0), []⟩, sp.extra.toUInt32, .p (.slice none 0 0), []⟩], v0), ⟨h1, by simp, by simp, fun x hx => by rw [List.mem_singleton.1 hx]; exact hx0⟩, rfl, by simp only [List.flatMap_cons, List.flatMap_nil, List.append_nil, <- hic.2.2.2.2.2.2.1]; rfl⟩
 . rintro ⟨xs, sum⟩ g tmp ⟨hto0, hx1, hx2, hxo⟩
   dsimp only at hto0 hx1 hx2 hxo
   refine SemA.o ?_
   simp -dsimp +decide (disch := omega) only [vq, ↓reduceIte, Nat.reduceAdd]
   refine SemA.adoptC (i := T.length + 2) (k := 2) 71 2 (by decide) (by omega) (gn2 T _ _ _ _) rfl ?_
   simp -dsimp +decide only [vp0, Nat.reduceAdd]
   refine SemA.loopK (T.length + 5) (fun s : Nat × List TOut => [(4, .ptr T.length 0), (8, .ptr (T.length + 1) 0), (11, .ptr (T.length + 2) 0), (12, w64 sum), (13, wint (s.1 : Int))]) (fun s => T ++ [.cells 118 sp.cs, .cells 63 z4, .cells 63 [w32 2, .sl (T.length + 3) 0 xs.length, .sl (T.length + 4) 0 s.2.length, w32 mark], .buf 68 36 (xs.flatMap TIn.cs), .buf 71 2 (s.2.flatMap TOut.cs)]) (fun s => s.1 <= sp.to.b.length /\ s.1 <= 4 /\ s.2.length = s.1 /\ ∀ y ∈ s.2, y.Ok) (fun s => 4 - s.1) (0, []) [] 0 (fun s : List TOut => [(8, .ptr (T.length + 1) 0), (11, .ptr (T.length + 2) 0)]) (fun s => T ++ [.cells 118 sp.cs, .cells 63 z4, .cells 63 [w32 2, .sl (T.length + 3) 0 xs.length, .sl (T.length + 4) 0 s.length, w32 mark], .buf 68 36 (xs.flatMap TIn.cs), .buf 71 2 (s.flatMap TOut.cs)]) (fun s => 1 <= s.length /\ s.length <= 4 /\ ∀ y ∈ s, y.Ok) (by omega) ⟨by omega, by omega, rfl, (fun _ h => nomatch h)⟩ (by (try (simp -dsimp +decide (disch := omega) only [vq, Nat.reduceAdd, ci])); first | done | (and_intros <;> first | with_reducible rfl | rfl) | rfl) rfl (by simp) ?_ ?_
   . rintro ⟨j, ys⟩ g ⟨hj, hj4, hyl, hyo⟩
     dsimp only at hj hj4 hyl hyo
     refine SemA.o ?_
     by_cases hc : j < sp.to.b.length /\ j < 4
     . have c1 : ((j : Int) < (sp.to.b.length : Int)) = True := eq_true (by omega)
       have c2 : ((j : Int) < 4) = True := eq_true (by omega)
       obtain ⟨kb, hkb⟩ : ∃ x, sp.to.b[j]? = some x := ⟨sp.to.b[j]'hc.1, by simp [hc.1]⟩
       have hul : (UInt64.ofInt (sp.to.b.length : Int)).toNat = sp.to.b.length := ofInt_lt (by have := ok.l; omega)
       have hldb := fun (Y : Tbl) (K : AV -> Prop) => (show loadA prog 5 (sp.to.a.pl j) Y K = K (by8 kb) by
        rw [(ok.t.bs Y).ld (P := prog) (t := 5) (by (simp -dsimp +decide only [])) j (by omega), List.getElem?_map, hkb]; rfl)
       have hixb := fun (Y : Tbl) (ik : IntKind) (z : Int) (K : AV -> Prop) => (ok.t.bs Y).ix (K := K) (by decide) ik z
       have hm12 : ((kb.toNat : Int).tmod 12) = (((kb % 12 : UInt8)).toNat : Int) := rfl
       have hfo : (ys.flatMap TOut.cs).length = ys.length * 2 := flat_len (fun _ _ => rfl)
       have wz2 : ∀ x y : AV, wrA [oQ, AV.p (Value.slice none 0 0)] 0 [x, y] = [x, y] := fun _ _ => rfl
       have tk2 := fun y z : AV => (show List.take 2 [y, z] = [y, z] /\ [y, z].length = 2 from ⟨rfl, rfl⟩)
       simp -dsimp +decide (disch := omega) only [vr, ty, ↓reduceIte, Nat.reduceAdd, hr, hto, c1, c2]
       refine ⟨by omega, CondP.dec (fun h => ?_) (fun h => ?_)⟩
       . skip
         simp -dsimp +decide (disch := omega) only [vr, ty, ↓reduceIte, hr, hul, vmm]
         refine SemA.draw (fun i => decide (i < T.length + 3)) [(0, true), (1, true), (2, true), (3, true), (4, true), (5, true), (6, true), (7, true), (8, true), (9, false), (10, false), (11, false), (12, false), (13, true), (14, false)] mixed (by kernel_rfl) ?_
         simp -dsimp +decide (disch := omega) only [vq, ty, en, ↓reduceIte, hr, hldb, hixb, hm12, keepO, kk]
         refine ⟨⟨by omega, by omega⟩, (key15_ok (k := kb % 12)).det' ?_⟩
         simp -dsimp +decide (disch := omega) only [vt2, vze, vze, vq, ty, ↓reduceIte, Nat.reduceAdd, Nat.reduceMul, Nat.reduceLT, vi, vt, wt, hr, hto, hfo, rep1, wz2, tk2, z4w, kk, TIn.wof hxo, TOut.wof hyo]
         refine ⟨⟨by omega, by omega⟩, (j + 1, ys ++ [⟨UInt64.ofInt ((sum.toNat : Int).tdiv (sp.to.b.length : Int)) - UInt64.ofInt (min ((UInt64.ofInt ((sum.toNat : Int).tdiv (sp.to.b.length : Int))).toNat : Int) (sp.part.toUInt64.toNat : Int)), ⟨.vs ((keyB (kb % 12)).map by8) (keyB (kb % 12)).length, keyB (kb % 12)⟩⟩]), ⟨⟨by dsimp only; omega, by dsimp only; omega, by simp [hyl], ?_⟩, by dsimp only; omega⟩, rfl, by simp only [List.length_append, List.length_cons, List.length_nil, List.flatMap_append, List.flatMap_cons, List.flatMap_nil, List.append_nil]; rfl⟩
         intro y hy
         rcases List.mem_append.1 hy with hy | hy
         . exact hyo y hy
         . rw [List.mem_singleton.1 hy]; exact ⟨.inl rfl, by rw [keyB_len]; decide⟩
       . skip
         simp -dsimp +decide (disch := omega) only [va, hul]
         refine SemA.draw (fun i => decide (i < T.length + 3)) [(0, true), (1, true), (2, true), (3, true), (4, true), (5, true), (6, true), (7, true), (8, true), (9, false), (10, false), (11, false), (12, false), (13, true), (14, false)] mixed (by kernel_rfl) ?_
         simp -dsimp +decide (disch := omega) only [vq, ty, en, ↓reduceIte, hr, hldb, hixb, hm12, keepO, kk]
         refine ⟨⟨by omega, by omega⟩, (key15_ok (k := kb % 12)).det' ?_⟩
         simp -dsimp +decide (disch := omega) only [vt2, vze, vze, vq, ty, ↓reduceIte, Nat.reduceAdd, Nat.reduceMul, Nat.reduceLT, vi, vt, wt, hr, hto, hfo, rep1, wz2, tk2, z4w, kk, TIn.wof hxo, TOut.wof hyo]
         refine ⟨⟨by omega, by omega⟩, (j + 1, ys ++ [⟨UInt64.ofInt ((sum.toNat : Int).tdiv (sp.to.b.length : Int)), ⟨.vs ((keyB (kb % 12)).map by8) (keyB (kb % 12)).length, keyB (kb % 12)⟩⟩]), ⟨⟨by dsimp only; omega, by dsimp only; omega, by simp [hyl], ?_⟩, by dsimp only; omega⟩, rfl, by simp only [List.length_append, List.length_cons, List.length_nil, List.flatMap_append, List.flatMap_cons, List.flatMap_nil, List.append_nil]; rfl⟩
         intro y hy
         rcases List.mem_append.1 hy with hy | hy
         . exact hyo y hy
         . rw [List.mem_singleton.1 hy]; exact ⟨.inl rfl, by rw [keyB_len]; decide⟩
     . have fin : 1 <= ys.length := by omega
       rcases Nat.lt_or_ge j sp.to.b.length with h | h
       . have c1 : ((j : Int) < (sp.to.b.length : Int)) = True := eq_true (by omega)
         have c2 : ((j : Int) < 4) = False := eq_false (by omega)
         simp -dsimp +decide (disch := omega) only [vt2, vze, vze, vq, ty, ↓reduceIte, Nat.reduceAdd, vt, wt, hr, hto, c1, c2, TIn.wof hxo, TOut.wof hyo]
         exact ⟨ys, ⟨by omega, by omega, hyo⟩, rfl⟩
       . have c1 : ((j : Int) < (sp.to.b.length : Int)) = False := eq_false (by omega)
         simp -dsimp +decide (disch := omega) only [vt2, vze, vze, vq, ty, ↓reduceIte, Nat.reduceAdd, vt, wt, hr, hto, c1, TIn.wof hxo, TOut.wof hyo]
         exact ⟨ys, ⟨by omega, by omega, hyo⟩, rfl⟩
   . rintro ys g tmp ⟨hy1, hy2, hyo⟩
     have ho4 : ∀ n m : Nat, ones [AV.p (.int .u32 ((UInt32.toNat 2 : Nat) : Int)), .sl (T.length + 3) 0 n, .sl (T.length + 4) 0 m, .p (.int .u32 (mark.toNat : Int))] = true := fun _ _ => rfl
     have g1 := fun a c l => gn1 T a (.cells 63 c) l
     simp -dsimp +decide (disch := omega) only [vq, ty, ↓reduceIte, Nat.reduceAdd, Nat.reduceLT, tk4, vres, vone, g1, ho4]
     refine Vw.pub (T.length + 3) (gn3 T _ _ _ _ _) rfl (TIn.cleanf hxo) ?_
     simp -dsimp +decide only [va, ↓reduceIte, vt, wp, hr, TOut.pubf hyo]
     refine Vw.pub (T.length + 4) (gn4 T _ _ _ _ _ _) rfl (TOut.cleanf hyo) ?_
     simp -dsimp +decide only [va, ↓reduceIte, wp, hr]
     have htok : TTx.Ok ⟨2, .vs (xs.flatMap TIn.cs) xs.length, xs, .vs (ys.flatMap TOut.cs) ys.length, ys, mark⟩ := ⟨⟨fun x hx => (TIn.rules (hxo x hx)).1, .inl rfl⟩, ⟨fun _ _ => rfl, .inl rfl⟩, by dsimp only; omega, by dsimp only; omega, hxo, hyo⟩
     exact Vw.cut ⟨⟨_, true, htok, fun _ => ⟨htok, hx1, hx2, hy1, hy2⟩, rfl⟩, rfl, rfl⟩
end Go.Proofs.YtmcbdlefakjpoaaGreatDoor
namespace Go.E
section
variable {P : Program} {G : Nat -> AV} {T : Tbl} {E : Eff} {N n m : Nat} {ro : Option Nat} {ds loc : List AV} {tmp : List (Nat × AV)} {Nk R : AKont} {X : Nat -> AKont}
theorem SemA.drawF {σ : Type} {id : Nat} {ops : Array Oper} (L : σ -> List (Nat × AV)) (Tb : σ -> Tbl) (Q : σ -> Prop) (Ei : Eff) (cl : Nat) (keep : Nat -> Bool) (pl : PU) (hm : P.follows .mixedOrders = true)
 (hok : (Region.noSelect ops && noDefer ops && ops.toList.all (dstIn m) && pl.len == ops.size && planOKU ops cl (some cl) pl (Array.replicate ops.size false)) = true)
 (h : planUA P G N n ops.toList (some cl) keep ds pl loc [] T E (fun ds' loc' _ T' E' => ∃ s, Q s /\ SeeL G N n ds' loc' T' E' ds (L s) (Tb s) Ei)) (next : ∀ s, Q s -> ∀ g tmp, Nk ds (mkA g (L s) 0 n) tmp (Tb s) Ei) : SemA P G N ro n m (.region id ops true) ds loc tmp T E Nk X R := by
 have h0 := SemA.drawU0 (ro := ro) (X := X) (R := R) (tmp := tmp) (id := id) cl (some cl) keep pl hm hok h
 intro Z0 ρ0 T0 w0 Z ρ w dv lv tv hN hf ha
 refine (h0 Z0 ρ0 T0 w0 Z ρ w dv lv tv hN hf ha).mono fun e dv lv tv w hq => ?_
 cases e with
 | normal =>
   obtain ⟨Z1, ρ1, T1, E1, ds1, loc1, tmp1, g1, g2, g3, g4, s, hs, hv⟩ := hq
   obtain ⟨Z2, ρ2, loc2, k1, k2, k3⟩ := hv Z0 ρ0 T0 w0 Z1 ρ1 w dv lv hN g1 ⟨g2, g3, .nil⟩
   obtain ⟨g, rfl⟩ := k3.elim
   exact ⟨Z2, ρ2, Tb s, Ei, ds, _, _, k1, k2.ds, k2.loc, RelT.all tv, next s hs g _⟩
 | exit i => exact hq
 | ret => exact hq
 | _ => exact hq.elim
end
end Go.E
namespace Go.Proofs.YtmcbdlefakjpoaaGreatDoor
open Go.E Go.Proofs.YtmcbdlefakjpoaaGreatDoor.Tryz Go.Proofs.Tryz
structure Pln where
 pays : UInt8
 sa : AV
 sps : List Spd
 step : UInt8
def Pln.cs (x : Pln) : List AV := [by8 x.pays, x.sa, by8 x.step]
structure Pln.Ok (x : Pln) : Prop where
 s : Lst 5 Spd.cs x.sa x.sps
 l : x.sps.length <= 1099511627776
 ok : ∀ y ∈ x.sps, y.Ok
theorem Pln.rules {x : Pln} (ok : x.Ok) : x.cs.length = 3 /\ x.cs[0]? = some (by8 x.pays) /\ x.cs[1]? = some x.sa /\ x.cs[2]? = some (by8 x.step) /\
 List.take 3 (List.drop 0 x.cs) = x.cs /\ List.take 3 x.cs = x.cs /\ (∀ q, x.cs.map (AV.wo q) = x.cs) /\ (∀ i cs, x.cs.map (AV.pub i cs) = x.cs) /\ (∀ f, x.cs.map (AV.ren f) = x.cs) /\ ones x.cs = true := by
 have k := ok.s.k
 have hw : ∀ q, x.cs.map (AV.wo q) = x.cs := fun q => by simp only [Pln.cs, List.map_cons, List.map_nil, k.wo, by8, AV.wo]
 refine ⟨rfl, rfl, rfl, rfl, rfl, rfl, hw, fun i cs => ?_, fun f => ren_all hw, ?_⟩
 . simp only [Pln.cs, List.map_cons, List.map_nil, k.pub, by8, AV.pub]
 . simp only [Pln.cs, ones, List.all_cons, List.all_nil, k.one, Bool.and_true]; rfl
def bcl (h : List AV) (x : AV) : List AV := h ++ [x]
def zB : List AV := bcl z68 (.p (.slice none 0 0))
theorem ezB : [oW, oB, oB, oB, oB, oB, oB, oB, oB, oB, oB, oB, oB, oB, oB, oB, oB, oB, oB, oB, oB, oB, oB, oB, oB, oB, oB, oB, oB, oB, oB, oB, oB, oB, oB, oB, oB, oB, oB, oB, oB, oB, oB, oB, oB, oB, oB, oB, oB, oB, oB, oB, oB, oB, oB, oB, oB, oB, oB, oB, oB, oB, oB, oB, oB, oW, oW, oW, AV.p (Value.slice none 0 0)] = zB := rfl
theorem bcl_rules {h : List AV} (hl : h.length = 68) : (∀ x, (bcl h x).length = 69) /\ zB.length = 69 /\ (∀ x, wrA zB 0 (bcl h x) = bcl h x) /\ (∀ x y, (bcl h x).set 68 y = bcl h y) /\ (∀ x, List.take 68 (bcl h x) = h) /\ (∀ x, List.take 68 (List.drop 0 (bcl h x)) = h) /\ (∀ x, (bcl h x)[68]? = some x) /\ (∀ x, List.take 69 (bcl h x) = bcl h x) /\
 (∀ x h', h'.length = 68 -> wrA (bcl h x) 0 h' = bcl h' x) /\ (∀ q x, (bcl h x).map (AV.wo q) = bcl (h.map (AV.wo q)) (x.wo q)) /\ (∀ i cs x, (bcl h x).map (AV.pub i cs) = bcl (h.map (AV.pub i cs)) (x.pub i cs)) /\ (∀ f x, (bcl h x).map (AV.ren f) = bcl (h.map (AV.ren f)) (x.ren f)) /\ (∀ x, ones (bcl h x) = (ones h && x.one)) := by
 have hL : ∀ x, (bcl h x).length = 69 := fun x => by rw [bcl, List.length_append, hl]; rfl
 have h68 : ∀ x, List.take 68 (bcl h x) = h := fun x => by rw [bcl, <- hl, List.take_left]
 refine ⟨hL, rfl, fun x => wrA_all (by rw [hL]; rfl), fun x y => ?_, h68, fun x => by rw [List.drop_zero]; exact h68 x, fun x => ?_, fun x => List.take_of_length_le (by rw [hL]; exact Nat.le_refl _), fun x h' hl' => ?_, fun q x => ?_, fun i cs x => ?_, fun f x => ?_, fun x => ?_⟩
 . rw [bcl, List.set_append_right _ _ (by omega), hl]; rfl
 . rw [bcl, List.getElem?_append_right (by omega), hl]; rfl
 . rw [wrA_eq (by rw [hL, hl']; decide), hl', bcl, show (0 + 68 : Nat) = h.length from hl.symm, List.drop_left]; rfl
 . rw [bcl, List.map_append]; rfl
 . rw [bcl, List.map_append]; rfl
 . rw [bcl, List.map_append]; rfl
 . rw [bcl, ones, List.all_append]; simp only [List.all_cons, List.all_nil, Bool.and_true]; rfl
theorem TTx.wof {l : List TTx} (h : ∀ t ∈ l, Fine t) (q : Nat -> Bool) : (l.flatMap TTx.cs).map (AV.wo q) = l.flatMap TTx.cs := by
 induction l with
 | nil => rfl
 | cons t r ih => rw [List.flatMap_cons, List.map_append, (TTx.rules (h t (by simp)).ok).2.2.2.2.2.2.2.1, ih fun y hy => h y (by simp [hy])]
theorem Blk.wo {b : Blk} (ok : b.Ok) (q : Nat -> Bool) : b.cs.map (AV.wo q) = b.cs := by
 rw [Blk.cs, List.map_append, (Hdr.rules ok.h).2.2.2.2.2.2.2.2.2.1]; simp only [List.map_cons, List.map_nil, ok.t.k.wo]
theorem Blk.pub {b : Blk} (ok : b.Ok) (i : Nat) (cs : List AV) : b.cs.map (AV.pub i cs) = b.cs := by
 rw [Blk.cs, List.map_append, (Hdr.rules ok.h).2.2.2.2.2.2.2.2.2.2.1]; simp only [List.map_cons, List.map_nil, ok.t.k.pub]
theorem Blk.ones {b : Blk} (ok : b.Ok) : ones b.cs = true := by
 have h := (Hdr.rules ok.h).2.2.2.2.2.2.2.2.2.2.2
 rw [Go.E.ones] at h
 rw [Blk.cs, Go.E.ones, List.all_append, h]; simp only [List.all_cons, List.all_nil, ok.t.k.one]; rfl
theorem Blk.wof {l : List Blk} (h : ∀ b ∈ l, b.Ok) (q : Nat -> Bool) : (l.flatMap Blk.cs).map (AV.wo q) = l.flatMap Blk.cs := by
 induction l with
 | nil => rfl
 | cons b r ih => rw [List.flatMap_cons, List.map_append, Blk.wo (h b (by simp)), ih fun y hy => h y (by simp [hy])]
theorem Blk.onesf {l : List Blk} (h : ∀ b ∈ l, b.Ok) : Go.E.ones (l.flatMap Blk.cs) = true := by
 induction l with
 | nil => rfl
 | cons b r ih =>
   have h1 := Blk.ones (h b (by simp))
   have h2 := ih fun y hy => h y (by simp [hy])
   rw [Go.E.ones] at h1 h2
   rw [List.flatMap_cons, Go.E.ones, List.all_append, h1, h2]; rfl
theorem hdr_wof (m : List Blk) (h : ∀ b ∈ m, b.Ok) (q : Nat -> Bool) : (m.flatMap fun b => b.h.cs).map (AV.wo q) = m.flatMap fun b => b.h.cs := by
 induction m with
 | nil => rfl
 | cons b r ih => rw [List.flatMap_cons, List.map_append, (Hdr.rules (h b (by simp)).h).2.2.2.2.2.2.2.2.2.1, ih fun y hy => h y (by simp [hy])]
theorem id_wof (m : List TTx) (q : Nat -> Bool) : (m.flatMap fun t => t.id.map by8).map (AV.wo q) = m.flatMap fun t => t.id.map by8 := by
 induction m with
 | nil => rfl
 | cons b r ih => rw [List.flatMap_cons, List.map_append, wb8, ih]
theorem mineAt_ok (t : Nat) : ∀ (k n : Nat) (h : Hdr), h.Ok -> (mineAt h t n k).1.Ok
 | 0, _, _, hh => hh
 | k + 1, n, h, hh => by
   rw [mineAt]
   split
   . exact ⟨hh.p, hh.r⟩
   . exact mineAt_ok t k (n + 1) _ ⟨hh.p, hh.r⟩
theorem mineB_ok {p : Par} {hs : List Hdr} {time : UInt32} {root : List UInt8} {tries : UInt32} (hr : root.length = 32) : (mineB p hs time root tries).1.Ok := by
 unfold mineB
 split
 . exact ⟨rfl, hr⟩
 . rename_i la _
   split
   . exact ⟨la.id_len, hr⟩
   . exact mineAt_ok _ _ _ _ ⟨la.id_len, hr⟩
structure BFine (b : Blk) : Prop where
 ok : b.Ok
 f : ∀ t ∈ b.txs, Fine t
 l : b.txs.length <= 7
theorem cl3 (u v w : Value) : ∀ a ∈ [AV.p u, AV.p v, AV.p w], a.Clean := by
 intro a ha
 simp only [List.mem_cons, List.not_mem_nil, or_false] at ha
 rcases ha with rfl | rfl | rfl <;> exact .p _
theorem clI {p : Plc} {c : List AV} {n : Nat} {v w : Value} : ∀ a ∈ icl p (.vs c n) (.p v) (.p w), a.Clean := by
 intro a ha
 rcases List.mem_append.1 ha with ha | ha
 . have := pcs_clean [p] a (by simpa using ha)
   exact this
 . simp only [List.mem_cons, List.not_mem_nil, or_false] at ha
   rcases ha with rfl | rfl | rfl
   . exact .vs _ _
   . exact .p _
   . exact .p _
theorem clO {v : Value} {c : List AV} {n : Nat} : ∀ a ∈ [AV.p v, .vs c n], a.Clean := by
 intro a ha
 simp only [List.mem_cons, List.not_mem_nil, or_false] at ha
 rcases ha with rfl | rfl
 . exact .p _
 . exact .vs _ _
theorem z68p (i : Nat) (cs : List AV) : z68.map (AV.pub i cs) = z68 := (Hdr.rules (okZ h0b 0 0 0 0 rfl)).2.2.2.2.2.2.2.2.2.2.1 i cs
theorem z68n (f : Nat -> Option Nat) : z68.map (AV.ren f) = z68 := ren_all wz68
theorem zBw (q : Nat -> Bool) : zB.map (AV.wo q) = zB := by rw [zB, (bcl_rules (h := z68) rfl).2.2.2.2.2.2.2.2.2.1, wz68, AV.wo]
theorem zBp (i : Nat) (cs : List AV) : zB.map (AV.pub i cs) = zB := by rw [zB, (bcl_rules (h := z68) rfl).2.2.2.2.2.2.2.2.2.2.1, z68p, AV.pub]
theorem zBn (f : Nat -> Option Nat) : zB.map (AV.ren f) = zB := ren_all zBw
def GrowV (v : AV) : Prop := ∃ (b : Blk) (is : Bool), BFine b /\ v = .tu [.ag b.cs, .p (.bool is)]
theorem grow15_ok {T : Tbl} {p : Par} (pok : p.Ok) {a : AV} {l : List Blk} (hb : Es T 69 Blk.cs a l) (hok : ∀ b ∈ l, b.Ok) (hl : l.length <= 100) {x : Pln} (ok : x.Ok) {mark : UInt32} :
 CallA prog G 19 [.ag p.cs, a, .ag x.cs, w32 mark] T fun v T' es => GrowV v /\ T' = T /\ es = [] := by
 refine CallA.wfs fun wf => ?_
 have wt := wf.t
 have wp := wf.p
 have wa := wf.arg a (by simp)
 have wap := wf.argp a (by simp)
 have hpr := Par.rules pok
 have hr := Pln.rules ok
 have hsr := Sl.rules hb.sl (by decide)
 have kk : (∀ k j : Nat, decide (T.length + k < T.length + j) = decide (k < j)) /\ (∀ j : Nat, decide (T.length < T.length + j) = decide (0 < j)) := ⟨fun k j => by simp, fun j => by simp⟩
 have hwz := (bcl_rules (h := z68) rfl)
 have hic := icl_rules (p := (h0b, 4294967295)) rfl
 have r3 : ∀ y : AV, (List.replicate 3 [y]).flatten = [y, y, y] := fun _ => rfl
 have enp : nowh = pcs (h0b, 4294967295) := rfl
 have hm12 : ((x.pays.toNat : Int).tmod 12) = (((x.pays % 12 : UInt8)).toNat : Int) := rfl
 have wz2 : ∀ x y : AV, wrA [oQ, AV.p (Value.slice none 0 0)] 0 [x, y] = [x, y] := fun _ _ => rfl
 have tk2 := fun y z : AV => (show List.take 2 [y, z] = [y, z] /\ [y, z].length = 2 from ⟨rfl, rfl⟩)
 have w4 : ∀ x0 x1 x2 x3 : AV, wrA [oW, AV.p (Value.slice none 0 0), AV.p (Value.slice none 0 0), oW] 0 [x0, x1, x2, x3] = [x0, x1, x2, x3] := fun _ _ _ _ => rfl
 have tk4' := fun x y z w : AV => (tk4 x y z w).1
 have zset : ∀ y : AV, zB.set 68 y = bcl z68 y := fun y => hwz.2.2.2.1 _ y
 refine CallA.eV 136 func19 ntmps19 results19 ?_
 simp -dsimp +decide only [vq, ty, ↓reduceIte, Nat.reduceSub, Nat.reduceAdd]
 simp -dsimp +decide (disch := omega) only [vr, ty, en, ↓reduceIte, Nat.reduceAdd, Int.reduceToNat, hr, hsr, ezB, ezI, r3, enow, enp, hic, rep1, hm12]
 refine (key15_ok (k := x.pays % 12)).det' ?_
 simp -dsimp +decide (disch := omega) only [vp0, ty, ↓reduceIte, Nat.reduceAdd, Nat.reduceLT, ezB, hwz, rep1, wz2, tk2, w4, tk4', zset]
 refine SemA.pub (T.length + 3) (gn3 T _ _ _ _ _) rfl (cl3 _ _ _) ?_
 simp -dsimp +decide only [va, ↓reduceIte, vt, wp, wap, hpr, hr, hic, hwz, z68p, zBp]
 refine SemA.pub (T.length + 4) (gn4 T _ _ _ _ _ _) rfl clI ?_
 simp -dsimp +decide only [va, ↓reduceIte, vt, wp, wap, hpr, hr, hic, hwz, z68p, zBp]
 refine SemA.pub (T.length + 5) (gn5 T _ _ _ _ _ _ _) rfl clO ?_
 simp -dsimp +decide only [va, ↓reduceIte, vt, wp, wap, hpr, hr, hic, hwz, z68p, zBp]
 have hwi := tbl_ren (permF_id T.length [0, 1, 2, 8, 7]) wt.2.1
 have hra := AV.ren_of (permF_id T.length [0, 1, 2, 8, 7]) a wa.2.1
 have hv := vn (permF T.length [0, 1, 2, 8, 7]) T.length [0, 1, 2, 8, 7]
 have hix : idxO [0, 1, 2, 8, 7] 0 = some 0 /\ idxO [0, 1, 2, 8, 7] 1 = some 1 /\ idxO [0, 1, 2, 8, 7] 2 = some 2 /\ idxO [0, 1, 2, 8, 7] 8 = some 3 /\ idxO [0, 1, 2, 8, 7] 7 = some 4 /\ idxO [0, 1, 2, 8, 7] 6 = none := ⟨rfl, rfl, rfl, rfl, rfl, rfl⟩
 have hrp : p.cs.map (AV.ren (permF T.length [0, 1, 2, 8, 7])) = p.cs := ren_all hpr.2.2.2.2.2.2.2.2.2.2.1
 refine SemA.perm T _ [0, 1, 2, 8, 7] rfl (by decide) (by simp) (Nat.le_refl _) hwi ?_
 simp -dsimp +decide only [va, hv, hix, hra, hrp, z68n, zBn, hr, hic, hwz, List.getElem?_cons_zero, List.getElem?_cons_succ, Option.getD_some, List.map_cons, List.map_nil]
 obtain ⟨t0, ht0, hf0, hc0⟩ : ∃ t : TTx, t.Ok /\ Fine t /\ t.cs = [AV.p (Value.int IntKind.u32 1), AV.vs (icl (h0b, 4294967295) (AV.vs [AV.p (Value.int IntKind.u8 ((UInt8.ofInt (l.length : Int)).toNat : Int)), AV.p (Value.int IntKind.u8 ((UInt8.ofInt ((l.length : Int).fdiv (2 ^ min 8 IntKind.i64.bits))).toNat : Int)), AV.p (Value.int IntKind.u8 (mark.toUInt8.toNat : Int))] 3) (AV.p (Value.int IntKind.u32 ((UInt32.toNat 0 : Nat) : Int))) (AV.p (Value.slice none 0 0))) 1, AV.vs [AV.p (Value.int IntKind.u64 5000), AV.vs (List.map by8 (keyB (x.pays % 12))) (keyB (x.pays % 12)).length] 1, AV.p (Value.int IntKind.u32 (mark.toNat : Int))] := by
  refine ⟨⟨1, _, [⟨h0b, 4294967295, ⟨.vs [by8 (UInt8.ofInt (l.length : Int)), by8 (UInt8.ofInt ((l.length : Int).fdiv (2 ^ min 8 IntKind.i64.bits))), by8 mark.toUInt8] 3, [UInt8.ofInt (l.length : Int), UInt8.ofInt ((l.length : Int).fdiv (2 ^ min 8 IntKind.i64.bits)), mark.toUInt8]⟩, 0, .p (.slice none 0 0), []⟩], _, [⟨5000, ⟨.vs ((keyB (x.pays % 12)).map by8) (keyB (x.pays % 12)).length, keyB (x.pays % 12)⟩⟩], mark⟩, ?_, ?_, rfl⟩
  all_goals
   have hi : TIn.Ok ⟨h0b, 4294967295, ⟨.vs [by8 (UInt8.ofInt (l.length : Int)), by8 (UInt8.ofInt ((l.length : Int).fdiv (2 ^ min 8 IntKind.i64.bits))), by8 mark.toUInt8] 3, [UInt8.ofInt (l.length : Int), UInt8.ofInt ((l.length : Int).fdiv (2 ^ min 8 IntKind.i64.bits)), mark.toUInt8]⟩, 0, .p (.slice none 0 0), []⟩ := ⟨rfl, .inl rfl, by simp, ⟨by simp, .inr ⟨rfl, rfl⟩⟩, by simp, by simp⟩
   have ho : TOut.Ok ⟨5000, ⟨.vs ((keyB (x.pays % 12)).map by8) (keyB (x.pays % 12)).length, keyB (x.pays % 12)⟩⟩ := ⟨.inl rfl, by rw [keyB_len]; decide⟩
   have hok0 : TTx.Ok ⟨1, .vs (icl (h0b, 4294967295) (AV.vs [AV.p (Value.int IntKind.u8 ((UInt8.ofInt (l.length : Int)).toNat : Int)), AV.p (Value.int IntKind.u8 ((UInt8.ofInt ((l.length : Int).fdiv (2 ^ min 8 IntKind.i64.bits))).toNat : Int)), AV.p (Value.int IntKind.u8 (mark.toUInt8.toNat : Int))] 3) (AV.p (Value.int IntKind.u32 ((UInt32.toNat 0 : Nat) : Int))) (AV.p (Value.slice none 0 0))) 1, [⟨h0b, 4294967295, ⟨.vs [by8 (UInt8.ofInt (l.length : Int)), by8 (UInt8.ofInt ((l.length : Int).fdiv (2 ^ min 8 IntKind.i64.bits))), by8 mark.toUInt8] 3, [UInt8.ofInt (l.length : Int), UInt8.ofInt ((l.length : Int).fdiv (2 ^ min 8 IntKind.i64.bits)), mark.toUInt8]⟩, 0, .p (.slice none 0 0), []⟩], .vs [AV.p (Value.int IntKind.u64 5000), AV.vs (List.map by8 (keyB (x.pays % 12))) (keyB (x.pays % 12)).length] 1, [⟨5000, ⟨.vs ((keyB (x.pays % 12)).map by8) (keyB (x.pays % 12)).length, keyB (x.pays % 12)⟩⟩], mark⟩ :=
    ⟨⟨fun y hy => by rw [List.mem_singleton.1 hy]; exact (TIn.rules hi).1, .inl rfl⟩, ⟨fun _ _ => rfl, .inl rfl⟩, by simp, by simp, fun y hy => by rw [List.mem_singleton.1 hy]; exact hi, fun y hy => by rw [List.mem_singleton.1 hy]; exact ho⟩
  . exact hok0
  . exact ⟨hok0, by simp, by simp, by simp, by simp⟩
 rw [<- hc0]
 refine SemA.loopK (T.length + 5) (fun s : Nat × List TTx => [(1, a), (3, w32 mark), (4, .ptr T.length 0), (6, .ptr (T.length + 1) 0), (8, .ptr (T.length + 2) 0), (9, .p (.bool false)), (11, .ptr (T.length + 3) 0), (12, wint (s.1 : Int))]) (fun s => T ++ [.cells 37 p.cs, .cells 79 x.cs, .cells 52 zB, .cells 52 (bcl z68 (.sl (T.length + 4) 0 s.2.length)), .buf 63 4 (s.2.flatMap TTx.cs)]) (fun s => s.1 <= x.sps.length /\ s.1 <= 6 /\ s.2.length <= s.1 + 1 /\ ∀ t ∈ s.2, Fine t) (fun s => 6 - s.1) (0, [t0]) [] 0 (fun s : List TTx => [(1, a), (3, w32 mark), (4, .ptr T.length 0), (6, .ptr (T.length + 1) 0), (8, .ptr (T.length + 2) 0), (9, .p (.bool false)), (11, .ptr (T.length + 3) 0)]) (fun s => T ++ [.cells 37 p.cs, .cells 79 x.cs, .cells 52 zB, .cells 52 (bcl z68 (.sl (T.length + 4) 0 s.length)), .buf 63 4 (s.flatMap TTx.cs)]) (fun s => s.length <= 7 /\ ∀ t ∈ s, Fine t) (by omega) ⟨by omega, by omega, by simp, fun t ht => by rw [List.mem_singleton.1 ht]; exact hf0⟩ (by (try (simp -dsimp +decide (disch := omega) only [vq, Nat.reduceAdd, ci])); first | done | (and_intros <;> first | with_reducible rfl | rfl) | rfl) (by simp) (by simp) ?_ ?_
 . rintro ⟨i, txs⟩ g ⟨hi, hi6, htl, htf⟩
   dsimp only at hi hi6 htl htf
   have hsp := Sl.rules (ok.s.es T).sl (by decide)
   have hwt := TTx.wof htf
   have hbwo := Blk.wof hok
   have hbon := Blk.onesf hok
   have hbfl : (l.flatMap Blk.cs).length = l.length * 69 := flat_len fun b hb => Blk.cs_len (hok b hb)
   obtain ⟨bc, hbc⟩ : ∃ bc : Blk, bc = ⟨⟨0, h0b, h0b, 0, 0, 0⟩, .sl (T.length + 4) 0 txs.length, txs⟩ := ⟨_, rfl⟩
   have hbcc : bc.cs = bcl z68 (.sl (T.length + 4) 0 txs.length) := by rw [hbc]; rfl
   refine SemA.o ?_
   by_cases hc : i < x.sps.length /\ i < 6
   . have c1 : ((i : Int) < (x.sps.length : Int)) = True := eq_true (by omega)
     have c2 : ((i : Int) < 6) = True := eq_true (by omega)
     obtain ⟨y, hy⟩ : ∃ y, x.sps[i]? = some y := ⟨x.sps[i]'hc.1, by simp [hc.1]⟩
     have hyo := ok.ok y (List.mem_of_getElem? hy)
     simp -dsimp +decide (disch := omega) only [vq, ty, ↓reduceIte, Nat.reduceAdd, hr, hsp, c1, c2]
     refine SemA.drawF (fun s : List Plc × List UInt64 => [(1, a), (3, w32 mark), (4, .ptr T.length 0), (6, .ptr (T.length + 1) 0), (8, .ptr (T.length + 2) 0), (9, .p (.bool false)), (11, .ptr (T.length + 3) 0), (12, wint (i : Int)), (13, .vs (s.1.flatMap pcs) s.1.length), (14, .vs (s.2.map w64) s.2.length)]) (fun _ => T ++ [.cells 37 p.cs, .cells 79 x.cs, .cells 52 zB, .cells 52 (bcl z68 (.sl (T.length + 4) 0 txs.length)), .buf 63 4 (txs.flatMap TTx.cs)]) (fun s => s.1.length = s.2.length /\ P32 s.1 /\ s.1.length <= 100000000000) [] 6 (fun i => decide (i < T.length + 5)) (.st 1 true (.st 3 true (.alt 0 (.alt 2 (.st 4 false (.st 5 false (.st 6 false (.st 7 true (.st 8 true (.st 9 true (.st 10 true (.st 11 true .nil)))))))) 4 (.st 2 false (.st 5 false (.st 6 false (.st 7 true (.st 8 true (.st 9 true (.st 10 true (.st 11 true .nil))))))))) 4 (.st 0 false (.st 2 false (.st 5 false (.st 6 false (.st 7 true (.st 8 true (.st 9 true (.st 10 true (.st 11 true .nil)))))))))))) mixed (by kernel_rfl) ?_ ?_
     . simp -dsimp +decide (disch := omega) only [vq, ty, en, ↓reduceIte, Nat.reduceAdd, Nat.reduceMul, vpu, vt, wt, wa, hpr, hr, hsr, kk, keepO, hwz, rep1, ezB, zBw, wz68, hwt, hbwo, hbon, hbfl]
       have hcall : ∀ (Y : Tbl) (j : Nat), (T ++ AObj.cells 37 p.cs :: .cells 79 x.cs :: .cells 52 zB :: .cells 52 (bcl z68 (.sl (T.length + 4) 0 txs.length)) :: .buf 63 4 (txs.flatMap TTx.cs) :: Y)[j]? = some (.buf 52 69 (l.flatMap Blk.cs ++ bcl z68 (.sl (T.length + 4) 0 txs.length))) -> CallA prog G 44 [.sl j 0 (l.length + 1)] (T ++ AObj.cells 37 p.cs :: .cells 79 x.cs :: .cells 52 zB :: .cells 52 (bcl z68 (.sl (T.length + 4) 0 txs.length)) :: .buf 63 4 (txs.flatMap TTx.cs) :: Y) fun v T' es => ThereV v /\ T' = (T ++ AObj.cells 37 p.cs :: .cells 79 x.cs :: .cells 52 zB :: .cells 52 (bcl z68 (.sl (T.length + 4) 0 txs.length)) :: .buf 63 4 (txs.flatMap TTx.cs) :: Y) /\ es = [] := fun Y j hj => by
        have hE : Es (T ++ AObj.cells 37 p.cs :: .cells 79 x.cs :: .cells 52 zB :: .cells 52 (bcl z68 (.sl (T.length + 4) 0 txs.length)) :: .buf 63 4 (txs.flatMap TTx.cs) :: Y) 69 Blk.cs (.sl j 0 (l ++ [bc]).length) (l ++ [bc]) := Es.obj hj (by rw [List.flatMap_append, List.flatMap_cons, List.flatMap_nil, List.append_nil, hbcc]; rfl) (fun b hb => by
         rcases List.mem_append.1 hb with hb | hb
         . exact Blk.cs_len (hok b hb)
         . rw [List.mem_singleton.1 hb, hbcc]; exact hwz.1 _)
        have := there15_ok hE (fun b hb => by
         rcases List.mem_append.1 hb with hb | hb
         . exact (hok b hb).at _
         . rw [List.mem_singleton.1 hb, hbc]
           exact ⟨okZ h0b 0 0 0 0 rfl, Es.obj (gn4 T _ _ _ _ _ _) rfl fun t ht => (TTx.rules (htf t ht).ok).1, by dsimp only; omega, fun t ht => (htf t ht).ok⟩) (by simp; omega)
        rwa [show (l ++ [bc]).length = l.length + 1 by simp] at this
       and_intros
       all_goals first
        | omega
        | (refine (hcall _ _ (by simp)).mono ?_
           rintro v T' es ⟨⟨ps, vals, hpv, h32, hpl, rfl⟩, rfl, rfl⟩
           simp -dsimp +decide only [vp0, ↓reduceIte]
           refine ⟨(ps, vals), ⟨hpv, h32, hpl⟩, SeeL.cut (T.length + 5) (by omega) ?_⟩
           simp -dsimp +decide only [vp0, ↓reduceIte, vt, wt, wa, hpr, hr, zBw, wz68, hwz, hwt]
           refine SeeL.done ⟨rfl, ?_, rfl, by simp⟩
           (simp -dsimp +decide only [vp0, Nat.reduceAdd]))
     . rintro ⟨ps, vals⟩ ⟨hpv, h32, hpl⟩ g tmp
       dsimp only at hpv h32 hpl
       have hlds := fun (Y : Tbl) (K : AV -> Prop) => (show loadA prog 118 (x.sa.pl (i * 5)) Y K = K (.ag y.cs) by
        rw [((ok.s.es Y).ld (P := prog) (t := 118) (by (simp -dsimp +decide only [])) (by (simp -dsimp +decide only [])) (by decide)).2 i K hc.1, hy]
        rfl)
       simp -dsimp +decide (disch := omega) only [vq, ty, en, ↓reduceIte, Nat.reduceAdd, hr, hsp, hlds]
       refine ⟨⟨by omega, by omega⟩, (spend15_ok hyo (Es.vs (pcs_len h32)) (Sl.vs _ _ (by simp)) hpv h32 hpl).mono ?_⟩
       rintro v T' es ⟨⟨t, is, hto, htfi, rfl⟩, rfl, rfl⟩
       have htr := TTx.rules hto
       have wtz : wrA [oW, AV.p (Value.slice none 0 0), AV.p (Value.slice none 0 0), oW] 0 t.cs = t.cs := rfl
       have hft : (txs.flatMap TTx.cs).length = txs.length * 4 := flat_len fun t ht => (TTx.rules (htf t ht).ok).1
       cases is with
       | true =>
         simp -dsimp +decide (disch := omega) only [vt2, vze, vq, ty, ↓reduceIte, Nat.reduceAdd, Nat.reduceMul, Nat.reduceLT, vi, vt, wt, wa, hpr, hr, htr, hwz, wtz, rep1, hft, zBw, wz68, hwt]
         refine ⟨by omega, (i + 1, txs ++ [t]), ⟨⟨by dsimp only; omega, by dsimp only; omega, by simp only [List.length_append, List.length_cons, List.length_nil]; omega, fun u hu => ?_⟩, by dsimp only; omega⟩, rfl, by simp⟩
         rcases List.mem_append.1 hu with hu | hu
         . exact htf u hu
         . rw [List.mem_singleton.1 hu]; exact htfi rfl
       | false =>
         simp -dsimp +decide (disch := omega) only [vt2, vze, vq, ty, ↓reduceIte, Nat.reduceAdd, Nat.reduceLT, vi, vt, wt, wa, hpr, hr, htr, hwz, wtz, zBw, wz68, hwt]
         exact ⟨(i + 1, txs), ⟨⟨by dsimp only; omega, by dsimp only; omega, by dsimp only; omega, htf⟩, by dsimp only; omega⟩, rfl, rfl⟩
   . rcases Nat.lt_or_ge i x.sps.length with h | h
     . have c1 : ((i : Int) < (x.sps.length : Int)) = True := eq_true (by omega)
       have c2 : ((i : Int) < 6) = False := eq_false (by omega)
       simp -dsimp +decide (disch := omega) only [vt2, vze, vq, ty, ↓reduceIte, Nat.reduceAdd, vt, wt, wa, hpr, hr, hsp, c1, c2, zBw, wz68, hwz, hwt]
       exact ⟨txs, ⟨by omega, htf⟩, rfl⟩
     . have c1 : ((i : Int) < (x.sps.length : Int)) = False := eq_false (by omega)
       simp -dsimp +decide (disch := omega) only [vt2, vze, vq, ty, ↓reduceIte, Nat.reduceAdd, vt, wt, wa, hpr, hr, hsp, c1, zBw, wz68, hwz, hwt]
       exact ⟨txs, ⟨by omega, htf⟩, rfl⟩
 . rintro txs g tmp ⟨htl, htf⟩
   have hwt := TTx.wof htf
   have hhw : ∀ (m : List Blk), (∀ b ∈ m, b.Ok) -> ∀ q, (m.flatMap fun b => b.h.cs).map (AV.wo q) = m.flatMap fun b => b.h.cs := hdr_wof
   simp -dsimp +decide (disch := omega) only [vq, ↓reduceIte, Nat.reduceAdd]
   refine SemA.adopt 17 35 68 (by decide) rfl ?_
   simp -dsimp +decide only [vp0, Nat.reduceAdd]
   refine SemA.loopK (T.length + 6) (fun i : Nat => [(1, a), (4, .ptr T.length 0), (6, .ptr (T.length + 1) 0), (8, .ptr (T.length + 2) 0), (9, .p (.bool false)), (11, .ptr (T.length + 3) 0), (17, .sl (T.length + 5) 0 i), (18, wint (i : Int))]) (fun i => T ++ [.cells 37 p.cs, .cells 79 x.cs, .cells 52 zB, .cells 52 (bcl z68 (.sl (T.length + 4) 0 txs.length)), .buf 63 4 (txs.flatMap TTx.cs), .buf 35 68 ((l.take i).flatMap (fun b => b.h.cs))]) (fun i => i <= l.length) (fun i => l.length - i) 0 [] 2 (fun _ : Unit => [(1, a), (4, .ptr T.length 0), (6, .ptr (T.length + 1) 0), (8, .ptr (T.length + 2) 0), (9, .p (.bool false)), (11, .ptr (T.length + 3) 0), (17, .sl (T.length + 5) 0 l.length)]) (fun _ => T ++ [.cells 37 p.cs, .cells 79 x.cs, .cells 52 zB, .cells 52 (bcl z68 (.sl (T.length + 4) 0 txs.length)), .buf 63 4 (txs.flatMap TTx.cs), .buf 35 68 (l.flatMap (fun b => b.h.cs))]) (fun _ => True) (by omega) (by omega) (by (try (simp -dsimp +decide (disch := omega) only [vq, Nat.reduceAdd, ci])); first | done | (and_intros <;> first | with_reducible rfl | rfl) | rfl) rfl (by simp) ?_ ?_
   . rintro i g hi
     refine SemA.o ?_
     simp -dsimp +decide (disch := omega) only [vq, ty, ↓reduceIte, Nat.reduceAdd, hsr]
     refine CondP.dec (fun hc => ?_) (fun hc => ?_)
     . obtain ⟨b, hbx⟩ : ∃ b, l[i]? = some b := ⟨l[i]'(by omega), by simp⟩
       have hbo := hok b (List.mem_of_getElem? hbx)
       have hhr := Hdr.rules hbo.h
       have hldh := fun (Y : Tbl) (K : AV -> Prop) => (show loadA prog 35 (a.pl (i * 69)) (T ++ Y) K = K (.ag b.h.cs) by
        have hts : tsz prog 35 = 68 := by (simp -dsimp +decide only [])
        have h3 := (hb.app Y).sl.lds (K := K) (P := prog) (t := 35) (by (simp -dsimp +decide only [])) (i * 69) (by rw [hts]; decide) (by rw [hts]; omega)
        rw [h3, hts]
        have h4 := flat_at hb.wd hbx
        rw [show List.take 68 (List.drop (i * 69) (l.flatMap Blk.cs)) = List.take 68 b.cs by rw [<- h4, List.take_take]; rfl]
        congr 2
        rw [Blk.cs, <- hhr.1, List.take_left])
       have hfd := fun j k (K : AV -> Prop) => Sl.fld (K := K) hb.sl (show 0 < l.length by omega) j k
       have hfl : ((l.take i).flatMap fun b => b.h.cs).length = i * 68 := by
        have := flat_len (f := fun b : Blk => b.h.cs) (xs := l.take i) (sz := 68) fun b hb => Hdr.cs_len (hok b (List.mem_of_mem_take hb)).h
        rw [this, List.length_take, Nat.min_eq_left hi]
       have hstep : (l.take (i + 1)).flatMap (fun b => b.h.cs) = (l.take i).flatMap (fun b => b.h.cs) ++ b.h.cs := by
        rw [List.take_add_one, hbx, List.flatMap_append]; simp
       have hww := hhw (l.take i) fun b hb => hok b (List.mem_of_mem_take hb)
       simp -dsimp +decide (disch := omega) only [vt2, vze, vq, ty, ↓reduceIte, Nat.reduceAdd, Nat.reduceMul, vi, vt, wt, wa, hpr, hr, hsr, hldh, hfd, hfl, hhr, zBw, wz68, hwz, hwt, hww, rep1, ez68, vz68.2 _ hbo.h]
       exact ⟨⟨by omega, by omega⟩, ⟨by omega, by omega⟩, i + 1, ⟨by omega, by omega⟩, ⟨rfl, rfl⟩, by rw [hstep]⟩
     . have e : i = l.length := by omega
       subst e
       rw [List.take_length]
       have hww := hhw l hok
       simp -dsimp +decide (disch := omega) only [vt2, vze, vp0, ↓reduceIte, Nat.reduceAdd, vt, wt, wa, hpr, hr, hwz, zBw, wz68, hwt, hww]
       exact ⟨(), trivial⟩
   . rintro _ g tmp -
     have hww := hhw l hok
     have hiw : ∀ (m : List TTx) q, (m.flatMap fun t => t.id.map by8).map (AV.wo q) = m.flatMap fun t => t.id.map by8 := id_wof
     simp -dsimp +decide (disch := omega) only [vp0, ↓reduceIte, Nat.reduceAdd]
     refine SemA.adopt 19 33 32 (by decide) rfl ?_
     simp -dsimp +decide only [vp0, Nat.reduceAdd]
     refine SemA.loopK (T.length + 7) (fun k : Nat => [(4, .ptr T.length 0), (6, .ptr (T.length + 1) 0), (8, .ptr (T.length + 2) 0), (9, .p (.bool false)), (11, .ptr (T.length + 3) 0), (17, .sl (T.length + 5) 0 l.length), (19, .sl (T.length + 6) 0 k), (20, wint (k : Int))]) (fun k => T ++ [.cells 37 p.cs, .cells 79 x.cs, .cells 52 zB, .cells 52 (bcl z68 (.sl (T.length + 4) 0 txs.length)), .buf 63 4 (txs.flatMap TTx.cs), .buf 35 68 (l.flatMap (fun b => b.h.cs)), .buf 33 32 ((txs.take k).flatMap fun t => t.id.map by8)]) (fun k => k <= txs.length) (fun k => txs.length - k) 0 [] 4 (fun _ : Unit => [(4, .ptr T.length 0), (6, .ptr (T.length + 1) 0), (8, .ptr (T.length + 2) 0), (9, .p (.bool false)), (11, .ptr (T.length + 3) 0), (17, .sl (T.length + 5) 0 l.length), (19, .sl (T.length + 6) 0 txs.length)]) (fun _ => T ++ [.cells 37 p.cs, .cells 79 x.cs, .cells 52 zB, .cells 52 (bcl z68 (.sl (T.length + 4) 0 txs.length)), .buf 63 4 (txs.flatMap TTx.cs), .buf 35 68 (l.flatMap (fun b => b.h.cs)), .buf 33 32 (txs.flatMap fun t => t.id.map by8)]) (fun _ => True) (by omega) (by omega) (by (try (simp -dsimp +decide (disch := omega) only [vq, Nat.reduceAdd, ci])); first | done | (and_intros <;> first | with_reducible rfl | rfl) | rfl) rfl (by simp) ?_ ?_
     . rintro k g hk
       refine SemA.o ?_
       simp -dsimp +decide (disch := omega) only [vq, ty, ↓reduceIte, Nat.reduceAdd, hwz]
       refine CondP.dec (fun hc => ?_) (fun hc => ?_)
       . obtain ⟨t, ht⟩ : ∃ t, txs[k]? = some t := ⟨txs[k]'(by omega), by simp⟩
         have hto := (htf t (List.mem_of_getElem? ht)).ok
         have hid := t.id_len
         have htk : List.take 4 (List.drop (k * 4) (txs.flatMap TTx.cs)) = t.cs := flat_at (fun t ht => (TTx.rules (htf t ht).ok).1) ht
         have htl4 : (txs.flatMap TTx.cs).length = txs.length * 4 := flat_len fun t ht => (TTx.rules (htf t ht).ok).1
         have hfl : ((txs.take k).flatMap fun t => t.id.map by8).length = k * 32 := by
          have := flat_len (f := fun t : TTx => t.id.map by8) (xs := txs.take k) (sz := 32) fun t _ => by rw [List.length_map, t.id_len]
          rw [this, List.length_take, Nat.min_eq_left hk]
         have hstep : (txs.take (k + 1)).flatMap (fun t => t.id.map by8) = (txs.take k).flatMap (fun t => t.id.map by8) ++ t.id.map by8 := by
          rw [List.take_add_one, ht, List.flatMap_append]; simp
         have t32 : List.take 32 (List.drop 0 t.id) = t.id := tk32 _ hid
         have hne : txs.flatMap TTx.cs ≠ [] := fun e => by rw [e] at htl4; simp at htl4; omega
         simp -dsimp +decide (disch := omega) only [vp0, ty, en, ↓reduceIte, hwz, htk, htl4]
         refine ⟨⟨by omega, by omega, hne⟩, by omega, (id09_ok hto).det' ?_⟩
         simp -dsimp +decide (disch := omega) only [vt2, vze, vq, ty, ↓reduceIte, Nat.reduceAdd, Nat.reduceMul, vi, vt, wt, hpr, hr, hwz, hid, hfl, ez32, vh, rep1, t32, zBw, wz68, hwt, hww, hiw]
         exact ⟨⟨by omega, by omega⟩, k + 1, ⟨by omega, by omega⟩, ⟨rfl, rfl⟩, by rw [hstep]⟩
       . have e : k = txs.length := by omega
         subst e
         rw [List.take_length]
         simp -dsimp +decide (disch := omega) only [vt2, vze, vp0, ↓reduceIte, Nat.reduceAdd, vt, wt, hpr, hr, hwz, zBw, wz68, hwt, hww, hiw]
         exact ⟨(), trivial⟩
     . rintro _ g tmp -
       simp -dsimp +decide (disch := omega) only [vp0, ↓reduceIte, Nat.reduceAdd]
       have hEh : ∀ Y : Tbl, Es (T ++ AObj.cells 37 p.cs :: .cells 79 x.cs :: .cells 52 zB :: .cells 52 (bcl z68 (.sl (T.length + 4) 0 txs.length)) :: .buf 63 4 (txs.flatMap TTx.cs) :: .buf 35 68 (l.flatMap (fun b => b.h.cs)) :: Y) 68 Hdr.cs (.sl (T.length + 5) 0 l.length) (l.map Blk.h) := fun Y => by
        have := Es.obj (sz := 68) (f := Hdr.cs) (xs := l.map Blk.h) (gn5 T (AObj.cells 37 p.cs) (.cells 79 x.cs) (.cells 52 zB) (.cells 52 (bcl z68 (.sl (T.length + 4) 0 txs.length))) (.buf 63 4 (txs.flatMap TTx.cs)) (.buf 35 68 (l.flatMap (fun b => b.h.cs))) Y) (by rw [List.flatMap_map]; rfl) (fun h hh => by
         obtain ⟨b, hb, rfl⟩ := List.mem_map.1 hh
         exact Hdr.cs_len (hok b hb).h)
        rwa [List.length_map] at this
       have hEi : ∀ Y : Tbl, Es (T ++ AObj.cells 37 p.cs :: .cells 79 x.cs :: .cells 52 zB :: .cells 52 (bcl z68 (.sl (T.length + 4) 0 txs.length)) :: .buf 63 4 (txs.flatMap TTx.cs) :: .buf 35 68 (l.flatMap (fun b => b.h.cs)) :: .buf 33 32 (txs.flatMap fun t => t.id.map by8) :: Y) 32 H8 (.sl (T.length + 6) 0 txs.length) (txs.map TTx.id) := fun Y => by
        have := Es.obj (sz := 32) (f := H8) (xs := txs.map TTx.id) (gn6 T (AObj.cells 37 p.cs) (.cells 79 x.cs) (.cells 52 zB) (.cells 52 (bcl z68 (.sl (T.length + 4) 0 txs.length))) (.buf 63 4 (txs.flatMap TTx.cs)) (.buf 35 68 (l.flatMap (fun b => b.h.cs))) (.buf 33 32 (txs.flatMap fun t => t.id.map by8)) Y) (by rw [List.flatMap_map]; rfl) (fun h hh => by
         obtain ⟨t, ht, rfl⟩ := List.mem_map.1 hh
         show (t.id.map by8).length = 32
         rw [List.length_map, t.id_len])
        rwa [List.length_map] at this
       have hoh : ∀ h ∈ l.map Blk.h, h.Ok := fun h hh => by
        obtain ⟨b, hb, rfl⟩ := List.mem_map.1 hh
        exact (hok b hb).h
       have h32 : H32 (txs.map TTx.id) := fun h hh => by
        obtain ⟨t, ht, rfl⟩ := List.mem_map.1 hh
        exact t.id_len
       have hrl := rootH_len h32
       obtain ⟨R, hR⟩ : ∃ R, R = mineB p (l.map Blk.h) (medB (l.map Blk.h) + UInt32.ofInt 1 + x.step.toUInt32) (rootH (txs.map TTx.id)) 200 := ⟨_, rfl⟩
       have hRo : R.1.Ok := by rw [hR]; exact mineB_ok hrl
       have hRr := Hdr.rules hRo
       refine SemA.drawU [(8, .ptr (T.length + 2) 0), (9, .p (.bool false)), (11, .ptr (T.length + 3) 0), (21, .ptr (T.length + 7) 0), (22, .p (.bool R.2))] (T ++ [.cells 37 p.cs, .cells 79 x.cs, .cells 52 zB, .cells 52 (bcl z68 (.sl (T.length + 4) 0 txs.length)), .buf 63 4 (txs.flatMap TTx.cs), .buf 35 68 (l.flatMap (fun b => b.h.cs)), .buf 33 32 (txs.flatMap fun t => t.id.map by8), .cells 35 R.1.cs]) [] 16 (fun i => decide (i < T.length + 7)) (.st 0 true (.st 1 true (.st 2 true (.st 5 true (.st 6 true (.st 7 true (.st 9 true (.alt 3 (.st 4 true (.st 8 true (.alt 10 (.alt 11 (.st 12 true (.st 13 true (.st 14 true (.st 15 false (.st 16 false (.st 17 true .nil)))))) 15 (.st 11 false (.st 12 true (.st 13 true (.st 14 true (.st 16 false (.st 17 true .nil))))))) 15 (.st 10 false (.st 11 false (.st 12 true (.st 13 true (.st 14 true (.st 16 false (.st 17 true .nil)))))))))) 15 (.st 3 false (.st 4 true (.st 8 true (.st 10 false (.st 11 false (.st 12 true (.st 13 true (.st 14 true (.st 16 false (.st 17 true .nil)))))))))))))))))) mixed (by kernel_rfl) ?_ ?_
       . simp -dsimp +decide (disch := omega) only [vr, ty, en, ↓reduceIte, Nat.reduceAdd, vpu, hpr, hr, keepO, kk]
         and_intros
         all_goals (refine (median13_ok (hEh _) hoh (by simp; omega)).det' ?_)
         all_goals (simp -dsimp +decide (disch := omega) only [vr, ty, en, ↓reduceIte, Nat.reduceAdd, vpu])
         and_intros
         all_goals (refine (root10_ok h32 (hEi _) (by simp; omega)).det' ?_)
         all_goals (simp -dsimp +decide (disch := omega) only [vp0, ty, en, ↓reduceIte, Nat.reduceAdd, vpu])
         and_intros
         all_goals (refine (mine13_ok pok (hEh _) hoh (by simp; omega) (time := medB (l.map Blk.h) + UInt32.ofInt 1 + x.step.toUInt32) (tries := 200) hrl).det' ?_)
         all_goals rw [<- hR]
         all_goals (simp -dsimp +decide (disch := omega) only [vp0, ty, ↓reduceIte, Nat.reduceAdd, Nat.reduceLT, vpu, kk, hRr, ez68, vz68.2 _ hRo])
         all_goals first
          | (refine SeeL.done ⟨rfl, ?_, rfl, by simp⟩
             (simp -dsimp +decide only [vp0, Nat.reduceAdd]))
       . intro g tmp
         have hRl : R.1.cs.length = 68 := hRr.1
         have hwR := bcl_rules hRl
         have g2 := fun a b c l => gn2 T a b (.cells 52 c) l
         have hRt : (true && true) = true := rfl
         simp -dsimp +decide (disch := omega) only [vp0, ty, ↓reduceIte, Nat.reduceAdd, Nat.reduceLT, hRr, hwz, hwR, vres, vone, g2, hRt]
         refine Vw.pub (T.length + 4) (gn4 T _ _ _ _ _ _) rfl (fun u hu => ?_) ?_
         . obtain ⟨t, ht, hu⟩ := List.mem_flatMap.1 hu
           exact TTx.clean (htf t ht).ok u hu
         . simp -dsimp +decide only [va, ↓reduceIte, wp, hpr, hr, hwR, hRr]
           refine Vw.cut ⟨⟨⟨R.1, .vs (txs.flatMap TTx.cs) txs.length, txs⟩, R.2, ⟨⟨hRo, ⟨fun t ht => (TTx.rules (htf t ht).ok).1, .inl rfl⟩, by dsimp only; omega, fun t ht => (htf t ht).ok, fun t ht => ?_⟩, htf, htl⟩, ?_⟩, rfl, rfl⟩
           . have := htf t ht
             exact ⟨by have := this.i2; omega, by have := this.o2; omega⟩
           . rw [AV.wo, AV.woL_eq]
             simp only [List.map_cons, List.map_nil, AV.wo, AV.woL_eq, hwR, hRr]
             rfl
end Go.Proofs.YtmcbdlefakjpoaaGreatDoor
namespace Go.Proofs.YtmcbdlefakjpoaaGreatDoor
open Go.E Go.Proofs.YtmcbdlefakjpoaaGreatDoor.Tryz Go.Proofs.Tryz
def fromF (T : Tbl) : AV := .fn 22 [.ptr (T.length + 1) 0, .ptr (T.length + 3) 0]
theorem fromF_wo {T : Tbl} {q : Nat -> Bool} (h1 : q (T.length + 1) = false) (h3 : q (T.length + 3) = false) : (fromF T).wo q = fromF T := by
 rw [fromF, AV.wo, AV.woL_eq]; simp only [List.map_cons, List.map_nil, AV.wo, h1, h3]; rfl
theorem tyM : tak prog 80 = some false /\ tzr prog 82 = some .nilFunc := by refine ⟨?_, ?_⟩ <;> kernel_rfl
theorem items_ok {T : Tbl} {a : AV} {l : List Blk} (hb : Es T 69 Blk.cs a l) (hok : ∀ b ∈ l, b.Ok) (hl : l.length <= 1000) {z : Int} (hz : -9223372036854775808 <= z /\ z <= 9223372036854775807) :
 CallA prog G 11 [a, .p (.int .i64 z)] T fun v T' es => Lst 32 H8 v (uniq (touchZ l z)) /\ T' = T /\ es = [] := by
 refine CallA.wfs fun wf => ?_
 have wt := wf.t
 have hsr := Sl.rules hb.sl (by decide)
 refine CallA.eV 87 func11 ntmps11 results11 ?_
 simp -dsimp +decide only [vp0, ↓reduceIte, Nat.reduceSub, Nat.reduceAdd]
 by_cases hz0 : z < 0
 . have c1 : (z < 0) = True := eq_true hz0
   have e : touchZ l z = [] := by unfold touchZ; rw [if_neg (by omega)]
   rw [e]
   simp -dsimp +decide (disch := omega) only [vp0, ↓reduceIte, c1]
   exact Vw.done ⟨⟨(fun _ h => nomatch h), .inr ⟨rfl, rfl⟩⟩, rfl, rfl⟩
 . have c1 : (z < 0) = False := eq_false hz0
   by_cases hz1 : (l.length : Int) <= z
   . have c2 : ((l.length : Int) <= z) = True := eq_true hz1
     have e : touchZ l z = [] := by unfold touchZ; rw [if_pos (by omega), touchH, List.getElem?_eq_none (by omega)]
     rw [e]
     simp -dsimp +decide (disch := omega) only [vp0, ty, ↓reduceIte, hsr, c1, c2]
     exact Vw.done ⟨⟨(fun _ h => nomatch h), .inr ⟨rfl, rfl⟩⟩, rfl, rfl⟩
   . have c2 : ((l.length : Int) <= z) = False := eq_false hz1
     obtain ⟨h0, rfl⟩ : ∃ h0 : Nat, z = (h0 : Int) := ⟨z.toNat, by omega⟩
     have hv1 : List.map AV.p (Value.map none).cells.toList = [.p (.map none)] := rfl
     have hv2 : List.map AV.p Value.nilFunc.cells.toList = [.p .nilFunc] := rfl
     have hv3 : ∀ x y : AV, [x].set 0 y = [y] := fun _ _ => rfl
     obtain ⟨a', ha'⟩ : ∃ a', a' = a.sub 69 0 (h0 + 1) := ⟨_, rfl⟩
     obtain ⟨l', hl'⟩ : ∃ l', l' = l.take (h0 + 1) := ⟨_, rfl⟩
     have hb' : Es T 69 Blk.cs a' l' := by have := hb.sub (l := 0) (m := h0 + 1) (by omega) (by omega); rwa [List.drop_zero, Nat.sub_zero, <- ha', <- hl'] at this
     have hll : l'.length = h0 + 1 := by rw [hl', List.length_take]; omega
     have hok' : ∀ b ∈ l', b.Ok := fun b hb => hok b (List.mem_of_mem_take (hl' ▸ hb))
     have hsr' := Sl.rules hb'.sl (by decide)
     have hw' : ∀ q : Nat -> Bool, (∀ i, i < T.length -> q i = false) -> a'.wo q = a' := fun q hq => by
      rw [ha']; exact AV.sub_wo (List.map_inj_left.1 ((wf.wf q hq).2.trans (List.map_id _).symm) a (by simp)) _ _ _
     simp -dsimp +decide (disch := omega) only [vp0, ty, ↓reduceIte, Nat.reduceAdd, Nat.reduceLT, Int.reduceToNat, vi, hsr, c1, c2, tyF, tyM, hv1, hv2, hv3, ha'.symm]
     simp -dsimp +decide (disch := omega) only [va, ↓reduceIte, hsr', hll]
     refine ⟨by omega, ⟨by omega, by omega⟩, ?_⟩
     refine SemA.adoptC (i := T.length + 2) (k := 0) 33 32 (by decide) (by omega) (gn2 T _ _ _ _) rfl ?_
     simp -dsimp +decide only [vp0, Nat.reduceAdd]
     refine SemA.loopS (fun i : Nat => [(1, .p (.int .i64 (h0 : Int))), (5, .ptr (T.length + 1) 0), (6, .ptr (T.length + 2) 0), (7, .ptr (T.length + 3) 0), (8, fromF T), (32, a'), (33, wint ((h0 + 1 : Nat) : Int)), (34, wint (i : Int))]) (fun i => itb T (outAt l h0 i) (flatB (l.take i)) []) (fun i => i <= l'.length) (fun i => l'.length - i) 0 [] 0
      (fun _ : Unit => [(6, .ptr (T.length + 2) 0)]) (fun _ => itb T (touchZ l h0) (flatB l') []) (fun _ => True) (by omega) ?_ ?_ (by simp) ?_ ?_
     . exact (by (try (simp -dsimp +decide (disch := omega) only [vq, Nat.reduceAdd, ci])); first | done | (and_intros <;> first | with_reducible rfl | rfl) | rfl)
     . have e0 : outAt l h0 0 = [] := by unfold outAt; rw [if_neg (by omega)]
       rw [e0, List.take_zero]; rfl
     . rintro i g hi
       obtain ⟨A, hA⟩ : ∃ A, A = flatB (l.take i) := ⟨_, rfl⟩
       obtain ⟨U, hU⟩ : ∃ U, U = itb T (outAt l h0 i) A [] := ⟨_, rfl⟩
       have hAl := flatB_len (l.take i) fun b hb => hok b (List.mem_of_mem_take hb)
       rw [List.length_take] at hAl
       have hAok : ∀ t ∈ A, t.Ok := hA ▸ flatB_ok fun b hb => hok b (List.mem_of_mem_take (i := i) hb)
       rw [<- hA] at hAl ⊢
       rw [<- hU]
       have hUl : U.length = T.length + 5 + (ids1 A).length := by rw [hU, itb_len]; rfl
       have hbU : Es U 69 Blk.cs a' l' := by rw [hU]; exact hb'.app _
       have hsU := Sl.rules hbU.sl (by decide)
       have hldU := hbU.ld (P := prog) (t := 52) (by (simp -dsimp +decide only [])) (by (simp -dsimp +decide only [])) (by decide)
       have hwU := itb_wt wf hAok (fun _ => rfl) hU
       refine SemA.o ?_
       simp -dsimp +decide (disch := omega) only [vq, ↓reduceIte, Nat.reduceAdd]
       refine CondP.dec (fun hc => ?_) (fun hc => ?_)
       . obtain ⟨b, hbx⟩ : ∃ b, l'[i]? = some b := ⟨l'[i]'(by omega), by simp⟩
         have hbo := hok' b (List.mem_of_getElem? hbx)
         have hbl := hbo.l
         have hcs := Blk.cs_len hbo
         have hct := Blk.cs_ta hbo
         have hbt : List.take 69 (List.drop 0 b.cs) = b.cs := by rw [List.drop_zero, List.take_of_length_le (by omega)]
         have hbt2 : List.take 69 b.cs = b.cs := by rw [List.take_of_length_le (by omega)]
         have gU := fun l => gn0 U (.cells 52 b.cs) l
         have hln := fun (Y : Tbl) s2 K => ((hbo.t.es Y).sl).ln (K := K) s2
         have hzb : wrA zB 0 b.cs = b.cs := wrA_all (by rw [hcs]; exact (bcl_rules (h := z68) rfl).2.1.symm)
         have hon := Blk.ones hbo
         simp -dsimp +decide (disch := omega) only [vp0, ty, ↓reduceIte, Nat.reduceLT, hsU, hldU, hbx, hcs, hct, gU, hln, ezB, hzb, hon]
         refine ⟨⟨by omega, by omega⟩, ?_⟩
         have hUr : U.map (AObj.ren (permF U.length [])) = U := tbl_ren (permF_id U.length []) hwU.2.1
         have har : a'.ren (permF U.length []) = a' := AV.ren_of (permF_id U.length []) a' (hw' _ fun i hi => by simp; omega)
         have hbr : b.ta.ren (permF U.length []) = b.ta := ren_all1 fun q => hbo.t.k.wo q
         have hp1 : permF U.length [] (T.length + 1) = some (T.length + 1) := permF_id _ _ _ (decide_eq_false (by omega))
         have hp2 : permF U.length [] (T.length + 2) = some (T.length + 2) := permF_id _ _ _ (decide_eq_false (by omega))
         have hp3 : permF U.length [] (T.length + 3) = some (T.length + 3) := permF_id _ _ _ (decide_eq_false (by omega))
         have hpU : permF U.length [] U.length = none := by unfold permF; rw [if_neg (by omega)]; rfl
         refine SemA.perm U _ [] rfl (by decide) (by simp) (by omega) hUr ?_
         have hvn := vn (permF U.length []) U.length []
         simp -dsimp +decide only [va, hvn, har, hbr, hp1, hp2, hp3, List.map_cons, List.map_nil, fromF]
         try simp only []
         refine SemA.loopS (fun k : Nat => [(1, .p (.int .i64 (h0 : Int))), (5, .ptr (T.length + 1) 0), (6, .ptr (T.length + 2) 0), (7, .ptr (T.length + 3) 0), (8, fromF T), (9, wint (i : Int)), (32, a'), (33, wint ((h0 + 1 : Nat) : Int)), (34, wint (i : Int)), (40, b.ta), (41, wint (b.txs.length : Int)), (42, wint (k : Int))]) (fun k => itb T (if (i : Int) = h0 then blkH A (b.txs.take k) else []) (A ++ b.txs.take k) []) (fun k => k <= b.txs.length) (fun k => b.txs.length - k) 0 [] 2
          (fun _ : Unit => [(1, .p (.int .i64 (h0 : Int))), (5, .ptr (T.length + 1) 0), (6, .ptr (T.length + 2) 0), (7, .ptr (T.length + 3) 0), (8, fromF T), (32, a'), (33, wint ((h0 + 1 : Nat) : Int)), (34, wint (i : Int))]) (fun _ => itb T (if (i : Int) = h0 then blkH A b.txs else []) (A ++ b.txs) []) (fun _ => True) (by omega) ?_ ?_ (by rw [rec1, if_neg (by omega)]; simp) ?_ ?_
         . exact (by (try (simp -dsimp +decide (disch := omega) only [vq, Nat.reduceAdd, ci])); first | done | (and_intros <;> first | with_reducible rfl | rfl) | rfl)
         . have e0 : (if (i : Int) = h0 then blkH A (b.txs.take 0) else []) = outAt l h0 i := by
            rw [List.take_zero]
            have : outAt l h0 i = [] := by unfold outAt; rw [if_neg (by omega)]
            rw [this]; split <;> rfl
           rw [e0, List.take_zero, List.append_nil]; exact hU
         . rintro k g hk
           obtain ⟨W, hW⟩ : ∃ W, W = if (i : Int) = h0 then blkH A (b.txs.take k) else [] := ⟨_, rfl⟩
           obtain ⟨X, hX⟩ : ∃ X, X = A ++ b.txs.take k := ⟨_, rfl⟩
           rw [<- hW, <- hX]
           have hWl : W.length <= 20000000 := by
            rw [hW]
            split
            . have h1 := blkH_len (b.txs.take k) A fun u hu => hbo.il u (List.mem_of_mem_take hu)
              rw [List.length_take] at h1; omega
            . simp
           have hW32 : H32 W := by
            rw [hW]
            split
            . exact blkH_32 _ _
            . exact fun _ h => nomatch h
           have hXok : ∀ t ∈ X, t.Ok := fun t ht => by
            rw [hX] at ht
            rcases List.mem_append.1 ht with ht | ht
            . exact hAok t ht
            . exact hbo.ok t (List.mem_of_mem_take ht)
           have hXl : X.length <= 1000000 := by rw [hX, List.length_append, List.length_take]; omega
           obtain ⟨V, hV⟩ : ∃ V, V = itb T W X [] := ⟨_, rfl⟩
           rw [<- hV]
           have hVl : V.length = T.length + 5 + (ids1 X).length := by rw [hV, itb_len]; rfl
           have hgV := itb_get hV
           have hst := Sl.rules (hbo.t.es V).sl (by decide)
           have hldt := fun (Y : Tbl) => (hbo.t.es Y).ld (P := prog) (t := 63) (by (simp -dsimp +decide only [])) (by (simp -dsimp +decide only [])) (by decide)
           have hldT : ∀ (Y : Tbl) (t : TTx), b.txs[k]? = some t -> ∀ K : AV -> Prop, loadA prog 63 (b.ta.pl (k * 4)) Y K = K (.ag t.cs) := fun Y t ht K => by
            have := (List.getElem?_eq_some_iff.1 ht).1
            rw [(hldt Y).2 k K this, ht]; rfl
           refine SemA.o ?_
           simp -dsimp +decide (disch := omega) only [vq, ↓reduceIte, Nat.reduceAdd]
           refine CondP.dec (fun hc2 => ?_) (fun hc2 => ?_)
           . obtain ⟨t, ht⟩ : ∃ t, b.txs[k]? = some t := ⟨b.txs[k]'(by omega), by simp⟩
             have hto := hbo.ok t (List.mem_of_getElem? ht)
             have htr := TTx.rules hto
             have hil := hbo.il t (List.mem_of_getElem? ht)
             have hil1 := hil.1
             have hil2 := hil.2
             have wtz : wrA [oW, AV.p (Value.slice none 0 0), AV.p (Value.slice none 0 0), oW] 0 t.cs = t.cs := rfl
             have hlni := fun (Y : Tbl) s2 K => ((hto.i.es Y).sl).ln (K := K) s2
             have hlno := fun (Y : Tbl) s2 K => ((hto.o.es Y).sl).ln (K := K) s2
             have gV := fun l => gn0 V (.cells 63 t.cs) l
             have hldTt := fun Y => hldT Y t ht
             by_cases he : (i : Int) = h0
             . have c3 : ((i : Int) = (h0 : Int)) = True := eq_true he
               simp -dsimp +decide (disch := omega) only [vp0, ty, ↓reduceIte, Nat.reduceAdd, Nat.reduceLT, hst, hldTt, wtz, htr, gV, hlni, c3]
               refine ⟨⟨by omega, by omega⟩, ?_⟩
               have htw : ∀ q, [AObj.cells 63 t.cs].map (AObj.wo q) = [AObj.cells 63 t.cs] := fun q => by
                simp only [List.map_cons, List.map_nil, AObj.wo, htr]
               obtain ⟨W1, hW1⟩ : ∃ W1 : Nat -> List (List UInt8), ∀ i, W1 i = W ++ (t.ins.take i).flatMap (inH X) := ⟨_, fun _ => rfl⟩
               have hW1l : ∀ i, (W1 i).length <= 30000000 := fun i => by
                have := insH_len X (t.ins.take i)
                rw [List.length_take] at this
                rw [hW1, List.length_append]; omega
               have hW132 : ∀ i, H32 (W1 i) := fun i => by
                rw [hW1]
                intro x hx
                rcases List.mem_append.1 hx with hx | hx
                . exact hW32 x hx
                . obtain ⟨y, _, hy⟩ := List.mem_flatMap.1 hx
                  unfold inH at hy
                  split at hy
                  . rw [List.mem_singleton.1 hy]; exact sha_len _
                  . cases hy
               have hW10 : W1 0 = W := by rw [hW1]; simp
               obtain ⟨n1, hn1⟩ : ∃ n1, n1 = T.length + 5 + (ids1 X).length + 1 := ⟨_, rfl⟩
               obtain ⟨nV, hnV⟩ : ∃ nV, nV = T.length + 5 + (ids1 X).length := ⟨_, rfl⟩
               have hVn : V.length = nV := by omega
               rw [hVn]
               have sEH := slots_EH (T.length + 2) (T.length + 4)
               have rEH : ∀ E, recE T.length (EH (T.length + 2) (T.length + 4)) E = E := fun E => by
                rw [EH, recE, recE, recE, rec1, if_neg (by omega), rec1, if_neg (by omega)]
               have nr1 := nrules (L := T.length) (n := n1) (by omega)
               have nrV : decide (n1 <= nV) = false := decide_eq_false (by omega)
               have nrV2 : (nV == T.length + 4) = false := by simp; omega
               have haw1 : a'.wo (fun i => decide (n1 <= i)) = a' := hw' _ fun i hi => by simp; omega
               have haw2 : a'.wo (fun i => i == T.length + 4) = a' := hw' _ fun i hi => by simp; omega
               have hbw2 := hbo.t.k.wo
               have hiw := hto.i.k.wo
               have how := hto.o.k.wo
               refine SemA.loopK n1 (fun m : Nat => [(1, .p (.int .i64 (h0 : Int))), (5, .ptr (T.length + 1) 0), (6, .ptr (T.length + 2) 0), (7, .ptr (T.length + 3) 0), (8, fromF T), (9, wint (i : Int)), (12, .ptr nV 0), (32, a'), (33, wint ((h0 + 1 : Nat) : Int)), (34, wint (i : Int)), (40, b.ta), (41, wint (b.txs.length : Int)), (42, wint (k : Int)), (50, t.ia), (51, wint (t.ins.length : Int)), (52, wint (m : Int))]) (fun m => itb T (W1 m) X [.cells 63 t.cs]) (fun m => m <= t.ins.length) (fun m => t.ins.length - m) 0 [] 4
                (fun _ : Unit => [(1, .p (.int .i64 (h0 : Int))), (5, .ptr (T.length + 1) 0), (6, .ptr (T.length + 2) 0), (7, .ptr (T.length + 3) 0), (8, fromF T), (9, wint (i : Int)), (12, .ptr nV 0), (32, a'), (33, wint ((h0 + 1 : Nat) : Int)), (34, wint (i : Int)), (40, b.ta), (41, wint (b.txs.length : Int)), (42, wint (k : Int))]) (fun _ => itb T (W1 t.ins.length) X [.cells 63 t.cs]) (fun _ => True) (by omega) (by omega) ?_ ?_ ?_ ?_ ?_
               . exact (by (try (simp -dsimp +decide (disch := omega) only [vq, Nat.reduceAdd, ci])); first | done | (and_intros <;> first | with_reducible rfl | rfl) | rfl)
               . rw [hV, itb_app, hW10]; rfl
               . rw [rec1, if_neg (by omega)]; exact fun _ h => h
               . rintro m g hm
                 obtain ⟨U1, hU1⟩ : ∃ U1, U1 = itb T (W1 m) X [.cells 63 t.cs] := ⟨_, rfl⟩
                 rw [<- hU1]
                 have hU1l : U1.length = n1 := by rw [hU1, itb_len, hn1]; rfl
                 refine SemA.o ?_
                 simp -dsimp +decide (disch := omega) only [vq, ↓reduceIte, Nat.reduceAdd]
                 refine CondP.dec (fun hc3 => ?_) (fun hc3 => ?_)
                 . obtain ⟨x, hx⟩ : ∃ x, t.ins[m]? = some x := ⟨t.ins[m]'(by omega), by simp⟩
                   have hxo := hto.ii x (List.mem_of_getElem? hx)
                   have hxr := TIn.rules hxo
                   have hldI := fun (Y : Tbl) (K : AV -> Prop) => (show loadA prog 68 (t.ia.pl (m * 36)) Y K = K (.ag x.cs) by
                    rw [((hto.i.es Y).ld (P := prog) (t := 68) (by (simp -dsimp +decide only [])) (by (simp -dsimp +decide only [])) (by decide)).2 m K (by omega), hx]; rfl)
                   have hixi := fun (Y : Tbl) (ik : IntKind) (z : Int) (K : AV -> Prop) => (hto.i.es Y).sl.ix (K := K) (by decide) ik z
                   have hpl0 : List.take 33 x.cs = plc x.tx x.n := by
                    rw [TIn.cs, List.take_append, List.length_map, hxo.t, List.take_of_length_le (by rw [List.length_map, hxo.t]; decide)]
                    rfl
                   have hzi : wrA zI36 0 x.cs = x.cs := wrA_all (by rw [hxr.1]; rfl)
                   have gI := fun l => gn0 U1 (.cells 68 x.cs) l
                   simp -dsimp +decide (disch := omega) only [vp0, ty, en, ↓reduceIte, Nat.reduceLT, vt, hixi, hldI, ezI, hzi, hxr, gI, hpl0, fromF]
                   have hlw : ([AObj.cells 63 t.cs] ++ [AObj.cells 68 x.cs]).map (AObj.wo fun i => i == T.length + 4) = [AObj.cells 63 t.cs] ++ [.cells 68 x.cs] := by
                    rw [List.map_append, htw]; simp only [List.map_cons, List.map_nil, AObj.wo, hxr]
                   have hFm : Fm (U1 ++ [.cells 68 x.cs]) (T.length + 1) T.length (T.length + 3) (T.length + 2) (T.length + 4) (W1 m) X := by
                    rw [hU1, itb_app]; exact tbI_fm wt.2.2.1 hXok (hW132 m) hlw
                   have hstp : W1 (m + 1) = W1 m ++ outL (outO x.tx x.n X) := by
                    rw [hW1, hW1, List.take_add_one, hx, List.flatMap_append, List.append_assoc]
                    simp only [Option.toList_some, List.flatMap_cons, List.flatMap_nil, List.append_nil, inH]
                    cases outO x.tx x.n X <;> rfl
                   obtain ⟨U2, hU2⟩ : ∃ U2, U2 = itb T (W1 (m + 1)) X [.cells 63 t.cs] := ⟨_, rfl⟩
                   have hU2l : U2.length = n1 := by rw [hU2, itb_len, hn1]; rfl
                   have hres : updH (U1 ++ [.cells 68 x.cs]) (T.length + 2) (T.length + 4) (W1 m ++ outL (outO x.tx x.n X)) = U2 ++ [.cells 68 x.cs] := by
                    rw [<- hstp, hU1, itb_app, itb, tbI_updH, hU2, itb_app, itb]
                   refine ⟨⟨by omega, by omega⟩, (from_ok hFm hXok hXl (by have := hW1l m; omega) hxo.t x.n).det' ?_⟩
                   rw [hres]
                   have hwU2 := itb_wt wf hXok htw hU2
                   have hw2 : U2.map (AObj.wo fun i => decide (n1 <= i)) = U2 := by have := hwU2.2.1; rwa [hU2l] at this
                   have htk : ∀ l, List.take n1 (U2 ++ l) = U2 := fun l => by rw [<- hU2l, List.take_left]
                   have nrU : (U1.length == T.length + 4) = false := by simp; omega
                   have nrU2 : decide (n1 <= U1.length) = true := decide_eq_true (by omega)
                   simp -dsimp +decide (disch := omega) only [vt2, vq, ↓reduceIte, Nat.reduceAdd, vi, vt, sEH, rEH, nr1, nrV, nrV2, haw1, haw2, hbw2, hiw, hw2, htk, nrU, nrU2]
                   refine ⟨⟨m + 1, ⟨by omega, by omega⟩, ⟨rfl, rfl⟩, hU2⟩, ?_⟩
                   rw [rec1, if_neg (by omega)]; exact fun _ h => h
                 . have e : m = t.ins.length := by omega
                   subst e
                   have hwU1 := itb_wt wf hXok htw hU1
                   have hw2 : U1.map (AObj.wo fun i => decide (n1 <= i)) = U1 := by have := hwU1.2.1; rwa [hU1l] at this
                   have htk : List.take n1 U1 = U1 := List.take_of_length_le (by omega)
                   simp -dsimp +decide (disch := omega) only [vt2, vze, vq, ↓reduceIte, Nat.reduceAdd, nr1, nrV, haw1, hbw2, hiw, hw2, htk, fromF]
                   exact ⟨(), hU1⟩
               . rintro _ g tmp -
                 obtain ⟨Q1, hQ1⟩ : ∃ Q1, Q1 = W1 t.ins.length := ⟨_, rfl⟩
                 have hQ1l : Q1.length <= 30000000 := hQ1 ▸ hW1l _
                 have hQ132 : H32 Q1 := hQ1 ▸ hW132 _
                 rw [<- hQ1]
                 obtain ⟨W2, hW2⟩ : ∃ W2 : Nat -> List (List UInt8), ∀ i, W2 i = Q1 ++ (t.outs.take i).map outH := ⟨_, fun _ => rfl⟩
                 have hW2l : ∀ i, (W2 i).length <= 40000000 := fun i => by
                  rw [hW2, List.length_append, List.length_map, List.length_take]; omega
                 have hW232 : ∀ i, H32 (W2 i) := fun i => by
                  rw [hW2]
                  intro x hx
                  rcases List.mem_append.1 hx with hx | hx
                  . exact hQ132 x hx
                  . obtain ⟨o, _, rfl⟩ := List.mem_map.1 hx
                    exact sha_len _
                 have hW20 : W2 0 = Q1 := by rw [hW2]; simp
                 obtain ⟨U0, hU0⟩ : ∃ U0, U0 = itb T Q1 X [.cells 63 t.cs] := ⟨_, rfl⟩
                 have htx : U0[nV]? = some (.cells 63 t.cs) := by
                  rw [hU0, itb, <- List.append_assoc, List.getElem?_append_right (by rw [List.length_append, tbI_len]; omega), List.length_append, tbI_len, show nV - (T.length + (5 + (ids1 X).length)) = 0 by omega]; rfl
                 rw [<- hU0]
                 simp -dsimp +decide (disch := omega) only [vq, ty, ↓reduceIte, Nat.reduceAdd, htx, htr, hlno]
                 refine SemA.loopK n1 (fun m : Nat => [(1, .p (.int .i64 (h0 : Int))), (5, .ptr (T.length + 1) 0), (6, .ptr (T.length + 2) 0), (7, .ptr (T.length + 3) 0), (8, fromF T), (9, wint (i : Int)), (12, .ptr nV 0), (32, a'), (33, wint ((h0 + 1 : Nat) : Int)), (34, wint (i : Int)), (40, b.ta), (41, wint (b.txs.length : Int)), (42, wint (k : Int)), (62, t.oa), (63, wint (t.outs.length : Int)), (64, wint (m : Int))]) (fun m => itb T (W2 m) X [.cells 63 t.cs]) (fun m => m <= t.outs.length) (fun m => t.outs.length - m) 0 [] 6
                  (fun _ : Unit => [(1, .p (.int .i64 (h0 : Int))), (5, .ptr (T.length + 1) 0), (6, .ptr (T.length + 2) 0), (7, .ptr (T.length + 3) 0), (8, fromF T), (9, wint (i : Int)), (12, .ptr nV 0), (32, a'), (33, wint ((h0 + 1 : Nat) : Int)), (34, wint (i : Int)), (40, b.ta), (41, wint (b.txs.length : Int)), (42, wint (k : Int))]) (fun _ => itb T (W2 t.outs.length) X [.cells 63 t.cs]) (fun _ => True) (by omega) (by omega) ?_ ?_ ?_ ?_ ?_
                 . exact (by (try (simp -dsimp +decide (disch := omega) only [vq, Nat.reduceAdd, ci])); first | done | (and_intros <;> first | with_reducible rfl | rfl) | rfl)
                 . rw [hU0, hW20]
                 . exact fun _ h => h
                 . rintro m g hm
                   obtain ⟨U1, hU1⟩ : ∃ U1, U1 = itb T (W2 m) X [.cells 63 t.cs] := ⟨_, rfl⟩
                   rw [<- hU1]
                   have hU1l : U1.length = n1 := by rw [hU1, itb_len, hn1]; rfl
                   have hgU1 := itb_get hU1
                   refine SemA.o ?_
                   simp -dsimp +decide (disch := omega) only [vq, ↓reduceIte, Nat.reduceAdd]
                   refine CondP.dec (fun hc3 => ?_) (fun hc3 => ?_)
                   . obtain ⟨o, ho⟩ : ∃ o, t.outs[m]? = some o := ⟨t.outs[m]'(by omega), by simp⟩
                     have hoo := hto.oo o (List.mem_of_getElem? ho)
                     have hor := TOut.rules hoo
                     have hldO := fun (Y : Tbl) (K : AV -> Prop) => (show loadA prog 71 (t.oa.pl (m * 2)) Y K = K (.ag o.cs) by
                      rw [((hto.o.es Y).ld (P := prog) (t := 71) (by (simp -dsimp +decide only [])) (by (simp -dsimp +decide only [])) (by decide)).2 m K (by omega), ho]; rfl)
                     have hixo := fun (Y : Tbl) (ik : IntKind) (z : Int) (K : AV -> Prop) => (hto.o.es Y).sl.ix (K := K) (by decide) ik z
                     have hzo : wrA [AV.p (.int .u64 0), AV.p (.slice none 0 0)] 0 o.cs = o.cs := rfl
                     have gO := fun l => gn0 U1 (.cells 71 o.cs) l
                     simp -dsimp +decide (disch := omega) only [vp0, ty, en, ↓reduceIte, Nat.reduceAdd, Nat.reduceLT, vt, hixo, hldO, hzo, hor, gO, hgU1, tyF]
                     have hlw : ([AObj.cells 63 t.cs] ++ [AObj.cells 71 o.cs]).map (AObj.wo fun i => i == T.length + 4) = [AObj.cells 63 t.cs] ++ [.cells 71 o.cs] := by
                      rw [List.map_append, htw]; simp only [List.map_cons, List.map_nil, AObj.wo, hor]
                     have hTh : Th (U1 ++ [.cells 71 o.cs]) (T.length + 2) (T.length + 4) (W2 m) := by
                      rw [hU1, itb_app]; exact tbI_th wt.2.2.1 hXok (hW232 m) hlw
                     have hstp : W2 (m + 1) = W2 m ++ [outH o] := by
                      rw [hW2, hW2, List.take_add_one, ho, List.map_append, List.append_assoc]; rfl
                     obtain ⟨U2, hU2⟩ : ∃ U2, U2 = itb T (W2 (m + 1)) X [.cells 63 t.cs] := ⟨_, rfl⟩
                     have hU2l : U2.length = n1 := by rw [hU2, itb_len, hn1]; rfl
                     have hres : updH (U1 ++ [.cells 71 o.cs]) (T.length + 2) (T.length + 4) (W2 m ++ [outH o]) = U2 ++ [.cells 71 o.cs] := by
                      rw [<- hstp, hU1, itb_app, itb, tbI_updH, hU2, itb_app, itb]
                     refine ⟨⟨by omega, by omega⟩, (touch_ok hTh (by have := hW2l m; omega) hoo).det' ?_⟩
                     rw [hres]
                     have hwU2 := itb_wt wf hXok htw hU2
                     have hw2 : U2.map (AObj.wo fun i => decide (n1 <= i)) = U2 := by have := hwU2.2.1; rwa [hU2l] at this
                     have htk : ∀ l, List.take n1 (U2 ++ l) = U2 := fun l => by rw [<- hU2l, List.take_left]
                     have nrU : (U1.length == T.length + 4) = false := by simp; omega
                     have nrU2 : decide (n1 <= U1.length) = true := decide_eq_true (by omega)
                     simp -dsimp +decide (disch := omega) only [vt2, vq, ↓reduceIte, Nat.reduceAdd, vi, sEH, rEH, nr1, nrV, nrV2, haw1, haw2, hbw2, how, hw2, htk, nrU, nrU2, fromF]
                     refine ⟨⟨m + 1, ⟨by omega, by omega⟩, rfl, hU2⟩, ?_⟩
                     rw [rec1, if_neg (by omega)]; exact fun _ h => h
                   . have e : m = t.outs.length := by omega
                     subst e
                     have hwU1 := itb_wt wf hXok htw hU1
                     have hw2 : U1.map (AObj.wo fun i => decide (n1 <= i)) = U1 := by have := hwU1.2.1; rwa [hU1l] at this
                     have htk : List.take n1 U1 = U1 := List.take_of_length_le (by omega)
                     simp -dsimp +decide (disch := omega) only [vt2, vze, vq, ↓reduceIte, Nat.reduceAdd, nr1, nrV, haw1, hbw2, how, hw2, htk, fromF]
                     exact ⟨(), hU1⟩
                 . rintro _ g tmp -
                   have hW0 := hW
                   obtain ⟨W, hW⟩ : ∃ W, W = W2 t.outs.length := ⟨_, rfl⟩
                   rw [<- hW]
                   obtain ⟨V, hV⟩ : ∃ V, V = itb T W X [] := ⟨_, rfl⟩
                   have hVl : V.length = T.length + 5 + (ids1 X).length := by rw [hV, itb_len]; rfl
                   have hgV := itb_get hV
                   have gV := fun l => gn0 V (.cells 63 t.cs) l
                   have hVe : itb T W X [.cells 63 t.cs] = V ++ [.cells 63 t.cs] := by rw [hV, itb_app]; rfl
                   rw [hVe, show nV = V.length by omega]
                   simp -dsimp +decide (disch := omega) only [vq, ty, en, ↓reduceIte, Nat.reduceAdd, htr, gV]
                   refine (idT_ok hto hil1 hil2).det' ?_
                   have hid := t.id_len
                   have hk1 := tk32 _ hid
                   have hk2 := wr32 _ hid
                   have hk3 := ones8 t.id
                   have hkn : t.oa.known = some [t.oa] := by
                    rcases hto.o.2 with e | ⟨e, -⟩ <;> rw [e] <;> rfl
                   have hko := eq_true (ents_mapKO (f := fA T.length X) (ids1_32 X) hid)
                   have hLV : T.length < V.length := by omega
                   have hset : ∀ (o : AObj) (l : Tbl), (V ++ l).set T.length o = V.set T.length o ++ l := fun o l => by rw [List.set_append_left _ _ hLV]
                   have hset2 : ∀ (o o' : AObj) (l : Tbl), (V.set T.length o ++ l).set T.length o' = V.set T.length o' ++ l := fun o o' l => by rw [List.set_append_left _ _ (by simpa using hLV), List.set_set]
                   have gs0 : ∀ (o : AObj) (l : Tbl), (V.set T.length o ++ l)[T.length]? = some o := fun o l => by rw [List.getElem?_append_left (by simpa using hLV), List.getElem?_set_self hLV]
                   have gs2 : ∀ (o x y z : AObj) (l : Tbl), (V.set T.length o ++ x :: y :: z :: l)[V.length + 2]? = some z := fun o x y z l => by have := gn2 (V.set T.length o) x y z l; rwa [List.length_set] at this
                   have hsl : ∀ (o : AObj) (l : Tbl), (V.set T.length o ++ l).length = V.length + l.length := fun o l => by rw [List.length_append, List.length_set]
                   have hsa : ∀ (o : AObj) (l r : Tbl), V.set T.length o ++ l ++ r = V.set T.length o ++ (l ++ r) := fun o l r => List.append_assoc _ _ _
                   have hXt : A ++ b.txs.take (k + 1) = X ++ [t] := by rw [List.take_add_one, ht, hX, List.append_assoc]; rfl
                   have hnext : itb T W (X ++ [t]) [] = itb T (if (i : Int) = h0 then blkH A (b.txs.take (k + 1)) else []) (A ++ b.txs.take (k + 1)) [] := by
                    rw [hXt, if_pos he, hW, hW2, hQ1, hW1, hW0, if_pos he, List.take_add_one, ht, Option.toList_some, blkH_snoc, txH, <- hX, List.take_length, List.take_length, List.append_assoc]
                   rcases ids1_get (A := X) (tx := t.id) with ⟨hn, hg⟩ | ⟨ix, hix⟩
                   . have hmf : mfind (ents (ids1 X) (fA T.length X)) (hv t.id) = none := ents_none hn
                     simp -dsimp +decide (disch := omega) only [vq, ty, ↓reduceIte, Nat.reduceAdd, Nat.reduceLT, htr, gV, hgV, z32_eq, z32_len, hk1, hk2, hk3, hid, hv_fold, hko, hmf, hkn, rep1, hv3]
                     intro ms c s hMF hMB
                     rw [Option.getD_none] at hMF hMB
                     have hon1 := hto.o.k.one
                     simp -dsimp +decide (disch := omega) only [vsk, vq, ty, ↓reduceIte, Nat.reduceAdd, vi, vt, hset, hset2, gs0, gs2, hsl, hsa, Option.getD_none, hon1]
                     refine ⟨_, _, s, rfl, hMF, hMB, rfl, k + 1, ⟨by omega, by omega⟩, ?_⟩
                     obtain ⟨S, hS1, hS2, hS3⟩ := tab_new (T := T) (W := W) hXok hto hn (.cells 63 t.cs) (.cells 33 (t.id.map by8)) (.buf 61 1 [t.oa])
                     rw [<- hV] at hS1
                     obtain ⟨p, hp⟩ : ∃ p, p = List.range (5 + (ids1 X).length) ++ [(ids1 X).length + 8] := ⟨_, rfl⟩
                     rw [<- hp] at hS2 hS3
                     have hvn := vn (permF T.length p) T.length p
                     have hq1 : idxO p 1 = some 1 := by rw [hp, idxO_app, idxO_range, if_pos (by omega)]
                     have hq2 : idxO p 2 = some 2 := by rw [hp, idxO_app, idxO_range, if_pos (by omega)]
                     have hq3 : idxO p 3 = some 3 := by rw [hp, idxO_app, idxO_range, if_pos (by omega)]
                     have har2 : a'.ren (permF T.length p) = a' := AV.ren_of (permF_id T.length p) a' (hw' _ fun i hi => by simp; omega)
                     have hbr2 : b.ta.ren (permF T.length p) = b.ta := ren_all1 fun q => hbo.t.k.wo q
                     refine SeeL.perm T S p hS1 (by rw [hp]; exact range_nodup (by omega)) hS2 (Nat.le_refl _) (tbl_ren (permF_id T.length p) wt.2.1) ?_
                     rw [hS3]
                     simp -dsimp +decide only [va, hvn, har2, hbr2, hq1, hq2, hq3, List.map_cons, List.map_nil, fromF]
                     refine SeeL.done ⟨rfl, (by (try (simp -dsimp +decide (disch := omega) only [vp0, Nat.reduceAdd])); first | done | (and_intros <;> first | with_reducible rfl | rfl) | rfl), hnext, ?_⟩
                     repeat rw [rec1, if_neg (by omega)]
                     exact fun _ h => h
                   . obtain ⟨ci, hci⟩ : ∃ ci, ci = T.length + 5 + ix := ⟨_, rfl⟩
                     have hixl := (List.getElem?_eq_some_iff.1 hix).1
                     have hmf : mfind (ents (ids1 X) (fA T.length X)) (hv t.id) = some (.sl ci 0 (grp t.id X).length) := by rw [ents_find (ids1_nodup X) hix, fA, hix, hci]; rfl
                     simp -dsimp +decide (disch := omega) only [vq, ty, ↓reduceIte, Nat.reduceAdd, Nat.reduceLT, htr, gV, hgV, z32_eq, z32_len, hk1, hk2, hk3, hid, hv_fold, hko, hmf, hkn, rep1, hv3]
                     intro ms c s hMF hMB
                     rw [Option.getD_some] at hMF hMB
                     have hon1 := hto.o.k.one
                     have hGl : (grp t.id X).length <= 1000000 := Nat.le_trans (List.length_filter_le _ _) hXl
                     have hVc : V[ci]? = some (.buf 61 1 ((grp t.id X).flatMap ocs)) := by rw [hV, hci]; exact itb_ci hix
                     have hlc : ci < V.length := by omega
                     have hgc : ∀ (o : AObj) (l : Tbl), (V.set T.length o ++ l)[ci]? = some (.buf 61 1 ((grp t.id X).flatMap ocs)) := fun o l => by
                      rw [List.getElem?_append_left (by simpa using hlc), List.getElem?_set_ne (by omega), hVc]
                     have hoc := fun q => ocs_wo q (l := grp t.id X) fun u hu => hXok u (List.mem_filter.1 hu).1
                     have hVw : V.map (AObj.wo fun i => i == ci) = V.set T.length (.map ((ents (ids1 X) (fA T.length X)).map fun e => (e.1, e.2.wo fun i => i == ci))) := by
                      rw [hV, hci]; exact itb_woc (by have := wt.2.2.1 (5 + ix); rwa [<- Nat.add_assoc] at this) hXok
                     have hwm : ∀ ob cs vs, (V.set T.length (.rcd ob cs vs)).map (AObj.wo fun i => i == ci) = V.set T.length (.rcd ob (cs.map (AV.wo fun i => i == ci)) vs) := fun ob cs vs => by
                      rw [List.map_set, hVw, List.set_set]; rfl
                     have hsc : ∀ (o o' : AObj) (l : Tbl), (V.set T.length o ++ l).set ci o' = (V.set T.length o).set ci o' ++ l := fun o o' l => by rw [List.set_append_left _ _ (by simpa using hlc)]
                     have hsc0 : ∀ (o o' : AObj) (l : Tbl), ((V.set T.length o).set ci o' ++ l)[T.length]? = some o := fun o o' l => by
                      rw [List.getElem?_append_left (by simp; omega), List.getElem?_set_ne (by omega), List.getElem?_set_self hLV]
                     have hsc1 : ∀ (o o' o2 : AObj) (l : Tbl), ((V.set T.length o).set ci o' ++ l).set T.length o2 = (V.set T.length o2).set ci o' ++ l := fun o o' o2 l => by
                      rw [List.set_append_left _ _ (by simp; omega), List.set_comm _ _ (by omega), List.set_set]
                     have hflc : ((grp t.id X).flatMap ocs).length = (grp t.id X).length * 1 := flat_len fun u _ => rfl
                     have q1 : (T.length + 1 == ci) = false := by simp; omega
                     have q2 : (T.length + 2 == ci) = false := by simp; omega
                     have q3 : (T.length + 3 == ci) = false := by simp; omega
                     have q4 : (T.length == ci) = false := by simp; omega
                     have q5 : (V.length == ci) = false := by simp; omega
                     have q6 : ∀ k, (V.length + k == ci) = false := fun k => by simp; omega
                     have haw : a'.wo (fun i => i == ci) = a' := hw' _ fun i hi => by simp; omega
                     have hbw2 := hbo.t.k.wo
                     have how := hto.o.k.wo
                     simp -dsimp +decide (disch := omega) only [vsk, vq, ty, ↓reduceIte, vi, vt, htr, hset, gs2, Option.getD_some, hon1, hgc, hoc, hwm, hsc, hsc0, hsc1, hflc, q1, q2, q3, q4, q5, q6, haw, hbw2, how, fromF_wo (q := fun i => i == ci) q1 q3]
                     refine ⟨⟨by omega, by omega⟩, _, _, s, rfl, MF_map (AV.wo fun i => i == ci) hMF, MB_map (AV.wo fun i => i == ci) hMB, ?_, k + 1, ⟨by omega, by omega⟩, ?_⟩
                     . rw [List.map_map, List.map_map]; rfl
                     . have htab := tab_old (T := T) (W := W) hix
                       rw [<- hV, <- hci] at htab
                       rw [htab]
                       have hXok2 : ∀ u ∈ X ++ [t], u.Ok := fun u hu => by
                        rcases List.mem_append.1 hu with hu | hu
                        . exact hXok u hu
                        . rw [List.mem_singleton.1 hu]; exact hto
                       obtain ⟨V2, hV2⟩ : ∃ V2, V2 = itb T W (X ++ [t]) [] := ⟨_, rfl⟩
                       have hV2l : V2.length = T.length + 5 + (ids1 (X ++ [t])).length := by rw [hV2, itb_len]; rfl
                       have hwV2 := itb_wt wf hXok2 (fun _ => rfl) hV2
                       rw [<- hV2]
                       have nr := nrules (L := T.length) (n := V2.length) (by omega)
                       have haw2 : a'.wo (fun i => decide (V2.length <= i)) = a' := hw' _ fun i hi => by simp; omega
                       refine SeeL.cut V2.length (by omega) ?_
                       rw [List.take_left, hwV2.2.1]
                       simp -dsimp +decide only [va, vl, ↓reduceIte, nr, haw2, hbw2, List.map_cons, List.map_nil, fromF_wo (q := fun i => decide (V2.length <= i)) nr.2.2.2.2.2.2.1 nr.2.2.2.2.2.2.2.2.1]
                       refine SeeL.done ⟨rfl, (by (try (simp -dsimp +decide (disch := omega) only [vp0, Nat.reduceAdd])); first | done | (and_intros <;> first | with_reducible rfl | rfl) | rfl), by rw [hV2]; exact hnext, ?_⟩
                       repeat rw [rec1, if_neg (by omega)]
                       exact fun _ h => h
             . have c3 : ((i : Int) = (h0 : Int)) = False := eq_false he
               simp -dsimp +decide (disch := omega) only [vp0, ty, en, ↓reduceIte, Nat.reduceAdd, Nat.reduceLT, hst, hldTt, wtz, htr, gV, c3]
               refine ⟨⟨by omega, by omega⟩, (idT_ok hto hil1 hil2).det' ?_⟩
               have hid := t.id_len
               have hk1 := tk32 _ hid
               have hk2 := wr32 _ hid
               have hk3 := ones8 t.id
               have hkn : t.oa.known = some [t.oa] := by
                rcases hto.o.2 with e | ⟨e, -⟩ <;> rw [e] <;> rfl
               have hko := eq_true (ents_mapKO (f := fA T.length X) (ids1_32 X) hid)
               have hLV : T.length < V.length := by omega
               have hset : ∀ (o : AObj) (l : Tbl), (V ++ l).set T.length o = V.set T.length o ++ l := fun o l => by rw [List.set_append_left _ _ hLV]
               have hset2 : ∀ (o o' : AObj) (l : Tbl), (V.set T.length o ++ l).set T.length o' = V.set T.length o' ++ l := fun o o' l => by rw [List.set_append_left _ _ (by simpa using hLV), List.set_set]
               have gs0 : ∀ (o : AObj) (l : Tbl), (V.set T.length o ++ l)[T.length]? = some o := fun o l => by rw [List.getElem?_append_left (by simpa using hLV), List.getElem?_set_self hLV]
               have gs2 : ∀ (o x y z : AObj) (l : Tbl), (V.set T.length o ++ x :: y :: z :: l)[V.length + 2]? = some z := fun o x y z l => by have := gn2 (V.set T.length o) x y z l; rwa [List.length_set] at this
               have hsl : ∀ (o : AObj) (l : Tbl), (V.set T.length o ++ l).length = V.length + l.length := fun o l => by rw [List.length_append, List.length_set]
               have hsa : ∀ (o : AObj) (l r : Tbl), V.set T.length o ++ l ++ r = V.set T.length o ++ (l ++ r) := fun o l r => List.append_assoc _ _ _
               have hXt : A ++ b.txs.take (k + 1) = X ++ [t] := by rw [List.take_add_one, ht, hX, List.append_assoc]; rfl
               have hnext : itb T W (X ++ [t]) [] = itb T (if (i : Int) = h0 then blkH A (b.txs.take (k + 1)) else []) (A ++ b.txs.take (k + 1)) [] := by
                rw [hXt, hW, if_neg he, if_neg he]
               rcases ids1_get (A := X) (tx := t.id) with ⟨hn, hg⟩ | ⟨ix, hix⟩
               . have hmf : mfind (ents (ids1 X) (fA T.length X)) (hv t.id) = none := ents_none hn
                 simp -dsimp +decide (disch := omega) only [vq, ty, ↓reduceIte, Nat.reduceAdd, Nat.reduceLT, htr, gV, hgV, z32_eq, z32_len, hk1, hk2, hk3, hid, hv_fold, hko, hmf, hkn, rep1, hv3]
                 intro ms c s hMF hMB
                 rw [Option.getD_none] at hMF hMB
                 have hon1 := hto.o.k.one
                 simp -dsimp +decide (disch := omega) only [vsk, vq, ty, ↓reduceIte, Nat.reduceAdd, vi, vt, hset, hset2, gs0, gs2, hsl, hsa, Option.getD_none, hon1]
                 refine ⟨_, _, s, rfl, hMF, hMB, rfl, k + 1, ⟨by omega, by omega⟩, ?_⟩
                 obtain ⟨S, hS1, hS2, hS3⟩ := tab_new (T := T) (W := W) hXok hto hn (.cells 63 t.cs) (.cells 33 (t.id.map by8)) (.buf 61 1 [t.oa])
                 rw [<- hV] at hS1
                 obtain ⟨p, hp⟩ : ∃ p, p = List.range (5 + (ids1 X).length) ++ [(ids1 X).length + 8] := ⟨_, rfl⟩
                 rw [<- hp] at hS2 hS3
                 have hvn := vn (permF T.length p) T.length p
                 have hq1 : idxO p 1 = some 1 := by rw [hp, idxO_app, idxO_range, if_pos (by omega)]
                 have hq2 : idxO p 2 = some 2 := by rw [hp, idxO_app, idxO_range, if_pos (by omega)]
                 have hq3 : idxO p 3 = some 3 := by rw [hp, idxO_app, idxO_range, if_pos (by omega)]
                 have har2 : a'.ren (permF T.length p) = a' := AV.ren_of (permF_id T.length p) a' (hw' _ fun i hi => by simp; omega)
                 have hbr2 : b.ta.ren (permF T.length p) = b.ta := ren_all1 fun q => hbo.t.k.wo q
                 refine SeeL.perm T S p hS1 (by rw [hp]; exact range_nodup (by omega)) hS2 (Nat.le_refl _) (tbl_ren (permF_id T.length p) wt.2.1) ?_
                 rw [hS3]
                 simp -dsimp +decide only [va, hvn, har2, hbr2, hq1, hq2, hq3, List.map_cons, List.map_nil, fromF]
                 refine SeeL.done ⟨rfl, (by (try (simp -dsimp +decide (disch := omega) only [vp0, Nat.reduceAdd])); first | done | (and_intros <;> first | with_reducible rfl | rfl) | rfl), hnext, ?_⟩
                 repeat rw [rec1, if_neg (by omega)]
                 exact fun _ h => h
               . obtain ⟨ci, hci⟩ : ∃ ci, ci = T.length + 5 + ix := ⟨_, rfl⟩
                 have hixl := (List.getElem?_eq_some_iff.1 hix).1
                 have hmf : mfind (ents (ids1 X) (fA T.length X)) (hv t.id) = some (.sl ci 0 (grp t.id X).length) := by rw [ents_find (ids1_nodup X) hix, fA, hix, hci]; rfl
                 simp -dsimp +decide (disch := omega) only [vq, ty, ↓reduceIte, Nat.reduceAdd, Nat.reduceLT, htr, gV, hgV, z32_eq, z32_len, hk1, hk2, hk3, hid, hv_fold, hko, hmf, hkn, rep1, hv3]
                 intro ms c s hMF hMB
                 rw [Option.getD_some] at hMF hMB
                 have hon1 := hto.o.k.one
                 have hGl : (grp t.id X).length <= 1000000 := Nat.le_trans (List.length_filter_le _ _) hXl
                 have hVc : V[ci]? = some (.buf 61 1 ((grp t.id X).flatMap ocs)) := by rw [hV, hci]; exact itb_ci hix
                 have hlc : ci < V.length := by omega
                 have hgc : ∀ (o : AObj) (l : Tbl), (V.set T.length o ++ l)[ci]? = some (.buf 61 1 ((grp t.id X).flatMap ocs)) := fun o l => by
                  rw [List.getElem?_append_left (by simpa using hlc), List.getElem?_set_ne (by omega), hVc]
                 have hoc := fun q => ocs_wo q (l := grp t.id X) fun u hu => hXok u (List.mem_filter.1 hu).1
                 have hVw : V.map (AObj.wo fun i => i == ci) = V.set T.length (.map ((ents (ids1 X) (fA T.length X)).map fun e => (e.1, e.2.wo fun i => i == ci))) := by
                  rw [hV, hci]; exact itb_woc (by have := wt.2.2.1 (5 + ix); rwa [<- Nat.add_assoc] at this) hXok
                 have hwm : ∀ ob cs vs, (V.set T.length (.rcd ob cs vs)).map (AObj.wo fun i => i == ci) = V.set T.length (.rcd ob (cs.map (AV.wo fun i => i == ci)) vs) := fun ob cs vs => by
                  rw [List.map_set, hVw, List.set_set]; rfl
                 have hsc : ∀ (o o' : AObj) (l : Tbl), (V.set T.length o ++ l).set ci o' = (V.set T.length o).set ci o' ++ l := fun o o' l => by rw [List.set_append_left _ _ (by simpa using hlc)]
                 have hsc0 : ∀ (o o' : AObj) (l : Tbl), ((V.set T.length o).set ci o' ++ l)[T.length]? = some o := fun o o' l => by
                  rw [List.getElem?_append_left (by simp; omega), List.getElem?_set_ne (by omega), List.getElem?_set_self hLV]
                 have hsc1 : ∀ (o o' o2 : AObj) (l : Tbl), ((V.set T.length o).set ci o' ++ l).set T.length o2 = (V.set T.length o2).set ci o' ++ l := fun o o' o2 l => by
                  rw [List.set_append_left _ _ (by simp; omega), List.set_comm _ _ (by omega), List.set_set]
                 have hflc : ((grp t.id X).flatMap ocs).length = (grp t.id X).length * 1 := flat_len fun u _ => rfl
                 have q1 : (T.length + 1 == ci) = false := by simp; omega
                 have q2 : (T.length + 2 == ci) = false := by simp; omega
                 have q3 : (T.length + 3 == ci) = false := by simp; omega
                 have q4 : (T.length == ci) = false := by simp; omega
                 have q5 : (V.length == ci) = false := by simp; omega
                 have q6 : ∀ k, (V.length + k == ci) = false := fun k => by simp; omega
                 have haw : a'.wo (fun i => i == ci) = a' := hw' _ fun i hi => by simp; omega
                 have hbw2 := hbo.t.k.wo
                 have how := hto.o.k.wo
                 simp -dsimp +decide (disch := omega) only [vsk, vq, ty, ↓reduceIte, vi, vt, htr, hset, gs2, Option.getD_some, hon1, hgc, hoc, hwm, hsc, hsc0, hsc1, hflc, q1, q2, q3, q4, q5, q6, haw, hbw2, how, fromF_wo (q := fun i => i == ci) q1 q3]
                 refine ⟨⟨by omega, by omega⟩, _, _, s, rfl, MF_map (AV.wo fun i => i == ci) hMF, MB_map (AV.wo fun i => i == ci) hMB, ?_, k + 1, ⟨by omega, by omega⟩, ?_⟩
                 . rw [List.map_map, List.map_map]; rfl
                 . have htab := tab_old (T := T) (W := W) hix
                   rw [<- hV, <- hci] at htab
                   rw [htab]
                   have hXok2 : ∀ u ∈ X ++ [t], u.Ok := fun u hu => by
                    rcases List.mem_append.1 hu with hu | hu
                    . exact hXok u hu
                    . rw [List.mem_singleton.1 hu]; exact hto
                   obtain ⟨V2, hV2⟩ : ∃ V2, V2 = itb T W (X ++ [t]) [] := ⟨_, rfl⟩
                   have hV2l : V2.length = T.length + 5 + (ids1 (X ++ [t])).length := by rw [hV2, itb_len]; rfl
                   have hwV2 := itb_wt wf hXok2 (fun _ => rfl) hV2
                   rw [<- hV2]
                   have nr := nrules (L := T.length) (n := V2.length) (by omega)
                   have haw2 : a'.wo (fun i => decide (V2.length <= i)) = a' := hw' _ fun i hi => by simp; omega
                   refine SeeL.cut V2.length (by omega) ?_
                   rw [List.take_left, hwV2.2.1]
                   simp -dsimp +decide only [va, vl, ↓reduceIte, nr, haw2, hbw2, List.map_cons, List.map_nil, fromF_wo (q := fun i => decide (V2.length <= i)) nr.2.2.2.2.2.2.1 nr.2.2.2.2.2.2.2.2.1]
                   refine SeeL.done ⟨rfl, (by (try (simp -dsimp +decide (disch := omega) only [vp0, Nat.reduceAdd])); first | done | (and_intros <;> first | with_reducible rfl | rfl) | rfl), by rw [hV2]; exact hnext, ?_⟩
                   repeat rw [rec1, if_neg (by omega)]
                   exact fun _ h => h
           . have e : k = b.txs.length := by omega
             subst e
             rw [List.take_length] at hW hX
             simp -dsimp +decide (disch := omega) only [vsk, vq, ↓reduceIte]
             refine ⟨(), SeeL.done ⟨rfl, (by (try (simp -dsimp +decide (disch := omega) only [vp0, Nat.reduceAdd])); first | done | (and_intros <;> first | with_reducible rfl | rfl) | rfl), ?_, by simp⟩⟩
             rw [hV, hW, hX]
         . rintro _ g tmp -
           simp -dsimp +decide (disch := omega) only [vsk, vq, ↓reduceIte, Nat.reduceAdd, vi]
           have hbx2 : l[i]? = some b := by rw [hl', List.getElem?_take] at hbx; rwa [if_pos (by omega)] at hbx
           have hstep : flatB (l.take (i + 1)) = A ++ b.txs := by
            rw [List.take_add_one, hbx2, hA, flatB, flatB, List.flatMap_append]; simp
           have hOut : outAt l h0 (i + 1) = if (i : Int) = h0 then blkH A b.txs else [] := by
            unfold outAt
            by_cases he : (i : Int) = h0
            . rw [if_pos (by omega), if_pos he, touchZ, if_pos (by omega), touchH, <- he, Int.toNat_natCast, hbx2, <- hA]
            . rw [if_neg (by omega), if_neg he]
           refine ⟨i + 1, ⟨by omega, by omega⟩, SeeL.done ⟨rfl, ?_, by rw [hstep, hOut], by simp⟩⟩
           exact (by (try (simp -dsimp +decide (disch := omega) only [vp0, Nat.reduceAdd])); first | done | (and_intros <;> first | with_reducible rfl | rfl) | rfl)
       . simp -dsimp +decide (disch := omega) only [vsk, vp0, ↓reduceIte]
         have hie : i = h0 + 1 := by omega
         refine ⟨(), SeeL.done ⟨rfl, (by (try (simp -dsimp +decide (disch := omega) only [vp0, Nat.reduceAdd])); first | done | (and_intros <;> first | with_reducible rfl | rfl) | rfl), ?_, by simp⟩⟩
         rw [hU, outAt_end (.inr (by omega)), hA, hl', hie]
     . rintro _ g tmp -
       obtain ⟨U, hU⟩ : ∃ U, U = itb T (touchZ l h0) (flatB l') [] := ⟨_, rfl⟩
       rw [<- hU]
       have hgU := itb_get hU
       simp -dsimp +decide (disch := omega) only [vp0, ty, en, ↓reduceIte, Nat.reduceAdd, hgU]
       have hEU : Es U 32 H8 (.sl (T.length + 4) 0 (touchZ l h0).length) (touchZ l h0) := Es.obj hgU.2.2.2.2.2.2.2.2.2 rfl (h8 (touchZ_32 l h0))
       refine (unlike_ok hEU (by have := touchZ_le hok h0; omega)).det' ?_
       simp -dsimp +decide (disch := omega) only [va, ↓reduceIte]
       refine Vw.cutN T.length (Nat.le_refl _) (Vw.done ⟨⟨h8 (uniq_32 (touchZ_32 l h0)), .inl ?_⟩, ?_, rfl⟩)
       . exact (Kept1.vs _ _).wo _
       . rw [hU, itb, List.take_left]; exact wt.2.1
def D (d : Array UInt64) : List AV := d.toList.map w64
def TB (T : Tbl) (i : Nat) (d : Array UInt64) : Tbl := T.set i (.buf 69 1 (D d))
def ltU (x y : UInt64) : Bool := decide (x < y)
theorem swoU : Sort.SWO ltU where
 irrefl := fun x => by simp [ltU]
 trans := fun x y z h1 h2 => by simp [ltU] at *; exact UInt64.lt_trans h1 h2
 ntrans := fun x y z h1 h2 => by simp [ltU] at *; exact UInt64.le_trans h2 h1
theorem D_at (d : Array UInt64) {k : Nat} (h : k < d.size) : (D d)[k]? = some (w64 d[k]!) := by
 unfold D
 rw [List.getElem?_map, Array.getElem?_toList, getElem!_pos d k h]; simp [h]
theorem D_len (d : Array UInt64) : (D d).length = d.size := by simp [D]
theorem D_set (d : Array UInt64) (k : Nat) (v : UInt64) : (D d).set k (w64 v) = D (d.setIfInBounds k v) := by
 simp [D, List.map_set]
theorem D_sv (d : Array UInt64) (k : Nat) (v : UInt64) : (D d).set k (.p (.int .u64 (v.toNat : Int))) = D (d.setIfInBounds k v) := D_set d k v
theorem D_ns (d : Array UInt64) (k : Nat) (v : UInt64) : (D (d.setIfInBounds k v) ≠ []) = (D d ≠ []) := by rw [<- D_set]; simp
theorem D_ne (d : Array UInt64) (h : 0 < d.size) : (D d ≠ []) = True := by
 simp [D]; intro e; simp [e] at h
theorem TB_get {T : Tbl} {i : Nat} (hi : i < T.length) :
 (∀ d, (TB T i d)[i]? = some (.buf 69 1 (D d))) /\ (∀ d l, (TB T i d ++ l)[i]? = some (.buf 69 1 (D d))) /\ (∀ d d', (TB T i d).set i (.buf 69 1 (D d')) = TB T i d') /\
 (∀ d l d', (TB T i d ++ l).set i (.buf 69 1 (D d')) = TB T i d' ++ l) /\ (∀ d, (TB T i d).length = T.length) /\ (∀ es x, recE T.length ((i, x) :: es) [] = (i, x) :: recE T.length es []) /\ (∀ E, rec1 T.length i false E = (i, false) :: E) := by
 refine ⟨fun d => by simp [TB, hi], fun d l => ?_, fun d d' => by simp [TB], fun d l d' => ?_, fun d => by simp [TB], fun es x => by simp [recE, rec1, hi], fun E => by simp [rec1, hi]⟩
 . rw [List.getElem?_append_left (by simp [TB, hi])]; simp [TB, hi]
 . rw [List.set_append_left _ _ (by simp [TB, hi])]; simp [TB]
theorem isNaN_ok {T : Tbl} {x : UInt64} : CallA prog G 84 [w64 x] T fun v T' es => v = .p (.bool false) /\ T' = T /\ es = [] := by
 refine CallA.eV 3 func84 ntmps84 results84 ?_
 simp -dsimp +decide only [vq, ↓reduceIte, Nat.reduceSub]
 exact Vw.done ⟨by simp, rfl, rfl⟩
theorem less_ok {T : Tbl} {x y : UInt64} : CallA prog G 67 [w64 x, w64 y] T fun v T' es => v = .p (.bool (ltU x y)) /\ T' = T /\ es = [] := by
 refine CallA.eV 5 func67 ntmps67 results67 ?_
 simp -dsimp +decide only [vq, en, ↓reduceIte, Nat.reduceSub, Nat.reduceAdd]
 refine isNaN_ok.det ?_
 simp -dsimp +decide only [vp0, ↓reduceIte]
 refine Vw.done ⟨?_, rfl, rfl⟩
 simp [ltU, UInt64.lt_iff_toNat_lt]
theorem insInner_step {a j : Nat} {d : Array UInt64} (h : a < j) (hl : ltU d[j]! d[j - 1]! = true) : Sort.insInner ltU a j d = Sort.insInner ltU a (j - 1) (Sort.swp d j (j - 1)) := by
 cases j with
 | zero => omega
 | succ j => rw [Sort.insInner]; simp only [Nat.add_sub_cancel] at hl ⊢; simp [hl, h]
theorem insInner_stop {a j : Nat} {d : Array UInt64} (h : ¬ (a < j /\ ltU d[j]! d[j - 1]! = true)) : Sort.insInner ltU a j d = d := by
 cases j with
 | zero => rfl
 | succ j =>
   rw [Sort.insInner]; simp only [Nat.add_sub_cancel] at h
   rw [if_neg]; simpa using h
theorem ins_ok {T : Tbl} {i a b n : Nat} {d : Array UInt64} (hi : i < T.length) (hn : d.size = n) (hab : a <= b) (hb : b <= n) (hB : n <= 1099511627776) :
 CallA prog G 103 [.sl i 0 n, wint (a : Int), wint (b : Int)] (TB T i d) fun v T' es => v = .tu [] /\ T' = TB T i (Sort.insertionSort ltU d a b) /\ es = [(i, false)] := by
 have tg := TB_get hi
 refine CallA.eV 8 func103 ntmps103 results103 ?_
 simp -dsimp +decide only [vq, ↓reduceIte, Nat.reduceSub, Nat.reduceAdd]
 simp -dsimp +decide (disch := omega) only [vi, tg]
 refine SemA.loopL (fun s : Nat × Array UInt64 => [(0, .sl i 0 n), (1, wint (a : Int)), (2, wint (b : Int)), (6, wint (s.1 : Int))]) (fun s => TB T i s.2) (fun s => a + 1 <= s.1 /\ s.1 <= max (a + 1) b /\ s.2.size = n /\ Sort.insOuter ltU a b s.1 s.2 = Sort.insertionSort ltU d a b) (fun s => b + 1 - s.1) (a + 1, d) [(i, false)] (by kernel_rfl) ⟨by simp, by simp; omega, hn, rfl⟩ (by (simp -dsimp +decide (disch := omega) only [vq, Nat.reduceAdd]); simp) rfl (by simp) ?_
 rintro ⟨k, d1⟩ g ⟨hk1, hk2, hs, hk⟩
 dsimp only at hk1 hk2 hs hk
 simp -dsimp +decide (disch := omega) only [vq, ↓reduceIte, Nat.reduceAdd]
 refine CondP.dec (fun h => ?_) (fun h => ?_)
 . simp -dsimp +decide (disch := omega) only [va, ↓reduceIte]
   refine SemA.loopL (fun s : Nat × Array UInt64 => [(0, .sl i 0 n), (1, wint (a : Int)), (2, wint (b : Int)), (6, wint (k : Int)), (7, wint (s.1 : Int))]) (fun s => TB T i s.2) (fun s => s.1 <= k /\ s.2.size = n /\ Sort.insInner ltU a s.1 s.2 = Sort.insInner ltU a k d1) (fun s => s.1) (k, d1) [(i, false)] (by kernel_rfl) ⟨by simp, hs, rfl⟩ (by (simp -dsimp +decide (disch := omega) only [vq, Nat.reduceAdd])) rfl (by simp) ?_
   rintro ⟨j, d2⟩ g2 ⟨hj1, hs2, hj⟩
   dsimp only at hj1 hs2 hj
   simp -dsimp +decide (disch := omega) only [vq, ↓reduceIte, Nat.reduceAdd]
   by_cases hja : a < j
   . have hgt : ((a : Int) < (j : Int)) = True := by simp; omega
     have hne := D_ne d2 (by omega)
     refine SemA.drawS (.fl 0 (.fl 1 (.fl 2 (.fl 3 (.fl 4 (.fl 5 (.fl 6 (.fl 7 (.fl 8 (.fl 9 (.fl 10 (.fl 11 (.fl 12 (.sq 13 (.fl 14 .nil))))))))))))))) mixed (by kernel_rfl) ?_
     simp -dsimp +decide (disch := omega) only [vy, vq, ty, en, ↓reduceIte, Int.reduceToNat, vi, tg, hgt, hne, D_at]
     refine ⟨by omega, by omega, ?_⟩
     refine less_ok.det ?_
     simp -dsimp +decide (disch := omega) only [vy, vp0, ↓reduceIte]
     by_cases hl : ltU d2[j]! d2[j - 1]! = true
     . rw [hl]
       simp -dsimp +decide (disch := omega) only [vp0]
       refine SemA.drawS (.fl 0 (.fl 1 (.fl 2 (.fl 3 (.fp 4 (.fl 5 (.fl 6 (.fl 7 (.fl 8 (.fl 9 (.fl 10 (.fl 11 (.fl 12 (.fl 13 (.fl 14 (.sq 15 (.fl 16 (.sq 17 .nil)))))))))))))))))) mixed (by kernel_rfl) ?_
       simp -dsimp +decide (disch := omega) only [vy, vq, ty, ↓reduceIte, Nat.reduceAdd, Nat.reduceLT, Int.reduceToNat, vi, tg, hne, D_sv, D_ns, D_at, D_len, Array.size_setIfInBounds]
       and_intros
       all_goals first | omega | (simp; done) | skip
       refine ⟨(j - 1, Sort.swp d2 j (j - 1)), ⟨by dsimp only; omega, ?_, ?_⟩, by dsimp only; omega, ?_, rfl⟩
       . rw [Sort.size_swp]; exact hs2
       . rw [<- insInner_step hja hl]; exact hj
       . dsimp only; rw [show ((j - 1 : Nat) : Int) = (j : Int) - 1 by omega]
     . have hl : ltU d2[j]! d2[j - 1]! = false := by simpa using hl
       rw [hl]
       simp -dsimp +decide (disch := omega) only [vq, ↓reduceIte, Nat.reduceAdd, vi]
       refine ⟨(k + 1, d2), ⟨by dsimp only; omega, by dsimp only; omega, hs2, ?_⟩, by dsimp only; omega, rfl, rfl⟩
       have e := insInner_stop (a := a) (j := j) (d := d2) (by simp [hl])
       rw [<- hk]
       conv => rhs; rw [Sort.insOuter, if_pos (by omega)]
       dsimp only
       rw [<- hj, e]
   . have hgt : ((a : Int) < (j : Int)) = False := by simp; omega
     refine SemA.drawS (.fl 0 (.fl 1 (.fl 2 (.fl 3 (.fl 4 (.fl 5 (.fl 6 (.fl 7 (.fl 8 (.fl 9 (.fl 10 (.fl 11 (.fl 12 (.sq 13 (.fl 14 .nil))))))))))))))) mixed (by kernel_rfl) ?_
     simp -dsimp +decide (disch := omega) only [vy, vq, ↓reduceIte, Nat.reduceAdd, vi, hgt]
     refine ⟨(k + 1, d2), ⟨by dsimp only; omega, by dsimp only; omega, hs2, ?_⟩, by dsimp only; omega, rfl, rfl⟩
     have e := insInner_stop (a := a) (j := j) (d := d2) (by omega)
     rw [<- hk]
     conv => rhs; rw [Sort.insOuter, if_pos (by omega)]
     dsimp only
     rw [<- hj, e]
 . simp -dsimp +decide (disch := omega) only [va, ↓reduceIte]
   refine Vw.done ⟨rfl, ?_, rfl⟩
   rw [<- hk, Sort.insOuter, if_neg (by omega)]
theorem bl_shift (k n : Nat) (h : 2 ^ k <= n) : Sort.bitsLen n = Sort.bitsLen (n / 2 ^ k) + k := by
 have h0 : n ≠ 0 := by have := Nat.two_pow_pos k; omega
 have h1 : n / 2 ^ k ≠ 0 := by
  have := Nat.div_pos h (Nat.two_pow_pos k); omega
 unfold Sort.bitsLen
 rw [if_neg h0, if_neg h1]
 have : n.log2 = (n / 2 ^ k).log2 + k := by
  refine (Nat.log2_eq_iff h0).2 ⟨?_, ?_⟩
  . have := Nat.log2_self_le h1
    rw [Nat.pow_add]
    exact Nat.le_trans (Nat.mul_le_mul_right _ this) (Nat.div_mul_le_self n (2 ^ k))
  . have := Nat.lt_log2_self (n := n / 2 ^ k)
    have h2 : n < (n / 2 ^ k + 1) * 2 ^ k := by
     have := Nat.lt_div_mul_add (a := n) (Nat.two_pow_pos k)
     rw [Nat.succ_mul]; exact this
    rw [show (n / 2 ^ k).log2 + k + 1 = (n / 2 ^ k).log2 + 1 + k by omega, Nat.pow_add]
    exact Nat.lt_of_lt_of_le h2 (Nat.mul_le_mul_right _ this)
 omega
theorem getO_tab {s : ByteArray} (hs : ∀ k, k < 256 -> s[k]? = some (UInt8.ofNat (Sort.bitsLen k))) {n : Nat} (hn : n < 256) {K : UInt8 -> Prop} (hk : K (UInt8.ofNat (Sort.bitsLen n))) : getO s[n]? K := by
 rw [hs n hn]; exact hk
theorem bl_le (n : Nat) (h : n < 256) : (UInt8.ofNat (Sort.bitsLen n)).toNat = Sort.bitsLen n := by
 have : Sort.bitsLen n <= 8 := (Sort.bitsLen_le_iff n 8).2 h
 simp; omega
theorem len64_ok {T : Tbl} {x : UInt64} : CallA prog G 112 [w64 x] T fun v T' es => v = wint (Sort.bitsLen x.toNat : Int) /\ T' = T /\ es = [] := by
 refine CallA.enterZ 3 func112 ntmps112 (congrArg Array.toList results112) rfl ⟨by simp, by simp⟩ (by kernel_rfl) ?_
 refine SemA.cutAt [] (fun s : UInt64 × Nat => [(0, w64 s.1), (2, wint (s.2 : Int))]) (fun _ => T) (fun s => s.1.toNat < 4294967296 /\ Sort.bitsLen s.1.toNat + s.2 = Sort.bitsLen x.toNat /\ s.2 <= 32) [] 2 rfl (by kernel_rfl) ?_ ?_
 . simp -dsimp +decide only [vq, ↓reduceIte, Nat.reduceSub]
   obtain ⟨y, hy⟩ : ∃ y, y = x := ⟨_, rfl⟩
   obtain ⟨m, hm⟩ : ∃ m : Nat, m = 0 := ⟨_, rfl⟩
   rw [<- hy]
   have hyl := y.toNat_lt
   refine CondP.split (fun h => ?_) (fun h => ?_)
   . simp -dsimp +decide (disch := omega) only [vz, vze, vr, ↓reduceIte, Nat.reduceAdd, Int.reduceToNat]
     refine ⟨(u64_shr y 32, 32), ?_, rfl, rfl⟩
     rw [decide_eq_true_iff] at h
     have hk : (u64_shr y 32).toNat = y.toNat / 2 ^ 32 := by rw [u64_shr, if_pos (by omega), UInt64.toNat_shiftRight]; show y.toNat >>> 32 = _; rw [Nat.shiftRight_eq_div_pow]
     dsimp only
     rw [hk]
     refine ⟨by omega, ?_, by omega⟩
     rw [bl_shift 32 y.toNat (by omega)]
   . simp -dsimp +decide (disch := omega) only [vz, vze, vq, Nat.reduceAdd]
     rw [decide_eq_false_iff_not] at h
     exact ⟨(y, 0), ⟨by dsimp only; omega, by dsimp only; omega, by dsimp only; omega⟩, rfl, rfl⟩
 rintro ⟨y, m⟩ g tmp ⟨hy1, hy2, hm⟩
 dsimp only at hy1 hy2 hm
 refine SemA.cutAt [] (fun s : UInt64 × Nat => [(0, w64 s.1), (2, wint (s.2 : Int))]) (fun _ => T) (fun s => s.1.toNat < 65536 /\ Sort.bitsLen s.1.toNat + s.2 = Sort.bitsLen x.toNat /\ s.2 <= 48) [] 1 rfl (by kernel_rfl) ?_ ?_
 . simp -dsimp +decide (disch := omega) only [vq, ↓reduceIte, Nat.reduceAdd]
   refine CondP.split (fun h => ?_) (fun h => ?_)
   . simp -dsimp +decide (disch := omega) only [vz, vze, vr, ↓reduceIte, Nat.reduceAdd, Int.reduceToNat, vi]
     refine ⟨(u64_shr y 16, m + 16), ?_, rfl, rfl⟩
     rw [decide_eq_true_iff] at h
     have hk : (u64_shr y 16).toNat = y.toNat / 2 ^ 16 := by rw [u64_shr, if_pos (by omega), UInt64.toNat_shiftRight]; show y.toNat >>> 16 = _; rw [Nat.shiftRight_eq_div_pow]
     dsimp only
     rw [hk]
     refine ⟨by omega, ?_, by omega⟩
     rw [<- hy2, bl_shift 16 y.toNat (by omega)]; omega
   . simp -dsimp +decide (disch := omega) only [vz, vze, vq, Nat.reduceAdd]
     rw [decide_eq_false_iff_not] at h
     exact ⟨(y, m), ⟨by dsimp only; omega, hy2, by dsimp only; omega⟩, rfl, rfl⟩
 clear hy1 hy2 hm y m
 rintro ⟨y, m⟩ g tmp ⟨hy1, hy2, hm⟩
 dsimp only at hy1 hy2 hm
 refine SemA.cutAt [] (fun s : UInt64 × Nat => [(0, w64 s.1), (2, wint (s.2 : Int))]) (fun _ => T) (fun s => s.1.toNat < 256 /\ Sort.bitsLen s.1.toNat + s.2 = Sort.bitsLen x.toNat /\ s.2 <= 56) [] 1 rfl (by kernel_rfl) ?_ ?_
 . simp -dsimp +decide (disch := omega) only [vq, ↓reduceIte, Nat.reduceAdd]
   refine CondP.split (fun h => ?_) (fun h => ?_)
   . simp -dsimp +decide (disch := omega) only [vz, vze, vr, ↓reduceIte, Nat.reduceAdd, Int.reduceToNat, vi]
     refine ⟨(u64_shr y 8, m + 8), ?_, rfl, rfl⟩
     rw [decide_eq_true_iff] at h
     have hk : (u64_shr y 8).toNat = y.toNat / 2 ^ 8 := by rw [u64_shr, if_pos (by omega), UInt64.toNat_shiftRight]; show y.toNat >>> 8 = _; rw [Nat.shiftRight_eq_div_pow]
     dsimp only
     rw [hk]
     refine ⟨by omega, ?_, by omega⟩
     rw [<- hy2, bl_shift 8 y.toNat (by omega)]; omega
   . simp -dsimp +decide (disch := omega) only [vz, vze, vq, Nat.reduceAdd]
     rw [decide_eq_false_iff_not] at h
     exact ⟨(y, m), ⟨by dsimp only; omega, hy2, by dsimp only; omega⟩, rfl, rfl⟩
 clear hy1 hy2 hm y m
 rintro ⟨y, m⟩ g tmp ⟨hy1, hy2, hm⟩
 dsimp only at hy1 hy2 hm
 refine SemA.o ?_
 have hy8 : y.toUInt8.toNat = y.toNat := by rw [UInt64.toNat_toUInt8]; omega
 simp -dsimp +decide (disch := omega) only [vr, ty, ↓reduceIte, Nat.reduceAdd, hy8]
 refine getO_tab (by decide +kernel) hy1 ?_
 have hb := bl_le y.toNat hy1
 simp -dsimp +decide (disch := omega) only [vp0, ty, ↓reduceIte, hb]
 refine Vw.done ⟨?_, rfl, rfl⟩
 have : Sort.bitsLen y.toNat <= 8 := (Sort.bitsLen_le_iff _ 8).2 hy1
 rw [IntWalk.i64_in (Sort.bitsLen y.toNat : Int) (by omega), IntWalk.i64_in _ (by omega), <- hy2]
 show AV.p (.int .i64 _) = AV.p (.int .i64 _)
 congr 2; omega
theorem len_ok {T : Tbl} {x : UInt64} : CallA prog G 82 [w64 x] T fun v T' es => v = wint (Sort.bitsLen x.toNat : Int) /\ T' = T /\ es = [] := by
 refine CallA.eV 3 func82 ntmps82 results82 ?_
 simp -dsimp +decide only [vq, en, ↓reduceIte, Nat.reduceSub]
 refine (len64_ok (x := x)).det ?_
 simp -dsimp +decide only [va, vl, ↓reduceIte]
 exact Vw.done ⟨rfl, rfl, rfl⟩
theorem pdqs_ok {T : Tbl} {i n : Nat} {d : Array UInt64} {lim : Int} (hi : i < T.length) (hn : d.size = n) (hB : n <= 12) :
 CallA prog G 81 [.sl i 0 n, wint (0 : Nat), wint (n : Int), .p (.int .i64 lim)] (TB T i d) fun v T' es => v = .tu [] /\ T' = TB T i (Sort.insertionSort ltU d 0 n) /\ es = [(i, false)] := by
 have tg := TB_get hi
 refine CallA.eV 19 func81 ntmps81 results81 ?_
 simp -dsimp +decide only [vq, ↓reduceIte, Nat.reduceSub, Nat.reduceAdd, ci]
 simp -dsimp +decide (disch := omega) only [tg]
 refine SemA.loopE (fun _ : Unit => [(0, .sl i 0 n), (1, wint (0 : Nat)), (2, wint (n : Int)), (3, .p (.int .i64 lim))]) (fun _ => TB T i d) (fun _ => True) (fun _ => 0) () [(i, false)] 0 (fun _ : Unit => []) (fun _ => T) (fun _ => False) trivial (by (simp -dsimp +decide (disch := omega) only [vq, Nat.reduceAdd, ci])) rfl (by simp) ?_ (fun _ _ _ h => h.elim)
 rintro _ g -
 refine SemA.blk ?_
 refine SemA.o ?_
 simp -dsimp +decide (disch := omega) only [vq, ↓reduceIte, Nat.reduceAdd, ci, vi]
 refine CondP.dec (fun h => ?_) (fun h => ?_)
 . simp -dsimp +decide (disch := omega) only [va, en, ↓reduceIte]
   refine (ins_ok (a := 0) (b := n) hi hn (Nat.zero_le _) (Nat.le_refl _) (by omega)).det' ?_
   simp -dsimp +decide (disch := omega) only [va, ↓reduceIte, tg]
   refine Vw.eff (E' := [(i, false)]) (by simp) ?_
   exact Vw.done ⟨rfl, rfl, rfl⟩
 . omega
theorem sorts_ok {T : Tbl} {i n : Nat} {d : Array UInt64} (hi : i < T.length) (hn : d.size = n) (hB : n <= 12) :
 CallA prog G 61 [.sl i 0 n] (TB T i d) fun v T' es => v = .tu [] /\ T' = TB T i (Sort.sort ltU d) /\ es = [(i, false)] := by
 have tg := TB_get hi
 refine CallA.eV 3 func61 ntmps61 results61 ?_
 simp -dsimp +decide only [vp0, vu, ty, en, ↓reduceIte, Nat.reduceSub]
 have h1 : (UInt64.ofInt (n : Int)).toNat = n := by rw [UInt64.ofInt]; simp; omega
 refine (len_ok (x := UInt64.ofInt (n : Int))).det ?_
 simp -dsimp +decide (disch := omega) only [va, vl, en, ↓reduceIte, tg]
 refine (pdqs_ok hi hn hB).det' ?_
 simp -dsimp +decide (disch := omega) only [va, ↓reduceIte, tg]
 refine Vw.done ⟨rfl, ?_, rfl⟩
 congr 1
 obtain ⟨k1, k2⟩ := Sort.sort_sorts ltU swoU d
 obtain ⟨k3, k4⟩ := Sort.insertionSort_holds swoU d 0 n (Nat.zero_le _) (by omega)
 subst hn
 have ha : ∀ x y, ltU x y = false -> ltU y x = false -> x = y := fun x y h1 h2 => by simp [ltU] at h1 h2; exact UInt64.le_antisymm h2 h1
 have u1 := Sort.sorted_unique_holds swoU ha d _ k3 k4
 have u2 := Sort.sorted_unique_holds swoU ha d _ k1 k2
 exact Array.toList_inj.1 (u1.trans u2.symm)
theorem TB_self {T : Tbl} {i : Nat} {d : Array UInt64} (h : T[i]? = some (.buf 69 1 (D d))) : TB T i d = T := by
 unfold TB
 obtain ⟨h1, h2⟩ := List.getElem?_eq_some_iff.1 h
 rw [<- h2, List.set_getElem_self]
theorem sort_at {T : Tbl} {i n : Nat} {d : Array UInt64} (hT : T[i]? = some (.buf 69 1 (D d))) (hn : d.size = n) (hB : n <= 12) :
 CallA prog G 61 [.sl i 0 n] T fun v T' es => v = .tu [] /\ T' = T.set i (.buf 69 1 (D (Sort.sort ltU d))) /\ es = [(i, false)] := by
 have := sorts_ok (T := T) (i := i) (d := d) (List.getElem?_eq_some_iff.1 hT).1 hn hB
 rw [TB_self hT] at this
 exact this
def nm (id : List UInt8) (n : Nat) (h : List UInt8) : UInt64 := numS id h (UInt64.ofInt (n : Int))
def nums (id : List UInt8) (hs : List (List UInt8)) : List UInt64 := (uniq hs).map (nm id (uniq hs).length)
def srt (l : List UInt64) : List UInt64 := (Sort.sort ltU l.toArray).toList
theorem srt_len (l : List UInt64) : (srt l).length = l.length := by
 obtain ⟨k1, k2⟩ := Sort.sort_sorts ltU swoU l.toArray
 have := k1.1
 simpa [srt] using this
theorem D_srt (l : List UInt64) : D (Sort.sort ltU l.toArray) = (srt l).map w64 := rfl
theorem cleanw (l : List UInt64) : ∀ a ∈ l.map w64, a.Clean := by
 intro a ha; obtain ⟨x, _, rfl⟩ := List.mem_map.1 ha; exact .p _
theorem get_n0 (T : Tbl) (o : AObj) (l : Tbl) : (T ++ o :: l)[T.length]? = some o := by simp
theorem get_n1 (T : Tbl) (a o : AObj) (l : Tbl) : (T ++ a :: o :: l)[T.length + 1]? = some o := by simp
theorem get_n2 (T : Tbl) (a b o : AObj) (l : Tbl) : (T ++ a :: b :: o :: l)[T.length + 2]? = some o := by simp
theorem numbers_ok {T : Tbl} {a : AV} {id : List UInt8} {hs : List (List UInt8)} (hid : id.length = 32) (hb : Es T 32 H8 a hs) (hl : hs.length <= 12) :
 CallA prog G 34 [.ag (id.map by8), a] T fun v T' es => v = .tu [.vs ((srt (nums id hs)).map w64) (nums id hs).length, .p (.int .i64 0)] /\ T' = T /\ es = [] := by
 have hul : (uniq hs).length <= 12 := Nat.le_trans (uniqF_len hs []) (by simpa using hl)
 have h32 : H32 (uniq hs) := uniq_32 fun x hx => by simpa using hb.wd x hx
 refine CallA.wfs fun wf => ?_
 have wt := wf.t
 have wp := wf.p
 refine CallA.eV 18 func34 ntmps34 results34 ?_
 simp -dsimp +decide only [vp0, en, ↓reduceIte, Nat.reduceSub, Nat.reduceAdd]
 refine (unlike_ok (hb.app _) (by omega)).det ?_
 obtain ⟨u, hu⟩ : ∃ u, u = uniq hs := ⟨_, rfl⟩
 rw [<- hu] at hul h32 ⊢
 simp -dsimp +decide (disch := omega) only [vp0, ty, ↓reduceIte]
 have hgt : ((4096 : Int) < (u.length : Int)) = False := by simp; omega
 simp -dsimp +decide (disch := omega) only [vp0, ty, ↓reduceIte, hgt]
 refine SemA.adopt 7 69 1 (by decide) rfl ?_
 simp -dsimp +decide only [vp0, List.length_append]
 refine SemA.loopC (fun s : Nat => [(2, .ptr T.length 0), (6, .vs (u.flatMap H8) u.length), (7, .sl (T.length + 1) 0 s), (15, .vs (u.flatMap H8) u.length), (16, wint (u.length : Int)), (17, wint (s : Int))]) (fun s => T ++ [.cells 33 (id.map by8), .buf 69 1 (((u.take s).map (nm id u.length)).map w64)]) (fun s => s <= u.length) (fun s => u.length - s) (T.length + 2) 0 [] (by kernel_rfl) (by omega) (by omega) (by (simp -dsimp +decide only [vq, Nat.reduceAdd, ci])) (by simp) (by simp) ?_
 rintro i g hi
 simp -dsimp +decide only [vq, ↓reduceIte, Nat.reduceAdd]
 refine CondP.dec (fun h => ?_) (fun h => ?_)
 . obtain ⟨y, hy⟩ : ∃ y, u[i]? = some y := ⟨u[i]'(by omega), by simp⟩
   have hy32 : y.length = 32 := h32 y (List.mem_of_getElem? hy)
   have hfa := flat_at (f := H8) (h8 h32) hy
   have hwr := wr32 y hy32
   have hon := ones8 y
   simp -dsimp +decide (disch := omega) only [vq, ty, en, ↓reduceIte, Nat.reduceAdd, Nat.reduceLT, hfa, z32_eq, z32_len, hwr, hon, hy32, tk32 y hy32, tk32 id hid, hid]
   have hlu : (u.flatMap H8).length = u.length * 32 := flat_len (h8 h32)
   have hne : List.flatMap H8 u ≠ [] := fun e => by rw [e] at hlu; simp at hlu; omega
   refine ⟨⟨by omega, by omega, hne⟩, by omega, ?_⟩
   refine (number_ok hid hy32 (by omega)).det ?_
   have htl : ((u.take i).map (nm id u.length)).length = i := by simp; omega
   have htk : (u.take (i + 1)).map (nm id u.length) = (u.take i).map (nm id u.length) ++ [nm id u.length y] := by
    rw [List.take_add_one, hy]; simp
   simp -dsimp +decide (disch := omega) only [vq, ty, ↓reduceIte, Nat.reduceAdd, vi, vt, wt, List.length_map, List.length_take]
   repeat (refine And.intro (by omega) ?_)
   refine ⟨i + 1, by omega, by omega, by first | rfl | (and_intros <;> first | rfl | (simp; done)), ?_⟩
   simp only [htk, List.map_append]; rfl
 . have hi : i = u.length := by omega
   subst hi
   rw [List.take_length]
   refine (sort_at (d := (u.map (nm id u.length)).toArray) (get_n1 _ _ _ _) (by simp) (by omega)).det' ?_
   rw [D_srt]
   simp -dsimp +decide (disch := omega) only [va, ↓reduceIte]
   refine Vw.pub (T.length + 1) (o := .buf 69 1 ((srt (u.map (nm id u.length))).map w64)) (by (simp -dsimp +decide only [va])) rfl (cleanw _) ?_
   simp -dsimp +decide only [va, vl, ↓reduceIte, wp]
   refine Vw.cut ⟨?_, rfl, rfl⟩
   unfold nums
   rw [<- hu, List.length_map]; rfl
theorem getm (l : List UInt64) (k : Nat) : (l.map w64)[k]? = (l[k]?).map w64 := List.getElem?_map ..
def pk (out : List UInt8) (i : Nat) (bit : UInt8) : List UInt8 :=
 let o := if i % 8 = 0 then out ++ [0] else out
 o.set (o.length - 1) (o[o.length - 1]! ||| u8_shl bit (7 - i % 8))
theorem pk_len (out : List UInt8) (i : Nat) (bit : UInt8) : (pk out i bit).length = if i % 8 = 0 then out.length + 1 else out.length := by
 unfold pk; dsimp only; split <;> simp
theorem get8 (l : List UInt8) {k : Nat} (h : k < l.length) : (l.map by8)[k]? = some (by8 l[k]!) := by
 rw [List.getElem?_map, getElem!_pos l k h]; simp [h]
def PR (T : Tbl) (o : AObj) (out : List UInt8) (left : Nat) : Tbl := T ++ [o, .buf 5 1 (out.map by8), .cells 102 [.sl (T.length + 1) 0 out.length, wint (left : Int)]]
def EP (T : Tbl) : Eff := [(T.length + 1, true), (T.length + 1, false), (T.length + 2, false)]
structure Wft (T : Tbl) : Prop where
 wf : ∀ q : Nat -> Bool, (∀ i, i < T.length -> q i = false) -> T.map (AObj.wo q) = T
theorem rput_ok {T : Tbl} {o : AObj} {out : List UInt8} {i : Nat} {bit : UInt64} (hw : Wft T) (hob : ∀ q, o.wo q = o) (ho : i % 8 = 0 ∨ 0 < out.length) (hl : out.length <= 1099511627776) :
 CallA prog G 36 [.ptr (T.length + 2) 0, w64 bit] (PR T o out ((8 - i % 8) % 8)) fun v T' es => v = .tu [] /\ T' = PR T o (pk out i bit.toUInt8) (7 - i % 8) /\ es = EP T := by
 have wt : (∀ k, T.map (AObj.wo (fun j => j == T.length + k)) = T) := fun k => hw.wf _ fun i hi => by simp; omega
 have wt3 : T.map (AObj.wo (fun j => decide (T.length + 3 <= j))) = T := hw.wf _ fun i hi => by simp; omega
 have hrec : (∀ b E, rec1 (T.length + 3) (T.length + 1) b E = (T.length + 1, b) :: E) /\ (∀ b E, rec1 (T.length + 3) (T.length + 2) b E = (T.length + 2, b) :: E) := ⟨fun b E => by simp [rec1], fun b E => by simp [rec1]⟩
 by_cases h0 : i % 8 = 0
 . have hpk : pk out i bit.toUInt8 = (out ++ [0]).set out.length ((0 : UInt8) ||| u8_shl bit.toUInt8 7) := by
    unfold pk; simp [h0]
   rw [hpk, h0]
   refine CallA.eV 4 func36 ntmps36 results36 ?_
   simp -dsimp +decide only [vq, ty, ↓reduceIte, Nat.reduceSub, Nat.reduceAdd]
   unfold PR
   simp -dsimp +decide (disch := omega) only [vq, ty, ↓reduceIte, Nat.reduceAdd, Nat.reduceLT, Int.reduceSub, vi, vt, hob, wt]
   refine ⟨by omega, ?_⟩
   refine SemA.drawS (.fl 0 (.fl 1 (.fl 2 (.fl 3 (.fl 4 (.fl 5 (.fl 6 (.fl 7 (.fl 8 (.fl 9 (.fl 10 (.fl 11 (.fl 12 (.fl 13 (.fl 14 (.fl 15 (.fl 16 (.fl 17 (.fl 18 (.fl 19 (.fl 20 (.sq 21 .nil)))))))))))))))))))))) mixed (by kernel_rfl) ?_
   have hlo : (out ++ [0]).length = out.length + 1 := by simp
   have hg := get8 (out ++ [0]) (k := out.length) (by simp)
   have hz : (out ++ [(0 : UInt8)])[out.length]! = 0 := by rw [getElem!_pos _ _ (by simp)]; simp
   rw [hz] at hg
   have hmap : List.map by8 out ++ [AV.p (.int .u8 0)] = List.map by8 (out ++ [0]) := by rw [List.map_append]; rfl
   simp -dsimp +decide (disch := omega) only [vy, vr, ty, ↓reduceIte, Nat.reduceLT, Int.reduceToNat, vi, getO_i, hrec, hmap, List.length_map, hlo]
   have hne : List.map by8 (out ++ [0]) ≠ [] := by simp
   refine ⟨⟨by omega, by omega, hne⟩, ⟨by omega, by omega, hne⟩, by omega, ?_⟩
   rw [show out.length + 1 - 1 = out.length by omega, hz]
   refine Vw.eff (E' := EP T) (by simp [EP]) ?_
   refine Vw.cutN (T.length + 3) (by simp) ?_
   simp -dsimp +decide only [vq, ↓reduceIte, vt, hob, wt3]
   refine Vw.done ⟨rfl, ?_, rfl⟩
   rw [List.length_set, hlo]; rfl
 . have h8 : (8 - i % 8) % 8 = 8 - i % 8 := by omega
   have ho' : 0 < out.length := by omega
   have hpk : pk out i bit.toUInt8 = out.set (out.length - 1) (out[out.length - 1]! ||| u8_shl bit.toUInt8 (7 - i % 8)) := by
    unfold pk; simp [h0]
   have hl0 : (((8 - i % 8 : Nat) : Int) = 0) = False := by simp; omega
   have hl1 : ((8 - i % 8 : Nat) : Int) - 1 = ((7 - i % 8 : Nat) : Int) := by omega
   rw [hpk, h8]
   have hg := get8 out (k := out.length - 1) (by omega)
   refine CallA.eV 4 func36 ntmps36 results36 ?_
   simp -dsimp +decide only [vq, ty, ↓reduceIte, Nat.reduceSub, Nat.reduceAdd]
   unfold PR
   simp -dsimp +decide (disch := omega) only [vq, ty, ↓reduceIte, Nat.reduceAdd, Nat.reduceLT, vi, hl0, hl1, hrec]
   refine SemA.drawS (.fl 0 (.fl 1 (.fl 2 (.fl 3 (.fl 4 (.fl 5 (.fl 6 (.fl 7 (.fl 8 (.fl 9 (.fl 10 (.fl 11 (.fl 12 (.fl 13 (.fl 14 (.fl 15 (.fl 16 (.fl 17 (.fl 18 (.fl 19 (.fl 20 (.sq 21 .nil)))))))))))))))))))))) mixed (by kernel_rfl) ?_
   simp -dsimp +decide (disch := omega) only [vy, vr, ty, ↓reduceIte, Nat.reduceLT, Int.reduceToNat, vi, hg, List.length_map, hrec]
   have hne : List.map by8 out ≠ [] := fun e => by rw [List.map_eq_nil_iff] at e; rw [e] at ho'; simp at ho'
   repeat (refine And.intro (by first | omega | exact ⟨by omega, by omega, hne⟩) ?_)
   refine Vw.eff (E' := EP T) (by simp [EP]) ?_
   refine Vw.done ⟨rfl, ?_, rfl⟩
   rw [List.length_set]; rfl
def pks (out : List UInt8) (i : Nat) : List UInt8 -> List UInt8
 | [] => out
 | b :: r => pks (pk out i b) (i + 1) r
def bitD (d : UInt64) : List UInt8 := List.replicate (d.toNat >>> 19) 1 ++ 0 :: (List.range 19).map fun j => (u64_shr d (18 - j) &&& 1).toUInt8
def bitsF (last : UInt64) : List UInt64 -> List UInt8
 | [] => []
 | x :: r => bitD (x - last) ++ bitsF x r
def filtB (l : List UInt64) : List UInt8 := pks (lbs (UInt64.ofInt (l.length : Int)) 4) 0 (bitsF 0 l)
def small (last : UInt64) : List UInt64 -> Prop
 | [] => True
 | x :: r => (x - last).toNat < 4294967296 /\ small x r
theorem bitD_len (d : UInt64) (h : d.toNat < 4294967296) : (bitD d).length <= 8212 := by
 simp only [bitD, List.length_append, List.length_replicate, List.length_cons, List.length_map, List.length_range]
 rw [Nat.shiftRight_eq_div_pow]; omega
theorem bitsF_len : ∀ (l : List UInt64) (last : UInt64), small last l -> (bitsF last l).length <= 8212 * l.length
 | [], _, _ => by simp [bitsF]
 | x :: r, last, h => by
   have h1 := bitD_len _ h.1
   have h2 := bitsF_len r x h.2
   rw [bitsF, List.length_append, List.length_cons]; omega
theorem moved_EP (T : Tbl) : moved (EP T) = (· == T.length + 1) := by
 funext j
 simp only [EP, moved, Bool.true_and, Bool.false_and, Bool.or_false]
 rw [Bool.eq_iff_iff]; simp
theorem slots_EP (T : Tbl) : (∀ l, slots (EP T) l = l.map (AV.wo (· == T.length + 1))) /\ (∀ l, slotsT (EP T) l = l.map fun p => (p.1, p.2.wo (· == T.length + 1))) := by
 refine ⟨fun l => ?_, fun l => ?_⟩
 . show l.map (AV.wo (moved (EP T))) = _; rw [moved_EP]
 . show (l.map fun p => (p.1, p.2.wo (moved (EP T)))) = _; rw [moved_EP]
theorem build_ok {T : Tbl} {a : AV} {id : List UInt8} {hs : List (List UInt8)} (hid : id.length = 32) (hb : Es T 32 H8 a hs) (hl : hs.length <= 12) (hsm : small 0 (srt (nums id hs))) :
 CallA prog G 16 [.ag (id.map by8), a] T fun v T' es => v = .tu [.vs ((filtB (srt (nums id hs))).map by8) (filtB (srt (nums id hs))).length, .p (.int .i64 0)] /\ T' = T /\ es = [] := by
 have hul : (uniq hs).length <= 12 := Nat.le_trans (uniqF_len hs []) (by simpa using hl)
 refine CallA.wfs fun wf => ?_
 have hw : Wft T := ⟨fun q hq => (wf.wf q hq).1⟩
 have wp := wf.p
 have htk := tk32 id hid
 refine CallA.eV 42 func16 ntmps16 results16 ?_
 simp -dsimp +decide only [vq, ty, en, ↓reduceIte, Nat.reduceSub, Nat.reduceAdd]
 simp -dsimp +decide (disch := omega) only [vc, hid, htk]
 refine (numbers_ok hid (hb.app _) hl).det ?_
 have hLn : (nums id hs).length = (srt (nums id hs)).length := (srt_len _).symm
 rw [hLn]
 have hLl : (srt (nums id hs)).length <= 4096 := by rw [srt_len]; exact Nat.le_trans (show (nums id hs).length <= 12 by simpa [nums] using hul) (by omega)
 obtain ⟨L, hL⟩ : ∃ L, L = srt (nums id hs) := ⟨_, rfl⟩
 rw [<- hL] at hLl hsm ⊢
 have hLi : ∀ k x, L[k]? = some x -> (L.map w64)[k]? = some (w64 x) := fun k x h => by rw [getm, h]; rfl
 obtain ⟨T1, hT1⟩ : ∃ T1, T1 = T ++ [.cells 33 (id.map by8)] := ⟨_, rfl⟩
 have hw1 : Wft T1 := ⟨fun q hq => by
  rw [hT1, List.map_append, hw.wf q fun i hi => hq i (by rw [hT1]; simp; omega)]
  show T ++ [AObj.cells _ ((id.map by8).map (AV.wo q))] = _
  rw [wo8]⟩
 have h1l : T1.length = T.length + 1 := by rw [hT1]; simp
 simp -dsimp +decide (disch := omega) only [vp0, vu, ty, en, ↓reduceIte]
 refine (put_nil (n := UInt64.ofInt (L.length : Int)) (k := 4) (.inr (.inr (.inl rfl)))).det' ?_
 rw [<- hT1]
 obtain ⟨o, ho⟩ : ∃ o, o = AObj.buf 5 1 [by8 (UInt64.ofInt (L.length : Int)).toUInt8] := ⟨_, rfl⟩
 have hob : ∀ q, o.wo q = o := fun q => by rw [ho]; show AObj.buf _ _ [AV.wo q (.p _)] = _; rw [AV.wo]; rfl
 rw [<- ho]
 have hPR0 : T1 ++ [o, .buf 5 1 ((lbs (UInt64.ofInt (L.length : Int)) 4).map by8), .cells 102 [.sl (T1.length + 1) 0 4, .p (.int .i64 0)]] = PR T1 o (lbs (UInt64.ofInt (L.length : Int)) 4) 0 := by
  unfold PR; rw [lbs_len]; rfl
 simp -dsimp +decide (disch := omega) only [vp0, ty, ↓reduceIte, Nat.reduceAdd, hPR0]
 have sE := slots_EP T1
 have hrE : ∀ E, recE T.length (EP T1) E = E := fun E => by
  have h1 : ¬ T1.length + 1 < T.length := by omega
  have h2 : ¬ T1.length + 2 < T.length := by omega
  simp [EP, recE, rec1, h1, h2]
 have tg : (∀ (out : List UInt8) (l : Nat), (PR T1 o out l)[T1.length + 2]? = some (.cells 102 [.sl (T1.length + 1) 0 out.length, wint (l : Int)])) := fun out l => get_n2 _ _ _ _ _
 have kEq : ∀ k j : Nat, (T1.length + k == T1.length + j) = (k == j) := fun k j => by rw [Bool.eq_iff_iff]; simp
 have hbl := bitsF_len L 0 hsm
 obtain ⟨hdr, hhdr⟩ : ∃ hdr, hdr = lbs (UInt64.ofInt (L.length : Int)) 4 := ⟨_, rfl⟩
 have hh4 : hdr.length = 4 := by rw [hhdr, lbs_len]
 have hfin : filtB L = pks hdr 0 (bitsF 0 L) := by rw [hhdr]; rfl
 rw [<- hhdr]
 obtain ⟨lf, hlf⟩ : ∃ lf : Nat -> Nat, lf = fun i => (8 - i % 8) % 8 := ⟨_, rfl⟩
 have hput : ∀ {out : List UInt8} {i : Nat} {bit : UInt64}, (i % 8 = 0 ∨ 0 < out.length) -> out.length <= 1099511627776 -> CallA prog G 36 [.ptr (T1.length + 2) 0, w64 bit] (PR T1 o out (lf i)) fun v T' es => v = .tu [] /\ T' = PR T1 o (pk out i bit.toUInt8) (lf (i + 1)) /\ es = EP T1 := fun {out i bit} h1 h2 => by
  have := rput_ok (o := o) (out := out) (i := i) (bit := bit) hw1 hob h1 h2
  rw [hlf]
  dsimp only
  rwa [show (8 - (i + 1) % 8) % 8 = 7 - i % 8 by omega]
 refine SemA.loopE (fun s : Nat × UInt64 × List UInt8 × Nat => [(8, .ptr (T1.length + 2) 0), (9, w64 s.2.1), (29, .vs (L.map w64) L.length), (30, wint (L.length : Int)), (31, wint (s.1 : Int))]) (fun s => PR T1 o s.2.2.1 (lf s.2.2.2)) (fun s => s.1 <= L.length /\ small s.2.1 (L.drop s.1) /\ s.2.2.1.length = 4 + (s.2.2.2 + 7) / 8 /\ s.2.2.2 + (bitsF s.2.1 (L.drop s.1)).length = (bitsF 0 L).length /\ pks s.2.2.1 s.2.2.2 (bitsF s.2.1 (L.drop s.1)) = filtB L) (fun s => L.length - s.1) (0, 0, hdr, 0) [] 0 (fun s : Nat => [(8, .ptr (T1.length + 2) 0)]) (fun s => PR T1 o (filtB L) s) (fun _ => True) ⟨by simp, hsm, by simp [hh4], by simp, by rw [hfin]; rfl⟩ (by (simp -dsimp +decide (disch := omega) only [vq, Nat.reduceAdd, ci]); rfl) (by rw [hlf]; simp) (by simp) ?_ ?_
 . rintro ⟨s, last, out, i⟩ g ⟨hs, hsm1, hol, hbt, hpk⟩
   dsimp only at hs hsm1 hol hbt hpk
   refine SemA.o ?_
   simp -dsimp +decide (disch := omega) only [vq, ↓reduceIte, Nat.reduceAdd]
   refine CondP.dec (fun h => ?_) (fun h => ?_)
   . obtain ⟨x, hx⟩ : ∃ x, L[s]? = some x := ⟨L[s]'(by omega), by simp⟩
     have hd : L.drop s = x :: L.drop (s + 1) := by
      obtain ⟨h1, rfl⟩ := List.getElem?_eq_some_iff.1 hx
      exact List.drop_eq_getElem_cons h1
     have hxg := hLi s x hx
     have hne : L.map w64 ≠ [] := fun e => by rw [List.map_eq_nil_iff] at e; rw [e] at hx; simp at hx
     rw [hd] at hsm1 hbt hpk
     obtain ⟨hx32, hsm2⟩ := hsm1
     rw [bitsF, List.length_append] at hbt
     rw [bitsF] at hpk
     obtain ⟨d, hdd⟩ : ∃ d, d = x - last := ⟨_, rfl⟩
     rw [<- hdd] at hx32 hbt hpk
     obtain ⟨rest, hrest⟩ : ∃ rest, rest = bitsF x (L.drop (s + 1)) := ⟨_, rfl⟩
     rw [<- hrest] at hbt hpk
     simp -dsimp +decide (disch := omega) only [vr, ty, ↓reduceIte, Int.reduceToNat, hxg, <- hdd]
     refine ⟨⟨by omega, by omega, hne⟩, ?_⟩
     have hq : (u64_shr d 19).toNat = d.toNat >>> 19 := by rw [u64_shr, if_pos (by omega), UInt64.toNat_shiftRight]; rfl
     have hq2 : d.toNat >>> 19 < 8192 := by rw [Nat.shiftRight_eq_div_pow]; omega
     obtain ⟨low, hlow⟩ : ∃ low, low = (List.range 19).map fun j => (u64_shr d (18 - j) &&& 1).toUInt8 := ⟨_, rfl⟩
     have hlowl : low.length = 19 := by rw [hlow]; simp
     have hbD : bitD d = List.replicate (d.toNat >>> 19) 1 ++ 0 :: low := by rw [hlow]; rfl
     rw [hbD] at hpk hbt
     simp only [List.length_append, List.length_replicate, List.length_cons, hlowl] at hbt
     refine SemA.loopE (fun s' : Nat × List UInt8 × Nat => [(8, .ptr (T1.length + 2) 0), (9, w64 x), (12, w64 d), (29, .vs (L.map w64) L.length), (30, wint (L.length : Int)), (31, wint (s : Int)), (40, w64 (u64_shr d 19)), (41, .p (.int .u64 (s'.1 : Int)))]) (fun s' => PR T1 o s'.2.1 (lf s'.2.2)) (fun s' => s'.1 <= d.toNat >>> 19 /\ s'.2.1.length = 4 + (s'.2.2 + 7) / 8 /\ s'.2.2 = i + s'.1 /\ pks s'.2.1 s'.2.2 (List.replicate (d.toNat >>> 19 - s'.1) 1 ++ 0 :: low ++ rest) = filtB L) (fun s' => d.toNat >>> 19 - s'.1) (0, out, i) [] 2 (fun s' : List UInt8 => [(8, .ptr (T1.length + 2) 0), (9, w64 x), (12, w64 d), (29, .vs (L.map w64) L.length), (30, wint (L.length : Int)), (31, wint (s : Int))]) (fun s' => PR T1 o s' (lf (i + d.toNat >>> 19))) (fun s' => s'.length = 4 + (i + d.toNat >>> 19 + 7) / 8 /\ pks s' (i + d.toNat >>> 19) (0 :: low ++ rest) = filtB L) ⟨by simp, hol, by simp, by simpa using hpk⟩ (by (simp -dsimp +decide (disch := omega) only [vq, Nat.reduceAdd, ci])) rfl (by simp) ?_ ?_
     . rintro ⟨k, out1, i1⟩ g1 ⟨hk, hol1, hi1, hpk1⟩
       dsimp only at hk hol1 hi1 hpk1
       subst hi1
       refine SemA.o ?_
       simp -dsimp +decide (disch := omega) only [vq, ↓reduceIte, Nat.reduceAdd, hq]
       refine CondP.dec (fun h => ?_) (fun h => ?_)
       . have hrep : d.toNat >>> 19 - k = (d.toNat >>> 19 - (k + 1)) + 1 := by omega
         rw [hrep, List.replicate_succ, List.cons_append, List.cons_append, pks] at hpk1
         simp -dsimp +decide (disch := omega) only [va, en, ↓reduceIte]
         refine (hput (out := out1) (i := i + k) (bit := 1) (by omega) (by omega)).det' ?_
         have hk0 : (UInt64.ofInt (k : Int)).toNat = k := by
          rw [UInt64.ofInt]; simp; omega
         simp -dsimp +decide (disch := omega) only [vz, vze, vr, ↓reduceIte, Nat.reduceAdd, sE, hrE, kEq]
         refine ⟨(k + 1, pk out1 (i + k) 1, i + k + 1), ⟨⟨by dsimp only; omega, ?_, by dsimp only; omega, hpk1⟩, by dsimp only; omega⟩, by first | rfl | (and_intros <;> first | rfl | (simp [hk0]; omega)), by first | rfl | (and_intros <;> first | rfl | (simp; done))⟩
         dsimp only
         rw [pk_len]; split <;> omega
       . have hk0 : k = d.toNat >>> 19 := by omega
         subst hk0
         rw [Nat.sub_self] at hpk1
         simp -dsimp +decide (disch := omega) only [vz, vze, vq, ↓reduceIte, Nat.reduceAdd]
         exact ⟨out1, ⟨hol1, hpk1⟩, rfl⟩
     . rintro out1 g1 tmp1 ⟨hol1, hpk1⟩
       obtain ⟨i1, hi1⟩ : ∃ i1, i1 = i + d.toNat >>> 19 := ⟨_, rfl⟩
       rw [<- hi1] at hol1 hpk1 ⊢
       rw [List.cons_append, pks] at hpk1
       simp -dsimp +decide (disch := omega) only [vq, en, ↓reduceIte, Nat.reduceAdd]
       refine (hput (out := out1) (i := i1) (bit := 0) (by omega) (by omega)).det' ?_
       have hol2 : (pk out1 i1 0).length = 4 + (i1 + 1 + 7) / 8 := by rw [pk_len]; split <;> omega
       have hpk1' : pks (pk out1 i1 (UInt64.toUInt8 0)) (i1 + 1) (low ++ rest) = filtB L := hpk1
       simp -dsimp +decide (disch := omega) only [va, ↓reduceIte, sE, hrE, kEq]
       obtain ⟨i2, hi2⟩ : ∃ i2, i2 = i1 + 1 := ⟨_, rfl⟩
       rw [<- hi2] at hol2 hpk1' ⊢
       refine SemA.loopE (fun s' : Nat × List UInt8 => [(8, .ptr (T1.length + 2) 0), (9, w64 x), (12, w64 d), (13, wint (18 - (s'.1 : Int))), (29, .vs (L.map w64) L.length), (30, wint (L.length : Int)), (31, wint (s : Int))]) (fun s' => PR T1 o s'.2 (lf (i2 + s'.1))) (fun s' => s'.1 <= 19 /\ s'.2.length = 4 + (i2 + s'.1 + 7) / 8 /\ pks s'.2 (i2 + s'.1) (low.drop s'.1 ++ rest) = filtB L) (fun s' => 19 - s'.1) (0, pk out1 i1 (UInt64.toUInt8 0)) [] 4 (fun s' : List UInt8 => [(8, .ptr (T1.length + 2) 0), (9, w64 x), (29, .vs (L.map w64) L.length), (30, wint (L.length : Int)), (31, wint (s : Int))]) (fun s' => PR T1 o s' (lf (i2 + 19))) (fun s' => s'.length = 4 + (i2 + 19 + 7) / 8 /\ pks s' (i2 + 19) rest = filtB L) ⟨by simp, hol2, by simpa using hpk1'⟩ (by (simp -dsimp +decide (disch := omega) only [vq, Nat.reduceAdd, Int.reduceSub, ci])) rfl (by simp) ?_ ?_
       . rintro ⟨j, out2⟩ g2 ⟨hj, hol3, hpk2⟩
         dsimp only at hj hol3 hpk2
         refine SemA.o ?_
         simp -dsimp +decide (disch := omega) only [vq, ↓reduceIte, Nat.reduceAdd]
         refine CondP.dec (fun h => ?_) (fun h => ?_)
         . have hld : low.drop j = (u64_shr d (18 - j) &&& 1).toUInt8 :: low.drop (j + 1) := by
            rw [List.drop_eq_getElem_cons (by omega)]
            congr 1
            subst hlow; simp
           rw [hld, List.cons_append, pks] at hpk2
           have hj18 : (18 : Int) - (j : Int) = ((18 - j : Nat) : Int) := by omega
           simp -dsimp +decide (disch := omega) only [vp0, vu, en, ↓reduceIte, hj18]
           refine ⟨by omega, ?_⟩
           refine (hput (out := out2) (i := i2 + j) (bit := u64_shr d (18 - j) &&& UInt64.ofInt 1) (by omega) (by omega)).det' ?_
           simp -dsimp +decide (disch := omega) only [vz, vze, vq, ↓reduceIte, Nat.reduceAdd, vi, sE, hrE, kEq]
           refine ⟨(j + 1, pk out2 (i2 + j) (u64_shr d (18 - j) &&& 1).toUInt8), ⟨⟨by dsimp only; omega, ?_, hpk2⟩, by dsimp only; omega⟩, ?_, rfl⟩
           . dsimp only; rw [pk_len]; split <;> omega
           . dsimp only
             first | (rw [show ((18 - j : Nat) : Int) - 1 = 18 - ((j + 1 : Nat) : Int) by omega]) | (rw [show ((18 - j : Nat) : Int) - 1 = 18 - ((j + 1 : Nat) : Int) by omega]; exact ⟨rfl, rfl⟩)
         . have hj19 : j = 19 := by omega
           subst hj19
           rw [List.drop_eq_nil_of_le (by omega)] at hpk2
           simp -dsimp +decide (disch := omega) only [vz, vze, vq, ↓reduceIte, Nat.reduceAdd, Int.reduceSub, ci]
           exact ⟨out2, ⟨hol3, hpk2⟩, rfl⟩
       . rintro out2 g2 tmp2 ⟨hol3, hpk2⟩
         simp -dsimp +decide (disch := omega) only [vz, vze, vq, ↓reduceIte, Nat.reduceAdd, vi]
         exact ⟨(s + 1, x, out2, i2 + 19), ⟨⟨by dsimp only; omega, hsm2, hol3, by dsimp only; rw [<- hrest]; omega, by dsimp only; rw [<- hrest]; exact hpk2⟩, by dsimp only; omega⟩, by first | rfl | (and_intros <;> first | rfl | (simp; done)), rfl⟩
   . have hd : L.drop s = [] := List.drop_eq_nil_of_le (by omega)
     rw [hd] at hpk
     have hpk : out = filtB L := hpk
     subst hpk
     simp -dsimp +decide (disch := omega) only [vz, vze, vp0, ↓reduceIte, Nat.reduceAdd]
     exact ⟨lf i, rfl⟩
 . rintro lft g tmp -
   simp -dsimp +decide (disch := omega) only [vq, ty, ↓reduceIte, Nat.reduceAdd, tg]
   refine Vw.pub (T1.length + 1) (o := .buf 5 1 ((filtB L).map by8)) (get_n1 _ _ _ _) rfl (clean8 _) ?_
   have hp2 : ∀ (l : List UInt8) (lf : Nat), ∃ l2, (List.set (List.map (AObj.pub (T1.length + 1) ((filtB L).map by8)) (PR T1 o l lf)) (T1.length + 1) .gone) = T ++ l2 := by
    intro l lf
    refine ⟨(List.set (List.map (AObj.pub (T1.length + 1) ((filtB L).map by8)) (PR T1 o l lf)) (T1.length + 1) .gone).drop T.length, ?_⟩
    conv => lhs; rw [<- List.take_append_drop T.length (List.set _ _ _)]
    congr 1
    rw [List.take_set_of_le (by omega), <- List.map_take]
    unfold PR
    rw [hT1, List.append_assoc, List.take_left]
    have := wp.1 2 ((filtB L).map by8)
    rw [show T.length + 2 = (T ++ [AObj.cells 33 (id.map by8)]).length + 1 by simp] at this
    exact this
   obtain ⟨l2, hl2⟩ := hp2 (filtB L) lft
   rw [hl2]
   refine Vw.cut ⟨?_, rfl, ?_⟩
   . simp -dsimp +decide only [va, ↓reduceIte]
   . rw [h1l, rec1, if_neg (by omega)]
def bits8 (x : UInt8) : List UInt64 := (List.range 8).map fun j => (u8_shr x (7 - j) &&& 1).toUInt64
def bitsQ (l : List UInt8) : List UInt64 := l.flatMap bits8
theorem bitsQ_snoc (l : List UInt8) (k : Nat) {x : UInt8} (h : l[k]? = some x) : bitsQ (l.take (k + 1)) = bitsQ (l.take k) ++ bits8 x := by
 rw [List.take_add_one, h]; simp [bitsQ]
theorem bits8_take (x : UInt8) (j : Nat) (h : j < 8) : (bits8 x).take (j + 1) = (bits8 x).take j ++ [(u8_shr x (7 - j) &&& 1).toUInt64] := by
 rw [List.take_add_one]; congr 1
 simp [bits8, h]
abbrev allF (l : List UInt8) : AV := .fn 83 [.vp [.vs (l.map by8) l.length] 0]
theorem all_ok {T : Tbl} {l : List UInt8} : CallA prog G 65 [.vs (l.map by8) l.length] T fun v T' es => v = allF l /\ T' = T /\ es = [] := by
 refine CallA.wfs fun wf => ?_
 have wp := wf.p
 refine CallA.eV 4 func65 ntmps65 results65 ?_
 simp -dsimp +decide only [vp0, ↓reduceIte, Nat.reduceSub]
 refine Vw.pub T.length (o := .cells 53 [.vs (l.map by8) l.length]) (by (simp -dsimp +decide only [va])) rfl (fun a ha => by simp at ha; rw [ha]; exact .vs _ _) ?_
 simp -dsimp +decide only [va, ↓reduceIte, wp]
 exact Vw.cut ⟨rfl, rfl, rfl⟩
theorem iter_ok {l : List UInt8} {i : Nat} (hl : l.length <= 1099511627776) : Iter prog G 83 [.vp [.vs (l.map by8) l.length] 0] (fun x => [w64 x]) (bitsQ l) i := by
 intro J Jx Ei T hEi hJ hy
 have hsm := slots_map Ei
 have hs1 := slot1_eq Ei
 have hsi := hs1.2.2.2.2.1 i hEi
 have hbp : ∀ k, k <= l.length -> bitsQ (l.take k) <+: bitsQ l := fun k _ => by
  refine ⟨bitsQ (l.drop k), ?_⟩
  rw [bitsQ, bitsQ, <- List.flatMap_append, List.take_append_drop]; rfl
 refine CallA.eV 9 func83 ntmps83 results83 ?_
 simp -dsimp +decide only [vp0, ty, ↓reduceIte, Nat.reduceSub, Nat.reduceAdd]
 refine SemA.loopE (fun s : Nat × Tbl => [(0, .yl i), (6, .vs (l.map by8) l.length), (7, wint (l.length : Int)), (8, wint (s.1 : Int))]) (fun s => s.2) (fun s => s.1 <= l.length /\ J (bitsQ (l.take s.1)) s.2) (fun s => l.length - s.1) (0, T) Ei 0 (fun _ : Tbl => []) (fun s => s) (fun s => J (bitsQ l) s) ⟨by simp, by simpa [bitsQ] using hJ⟩ (by (simp -dsimp +decide (disch := omega) only [vq, Nat.reduceAdd, ci])) rfl (by simp) ?_ ?_
 . rintro ⟨k, T1⟩ g ⟨hk, hJ1⟩
   dsimp only at hk hJ1
   refine SemA.o ?_
   simp -dsimp +decide (disch := omega) only [vq, ↓reduceIte, Nat.reduceAdd]
   refine CondP.dec (fun h => ?_) (fun h => ?_)
   . obtain ⟨x, hx⟩ : ∃ x, l[k]? = some x := ⟨l[k]'(by omega), by simp⟩
     have hxg : (l.map by8)[k]? = some (by8 x) := by rw [List.getElem?_map, hx]; rfl
     have hne : l.map by8 ≠ [] := fun e => by rw [List.map_eq_nil_iff] at e; rw [e] at hx; simp at hx
     have hsn := bitsQ_snoc l k hx
     have hp1 := hbp (k + 1) (by omega)
     rw [hsn] at hp1
     simp -dsimp +decide (disch := omega) only [vq, ty, ↓reduceIte, hxg]
     refine ⟨⟨by omega, by omega, hne⟩, ?_⟩
     refine SemA.loopE (fun s : Nat × Tbl => [(0, .yl i), (4, by8 x), (5, wint (7 - (s.1 : Int))), (6, .vs (l.map by8) l.length), (7, wint (l.length : Int)), (8, wint (k : Int))]) (fun s => s.2) (fun s => s.1 <= 8 /\ J (bitsQ (l.take k) ++ (bits8 x).take s.1) s.2) (fun s => 8 - s.1) (0, T1) Ei 2 (fun _ : Tbl => [(0, .yl i), (6, .vs (l.map by8) l.length), (7, wint (l.length : Int)), (8, wint (k : Int))]) (fun s => s) (fun s => J (bitsQ (l.take (k + 1))) s) ⟨by simp, by simpa using hJ1⟩ (by (simp -dsimp +decide (disch := omega) only [vq, Nat.reduceAdd, Int.reduceSub, ci])) rfl (by simp) ?_ ?_
     . rintro ⟨j, T2⟩ g2 ⟨hj, hJ2⟩
       dsimp only at hj hJ2
       refine SemA.o ?_
       simp -dsimp +decide (disch := omega) only [vq, ↓reduceIte, Nat.reduceAdd]
       refine CondP.dec (fun h => ?_) (fun h => ?_)
       . have hj7 : (7 : Int) - (j : Int) = ((7 - j : Nat) : Int) := by omega
         have htk := bits8_take x j (by omega)
         have hp2 : (bitsQ (l.take k) ++ (bits8 x).take j) ++ [(u8_shr x (7 - j) &&& 1).toUInt64] <+: bitsQ l := by
          rw [List.append_assoc, <- htk]
          exact ((List.prefix_append_right_inj _).2 (List.take_prefix _ _)).trans hp1
         simp -dsimp +decide (disch := omega) only [vp0, vu, ty, ↓reduceIte, hj7]
         have hp2' := hp2
         refine ⟨by omega, (hy _ _ T2 hp2 hJ2).mono ?_⟩
         rw [List.append_assoc, <- htk]
         rw [List.append_assoc, <- htk] at hp2'
         rintro v T3 E3 ⟨rfl, ⟨rfl, hJ3⟩ | ⟨rfl, hJ3⟩⟩
         . simp -dsimp +decide (disch := omega) only [vz, vze, vq, ↓reduceIte, Nat.reduceAdd, vi, hsm, hs1, subE_rec]
           exact ⟨(j + 1, T3), ⟨⟨by dsimp only; omega, hJ3⟩, by dsimp only; omega⟩, by rw [show ((7 - j : Nat) : Int) - 1 = 7 - ((j + 1 : Nat) : Int) by omega], rfl⟩
         . simp -dsimp +decide (disch := omega) only [vp0, ↓reduceIte, hsm, hs1]
           exact Vw.done ⟨fun y hy => (subE_rec T.length E3 E3 ▸ (fun y hy => hy : subE E3 E3) : subE (recE T.length E3 E3) E3) y hy, .inr ⟨_, hp2', hJ3⟩⟩
       . have : j = 8 := by omega
         subst this
         have h8 : (bits8 x).take 8 = bits8 x := List.take_of_length_le (by simp [bits8])
         simp -dsimp +decide (disch := omega) only [vz, vze, vq, ↓reduceIte, Nat.reduceAdd, Int.reduceSub, ci]
         exact ⟨T2, by rw [hsn, <- h8]; exact hJ2, rfl⟩
     . rintro T2 g2 tmp2 hJ2
       simp -dsimp +decide (disch := omega) only [vz, vze, vq, ↓reduceIte, Nat.reduceAdd, vi]
       exact ⟨(k + 1, T2), ⟨⟨by dsimp only; omega, hJ2⟩, by dsimp only; omega⟩, rfl, rfl⟩
   . have : k = l.length := by omega
     subst this
     simp -dsimp +decide (disch := omega) only [vz, vze, vp0, ↓reduceIte, Nat.reduceAdd]
     exact ⟨T1, by rwa [List.take_length] at hJ1, rfl⟩
 . rintro T1 g tmp1 hJ1
   simp -dsimp +decide (disch := omega) only [vp0, ↓reduceIte, Nat.reduceAdd]
   exact Vw.done ⟨fun y hy => hy, .inl hJ1⟩
structure RS where
 nums : List UInt64
 sum : UInt64
 q : UInt64
 low : UInt64
 count : Nat
 pad : Nat
 un : Bool
def RS.z : RS := ⟨[], 0, 0, 0, 0, 0, true⟩
def stp (n : UInt64) (s : RS) (b : UInt64) : Option RS :=
 if s.nums.length = n.toNat then if b = 1 ∨ 7 < s.pad + 1 then none else some { s with pad := s.pad + 1 }
 else if s.un = true then if b = 1 then some { s with q := s.q + 1 } else some { s with un := false }
 else if s.count + 1 < 19 then some { s with low := u64_shl s.low 1 ||| b, count := s.count + 1 }
 else if n * UInt64.ofInt 784931 <= s.sum + (u64_shl s.q 19 ||| (u64_shl s.low 1 ||| b)) then none
 else some { s with nums := s.nums ++ [s.sum + (u64_shl s.q 19 ||| (u64_shl s.low 1 ||| b))], sum := s.sum + (u64_shl s.q 19 ||| (u64_shl s.low 1 ||| b)), q := 0, low := 0, count := 0, un := true }
def fo (n : UInt64) : RS -> List UInt64 -> Option RS
 | s, [] => some s
 | s, b :: r => match stp n s b with
   | none => none
   | some s' => fo n s' r
theorem fo_snoc (n : UInt64) : ∀ (l : List UInt64) (s : RS) (b : UInt64), fo n s (l ++ [b]) = match fo n s l with | none => none | some s' => stp n s' b
 | [], s, b => by
   simp only [List.nil_append, fo]
   cases stp n s b <;> rfl
 | a :: l, s, b => by
   simp only [List.cons_append, fo]
   cases stp n s a with
   | none => rfl
   | some s' => exact fo_snoc n l s' b
theorem fo_none (n : UInt64) : ∀ (l m : List UInt64) (s : RS), fo n s l = none -> fo n s (l ++ m) = none
 | [], m, s, h => by simp [fo] at h
 | a :: l, m, s, h => by
   simp only [List.cons_append, fo] at h ⊢
   cases hs : stp n s a with
   | none => rfl
   | some s' => rw [hs] at h; exact fo_none n l m s' h
def rdB (n : UInt64) (bits : List UInt64) : Option (List UInt64) := match fo n RS.z bits with
 | none => none
 | some s => if s.nums.length < n.toNat then none else some s.nums
def readF (f : List UInt8) : Option (List UInt64) :=
 if 4 <= f.length /\ (le f 0 4).toNat <= 4096 then rdB (le f 0 4) (bitsQ (f.drop 4)) else none
def rdV : Option (List UInt64) -> AV
 | none => .tu [.p (.slice none 0 0), .p (.int .i64 5)]
 | some l => .tu [.vs (l.map w64) l.length, .p (.int .i64 0)]
theorem get_n3 (T : Tbl) (a b c o : AObj) (l : Tbl) : (T ++ a :: b :: c :: o :: l)[T.length + 3]? = some o := by simp
def URd (T : Tbl) (n : UInt64) (e : Int) (z : RS) : Tbl := T ++ [.cells 96 [.p (.slice none 0 0)], .cells 54 [wint e], .cells 69 [w64 n], .cells 96 [.sl (T.length + 10) 0 z.nums.length],
 .cells 69 [w64 z.sum], .cells 69 [w64 z.q], .cells 69 [w64 z.low], .cells 3 [wint (z.count : Int)], .cells 3 [wint (z.pad : Int)], .cells 4 [.p (.bool z.un)], .buf 69 1 (z.nums.map w64)]
def ER (k : Nat) : Eff := [(k + 12, false), (k + 10, true), (k, false), (k + 1, false), (k + 3, false), (k + 4, false), (k + 5, false), (k + 6, false), (k + 7, false), (k + 8, false), (k + 9, false)]
theorem slots_ER (k : Nat) : (∀ l, slots (ER k) l = l.map (AV.wo (· == k + 10))) /\ (∀ l, slotsT (ER k) l = l.map fun p => (p.1, p.2.wo (· == k + 10))) := by
 have hm : moved (ER k) = (· == k + 10) := by
  funext j
  simp only [ER, moved, Bool.true_and, Bool.false_and, Bool.false_or, Bool.or_false]
  rw [Bool.eq_iff_iff]; simp
 refine ⟨fun l => ?_, fun l => ?_⟩
 . show l.map (AV.wo (moved (ER k))) = _; rw [hm]
 . show (l.map fun p => (p.1, p.2.wo (moved (ER k)))) = _; rw [hm]
theorem rec_ER (k : Nat) (E : Eff) : recE k (ER k) E = E := by
 have h : ∀ j, ¬ k + j < k := fun j => by omega
 have h0 : ¬ k < k := by omega
 simp [ER, recE, rec1, h, h0]
def okR (n : UInt64) (z : RS) : Prop := z.nums.length <= n.toNat /\ z.pad <= 7 /\ z.count < 19
theorem read_ok {T : Tbl} {f : List UInt8} (hl : f.length <= 1099511627776) : CallA prog G 37 [.vs (f.map by8) f.length] T fun v T' es => v = rdV (readF f) /\ T' = T /\ es = [] := by
 refine CallA.wfs fun wf => ?_
 have hw : Wft T := ⟨fun q hq => (wf.wf q hq).1⟩
 have wt := wf.t
 have wp := wf.p
 have hb : Bs T (.vs (f.map by8) f.length) f := Bs.vs f
 refine CallA.eV 32 func37 ntmps37 results37 ?_
 simp -dsimp +decide only [vp0, ty, en, ↓reduceIte, Nat.reduceSub]
 refine (take_ok (at_ := 0) (size := 4) (hb.app _) (by omega) (by omega) (.inr (.inr (.inl rfl)))).det' ?_
 by_cases h4 : 4 <= f.length
 . have hif : (0 + 4 <= f.length) = True := by simp; omega
   obtain ⟨n, hn⟩ : ∃ n, n = le f 0 4 := ⟨_, rfl⟩
   rw [<- hn]
   simp -dsimp +decide (disch := omega) only [vp0, ty, ↓reduceIte, Nat.reduceAdd, Nat.reduceLT, ci, hif]
   refine CondP.dec (fun h => ?_) (fun h => ?_)
   . have hrd : readF f = none := by rw [readF, if_neg (by rw [<- hn]; omega)]
     rw [hrd]
     simp -dsimp +decide (disch := omega) only [vp0, ty, ↓reduceIte]
     exact Vw.cut ⟨rfl, rfl, rfl⟩
   . have hrd : readF f = rdB n (bitsQ (f.drop 4)) := by rw [readF, if_pos (by rw [<- hn]; omega), <- hn]
     rw [hrd]
     simp -dsimp +decide (disch := omega) only [vq, ty, en, ↓reduceIte, Nat.reduceAdd, Int.reduceToNat]
     obtain ⟨d, hd⟩ : ∃ d, d = f.drop 4 := ⟨_, rfl⟩
     have hdl : f.length - 4 = d.length := by rw [hd]; simp
     have hdt : List.take d.length d = d := List.take_length
     rw [<- hd, hdl, hdt]
     refine ⟨⟨h4, Nat.le_refl _⟩, ?_⟩
     refine (all_ok (l := d)).det' ?_
     simp -dsimp +decide (disch := omega) only [va, ↓reduceIte]
     refine SemA.adoptC (i := T.length + 3) (k := 0) 69 1 (by decide) (by omega) (get_n3 _ _ _ _ _ _) rfl ?_
     simp -dsimp +decide (disch := omega) only [vp0, Nat.reduceAdd]
     have wt13 : T.map (AObj.wo (fun j => decide (T.length + 13 <= j))) = T := hw.wf _ fun i hi => by simp; omega
     have sE := slots_ER T.length
     have kEq : ∀ k j : Nat, (T.length + k == T.length + j) = (k == j) := fun k j => by rw [Bool.eq_iff_iff]; simp
     refine SemA.range (g := 83) (cs := [.vp [.vs (d.map by8) d.length] 0]) (A := fun x => [w64 x]) (xs := bitsQ d) (T.length + 11) [(2, .ptr T.length 0), (3, .ptr (T.length + 1) 0), (4, .ptr (T.length + 2) 0), (7, .ptr (T.length + 3) 0), (8, .ptr (T.length + 4) 0), (9, .ptr (T.length + 5) 0), (10, .ptr (T.length + 6) 0), (11, .ptr (T.length + 7) 0), (12, .ptr (T.length + 8) 0), (13, .ptr (T.length + 9) 0)] (ER T.length) (fun _ z => URd T n 0 z) (fun pre z => fo n RS.z pre = some z /\ okR n z) (fun _ _ z => URd T n 5 z) (fun c pre _ => c = .ret /\ fo n RS.z pre = none) RS.z (by (simp -dsimp +decide only [va, ↓reduceIte])) (by (simp -dsimp +decide only [])) (by kernel_rfl) (fun _ => rfl) (by (simp -dsimp +decide only [vp0, Nat.reduceAdd])) rfl ⟨rfl, Nat.zero_le _, Nat.zero_le _, by decide⟩ (by omega) (fun _ _ _ => by simp [URd]) (fun _ _ _ _ => by simp [URd]) (by simp [ER, moved]) (iter_ok (by omega)) ?_ ?_ ?_ ?_
     . rintro l o1 o2 lv pre x z hpx ⟨hfo, hok1, hok2, hok3⟩
       unfold URd recA
       simp -dsimp +decide (disch := omega) only [vr, ty, ↓reduceIte, Nat.reduceAdd, putsA, List.zip_cons_cons, List.zip_nil_right]
       refine ⟨[], rfl, fun o3 => ?_⟩
       have hnl : (UInt64.ofInt (z.nums.length : Int)).toNat = z.nums.length := by rw [UInt64.ofInt]; simp; omega
       simp -dsimp +decide (disch := omega) only [hnl]
       refine CondP.dec (fun hc => ?_) (fun hc => ?_)
       . have hfs : fo n RS.z (pre ++ [x]) = if x = 1 ∨ 7 < z.pad + 1 then none else some { z with pad := z.pad + 1 } := by rw [fo_snoc, hfo]; dsimp only; rw [stp, if_pos (by omega)]
         by_cases hx1 : x = 1
         . have hxI : ((x.toNat : Int) = 1) = True := by subst hx1; simp
           rw [if_pos (.inl hx1)] at hfs
           simp -dsimp +decide (disch := omega) only [vq, ty, ↓reduceIte, Nat.reduceAdd, Nat.reduceLT, vi, vt, hxI]
           exact ⟨⟨{ z with pad := z.pad + 1 }, hfs, by first | (rw [wt13]; done) | (rw [wt13]; rfl)⟩, by simp [ER, rec1]⟩
         . have hxI : ((x.toNat : Int) = 1) = False := by
            have : x.toNat ≠ 1 := fun h => hx1 (UInt64.toNat_inj.1 h)
            exact eq_false (by omega)
           simp -dsimp +decide (disch := omega) only [vp0, ty, ↓reduceIte, Nat.reduceLT, vi, hxI]
           refine CondP.dec (fun h7 => ?_) (fun h7 => ?_)
           . rw [if_pos (.inr (by omega))] at hfs
             simp -dsimp +decide (disch := omega) only [vq, ↓reduceIte, Nat.reduceAdd, vt]
             exact ⟨⟨{ z with pad := z.pad + 1 }, hfs, by first | (rw [wt13]; done) | (rw [wt13]; rfl)⟩, by simp [ER, rec1]⟩
           . rw [if_neg (by rintro (h | h); exact hx1 h; omega)] at hfs
             simp -dsimp +decide (disch := omega) only [vq, ↓reduceIte, Nat.reduceAdd, vt]
             exact ⟨⟨_, ⟨hfs, hok1, by dsimp only; omega, hok3⟩, by first | (rw [wt13]; done) | (rw [wt13]; rfl)⟩, by simp [ER, rec1]⟩
       . have hne : ¬ z.nums.length = n.toNat := by omega
         have hfs : fo n RS.z (pre ++ [x]) = stp n z x := by rw [fo_snoc, hfo]
         rw [stp, if_neg hne] at hfs
         rcases hun : z.un with _ | _
         . rw [hun, if_neg (by simp)] at hfs
           simp -dsimp +decide (disch := omega) only [vp0, vu, ty, ↓reduceIte, Nat.reduceLT, Int.reduceToNat, vi]
           refine CondP.dec (fun h7 => ?_) (fun h7 => ?_)
           . rw [if_pos (by omega)] at hfs
             simp -dsimp +decide (disch := omega) only [vq, ↓reduceIte, Nat.reduceAdd, vt]
             exact ⟨⟨_, ⟨hfs, hok1, hok2, by dsimp only; omega⟩, by first | (rw [wt13]; done) | (rw [wt13]; rfl)⟩, by simp [ER, rec1]⟩
           . rw [if_neg (by omega)] at hfs
             obtain ⟨sm, hsm⟩ : ∃ sm, sm = z.sum + (u64_shl z.q 19 ||| (u64_shl z.low 1 ||| x)) := ⟨_, rfl⟩
             rw [<- hsm] at hfs
             simp -dsimp +decide (disch := omega) only [vp0, vu, ty, ↓reduceIte, Nat.reduceLT, Int.reduceToNat, <- hsm]
             refine CondP.dec (fun h8 => ?_) (fun h8 => ?_)
             . rw [if_pos (UInt64.le_iff_toNat_le.2 (by omega))] at hfs
               simp -dsimp +decide (disch := omega) only [vq, ↓reduceIte, Nat.reduceAdd, vt]
               exact ⟨⟨{ z with sum := sm, low := u64_shl z.low 1 ||| x, count := z.count + 1, un := false }, hfs, by first | (rw [wt13]; done) | (rw [wt13]; rfl)⟩, by simp [ER, rec1]⟩
             . rw [if_neg (fun h => h8 (by have := UInt64.le_iff_toNat_le.1 h; omega))] at hfs
               simp -dsimp +decide (disch := omega) only [vq, ty, ↓reduceIte, Nat.reduceAdd, Nat.reduceLT, vt, wt]
               refine ⟨by omega, ?_⟩
               exact ⟨⟨_, ⟨hfs, by simp only [List.length_append, List.length_singleton]; omega, hok2, Nat.zero_lt_succ _⟩, by simp only [List.length_append, List.length_singleton]; rfl⟩, by simp [ER, rec1]⟩
         . rw [hun, if_pos rfl] at hfs
           by_cases hx1 : x = 1
           . have hxI : ((x.toNat : Int) = 1) = True := by subst hx1; simp
             rw [if_pos hx1] at hfs
             simp -dsimp +decide (disch := omega) only [vr, ty, ↓reduceIte, Nat.reduceAdd, Nat.reduceLT, vt, hxI]
             exact ⟨⟨_, ⟨hfs, hok1, hok2, hok3⟩, by first | (rw [wt13]; done) | (rw [wt13]; rfl)⟩, by simp [ER, rec1]⟩
           . have hxI : ((x.toNat : Int) = 1) = False := by
              have : x.toNat ≠ 1 := fun h => hx1 (UInt64.toNat_inj.1 h)
              exact eq_false (by omega)
             rw [if_neg hx1] at hfs
             simp -dsimp +decide (disch := omega) only [vq, ty, ↓reduceIte, Nat.reduceAdd, vt, hxI]
             exact ⟨⟨_, ⟨hfs, hok1, hok2, hok3⟩, by first | (rw [wt13]; done) | (rw [wt13]; rfl)⟩, by simp [ER, rec1]⟩
     . rintro z o lv ⟨hfo, hok1, hok2, hok3⟩
       have hnl : (UInt64.ofInt (z.nums.length : Int)).toNat = z.nums.length := by rw [UInt64.ofInt]; simp; omega
       unfold URd recA
       simp -dsimp +decide (disch := omega) only [vr, ty, ↓reduceIte, Nat.reduceAdd, sE, kEq, rec_ER, hnl]
       refine CondP.dec (fun hc => ?_) (fun hc => ?_)
       . have hr0 : rdB n (bitsQ d) = none := by rw [rdB, hfo]; simp; omega
         rw [hr0]
         simp -dsimp +decide (disch := omega) only [vp0, ty, ↓reduceIte]
         refine Vw.new (E' := []) (by simp) ?_
         exact Vw.cut ⟨rfl, rfl, rfl⟩
       . have hr0 : rdB n (bitsQ d) = some z.nums := by rw [rdB, hfo]; simp; omega
         rw [hr0]
         simp -dsimp +decide (disch := omega) only [vp0, ty, ↓reduceIte, Nat.reduceLT]
         refine Vw.new (E' := []) (by simp) ?_
         refine Vw.pub (T.length + 10) (o := .buf 69 1 (z.nums.map w64)) (by (simp -dsimp +decide only [va])) rfl (cleanw _) ?_
         simp -dsimp +decide only [va, vl, ↓reduceIte, vt, wp]
         exact Vw.cut ⟨rfl, rfl, rfl⟩
     . rintro i pre z o lv hp ⟨h1, _⟩; cases h1
     . rintro pre z o lv ⟨suf, hp⟩ ⟨_, h2⟩
       have hr0 : rdB n (bitsQ d) = none := by rw [rdB, <- hp, fo_none _ _ _ _ h2]
       rw [hr0]
       unfold URd recA
       simp -dsimp +decide (disch := omega) only [vq, ty, ↓reduceIte, Nat.reduceAdd, sE, kEq, rec_ER]
       refine Vw.new (E' := []) (by simp) ?_
       exact Vw.cut ⟨rfl, rfl, rfl⟩
 . have hif : (0 + 4 <= f.length) = False := by simp; omega
   have hrd : readF f = none := by rw [readF, if_neg (by omega)]
   rw [hrd]
   simp -dsimp +decide (disch := omega) only [vp0, ty, ↓reduceIte, Nat.reduceAdd, hif]
   exact Vw.cut ⟨rfl, rfl, rfl⟩
theorem bitsQ_get : ∀ (d : List UInt8) (i : Nat), (bitsQ d)[i]? = (d[i / 8]?).map fun x => (u8_shr x (7 - i % 8) &&& 1).toUInt64
 | [], i => by simp [bitsQ]
 | x :: d, i => by
   rw [show bitsQ (x :: d) = bits8 x ++ bitsQ d by simp [bitsQ], List.getElem?_append]
   have hl : (bits8 x).length = 8 := by simp [bits8]
   rw [hl]
   split
   . rename_i h
     rw [show i / 8 = 0 by omega, show i % 8 = i by omega]
     simp [bits8, h]
   . rename_i h
     rw [bitsQ_get d (i - 8), show i / 8 = (i - 8) / 8 + 1 by omega, show i % 8 = (i - 8) % 8 by omega, List.getElem?_cons_succ]
def bitV : Option UInt64 -> AV
 | none => .tu [w64 0, .p (.bool false)]
 | some b => .tu [w64 b, .p (.bool true)]
def run (n : UInt64) (s : RS) (bits : List UInt64) : Option (List UInt64) := match fo n s bits with
 | none => none
 | some s => if s.nums.length < n.toNat then none else some s.nums
theorem bit01 {d : List UInt8} {i : Nat} {b : UInt64} (h : (bitsQ d)[i]? = some b) : b = 0 ∨ b = 1 := by
 rw [bitsQ_get] at h
 obtain ⟨x, _, rfl⟩ := Option.map_eq_some_iff.1 h
 generalize u8_shr x (7 - i % 8) = y
 have h1 : (y &&& 1).toNat < 2 := by
  rw [UInt8.toNat_and]; exact Nat.lt_of_le_of_lt Nat.and_le_right (by decide)
 have h2 : (y &&& 1).toNat = 0 ∨ (y &&& 1).toNat = 1 := by omega
 rcases h2 with h2 | h2
 . left; rw [<- UInt64.toNat_inj]; simpa using h2
 . right; rw [<- UInt64.toNat_inj]; simpa using h2
theorem shl1 (x : UInt64) : u64_shl x 1 = x <<< 1 := rfl
theorem dbl (x b : UInt64) (h : b = 0 ∨ b = 1) : 2 * x + b = u64_shl x 1 ||| b := by
 rcases h with rfl | rfl
 . apply UInt64.toNat_inj.1
   rw [shl1]
   simp [UInt64.toNat_shiftLeft, Nat.shiftLeft_eq, Nat.mul_comm]
 . apply UInt64.toNat_inj.1
   rw [shl1, UInt64.toNat_or, UInt64.toNat_shiftLeft, UInt64.toNat_add, UInt64.toNat_mul]
   show ((2 * x.toNat) % 2 ^ 64 + 1) % 2 ^ 64 = (x.toNat <<< 1 % 2 ^ 64) ||| 1
   rw [Nat.shiftLeft_eq, show x.toNat * 2 ^ 1 % 2 ^ 64 = 2 ^ 1 * (x.toNat % 2 ^ 63) by omega, <- Nat.two_pow_add_eq_or_of_lt (by decide)]
   omega
def Up (l : List UInt64) : Prop := ∀ (i j : Nat) (x y : UInt64), i <= j -> l[i]? = some x -> l[j]? = some y -> x.toNat <= y.toNat
theorem up_mem {l : List UInt64} {x : UInt64} {i : Nat} (hu : Up l) (h1 : ∀ k y, k < i -> l[k]? = some y -> y.toNat < x.toNat) (h2 : ∀ k y, i <= k -> l[k]? = some y -> x.toNat <= y.toNat) : x ∈ l ↔ l[i]? = some x := by
 constructor
 . intro h
   obtain ⟨k, hk⟩ := List.getElem?_of_mem h
   by_cases hki : k < i
   . have := h1 k x hki hk; omega
   . have hl := (List.getElem?_eq_some_iff.1 hk).1
     obtain ⟨y, hy⟩ : ∃ y, l[i]? = some y := ⟨l[i]'(by omega), by simp⟩
     have g1 := h2 i y (Nat.le_refl _) hy
     have g2 := hu i k y x (by omega) hy hk
     rw [hy, UInt64.toNat_inj.1 (show y.toNat = x.toNat by omega)]
 . exact fun h => List.mem_of_getElem? h
theorem nan_ok {T : Tbl} {x : UInt64} : CallA prog G 68 [w64 x] T fun v T' es => v = .p (.bool false) /\ T' = T /\ es = [] := by
 refine CallA.eV 3 func68 ntmps68 results68 ?_
 simp -dsimp +decide only [vq, ↓reduceIte, Nat.reduceSub]
 exact Vw.done ⟨rfl, rfl, rfl⟩
theorem find_ok {T : Tbl} {l : List UInt64} {x : UInt64} (hl : l.length <= 1099511627776) (hu : Up l) : CallA prog G 40 [.vs (l.map w64) l.length, w64 x] T fun v T' es => (∃ i : Nat, v = .tu [wint (i : Int), .p (.bool (decide (x ∈ l)))]) /\ T' = T /\ es = [] := by
 refine CallA.eV 10 func40 ntmps40 results40 ?_
 simp -dsimp +decide only [vq, ty, ↓reduceIte, Nat.reduceSub, Nat.reduceAdd]
 refine SemA.loopE (fun s : Nat × Nat => [(0, .vs (l.map w64) l.length), (1, w64 x), (6, wint (l.length : Int)), (7, wint (s.1 : Int)), (8, wint (s.2 : Int))]) (fun _ => T) (fun s => s.1 <= s.2 /\ s.2 <= l.length /\ (∀ k y, k < s.1 -> l[k]? = some y -> y.toNat < x.toNat) /\ (∀ k y, s.2 <= k -> l[k]? = some y -> x.toNat <= y.toNat)) (fun s => s.2 - s.1) (0, l.length) [] 0 (fun i : Nat => [(0, .vs (l.map w64) l.length), (1, w64 x), (6, wint (l.length : Int)), (7, wint (i : Int))]) (fun _ => T) (fun i => i <= l.length /\ (∀ k y, k < i -> l[k]? = some y -> y.toNat < x.toNat) /\ (∀ k y, i <= k -> l[k]? = some y -> x.toNat <= y.toNat)) ⟨Nat.zero_le _, Nat.le_refl _, fun k y h => by omega, fun k y h hk => by have := (List.getElem?_eq_some_iff.1 hk).1; omega⟩ (by (simp -dsimp +decide (disch := omega) only [vq, Nat.reduceAdd, ci]); first | rfl | done) rfl (by simp) ?_ ?_
 . rintro ⟨i, j⟩ g ⟨h1, h2, h3, h4⟩
   dsimp only at h1 h2 h3 h4
   refine SemA.o ?_
   simp -dsimp +decide (disch := omega) only [vq, ↓reduceIte, Nat.reduceAdd]
   refine CondP.dec (fun h => ?_) (fun h => ?_)
   . have hi0 : (UInt64.ofInt (i : Int)).toNat = i := by rw [UInt64.ofInt]; simp; omega
     have hj0 : (UInt64.ofInt (j : Int)).toNat = j := by rw [UInt64.ofInt]; simp; omega
     have hmid : (u64_shr (UInt64.ofInt (i : Int) + UInt64.ofInt (j : Int)) 1).toNat = (i + j) / 2 := by
      rw [u64_shr, if_pos (by omega), UInt64.toNat_shiftRight, UInt64.toNat_add, hi0, hj0, Nat.mod_eq_of_lt (by omega)]
      show (i + j) >>> 1 = _
      rw [Nat.shiftRight_eq_div_pow]
     obtain ⟨h, hh⟩ : ∃ h, h = (i + j) / 2 := ⟨_, rfl⟩
     rw [<- hh] at hmid
     obtain ⟨y, hy⟩ : ∃ y, l[h]? = some y := ⟨l[h]'(by omega), by simp⟩
     have hne : l.map w64 ≠ [] := fun e => by rw [List.map_eq_nil_iff] at e; rw [e] at hy; simp at hy
     simp -dsimp +decide (disch := omega) only [vr, ty, en, ↓reduceIte, Int.reduceToNat, vi, hmid, hy]
     refine ⟨⟨by omega, by omega, hne⟩, ?_⟩
     refine less_ok.det ?_
     by_cases hlt : y.toNat < x.toNat
     . have hb : ltU y x = true := by simp [ltU]; exact UInt64.lt_iff_toNat_lt.2 hlt
       rw [hb]
       simp -dsimp +decide (disch := omega) only [vz, vze, vq, ↓reduceIte, Nat.reduceAdd, vi]
       exact ⟨(h + 1, j), ⟨⟨by dsimp only; omega, h2, fun k z hk hz => by
        have := hu k h z y (by omega) hz hy
        omega, h4⟩, by dsimp only; omega⟩, rfl, rfl⟩
     . have hb : ltU y x = false := by simp [ltU]; exact UInt64.le_iff_toNat_le.2 (by omega)
       rw [hb]
       simp -dsimp +decide (disch := omega) only [vz, vze, vq, ↓reduceIte, Nat.reduceAdd]
       exact ⟨(i, h), ⟨⟨by dsimp only; omega, by dsimp only; omega, h3, fun k z hk hz => by
        have := hu h k y z hk hy hz
        omega⟩, by dsimp only; omega⟩, rfl, rfl⟩
   . simp -dsimp +decide (disch := omega) only [vz, vze, vq, ↓reduceIte, Nat.reduceAdd]
     have hij : i = j := by omega
     subst hij
     exact ⟨i, ⟨h2, h3, h4⟩, rfl⟩
 . rintro i g tmp ⟨h1, h3, h4⟩
   have hmem := up_mem hu h3 h4
   cases hy : l[i]? with
   | none =>
     have hle := List.getElem?_eq_none_iff.1 hy
     have hlt : ((i : Int) < (l.length : Int)) = False := eq_false (by omega)
     rw [hy] at hmem
     have hd : decide (x ∈ l) = false := decide_eq_false (by rw [hmem]; simp)
     rw [hd]
     simp -dsimp +decide (disch := omega) only [vq, ↓reduceIte, Nat.reduceAdd, hlt]
     exact Vw.done ⟨⟨i, rfl⟩, rfl, rfl⟩
   | some y =>
     have hi := (List.getElem?_eq_some_iff.1 hy).1
     have hlt : ((i : Int) < (l.length : Int)) = True := eq_true (by omega)
     have hne : l.map w64 ≠ [] := fun e => by rw [List.map_eq_nil_iff] at e; rw [e] at hy; simp at hy
     rw [hy] at hmem
     by_cases hxy : y = x
     . have hd : decide (x ∈ l) = true := decide_eq_true (by rw [hmem, hxy])
       rw [hd]
       subst hxy
       simp -dsimp +decide (disch := omega) only [vq, ty, ↓reduceIte, Nat.reduceAdd, hlt, hy]
       exact ⟨⟨by omega, hne⟩, Vw.done ⟨⟨i, rfl⟩, rfl, rfl⟩⟩
     . have hd : decide (x ∈ l) = false := decide_eq_false (by rw [hmem]; simp [hxy])
       rw [hd]
       have hI : ((y.toNat : Int) = (x.toNat : Int)) = False := eq_false fun h => hxy (UInt64.toNat_inj.1 (by omega))
       simp -dsimp +decide (disch := omega) only [vq, ty, en, ↓reduceIte, Nat.reduceAdd, hlt, hy, hI]
       refine ⟨⟨by omega, hne⟩, ⟨by omega, hne⟩, ?_⟩
       refine nan_ok.det ?_
       simp -dsimp +decide (disch := omega) only [vp0, ↓reduceIte]
       exact Vw.done ⟨⟨i, rfl⟩, rfl, rfl⟩
structure RI (s : RS) (k : Nat) : Prop where
 up : Up s.nums
 le : ∀ x ∈ s.nums, x.toNat <= s.sum.toNat
 sum : s.sum.toNat < 4294967296
 q : s.q.toNat <= k
 low : s.low.toNat < 2 ^ s.count
 count : s.count < 19
theorem up_snoc {l : List UInt64} {x : UInt64} (h : Up l) (hx : ∀ y ∈ l, y.toNat <= x.toNat) : Up (l ++ [x]) := by
 intro i j y z hij hy hz
 rw [List.getElem?_append] at hy hz
 split at hy
 . split at hz
   . exact h i j y z hij hy hz
   . have : z = x := by
      have := List.mem_of_getElem? hz
      simpa using this
     rw [this]; exact hx y (List.mem_of_getElem? hy)
 . have h1 : y = x := by
    have := List.mem_of_getElem? hy
    simpa using this
   split at hz
   . omega
   . have h2 : z = x := by
      have := List.mem_of_getElem? hz
      simpa using this
     rw [h1, h2]; exact Nat.le_refl _
theorem stp_inv {n : UInt64} {s s' : RS} {b : UInt64} {k : Nat} (hn : n.toNat <= 4096) (hk : k <= 8796093022208) (hb : b = 0 ∨ b = 1) (h : RI s k) (hs : stp n s b = some s') : RI s' (k + 1) := by
 have hb1 : b.toNat <= 1 := by rcases hb with rfl | rfl <;> decide
 have hlow : (u64_shl s.low 1 ||| b).toNat < 2 ^ (s.count + 1) := by
  have h1 := h.low
  have h2 := h.count
  have h3 : 2 ^ s.count <= 2 ^ 19 := Nat.pow_le_pow_right (by decide) (by omega)
  rw [<- dbl _ _ hb, UInt64.toNat_add, UInt64.toNat_mul, show (2 : UInt64).toNat = 2 from rfl, Nat.pow_succ, Nat.mod_eq_of_lt (a := 2 * s.low.toNat) (by omega), Nat.mod_eq_of_lt (by omega)]
  omega
 unfold stp at hs
 split at hs
 . split at hs
   . cases hs
   . cases hs; exact ⟨h.up, h.le, h.sum, Nat.le_succ_of_le h.q, h.low, h.count⟩
 . split at hs
   . split at hs
     . cases hs
       refine ⟨h.up, h.le, h.sum, ?_, h.low, h.count⟩
       dsimp only
       have := h.q
       rw [UInt64.toNat_add, show (1 : UInt64).toNat = 1 from rfl]; omega
     . cases hs; exact ⟨h.up, h.le, h.sum, Nat.le_succ_of_le h.q, h.low, h.count⟩
   . split at hs
     . rename_i hc
       cases hs; exact ⟨h.up, h.le, h.sum, Nat.le_succ_of_le h.q, hlow, hc⟩
     . split at hs
       . cases hs
       . rename_i hc hlt
         obtain ⟨d, hd⟩ : ∃ d, d = u64_shl s.q 19 ||| (u64_shl s.low 1 ||| b) := ⟨_, rfl⟩
         rw [<- hd] at hs hlt
         have hd63 : d.toNat < 2 ^ 63 := by
          rw [hd, UInt64.toNat_or]
          refine Nat.or_lt_two_pow ?_ ?_
          . rw [u64_shl, if_pos (by omega), UInt64.toNat_shiftLeft]
            show s.q.toNat <<< 19 % 2 ^ 64 < _
            rw [Nat.shiftLeft_eq]
            have := h.q
            omega
          . have h3 : 2 ^ (s.count + 1) <= 2 ^ 63 := Nat.pow_le_pow_right (by decide) (by have := h.count; omega)
            omega
         have hs32 := h.sum
         have hsum : (s.sum + d).toNat = s.sum.toNat + d.toNat := by rw [UInt64.toNat_add, Nat.mod_eq_of_lt (by omega)]
         have hlim : (s.sum + d).toNat < 4294967296 := by
          have h1 : (s.sum + d).toNat < (n * UInt64.ofInt 784931).toNat := by
           have := mt UInt64.le_iff_toNat_le.2 hlt
           omega
          rw [UInt64.toNat_mul, show (UInt64.ofInt 784931).toNat = 784931 from rfl, Nat.mod_eq_of_lt (by omega)] at h1
          omega
         cases hs
         have hle : ∀ y ∈ s.nums, y.toNat <= (s.sum + d).toNat := fun y hy => by have := h.le y hy; omega
         refine ⟨up_snoc h.up hle, ?_, hlim, Nat.zero_le _, Nat.zero_lt_one, Nat.zero_lt_succ _⟩
         intro y hy
         rcases List.mem_append.1 hy with hy | hy
         . exact hle y hy
         . rw [List.mem_singleton.1 hy]; exact Nat.le_refl _
theorem fo_inv {n : UInt64} (hn : n.toNat <= 4096) : ∀ (l : List UInt64) (s s' : RS) (k : Nat), k + l.length <= 8796093022208 -> (∀ b ∈ l, b = 0 ∨ b = 1) -> RI s k -> fo n s l = some s' -> ∃ k', RI s' k'
 | [], s, s', k, _, _, h, hs => by cases hs; exact ⟨k, h⟩
 | b :: l, s, s', k, hk, hb, h, hs => by
   rw [fo] at hs
   cases h1 : stp n s b with
   | none => rw [h1] at hs; cases hs
   | some s1 =>
     rw [h1] at hs
     simp only [List.length_cons] at hk
     exact fo_inv hn l s1 s' (k + 1) (by omega) (fun b hb' => hb b (by simp [hb'])) (stp_inv hn (by omega) (hb b (by simp)) h h1) hs
theorem RI.z : RI RS.z 0 := ⟨fun i j x y _ h => by simp [RS.z] at h, fun x h => by simp [RS.z] at h, by decide, by decide, by decide, by decide⟩
theorem bitsQ_len (d : List UInt8) : (bitsQ d).length = 8 * d.length := by
 induction d with
 | nil => rfl
 | cons x d ih => rw [show bitsQ (x :: d) = bits8 x ++ bitsQ d by simp [bitsQ], List.length_append, ih, List.length_cons, show (bits8 x).length = 8 by simp [bits8]]; omega
theorem readF_up {f : List UInt8} {l : List UInt64} (hl : f.length <= 1099511627776) (h : readF f = some l) : Up l := by
 unfold readF at h
 split at h
 . rename_i hc
   unfold rdB at h
   split at h
   . cases h
   . rename_i s hs
     split at h
     . cases h
     . cases h
       obtain ⟨k, hk⟩ := fo_inv hc.2 _ _ _ 0 (by rw [bitsQ_len, List.length_drop]; omega) (fun b hb => by
        obtain ⟨i, hi⟩ := List.getElem?_of_mem hb
        exact bit01 hi) RI.z hs
       exact hk.up
 . cases h
theorem mf_ok {T : Tbl} {i j : Nat} {l : List UInt64} {id x : List UInt8} (hid : id.length = 32) (hx : x.length = 32) (hT : T[i]? = some (.cells 96 [.vs (l.map w64) l.length])) (hT2 : T[j]? = some (.cells 33 (id.map by8))) (hl : l.length <= 4096) (hu : Up l) :
 CallA prog G 39 [.ag (x.map by8), .ptr i 0, .ptr j 0] T fun v T' es => v = .p (.bool (decide (nm id l.length x ∈ l))) /\ T' = T /\ es = [] := by
 refine CallA.wfs fun wf => ?_
 have hi : i < T.length := (List.getElem?_eq_some_iff.1 hT).1
 have hj : j < T.length := (List.getElem?_eq_some_iff.1 hT2).1
 have gi : ∀ o, (T ++ [o])[i]? = some (.cells 96 [.vs (l.map w64) l.length]) := fun o => by rw [List.getElem?_append_left hi]; exact hT
 have gj : ∀ o, (T ++ [o])[j]? = some (.cells 33 (id.map by8)) := fun o => by rw [List.getElem?_append_left hj]; exact hT2
 refine CallA.eV 8 func39 ntmps39 results39 ?_
 simp -dsimp +decide only [vp0, ↓reduceIte, Nat.reduceSub, Nat.reduceAdd]
 refine SemA.draw (fun _ => true) [(0, true), (1, true), (2, true), (3, true), (4, true), (5, false), (6, false), (7, true), (8, true), (9, true), (10, true), (11, true)] mixed (by kernel_rfl) ?_
 simp -dsimp +decide (disch := omega) only [vq, ty, en, ↓reduceIte, vt, gi, gj, tk32 id hid, tk32 x hx, hid, hx]
 refine (number_ok hid hx (by omega)).det' ?_
 simp -dsimp +decide (disch := omega) only [vp0, en, ↓reduceIte]
 refine (find_ok (x := nm id l.length x) (by omega) hu).mono ?_
 rintro v T' es ⟨⟨q, rfl⟩, rfl, rfl⟩
 simp -dsimp +decide (disch := omega) only [vq, ↓reduceIte, vt]
 exact Vw.cut ⟨rfl, rfl, rfl⟩
theorem idx_ok {T : Tbl} {a : AV} {i j : Nat} {hs : List (List UInt8)} {q : List UInt8 -> Bool} (hb : Es T 32 H8 a hs) (hl : hs.length <= 1099511627776) (hc : ∀ x ∈ hs, CallA prog G 39 [.ag (x.map by8), .ptr i 0, .ptr j 0] T fun v T' es => v = .p (.bool (q x)) /\ T' = T /\ es = []) :
 CallA prog G 66 [a, .fn 39 [.ptr i 0, .ptr j 0]] T fun v T' es => (∃ k : Int, v = wint k /\ decide (0 <= k) = hs.any q) /\ T' = T /\ es = [] := by
 have hr := Sl.rules hb.sl (by decide)
 have hld := hb.ld (P := prog) (t := 33) (by (simp -dsimp +decide only [])) (by (simp -dsimp +decide only [])) (by decide)
 refine CallA.eV 10 func66 ntmps66 results66 ?_
 simp -dsimp +decide only [vp0, ty, ↓reduceIte, Nat.reduceSub, Nat.reduceAdd]
 simp -dsimp +decide (disch := omega) only [va, ↓reduceIte, hr]
 refine SemA.loopE (fun k : Nat => [(0, a), (1, .fn 39 [.ptr i 0, .ptr j 0]), (7, wint (hs.length : Int)), (8, wint (k : Int))]) (fun _ => T) (fun k => k <= hs.length /\ (hs.take k).any q = false) (fun k => hs.length - k) 0 [] 0 (fun _ : Unit => []) (fun _ => T) (fun _ => hs.any q = false) ⟨by omega, by simp⟩ (by (simp -dsimp +decide (disch := omega) only [vq, Nat.reduceAdd, ci]); first | rfl | done) rfl (by simp) ?_ ?_
 . rintro k g ⟨hk, hn⟩
   refine SemA.o ?_
   simp -dsimp +decide (disch := omega) only [vq, ↓reduceIte, Nat.reduceAdd]
   refine CondP.dec (fun h => ?_) (fun h => ?_)
   . obtain ⟨y, hy⟩ : ∃ y, hs[k]? = some y := ⟨hs[k]'(by omega), by simp⟩
     simp -dsimp +decide (disch := omega) only [vp0, ty, en, ↓reduceIte, hr, hld, hy]
     refine ⟨⟨by omega, by omega⟩, ?_⟩
     refine (hc y (List.mem_of_getElem? hy)).det ?_
     cases hq : q y with
     | true =>
       simp -dsimp +decide (disch := omega) only [vp0, ↓reduceIte]
       exact Vw.done ⟨⟨k, rfl, by rw [List.any_eq_true.2 ⟨y, List.mem_of_getElem? hy, hq⟩]; exact decide_eq_true (by omega)⟩, rfl, rfl⟩
     | false =>
       simp -dsimp +decide (disch := omega) only [vz, vze, vq, ↓reduceIte, Nat.reduceAdd, vi]
       refine ⟨k + 1, ⟨⟨by omega, ?_⟩, by omega⟩, rfl⟩
       rw [List.take_add_one, hy, List.any_append, hn]
       simp [hq]
   . rw [List.take_of_length_le (by omega)] at hn
     simp -dsimp +decide (disch := omega) only [vz, vze, vp0, ↓reduceIte, Nat.reduceAdd]
     exact ⟨(), hn⟩
 . rintro _ g tmp hn
   simp -dsimp +decide (disch := omega) only [vp0, ↓reduceIte, Nat.reduceAdd]
   exact Vw.done ⟨⟨-1, rfl, by rw [hn]; rfl⟩, rfl, rfl⟩
theorem con_ok {T : Tbl} {a : AV} {i j : Nat} {hs : List (List UInt8)} {q : List UInt8 -> Bool} (hb : Es T 32 H8 a hs) (hl : hs.length <= 1099511627776) (hc : ∀ x ∈ hs, CallA prog G 39 [.ag (x.map by8), .ptr i 0, .ptr j 0] T fun v T' es => v = .p (.bool (q x)) /\ T' = T /\ es = []) :
 CallA prog G 38 [a, .fn 39 [.ptr i 0, .ptr j 0]] T fun v T' es => v = .p (.bool (hs.any q)) /\ T' = T /\ es = [] := by
 refine CallA.eV 6 func38 ntmps38 results38 ?_
 simp -dsimp +decide only [vp0, en, ↓reduceIte, Nat.reduceSub, Nat.reduceAdd]
 refine (idx_ok hb hl hc).mono ?_
 rintro v T' es ⟨⟨k, rfl, hk⟩, rfl, rfl⟩
 simp -dsimp +decide (disch := omega) only [vq, ↓reduceIte]
 exact Vw.done ⟨by rw [<- hk], rfl, rfl⟩
def maV (id : List UInt8) (hs : List (List UInt8)) : Option (List UInt64) -> AV
 | none => .tu [.p (.bool false), .p (.int .i64 5)]
 | some l => .tu [.p (.bool (hs.any fun x => decide (nm id l.length x ∈ l))), .p (.int .i64 0)]
theorem stp_len {n : UInt64} {s s' : RS} {b : UInt64} (h : s.nums.length <= n.toNat) (hs : stp n s b = some s') : s'.nums.length <= n.toNat := by
 unfold stp at hs
 split at hs
 . split at hs
   . cases hs
   . cases hs; exact h
 . split at hs
   . split at hs <;> (cases hs; exact h)
   . split at hs
     . cases hs; exact h
     . split at hs
       . cases hs
       . cases hs; simp only [List.length_append, List.length_singleton]; omega
theorem fo_len {n : UInt64} : ∀ (l : List UInt64) (s s' : RS), s.nums.length <= n.toNat -> fo n s l = some s' -> s'.nums.length <= n.toNat
 | [], s, s', h, hs => by cases hs; exact h
 | b :: l, s, s', h, hs => by
   rw [fo] at hs
   cases h1 : stp n s b with
   | none => rw [h1] at hs; cases hs
   | some s1 => rw [h1] at hs; exact fo_len l s1 s' (stp_len h h1) hs
theorem readF_len {f : List UInt8} {l : List UInt64} (h : readF f = some l) : l.length <= 4096 := by
 unfold readF at h
 split at h
 . rename_i hc
   unfold rdB at h
   split at h
   . cases h
   . rename_i s hs
     split at h
     . cases h
     . cases h
       exact Nat.le_trans (fo_len _ _ _ (Nat.zero_le _) hs) hc.2
 . cases h
theorem match_ok {T : Tbl} {a : AV} {f id : List UInt8} {hs : List (List UInt8)} (hl : f.length <= 1099511627776) (hid : id.length = 32) (hb : Es T 32 H8 a hs) (hh : hs.length <= 1099511627776) :
 CallA prog G 17 [.vs (f.map by8) f.length, .ag (id.map by8), a] T fun v T' es => v = maV id hs (readF f) /\ T' = T /\ es = [] := by
 refine CallA.wfs fun wf => ?_
 refine CallA.eV 21 func17 ntmps17 results17 ?_
 simp -dsimp +decide only [vp0, en, ↓reduceIte, Nat.reduceSub, Nat.reduceAdd]
 refine (read_ok hl).det' ?_
 cases hr : readF f with
 | none =>
   simp -dsimp +decide (disch := omega) only [vp0, ty, ↓reduceIte, rdV]
   exact Vw.cut ⟨rfl, rfl, rfl⟩
 | some l =>
   have hll := readF_len hr
   have hup := readF_up hl hr
   simp -dsimp +decide (disch := omega) only [vp0, ty, en, ↓reduceIte, Nat.reduceLT, rdV]
   refine (con_ok (q := fun x => decide (nm id l.length x ∈ l)) (hb.app _) hh fun x hx => mf_ok hid (by simpa using hb.wd x hx) (by simp) (by simp) hll hup).det' ?_
   simp -dsimp +decide (disch := omega) only [va, ↓reduceIte]
   exact Vw.cut ⟨rfl, rfl, rfl⟩
abbrev b64 (l : List UInt8) : List UInt64 := l.map UInt8.toUInt64
abbrev zs (k : Nat) : List UInt64 := List.replicate k 0
def b01 (l : List UInt8) : Prop := ∀ b ∈ l, b = 0 ∨ b = 1
theorem bits8_put' : ∀ (x : _root_.Fin 256) (r : _root_.Fin 8) (b : _root_.Fin 2), (bits8 (UInt8.ofNat x.val)).drop r.val = List.replicate (8 - r.val) 0 -> bits8 (UInt8.ofNat x.val ||| u8_shl (UInt8.ofNat b.val) (7 - r.val)) = (bits8 (UInt8.ofNat x.val)).take r.val ++ (UInt8.ofNat b.val).toUInt64 :: List.replicate (7 - r.val) 0 := by decide +kernel
theorem bits8_put {x b : UInt8} {r : Nat} (hr : r < 8) (hb : b = 0 ∨ b = 1) (h : (bits8 x).drop r = zs (8 - r)) : bits8 (x ||| u8_shl b (7 - r)) = (bits8 x).take r ++ b.toUInt64 :: zs (7 - r) := by
 have hx : x = UInt8.ofNat x.toNat := by simp
 have hx2 : x.toNat < 256 := x.toNat_lt
 rcases hb with rfl | rfl
 . have := bits8_put' ⟨x.toNat, hx2⟩ ⟨r, hr⟩ 0
   simp only [<- hx] at this
   exact this h
 . have := bits8_put' ⟨x.toNat, hx2⟩ ⟨r, hr⟩ 1
   simp only [<- hx] at this
   exact this h
theorem bitsQ_app (a b : List UInt8) : bitsQ (a ++ b) = bitsQ a ++ bitsQ b := by simp [bitsQ]
theorem bitsQ_one (x : UInt8) : bitsQ [x] = bits8 x := by simp [bitsQ]
theorem bits8_len (x : UInt8) : (bits8 x).length = 8 := by simp [bits8]
theorem set_last {α : Type} (l : List α) (x y : α) : (l ++ [x]).set ((l ++ [x]).length - 1) y = l ++ [y] := by simp
theorem last_get (l : List UInt8) (x : UInt8) : (l ++ [x])[(l ++ [x]).length - 1]! = x := by simp
theorem pk_bits {out : List UInt8} {i : Nat} {b : UInt8} {B : List UInt64} (hb : b = 0 ∨ b = 1) (h : bitsQ out = B ++ zs ((8 - i % 8) % 8)) (hne : i % 8 = 0 ∨ out ≠ []) :
 bitsQ (pk out i b) = B ++ [b.toUInt64] ++ zs ((8 - (i + 1) % 8) % 8) /\ pk out i b ≠ [] := by
 by_cases h0 : i % 8 = 0
 . rw [h0] at h
   have e : pk out i b = out ++ [0 ||| u8_shl b 7] := by
    simp only [pk, h0, if_true]
    rw [set_last, last_get]
   rw [e, bitsQ_app, bitsQ_one, h]
   have := bits8_put (x := 0) (b := b) (r := 0) (by omega) hb (by decide)
   rw [this]
   have e2 : (8 - (i + 1) % 8) % 8 = 7 := by omega
   rw [e2]
   simp
 . have hne : out ≠ [] := by rcases hne with h | h <;> simp_all
   obtain ⟨ini, x, rfl⟩ : ∃ ini x, out = ini ++ [x] := ⟨out.dropLast, out.getLast hne, (List.dropLast_concat_getLast hne).symm⟩
   have e : pk (ini ++ [x]) i b = ini ++ [x ||| u8_shl b (7 - i % 8)] := by
    simp only [pk, h0, if_false]
    rw [set_last, last_get]
   have hr : (8 - i % 8) % 8 = 8 - i % 8 := by omega
   rw [hr] at h
   rw [bitsQ_app, bitsQ_one] at h
   have hlen := congrArg List.length h
   simp only [List.length_append, bits8_len, List.length_replicate] at hlen
   have hd : (bits8 x).drop (i % 8) = zs (8 - i % 8) := by
    have := congrArg (List.drop B.length) h
    rw [List.drop_left, List.drop_append, List.drop_of_length_le (by omega), show B.length - (bitsQ ini).length = i % 8 by omega] at this
    simpa using this
   have hB : B = bitsQ ini ++ (bits8 x).take (i % 8) := by
    have := congrArg (List.take B.length) h
    rw [List.take_left, List.take_append, List.take_of_length_le (by omega), show B.length - (bitsQ ini).length = i % 8 by omega] at this
    exact this.symm
   rw [e, bitsQ_app, bitsQ_one, bits8_put (by omega) hb hd]
   refine ⟨?_, by simp⟩
   have e2 : (8 - (i + 1) % 8) % 8 = 7 - i % 8 := by omega
   rw [e2, hB]
   simp
theorem pks_bits : ∀ (l out : List UInt8) (i : Nat) (B : List UInt64), b01 l -> bitsQ out = B ++ zs ((8 - i % 8) % 8) -> (i % 8 = 0 ∨ out ≠ []) -> bitsQ (pks out i l) = B ++ b64 l ++ zs ((8 - (i + l.length) % 8) % 8)
 | [], out, i, B, _, h, _ => by simpa [pks] using h
 | b :: l, out, i, B, hb, h, hne => by
   obtain ⟨h1, h2⟩ := pk_bits (hb b (by simp)) h hne
   rw [pks, pks_bits l _ _ _ (fun x hx => hb x (by simp [hx])) h1 (.inr h2)]
   rw [List.length_cons, show i + 1 + l.length = i + (l.length + 1) by omega]
   simp
theorem pk_pre {out t : List UInt8} {i : Nat} {b : UInt8} (h : i % 8 = 0 ∨ t ≠ []) : ∃ t', pk (out ++ t) i b = out ++ t' /\ t' ≠ [] := by
 by_cases h0 : i % 8 = 0
 . refine ⟨t ++ [0 ||| u8_shl b 7], ?_, by simp⟩
   simp only [pk, h0, if_true]
   rw [set_last, last_get, List.append_assoc]
 . have hne : t ≠ [] := by rcases h with h | h <;> simp_all
   obtain ⟨ini, x, rfl⟩ : ∃ ini x, t = ini ++ [x] := ⟨t.dropLast, t.getLast hne, (List.dropLast_concat_getLast hne).symm⟩
   refine ⟨ini ++ [x ||| u8_shl b (7 - i % 8)], ?_, by simp⟩
   simp only [pk, h0, if_false]
   rw [<- List.append_assoc, set_last, last_get, List.append_assoc]
theorem pks_pre : ∀ (l out t : List UInt8) (i : Nat), (i % 8 = 0 ∨ t ≠ []) -> ∃ t', pks (out ++ t) i l = out ++ t'
 | [], out, t, i, _ => ⟨t, rfl⟩
 | b :: l, out, t, i, h => by
   obtain ⟨t', h1, h2⟩ := pk_pre (out := out) (b := b) h
   rw [pks, h1]
   exact pks_pre l out t' (i + 1) (.inr h2)
theorem fo_app (n : UInt64) : ∀ (a b : List UInt64) (s : RS), fo n s (a ++ b) = match fo n s a with | none => none | some s' => fo n s' b
 | [], b, s => rfl
 | x :: a, b, s => by
   simp only [List.cons_append, fo]
   cases stp n s x with
   | none => rfl
   | some s' => exact fo_app n a b s'
theorem fo_ones (n : UInt64) : ∀ (k : Nat) (s : RS), s.nums.length ≠ n.toNat -> s.un = true -> fo n s (List.replicate k 1) = some { s with q := s.q + UInt64.ofNat k }
 | 0, s, _, _ => by simp [fo]
 | k + 1, s, h, hu => by
   rw [List.replicate_succ, fo]
   have e : stp n s 1 = some { s with q := s.q + 1 } := by
    unfold stp
    rw [if_neg h, if_pos hu, if_pos rfl]
   rw [e]
   have := fo_ones n k { s with q := s.q + 1 } h hu
   simp only at this ⊢
   rw [this]
   congr 2
   rw [show UInt64.ofNat (k + 1) = UInt64.ofNat k + 1 from UInt64.ofNat_add k 1, UInt64.add_assoc, UInt64.add_comm 1]
theorem and1_cast (x : UInt64) : ((x &&& 1).toUInt8).toUInt64 = x &&& 1 := by
 apply UInt64.toNat_inj.1
 have h1 : (x &&& 1).toNat = x.toNat % 2 := by
  rw [UInt64.toNat_and]; exact Nat.and_one_is_mod _
 simp only [UInt8.toNat_toUInt64, UInt64.toNat_toUInt8, h1]
 omega
theorem shr_and (d : UInt64) (k : Nat) (hk : k < 64) : (u64_shr d k &&& 1).toNat = d.toNat / 2 ^ k % 2 := by
 rw [UInt64.toNat_and, u64_shr, if_pos hk, UInt64.toNat_shiftRight]
 show (d.toNat >>> ((UInt64.ofNat k).toNat % 64)) &&& 1 = _
 rw [UInt64.toNat_ofNat', Nat.mod_eq_of_lt (a := k) (b := 2 ^ 64) (by omega), Nat.mod_eq_of_lt hk, Nat.shiftRight_eq_div_pow, Nat.and_one_is_mod]
def lowj (d : UInt64) (j : Nat) : UInt64 := UInt64.ofNat (d.toNat / 2 ^ (19 - j) % 2 ^ j)
theorem lowj_nat (d : UInt64) {j : Nat} (hj : j <= 19) : (lowj d j).toNat = d.toNat / 2 ^ (19 - j) % 2 ^ j := by
 rw [lowj, UInt64.toNat_ofNat']
 refine Nat.mod_eq_of_lt (Nat.lt_of_lt_of_le (Nat.mod_lt _ (Nat.two_pow_pos j)) (Nat.pow_le_pow_right (by decide) (by omega)))
theorem lowj_next (d : UInt64) {j : Nat} (hj : j < 19) : u64_shl (lowj d j) 1 ||| (u64_shr d (18 - j) &&& 1) = lowj d (j + 1) := by
 have hb : (u64_shr d (18 - j) &&& 1) = 0 ∨ (u64_shr d (18 - j) &&& 1) = 1 := by
  have h := shr_and d (18 - j) (by omega)
  have h2 : (u64_shr d (18 - j) &&& 1).toNat = 0 ∨ (u64_shr d (18 - j) &&& 1).toNat = 1 := by omega
  rcases h2 with h2 | h2
  . left; apply UInt64.toNat_inj.1; simpa using h2
  . right; apply UInt64.toNat_inj.1; simpa using h2
 rw [<- dbl _ _ hb]
 apply UInt64.toNat_inj.1
 rw [UInt64.toNat_add, UInt64.toNat_mul, shr_and d _ (by omega), lowj_nat d (by omega), lowj_nat d (by omega)]
 have e : 19 - j = (18 - j) + 1 := by omega
 rw [e, Nat.pow_succ, <- Nat.div_div_eq_div_mul, show 19 - (j + 1) = 18 - j by omega]
 generalize d.toNat / 2 ^ (18 - j) = E
 rw [show (2 : UInt64).toNat = 2 from rfl]
 have h1 : E % 2 ^ (j + 1) = E % 2 + 2 * (E / 2 % 2 ^ j) := by rw [Nat.pow_succ, Nat.mul_comm, Nat.mod_mul]
 have h3 : 2 ^ j <= 2 ^ 18 := Nat.pow_le_pow_right (by decide) (by omega)
 rw [h1]
 omega
def RSd (nums : List UInt64) (sum : UInt64) : RS := ⟨nums, sum, 0, 0, 0, 0, true⟩
theorem bits_low (d : UInt64) : b64 ((List.range 19).map fun j => (u64_shr d (18 - j) &&& 1).toUInt8) = (List.range 19).map fun j => u64_shr d (18 - j) &&& 1 := by
 rw [b64, List.map_map]
 refine List.map_congr_left fun j _ => ?_
 exact and1_cast _
theorem fo_low {n d sum q : UInt64} {nums : List UInt64} (hlen : nums.length ≠ n.toNat) : ∀ j, j <= 18 -> fo n ⟨nums, sum, q, 0, 0, 0, false⟩ ((List.range j).map fun j => u64_shr d (18 - j) &&& 1) = some ⟨nums, sum, q, lowj d j, j, 0, false⟩
 | 0, _ => by
   simp only [List.range_zero, List.map_nil, fo]
   congr 2
   apply UInt64.toNat_inj.1
   rw [lowj_nat d (by omega)]
   simp [Nat.mod_one]
 | j + 1, hj => by
   rw [List.range_succ, List.map_append, List.map_singleton, fo_snoc, fo_low hlen j (by omega)]
   simp only
   unfold stp
   rw [if_neg hlen, if_neg (by simp), if_pos (by simp; omega)]
   simp only
   rw [lowj_next d (by omega)]
theorem fo_bitD {n d sum : UInt64} {nums : List UInt64} (hd : d.toNat < 4294967296) (hlen : nums.length < n.toNat) (hlt : sum + d < n * UInt64.ofInt 784931) : fo n (RSd nums sum) (b64 (bitD d)) = some (RSd (nums ++ [sum + d]) (sum + d)) := by
 have hne : nums.length ≠ n.toNat := by omega
 rw [bitD, b64, List.map_append, List.map_cons, <- b64, <- b64, bits_low, show b64 (List.replicate (d.toNat >>> 19) 1) = List.replicate (d.toNat >>> 19) 1 by simp [b64]]
 rw [fo_app, fo_ones n _ _ hne rfl]
 simp only [fo]
 have e : stp n { RSd nums sum with q := (RSd nums sum).q + UInt64.ofNat (d.toNat >>> 19) } (UInt8.toUInt64 0) = some ⟨nums, sum, UInt64.ofNat (d.toNat >>> 19), 0, 0, 0, false⟩ := by
  show stp n ⟨nums, sum, (0 : UInt64) + UInt64.ofNat (d.toNat >>> 19), 0, 0, 0, true⟩ _ = _
  unfold stp
  rw [if_neg hne, if_pos rfl, if_neg (by decide), UInt64.zero_add]
 rw [e]
 simp only
 rw [List.range_succ, List.map_append, List.map_singleton, fo_snoc, fo_low hne 18 (by omega)]
 simp only
 unfold stp
 rw [if_neg hne, if_neg (by simp), if_neg (by simp)]
 simp only
 have hn := lowj_next d (j := 18) (by omega)
 rw [hn]
 have hq : (u64_shl (UInt64.ofNat (d.toNat >>> 19)) 19 ||| lowj d (18 + 1)) = d := by
  apply UInt64.toNat_inj.1
  rw [UInt64.toNat_or, lowj_nat d (by omega), u64_shl, if_pos (by omega), UInt64.toNat_shiftLeft]
  show (UInt64.ofNat (d.toNat >>> 19)).toNat <<< 19 % 2 ^ 64 ||| _ = _
  rw [UInt64.toNat_ofNat', Nat.shiftRight_eq_div_pow, Nat.mod_eq_of_lt (a := d.toNat / 2 ^ 19) (by omega), Nat.shiftLeft_eq, Nat.mod_eq_of_lt (by omega)]
  rw [show 19 - (18 + 1) = 0 from rfl, Nat.pow_zero, Nat.div_one, show 18 + 1 = 19 from rfl]
  rw [Nat.mul_comm, <- Nat.two_pow_add_eq_or_of_lt (Nat.mod_lt _ (by decide))]
  exact Nat.div_add_mod _ _
 rw [hq, if_neg (by rw [UInt64.not_le]; exact hlt)]
 rfl
theorem fo_bitsF {n : UInt64} : ∀ (l nums : List UInt64) (last : UInt64), small last l -> (∀ x ∈ l, x < n * UInt64.ofInt 784931) -> nums.length + l.length <= n.toNat -> ∃ sum, fo n (RSd nums last) (b64 (bitsF last l)) = some (RSd (nums ++ l) sum)
 | [], nums, last, _, _, _ => ⟨last, by simp [bitsF, fo]⟩
 | x :: l, nums, last, hs, hx, hl => by
   rw [List.length_cons] at hl
   have e : last + (x - last) = x := by rw [UInt64.add_comm, UInt64.sub_add_cancel]
   have h1 := fo_bitD (n := n) (nums := nums) (sum := last) hs.1 (by omega) (by rw [e]; exact hx x (by simp))
   rw [e] at h1
   obtain ⟨sum, h2⟩ := fo_bitsF l (nums ++ [x]) x hs.2 (fun y hy => hx y (by simp [hy])) (by simp; omega)
   refine ⟨sum, ?_⟩
   rw [bitsF, b64, List.map_append, fo_app, <- b64, h1]
   simp only
   rw [<- b64, h2]
   simp
theorem fo_pad {n : UInt64} : ∀ (k : Nat) (s : RS), s.nums.length = n.toNat -> fo n s (zs k) = if s.pad + k <= 7 ∨ k = 0 then some { s with pad := s.pad + k } else none
 | 0, s, _ => by simp [fo]
 | k + 1, s, h => by
   rw [zs, List.replicate_succ, fo]
   unfold stp
   rw [if_pos h]
   by_cases hp : 7 < s.pad + 1
   . rw [if_pos (.inr hp), if_neg (by omega)]
   . rw [if_neg (by simp; omega)]
     simp only
     rw [fo_pad k { s with pad := s.pad + 1 } h]
     simp only
     by_cases hk : s.pad + 1 + k <= 7
     . rw [if_pos (.inl hk), if_pos (by omega), Nat.add_assoc, Nat.add_comm 1 k]
     . rw [if_neg (by omega), if_neg (by omega)]
theorem fo_full {n : UInt64} : ∀ (l : List UInt64) (s s' : RS), s.nums.length = n.toNat -> fo n s l = some s' -> s'.pad = s.pad + l.length
 | [], s, s', _, h => by cases h; rfl
 | b :: l, s, s', hn, h => by
   rw [fo] at h
   unfold stp at h
   rw [if_pos hn] at h
   split at h
   . cases h
   . rename_i s1 hs
     split at hs
     . cases hs
     . cases hs
       have := fo_full l { s with pad := s.pad + 1 } s' hn h
       simp only at this
       rw [this, List.length_cons]; omega
theorem lbs4_le {n : UInt64} (hn : n.toNat < 4294967296) (t : List UInt8) : le (lbs n 4 ++ t) 0 4 = n := by
 apply UInt64.toNat_inj.1
 have hs : ∀ k, k <= 3 -> (nsh n k).toNat = n.toNat / 2 ^ (8 * k) := by
  intro k
  induction k with
  | zero => intro _; simp [nsh]
  | succ k ih =>
    intro hk
    rw [nsh, u64_shr, if_pos (by omega), UInt64.toNat_shiftRight, ih (by omega)]
    show (n.toNat / 2 ^ (8 * k)) >>> 8 = _
    rw [Nat.shiftRight_eq_div_pow, Nat.div_div_eq_div_mul, <- Nat.pow_add, Nat.mul_succ]
 have hg : ∀ k, k < 4 -> ((lbs n 4 ++ t)[0 + k]!).toNat = n.toNat / 2 ^ (8 * k) % 256 := by
  intro k hk
  have : (lbs n 4 ++ t)[k]? = some (nsh n k).toUInt8 := by
   rw [List.getElem?_append_left (by rw [lbs_len]; exact hk)]
   simp [lbs, hk]
  rw [Nat.zero_add, List.getElem!_eq_getElem?_getD, this, Option.getD_some, UInt64.toNat_toUInt8, hs k (by omega)]
 have h0 := (le_nat (lbs n 4 ++ t) 0 0 (by omega)).2 (by omega)
 have h1 := (le_nat (lbs n 4 ++ t) 0 1 (by omega)).2 (by omega)
 have h2 := (le_nat (lbs n 4 ++ t) 0 2 (by omega)).2 (by omega)
 have h3 := (le_nat (lbs n 4 ++ t) 0 3 (by omega)).2 (by omega)
 rw [hg 0 (by omega)] at h0
 rw [hg 1 (by omega)] at h1
 rw [hg 2 (by omega)] at h2
 rw [hg 3 (by omega)] at h3
 have hz : (le (lbs n 4 ++ t) 0 0).toNat = 0 := rfl
 rw [h3, h2, h1, h0, hz]
 omega
theorem ofInt_nat {n : Nat} (h : n <= 4096) : (UInt64.ofInt (n : Int)).toNat = n := by
 rw [UInt64.ofInt]; simp; omega
theorem bitD_01 (d : UInt64) : b01 (bitD d) := by
 intro b hb
 simp only [bitD, List.mem_append, List.mem_replicate, List.mem_cons, List.mem_map, List.mem_range] at hb
 rcases hb with ⟨_, rfl⟩ | rfl | ⟨j, hj, rfl⟩
 . exact .inr rfl
 . exact .inl rfl
 . have h1 := shr_and d (18 - j) (by omega)
   have h2 : (u64_shr d (18 - j) &&& 1).toUInt8.toNat = d.toNat / 2 ^ (18 - j) % 2 := by rw [UInt64.toNat_toUInt8, h1]; omega
   have h3 : (u64_shr d (18 - j) &&& 1).toUInt8.toNat = 0 ∨ (u64_shr d (18 - j) &&& 1).toUInt8.toNat = 1 := by omega
   rcases h3 with h3 | h3
   . left; apply UInt8.toNat_inj.1; simpa using h3
   . right; apply UInt8.toNat_inj.1; simpa using h3
theorem bitsF_01 : ∀ (l : List UInt64) (last : UInt64), b01 (bitsF last l)
 | [], _ => fun b hb => by simp [bitsF] at hb
 | x :: l, last => fun b hb => by
   rw [bitsF, List.mem_append] at hb
   rcases hb with hb | hb
   . exact bitD_01 _ b hb
   . exact bitsF_01 l x b hb
theorem filt_shape (l : List UInt64) : ∃ t, filtB l = lbs (UInt64.ofInt (l.length : Int)) 4 ++ t /\ bitsQ t = b64 (bitsF 0 l) ++ zs ((8 - (bitsF 0 l).length % 8) % 8) := by
 obtain ⟨t, ht⟩ := pks_pre (bitsF 0 l) (lbs (UInt64.ofInt (l.length : Int)) 4) [] 0 (.inl rfl)
 rw [List.append_nil] at ht
 refine ⟨t, ht, ?_⟩
 have h1 := pks_bits (bitsF 0 l) (lbs (UInt64.ofInt (l.length : Int)) 4) 0 (bitsQ (lbs (UInt64.ofInt (l.length : Int)) 4)) (bitsF_01 l 0) (by simp) (.inl rfl)
 rw [ht, bitsQ_app, List.append_assoc, Nat.zero_add] at h1
 exact List.append_cancel_left h1
theorem read_filt {l : List UInt64} (hn : l.length <= 4096) (hs : small 0 l) (hx : ∀ x ∈ l, x < UInt64.ofInt (l.length : Int) * UInt64.ofInt 784931) :
 readF (filtB l) = some l /\ readF (filtB l ++ [0]) = none /\ readF ((filtB l).take ((filtB l).length - 1)) = none /\ 4 <= (filtB l).length := by
 obtain ⟨t, ht, hb⟩ := filt_shape l
 have hl4 : (lbs (UInt64.ofInt (l.length : Int)) 4).length = 4 := lbs_len _ _
 have hnn := ofInt_nat hn
 obtain ⟨sum, hf⟩ := fo_bitsF (n := UInt64.ofInt (l.length : Int)) l [] 0 hs hx (by rw [hnn]; simp)
 rw [List.nil_append] at hf
 have hrd : ∀ t' : List UInt8, readF (lbs (UInt64.ofInt (l.length : Int)) 4 ++ t') = rdB (UInt64.ofInt (l.length : Int)) (bitsQ t') := by
  intro t'
  unfold readF
  rw [lbs4_le (by omega), if_pos ⟨by rw [List.length_append, hl4]; omega, by omega⟩, show List.drop 4 (lbs (UInt64.ofInt (l.length : Int)) 4 ++ t') = t' by have := List.drop_left (l₁ := lbs (UInt64.ofInt (l.length : Int)) 4) (l₂ := t'); rwa [hl4] at this]
 have hz : RS.z = RSd [] 0 := rfl
 have hfin : ∀ k, k <= 7 -> fo (UInt64.ofInt (l.length : Int)) RS.z (b64 (bitsF 0 l) ++ zs k) = some { RSd l sum with pad := k } := by
  intro k hk
  rw [fo_app, hz, hf]
  simp only
  rw [fo_pad k (RSd l sum) (by rw [hnn]; rfl), if_pos (by left; simp [RSd]; omega)]
  simp [RSd]
 refine ⟨?_, ?_, ?_, by rw [ht, List.length_append, hl4]; omega⟩
 . rw [ht, hrd, hb]
   unfold rdB
   rw [hfin _ (by omega)]
   simp only
   rw [if_neg (by simp [RSd]; omega)]
   rfl
 . rw [ht, List.append_assoc, hrd, bitsQ_app, hb, List.append_assoc, show bitsQ [0] = zs 8 by decide]
   unfold rdB
   rw [show zs ((8 - (bitsF 0 l).length % 8) % 8) ++ zs 8 = zs ((8 - (bitsF 0 l).length % 8) % 8 + 8) from List.replicate_append_replicate .., fo_app, hz, hf]
   simp only
   rw [fo_pad _ (RSd l sum) (by rw [hnn]; rfl), if_neg (by simp [RSd])]
 . by_cases h0 : l = []
   . subst h0
     have e : filtB ([] : List UInt64) = [0, 0, 0, 0] := by decide
     rw [e]
     decide
   . have hpos : 0 < (bitsF 0 l).length := by
      cases l with
      | nil => exact absurd rfl h0
      | cons x r => simp [bitsF, bitD]; omega
     have hbl := congrArg List.length hb
     rw [bitsQ_len, List.length_append, List.length_map, List.length_replicate] at hbl
     have htl : 0 < t.length := by omega
     have e : (filtB l).take ((filtB l).length - 1) = lbs (UInt64.ofInt (l.length : Int)) 4 ++ t.take (t.length - 1) := by
      rw [ht, List.take_append, List.take_of_length_le (by rw [List.length_append]; omega)]
      rw [show (lbs (UInt64.ofInt (l.length : Int)) 4 ++ t).length - 1 - (lbs (UInt64.ofInt (l.length : Int)) 4).length = t.length - 1 by rw [List.length_append]; omega]
     rw [e, hrd]
     have hsplit : bitsQ t = bitsQ (t.take (t.length - 1)) ++ bitsQ (t.drop (t.length - 1)) := by rw [<- bitsQ_app, List.take_append_drop]
     have hlen : (bitsQ (t.take (t.length - 1))).length = 8 * (t.length - 1) := by rw [bitsQ_len]; simp
     obtain ⟨p, hp⟩ : ∃ p, p = bitsQ (t.take (t.length - 1)) := ⟨_, rfl⟩
     rw [<- hp] at hsplit hlen ⊢
     have hpre : b64 (bitsF 0 l) = p ++ (b64 (bitsF 0 l)).drop p.length := by
      have h1 := hb
      rw [hsplit] at h1
      have h2 := congrArg (List.take p.length) h1
      rw [List.take_left, List.take_append, show p.length - (b64 (bitsF 0 l)).length = 0 by rw [b64, List.length_map]; omega, List.take_zero, List.append_nil] at h2
      conv => rhs; arg 1; rw [h2]
      rw [List.take_append_drop]
     have hne : 0 < ((b64 (bitsF 0 l)).drop p.length).length := by rw [List.length_drop, b64, List.length_map]; omega
     have hf' := hf
     rw [hpre, fo_app] at hf'
     unfold rdB
     rw [hz]
     cases hfp : fo (UInt64.ofInt (l.length : Int)) (RSd [] 0) p with
     | none => rfl
     | some s =>
       rw [hfp] at hf'
       simp only at hf' ⊢
       have hle := fo_len p (RSd [] 0) s (by simp [RSd]) hfp
       by_cases hq : s.nums.length = (UInt64.ofInt (l.length : Int)).toNat
       . have := fo_full _ _ _ hq hf'
         simp only [RSd] at this
         omega
       . rw [if_pos (by omega)]
theorem srt_mem {l : List UInt64} {x : UInt64} : x ∈ srt l ↔ x ∈ l := by
 obtain ⟨k1, k2⟩ := Sort.sort_sorts ltU swoU l.toArray
 obtain ⟨h1, h2, h3⟩ := k1
 have e1 : (Sort.sort ltU l.toArray).extract 0 l.toArray.size = Sort.sort ltU l.toArray := by rw [<- h1]; exact Array.extract_size
 rw [e1, Array.extract_size] at h3
 have := h3.mem_iff (a := x)
 simpa [srt] using this
theorem srt_up (l : List UInt64) : Up (srt l) := by
 obtain ⟨k1, k2⟩ := Sort.sort_sorts ltU swoU l.toArray
 have hsz := k1.1
 simp only [List.size_toArray] at hsz k2
 intro i j x y hij hx hy
 unfold srt at hx hy
 have hj := (List.getElem?_eq_some_iff.1 hy).1
 simp only [Array.length_toList] at hj
 rcases Nat.lt_or_eq_of_le hij with hlt | rfl
 . have := k2 i j (Nat.zero_le _) hlt (by omega)
   simp only [Array.getElem?_toList] at hx hy
   rw [getElem!_pos _ j hj, getElem!_pos _ i (by omega)] at this
   rw [Array.getElem?_eq_getElem (by omega)] at hx hy
   cases hx; cases hy
   simp only [ltU, decide_eq_false_iff_not, UInt64.lt_iff_toNat_lt] at this
   omega
 . rw [hx] at hy; cases hy; exact Nat.le_refl _
theorem small_up : ∀ (l : List UInt64) (last : UInt64), (∀ x ∈ l, last.toNat <= x.toNat /\ x.toNat < 4294967296) -> Up l -> small last l
 | [], _, _, _ => trivial
 | x :: l, last, h, hu => by
   have h0 := h x (by simp)
   refine ⟨?_, small_up l x (fun y hy => ⟨?_, (h y (by simp [hy])).2⟩) ?_⟩
   . rw [UInt64.toNat_sub_of_le _ _ (UInt64.le_iff_toNat_le.2 h0.1)]; omega
   . obtain ⟨j, hj⟩ := List.getElem?_of_mem hy
     exact hu 0 (j + 1) x y (by omega) rfl (by simpa using hj)
   . intro i j y z hij hy hz
     exact hu (i + 1) (j + 1) y z (by omega) (by simpa using hy) (by simpa using hz)
theorem nm_lt (id x : List UInt8) {n : Nat} (h0 : 0 < n) (hn : n <= 4096) : nm id n x < UInt64.ofInt (n : Int) * UInt64.ofInt 784931 := by
 unfold nm numS
 have hnn := ofInt_nat hn
 obtain ⟨f, hf⟩ : ∃ f, f = UInt64.ofInt (n : Int) * UInt64.ofInt 784931 := ⟨_, rfl⟩
 have hfn : f.toNat = n * 784931 := by
  rw [hf, UInt64.toNat_mul, hnn, show (UInt64.ofInt 784931).toNat = 784931 from rfl, Nat.mod_eq_of_lt (by omega)]
 rw [<- hf]
 generalize le (sha (id ++ x)) 0 8 = h
 rw [num_eq h f (by omega), UInt64.lt_iff_toNat_lt, shr32, UInt64.toNat_add, UInt64.toNat_mul, shr32, shr32, UInt64.toNat_mul, and32]
 have hh : h.toNat < 2 ^ 64 := h.toNat_lt
 obtain ⟨a, ha⟩ : ∃ a, a = h.toNat / 4294967296 := ⟨_, rfl⟩
 obtain ⟨b, hb⟩ : ∃ b, b = h.toNat % 4294967296 := ⟨_, rfl⟩
 rw [<- ha, <- hb]
 have ha2 : a <= 4294967295 := by omega
 have hb2 : b <= 4294967295 := by omega
 have h1 : a * f.toNat <= 4294967295 * f.toNat := Nat.mul_le_mul_right _ ha2
 have h2 : b * f.toNat <= 4294967295 * f.toNat := Nat.mul_le_mul_right _ hb2
 rw [Nat.mod_eq_of_lt (a := a * f.toNat) (by omega), Nat.mod_eq_of_lt (a := b * f.toNat) (by omega)]
 have h3 : b * f.toNat / 4294967296 < f.toNat := by
  rw [Nat.div_lt_iff_lt_mul (by decide)]; omega
 rw [Nat.mod_eq_of_lt (by omega), Nat.div_lt_iff_lt_mul (by decide)]
 omega
theorem nums_lt {id : List UInt8} {hs : List (List UInt8)} (hl : (uniq hs).length <= 4096) : ∀ x ∈ nums id hs, x < UInt64.ofInt ((nums id hs).length : Int) * UInt64.ofInt 784931 := by
 intro x hx
 obtain ⟨y, hy, rfl⟩ := List.mem_map.1 hx
 have : (nums id hs).length = (uniq hs).length := by simp [nums]
 rw [this]
 exact nm_lt id y (List.length_pos_of_mem hy) hl
theorem uniq_len (hs : List (List UInt8)) : (uniq hs).length <= hs.length := by
 have := uniqF_len hs []; rw [List.length_nil, Nat.zero_add] at this; exact this
theorem small_nums {id : List UInt8} {hs : List (List UInt8)} (hl : hs.length <= 4096) : small 0 (srt (nums id hs)) := by
 have hl' : (uniq hs).length <= 4096 := Nat.le_trans (uniq_len hs) hl
 refine small_up _ _ (fun x hx => ⟨Nat.zero_le _, ?_⟩) (srt_up _)
 have h1 := nums_lt hl' x (srt_mem.1 hx)
 have h2 : (nums id hs).length = (uniq hs).length := by simp [nums]
 rw [UInt64.lt_iff_toNat_lt, UInt64.toNat_mul, ofInt_nat (by omega), show (UInt64.ofInt 784931).toNat = 784931 from rfl, Nat.mod_eq_of_lt (by omega)] at h1
 omega
abbrev flt (id : List UInt8) (hs : List (List UInt8)) : List UInt8 := filtB (srt (nums id hs))
theorem flt_read {id : List UInt8} {hs : List (List UInt8)} (hl : hs.length <= 4096) :
 readF (flt id hs) = some (srt (nums id hs)) /\ readF (flt id hs ++ [0]) = none /\ readF ((flt id hs).take ((flt id hs).length - 1)) = none /\ 4 <= (flt id hs).length := by
 have hl' : (uniq hs).length <= 4096 := Nat.le_trans (uniq_len hs) hl
 have h2 : (srt (nums id hs)).length = (uniq hs).length := by rw [srt_len]; simp [nums]
 refine read_filt (by omega) (small_nums hl) fun x hx => ?_
 have := nums_lt hl' x (srt_mem.1 hx)
 rwa [srt_len]
theorem bad_len {l : List UInt8} (h : l.length < 4) : readF l = none := by unfold readF; rw [if_neg (by omega)]
def hK (b : UInt8) : List UInt8 := b :: List.replicate 31 0
theorem srt_nil : srt [] = [] := List.eq_nil_of_length_eq_zero (by rw [srt_len]; rfl)
theorem flt_nil (id : List UInt8) : flt id [] = [0, 0, 0, 0] := by
 show filtB (srt []) = _
 rw [srt_nil]; decide
theorem nums_len (id : List UInt8) (hs : List (List UInt8)) : (srt (nums id hs)).length = (uniq hs).length := by rw [srt_len]; simp [nums]
theorem in_flt {id x : List UInt8} {hs : List (List UInt8)} (h : x ∈ hs) : nm id (srt (nums id hs)).length x ∈ srt (nums id hs) := by
 rw [nums_len, srt_mem]
 exact List.mem_map.2 ⟨x, (uniqF_mem hs [] x).2 (.inr h), rfl⟩
theorem maV_in {id x : List UInt8} {hs : List (List UInt8)} (h : x ∈ hs) : maV id [x] (some (srt (nums id hs))) = .tu [.p (.bool true), .p (.int .i64 0)] := by
 simp [maV, in_flt h]
theorem flt_head {id : List UInt8} {hs : List (List UInt8)} (h : (uniq hs).length = 2) : (flt id hs)[0]? = some 2 /\ 4 < (flt id hs).length := by
 have hl : (srt (nums id hs)).length = 2 := by rw [nums_len, h]
 obtain ⟨t, h1, h2⟩ := filt_shape (srt (nums id hs))
 rw [hl] at h1
 have e : lbs (UInt64.ofInt ((2 : Nat) : Int)) 4 = [2, 0, 0, 0] := by decide
 rw [e] at h1
 refine ⟨by show (filtB _)[0]? = _; rw [h1]; rfl, ?_⟩
 show 4 < (filtB _).length
 rw [h1, List.length_append]
 have hb := congrArg List.length h2
 have hne : 0 < (bitsF 0 (srt (nums id hs))).length := by
  cases hs' : srt (nums id hs) with
  | nil => rw [hs'] at hl; simp at hl
  | cons x r => simp [bitsF, bitD]; omega
 rw [bitsQ_len, List.length_append, List.length_map, List.length_replicate] at hb
 simp only [List.length_cons, List.length_nil]
 omega
theorem bytes8 : ∀ l : List UInt8, bytesA (l.map by8) = some l
 | [] => rfl
 | x :: l => by
   show (bytesA (l.map by8)).map _ = _
   rw [bytes8 l, Option.map_some]
   congr 2
   simp
theorem filt_le {id : List UInt8} {hs : List (List UInt8)} (h : hs.length <= 4096) : (flt id hs).length <= 5000000 := by
 obtain ⟨t, h1, h2⟩ := filt_shape (srt (nums id hs))
 show (filtB _).length <= _
 have h3 := bitsF_len _ _ (small_nums (id := id) h)
 have h4 : (srt (nums id hs)).length <= 4096 := by rw [nums_len]; exact Nat.le_trans (uniq_len hs) h
 have hb := congrArg List.length h2
 rw [bitsQ_len, List.length_append, List.length_map, List.length_replicate] at hb
 rw [h1, List.length_append, lbs_len]
 omega
theorem h8K (l : List UInt8) : ∀ x ∈ l.map hK, (H8 x).length = 32 := by
 intro x hx
 obtain ⟨b, _, rfl⟩ := List.mem_map.1 hx
 rfl
theorem works_ok {T : Tbl} : CallA prog G 6 [] T fun v T' es => v = .p (.bool true) /\ T' = T /\ es = [] := by
 refine CallA.wfs fun wf => ?_
 refine CallA.eV 11 func6 ntmps6 results6 ?_
 simp -dsimp +decide only [vp0, ty, en, ↓reduceIte]
 refine (build_ok (id := hK 1) (hs := []) rfl Es.nil (by simp) (small_nums (by simp))).det' ?_
 rw [show filtB (srt (nums (hK 1) [])) = [0, 0, 0, 0] from flt_nil _]
 simp -dsimp +decide (disch := omega) only [vp0, ty, en, ↓reduceIte, Nat.reduceMul]
 refine (build_ok (id := hK 1) (hs := [hK 2, hK 2, hK 3]) rfl (Es.obj (get_n0 T _ []) rfl (h8K [2, 2, 3])) (by simp) (small_nums (by simp))).det' ?_
 have hu : (uniq [hK 2, hK 2, hK 3]).length = 2 := by decide
 obtain ⟨hb0, hb4⟩ := flt_head (id := hK 1) hu
 have hrd := (flt_read (id := hK 1) (hs := [hK 2, hK 2, hK 3]) (by simp)).1
 have hin := maV_in (id := hK 1) (x := hK 3) (hs := [hK 2, hK 2, hK 3]) (by simp)
 have hfl := filt_le (id := hK 1) (hs := [hK 2, hK 2, hK 3]) (by simp)
 unfold flt at hb0 hb4 hrd hfl
 revert hb0 hb4 hrd hfl
 generalize filtB (srt (nums (hK 1) [hK 2, hK 2, hK 3])) = b
 intro hb0 hb4 hrd hfl
 simp -dsimp +decide (disch := omega) only [vp0, ty, en, ↓reduceIte]
 refine (match_ok (f := b) (id := hK 1) (hs := [hK 3]) (by omega) rfl (Es.obj (get_n1 T _ _ []) rfl (h8K [3])) (by simp)).det' ?_
 rw [hrd, hin]
 simp -dsimp +decide (disch := omega) only [vp0, ty, en, ↓reduceIte, Nat.reduceAdd]
 refine (match_ok (f := [0, 0, 0, 0]) (id := hK 1) (hs := [hK 3]) (by simp) rfl (Es.obj (get_n2 T _ _ _ []) rfl (h8K [3])) (by simp)).det' ?_
 rw [show maV (hK 1) [hK 3] (readF [0, 0, 0, 0]) = .tu [.p (.bool false), .p (.int .i64 0)] by rw [show readF [0, 0, 0, 0] = some [] by decide]; rfl]
 simp -dsimp +decide (disch := omega) only [vp0, ty, en, ↓reduceIte]
 refine callA_args (args' := [.vs ([].map by8) 0, .ag ((hK 0).map by8), .p (.slice none 0 0)]) (fun Z ρ vs h => ?_) ?_
 . obtain ⟨v, us, rfl, h1, h2⟩ := h.uncons
   exact .cons (rel_nil h1) h2
 refine (match_ok (f := []) (id := hK 0) (hs := []) (by simp) rfl Es.nil (by simp)).det' ?_
 rw [show maV (hK 0) [] (readF []) = .tu [.p (.bool false), .p (.int .i64 5)] by rw [bad_len (by simp)]; rfl]
 have hb4' : ((4 : Int) < (b.length : Int)) = True := by simp; omega
 have hb0' : (b.map by8)[0]? = some (by8 2) := by rw [List.getElem?_map, hb0]; rfl
 have hne : b.map by8 ≠ [] := fun e => by rw [e] at hb0'; simp at hb0'
 simp -dsimp +decide (disch := omega) only [vq, ty, ↓reduceIte, Int.reduceToNat, bytes8, vstr, hb4', hb0']
 refine ⟨⟨by omega, hne⟩, ?_⟩
 exact Vw.cut ⟨rfl, rfl, rfl⟩
structure LFine (l : List Blk) : Prop where
 f : ∀ b ∈ l, BFine b
 n : 1 <= l.length
 m : l.length <= 15
theorem Hdr.clean {h : Hdr} : ∀ a ∈ h.cs, a.Clean := by
 intro a ha
 rw [Hdr.cs] at ha
 rcases List.mem_cons.1 ha with rfl | ha
 . exact .p _
 rcases List.mem_append.1 ha with ha | ha
 . exact clean8 _ a ha
 rcases List.mem_append.1 ha with ha | ha
 . exact clean8 _ a ha
 simp only [List.mem_cons, List.not_mem_nil, or_false] at ha
 rcases ha with rfl | rfl | rfl <;> exact .p _
theorem Blk.clean {b : Blk} (ok : b.Ok) : ∀ a ∈ b.cs, a.Clean := by
 intro a ha
 rw [Blk.cs] at ha
 rcases List.mem_append.1 ha with ha | ha
 . exact Hdr.clean a ha
 . rw [List.mem_singleton.1 ha]; exact ok.t.k.cl
def BlocksV (v : AV) : Prop := ∃ l : List Blk, LFine l /\ v = .vs (l.flatMap Blk.cs) l.length
theorem blocks15_ok {T : Tbl} {p : Par} (pok : p.Ok) {a : AV} {pl : List Pln} (hb : Es T 3 Pln.cs a pl) (hok : ∀ x ∈ pl, x.Ok) (hl : pl.length <= 1099511627776) :
 CallA prog G 8 [.ag p.cs, a] T fun v T' es => BlocksV v /\ T' = T /\ es = [] := by
 refine CallA.wfs fun wf => ?_
 have wt := wf.t
 have wp := wf.p
 have wa := wf.arg a (by simp)
 have hpr := Par.rules pok
 have hsr := Sl.rules hb.sl (by decide)
 have hhr := Hdr.rules pok.f
 have hf := bcl_rules hhr.1
 have hwz := bcl_rules (h := z68) rfl
 refine CallA.eV 41 func8 ntmps8 results8 ?_
 simp -dsimp +decide only [vp0, ty, ↓reduceIte, Nat.reduceSub, Nat.reduceAdd]
 have wzf : wrA zB 0 p.first.cs = bcl p.first.cs (.p (.slice none 0 0)) := hwz.2.2.2.2.2.2.2.2.1 _ _ hhr.1
 have kk : (∀ k j : Nat, decide (T.length + k < T.length + j) = decide (k < j)) /\ (∀ j : Nat, decide (T.length < T.length + j) = decide (0 < j)) := ⟨fun k j => by simp, fun j => by simp⟩
 simp -dsimp +decide (disch := omega) only [vp0, ty, ↓reduceIte, hpr, ezB, hf, wzf, hhr, rep1]
 have hb0 : BFine ⟨p.first, .p (.slice none 0 0), []⟩ := ⟨⟨pok.f, ⟨by simp, .inr ⟨rfl, rfl⟩⟩, by simp, by simp, by simp⟩, by simp, by simp⟩
 refine SemA.loopK (T.length + 2) (fun s : Nat × List Blk => [(1, a), (2, .ptr T.length 0), (5, .sl (T.length + 1) 0 s.2.length), (6, wint (s.1 : Int))]) (fun s => T ++ [.cells 37 p.cs, .buf 52 69 (s.2.flatMap Blk.cs)]) (fun s => s.1 <= pl.length /\ s.1 <= 14 /\ 1 <= s.2.length /\ s.2.length <= s.1 + 1 /\ ∀ b ∈ s.2, BFine b) (fun s => 14 - s.1) (0, [⟨p.first, .p (.slice none 0 0), []⟩]) [] 0 (fun s : List Blk => [(5, .sl (T.length + 1) 0 s.length)]) (fun s => T ++ [.cells 37 p.cs, .buf 52 69 (s.flatMap Blk.cs)]) (fun s => 1 <= s.length /\ s.length <= 15 /\ ∀ b ∈ s, BFine b) (by omega) ⟨by omega, by omega, by simp, by simp, fun b hb => by rw [List.mem_singleton.1 hb]; exact hb0⟩ (by (try (simp -dsimp +decide (disch := omega) only [vq, Nat.reduceAdd, ci])); first | done | (and_intros <;> first | with_reducible rfl | rfl) | rfl) (by simp [Blk.cs, bcl]) (by simp) ?_ ?_
 . rintro ⟨i, out⟩ g ⟨hi, hi14, ho1, ho2, hof⟩
   dsimp only at hi hi14 ho1 ho2 hof
   have hwo := Blk.wof fun b hb => (hof b hb).ok
   refine SemA.o ?_
   by_cases hc : i < pl.length /\ i < 14
   . have c1 : ((i : Int) < (pl.length : Int)) = True := eq_true (by omega)
     have c2 : ((i : Int) < 14) = True := eq_true (by omega)
     obtain ⟨x, hx⟩ : ∃ x, pl[i]? = some x := ⟨pl[i]'hc.1, by simp [hc.1]⟩
     have hxo := hok x (List.mem_of_getElem? hx)
     simp -dsimp +decide (disch := omega) only [vq, ty, ↓reduceIte, Nat.reduceAdd, hsr, c1, c2]
     refine SemA.drawF (fun s : Blk × Bool => [(1, a), (2, .ptr T.length 0), (5, .sl (T.length + 1) 0 out.length), (6, wint (i : Int)), (7, .ptr (T.length + 2) 0), (8, .p (.bool s.2))]) (fun s => T ++ [.cells 37 p.cs, .buf 52 69 (out.flatMap Blk.cs), .cells 52 s.1.cs]) (fun s => BFine s.1) [] 13 (fun i => decide (i < T.length + 2)) (.st 0 true (.st 1 true (.st 2 true (.st 3 true (.st 4 true (.st 5 true (.st 6 true (.st 7 true (.alt 8 (.st 9 true (.st 10 true (.st 11 true (.st 12 false (.st 13 false (.st 14 true .nil)))))) 12 (.st 8 false (.st 9 true (.st 10 true (.st 11 true (.st 13 false (.st 14 true .nil))))))))))))))) mixed (by kernel_rfl) ?_ ?_
     . have kf : ∀ l2, ∃ l', keepT (fun i => decide (i < T.length + 2)) (T ++ l2) = T ++ l' := fun l2 => keep_frontN T l2 2
       have kix := fun (l2 : Tbl) (ik : IntKind) (z : Int) (K : AV -> Prop) => (show ixA 3 a (.p (.int ik z)) (keepT (fun i => decide (i < T.length + 2)) (T ++ l2)) K = ((0 <= z /\ z < pl.length) /\ K (a.pl (z.toNat * 3))) by
        obtain ⟨l', e⟩ := kf l2
        rw [e]; exact (hb.app l').sl.ix (by decide) ik z)
       have kld := fun (l2 : Tbl) (K : AV -> Prop) => (show loadA prog 79 (a.pl (i * 3)) (keepT (fun i => decide (i < T.length + 2)) (T ++ l2)) K = K (.ag x.cs) by
        obtain ⟨l', e⟩ := kf l2
        rw [e, ((hb.app l').ld (P := prog) (t := 79) (by (simp -dsimp +decide only [])) (by (simp -dsimp +decide only [])) (by decide)).2 i K hc.1, hx]; rfl)
       simp -dsimp +decide (disch := omega) only [vr, ty, en, ↓reduceIte, Nat.reduceAdd, vpu, hpr, kix, kld, kk, keepO, ezB]
       refine ⟨⟨by omega, by omega⟩, ?_, ?_⟩
       all_goals
        refine (grow15_ok (mark := UInt32.ofInt (i : Int)) pok (Es.obj (xs := out) (gn1 T _ _ _) rfl fun b hb => Blk.cs_len (hof b hb).ok) (fun b hb => (hof b hb).ok) (by omega) hxo).mono ?_
        rintro v T' es ⟨⟨b, is, hbf, rfl⟩, rfl, rfl⟩
        have hbl := Blk.cs_len hbf.ok
        have hbw : wrA zB 0 b.cs = b.cs := wrA_all (by rw [hbl]; rfl)
        simp -dsimp +decide (disch := omega) only [vp0, ty, ↓reduceIte, Nat.reduceAdd, Nat.reduceLT, vpu, kk, ezB, hbl, hbw, Blk.ones hbf.ok, hwz]
        first
         | (refine ⟨(b, is), hbf, SeeL.done ⟨rfl, ?_, rfl, by simp⟩⟩
            (simp -dsimp +decide only [vp0, Nat.reduceAdd]))
     . rintro ⟨b, is⟩ hbf g tmp
       dsimp only at hbf
       have hbl := Blk.cs_len hbf.ok
       have hbw := Blk.wo hbf.ok
       have hb69 : List.take 69 b.cs = b.cs := List.take_of_length_le (by rw [hbl]; exact Nat.le_refl _)
       have hwb : wrA zB 0 b.cs = b.cs := wrA_all (by rw [hbl]; rfl)
       have hfl : (out.flatMap Blk.cs).length = out.length * 69 := flat_len fun b hb => Blk.cs_len (hof b hb).ok
       cases is with
       | true =>
         simp -dsimp +decide (disch := omega) only [vt2, vze, vq, ty, ↓reduceIte, Nat.reduceAdd, Nat.reduceMul, vi, vt, wt, wa, hpr, hbl, hbw, hb69, hwb, ezB, rep1, hwo, hfl, hwz]
         refine ⟨Blk.ones hbf.ok, ⟨by omega, by omega⟩, (i + 1, out ++ [b]), ⟨⟨by dsimp only; omega, by dsimp only; omega, by simp, by simp only [List.length_append, List.length_cons, List.length_nil]; omega, fun u hu => ?_⟩, by dsimp only; omega⟩, ⟨by simp, rfl⟩, by simp⟩
         rcases List.mem_append.1 hu with hu | hu
         . exact hof u hu
         . rw [List.mem_singleton.1 hu]; exact hbf
       | false =>
         simp -dsimp +decide (disch := omega) only [vt2, vze, vq, ↓reduceIte, Nat.reduceAdd, vi, vt, wt, wa, hpr, hwo]
         exact ⟨(i + 1, out), ⟨⟨by dsimp only; omega, by dsimp only; omega, ho1, by dsimp only; omega, hof⟩, by dsimp only; omega⟩, ⟨rfl, rfl⟩, rfl⟩
   . rcases Nat.lt_or_ge i pl.length with h | h
     . have c1 : ((i : Int) < (pl.length : Int)) = True := eq_true (by omega)
       have c2 : ((i : Int) < 14) = False := eq_false (by omega)
       simp -dsimp +decide (disch := omega) only [vt2, vze, vq, ty, ↓reduceIte, Nat.reduceAdd, vt, wt, wa, hpr, hsr, c1, c2, hwo]
       exact ⟨out, ⟨ho1, by omega, hof⟩, rfl, rfl⟩
     . have c1 : ((i : Int) < (pl.length : Int)) = False := eq_false (by omega)
       simp -dsimp +decide (disch := omega) only [vt2, vze, vq, ty, ↓reduceIte, Nat.reduceAdd, vt, wt, wa, hpr, hsr, c1, hwo]
       exact ⟨out, ⟨ho1, by omega, hof⟩, rfl, rfl⟩
 . rintro out g tmp ⟨ho1, ho2, hof⟩
   simp -dsimp +decide (disch := omega) only [vp0, ↓reduceIte, Nat.reduceAdd]
   refine Vw.pub (T.length + 1) (gn1 T _ _ _) rfl (fun u hu => ?_) ?_
   . obtain ⟨b, hb, hu⟩ := List.mem_flatMap.1 hu
     exact Blk.clean (hof b hb).ok u hu
   simp -dsimp +decide only [va, ↓reduceIte, wp]
   exact Vw.cut ⟨⟨out, ⟨hof, ho1, ho2⟩, rfl⟩, rfl, rfl⟩
structure TRaw (x : TTx) : Prop where
 i : Lst 36 TIn.cs x.ia x.ins
 o : Lst 2 TOut.cs x.oa x.outs
 il : x.ins.length <= 1048576
 ol : x.outs.length <= 1048576
 ii : ∀ y ∈ x.ins, y.Ok
 oo : ∀ y ∈ x.outs, y.Ok
structure BRaw (b : Blk) : Prop where
 h : b.h.Ok
 t : Lst 4 TTx.cs b.ta b.txs
 l : b.txs.length <= 1048576
 ok : ∀ t ∈ b.txs, TRaw t
def TSmall (t : TTx) : Prop := t.ins.length <= 8 /\ t.outs.length <= 8
def BSmall (b : Blk) : Prop := b.txs.length <= 12 /\ ∀ t ∈ b.txs, TSmall t
def FewP (l : List Blk) : Prop := l.length <= 20 /\ ∀ b ∈ l, BSmall b
theorem TRaw.ok {t : TTx} (h : TRaw t) (s : TSmall t) : t.Ok := ⟨h.i, h.o, by have := s.1; omega, by have := s.2; omega, h.ii, h.oo⟩
theorem BRaw.okb {b : Blk} (h : BRaw b) (s : BSmall b) : b.Ok := ⟨h.h, h.t, by have := s.1; omega, fun t ht => (h.ok t ht).ok (s.2 t ht), fun t ht => by have := s.2 t ht; exact ⟨by have := this.1; omega, by have := this.2; omega⟩⟩
theorem TTx.Ok.raw {t : TTx} (h : t.Ok) : TRaw t := ⟨h.i, h.o, by have := h.il; omega, by have := h.ol; omega, h.ii, h.oo⟩
theorem Blk.Ok.raw {b : Blk} (h : b.Ok) : BRaw b := ⟨h.h, h.t, by have := h.l; omega, fun t ht => (h.ok t ht).raw⟩
theorem TTx.rulesR {x : TTx} (ok : TRaw x) : x.cs.length = 4 /\ x.cs[0]? = some (w32 x.v) /\ x.cs[1]? = some x.ia /\ x.cs[2]? = some x.oa /\ x.cs[3]? = some (w32 x.lock) /\
 List.take 4 (List.drop 0 x.cs) = x.cs /\ List.take 4 x.cs = x.cs /\ (∀ q, x.cs.map (AV.wo q) = x.cs) /\ ones x.cs = true := by
 have k1 := ok.i.k
 have k2 := ok.o.k
 refine ⟨rfl, rfl, rfl, rfl, rfl, rfl, rfl, fun q => ?_, ?_⟩
 . simp only [TTx.cs, List.map_cons, List.map_nil, k1.wo, k2.wo, w32, AV.wo]
 . simp only [TTx.cs, ones, List.all_cons, List.all_nil, k1.one, k2.one, Bool.and_true]; rfl
theorem few15_ok {T : Tbl} {a : AV} {l : List Blk} (hb : Es T 69 Blk.cs a l) (hok : ∀ b ∈ l, BRaw b) (hl : l.length <= 1048576) :
 CallA prog G 5 [a] T fun v T' es => (∃ f : Bool, v = .p (.bool f) /\ (f = true -> FewP l)) /\ T' = T /\ es = [] := by
 refine CallA.wfs fun wf => ?_
 have wt := wf.t
 have wa := wf.arg a (by simp)
 have hsr := Sl.rules hb.sl (by decide)
 have hlsl := Sl.loads hb.sl (P := prog) (t := 50) (by (simp -dsimp +decide only []))
 have wtz : ∀ t : TTx, wrA [oW, AV.p (Value.slice none 0 0), AV.p (Value.slice none 0 0), oW] 0 t.cs = t.cs := fun _ => rfl
 have no : (∃ f : Bool, (AV.p (.bool false)) = .p (.bool f) /\ (f = true -> FewP l)) := ⟨false, rfl, fun h => nomatch h⟩
 refine CallA.eV 119 func5 ntmps5 results5 ?_
 simp -dsimp +decide only [vp0, ty, ↓reduceIte, Nat.reduceSub]
 simp -dsimp +decide (disch := omega) only [vp0, ↓reduceIte, hsr]
 refine CondP.dec (fun h20 => ?_) (fun h20 => ?_)
 . simp -dsimp +decide (disch := omega) only [va, ↓reduceIte]
   exact Vw.done ⟨no, rfl, rfl⟩
 simp -dsimp +decide (disch := omega) only [va, ↓reduceIte]
 refine SemA.loopK T.length (fun i : Nat => [(0, a), (3, wint (i : Int))]) (fun _ => T) (fun i => i <= l.length /\ ∀ b ∈ l.take i, BSmall b) (fun i => l.length - i) 0 [] 0 (fun _ : Unit => []) (fun _ => T) (fun _ => ∀ b ∈ l, BSmall b) (by omega) ⟨by omega, by simp⟩ (by (try (simp -dsimp +decide (disch := omega) only [vq, Nat.reduceAdd, ci])); first | done | (and_intros <;> first | with_reducible rfl | rfl) | rfl) rfl (by simp) ?_ ?_
 . rintro i g ⟨hi, hs⟩
   refine SemA.o ?_
   simp -dsimp +decide (disch := omega) only [vq, ty, ↓reduceIte, Nat.reduceAdd, hsr]
   refine CondP.dec (fun hc => ?_) (fun hc => ?_)
   . obtain ⟨b, hbx⟩ : ∃ b, l[i]? = some b := ⟨l[i]'(by omega), by simp⟩
     have hbo := hok b (List.mem_of_getElem? hbx)
     have hbl := hbo.l
     have hfd := fun j k (K : AV -> Prop) => Sl.fld (K := K) hb.sl (show 0 < l.length by omega) j k
     have hta : (l.flatMap Blk.cs)[i * 69 + 68]? = some b.ta := by rw [flat_cell hb.wd hbx (by decide)]; exact Blk.cs_tah hbo.h
     have hln := fun (Y : Tbl) s2 K => ((hbo.t.es Y).sl).ln (K := K) s2
     simp -dsimp +decide (disch := omega) only [vp0, ty, ↓reduceIte, hsr, hlsl, hfd, hta, hln]
     refine ⟨⟨by omega, by omega⟩, CondP.dec (fun h12 => ?_) (fun h12 => ?_)⟩
     . simp -dsimp +decide (disch := omega) only [va, ↓reduceIte]
       exact Vw.done ⟨no, rfl, rfl⟩
     simp -dsimp +decide (disch := omega) only [va, ↓reduceIte]
     refine SemA.loopK T.length (fun k : Nat => [(0, a), (3, wint (i : Int)), (4, wint (k : Int))]) (fun _ => T) (fun k => k <= b.txs.length /\ ∀ t ∈ b.txs.take k, TSmall t) (fun k => b.txs.length - k) 0 [] 2 (fun _ : Unit => [(0, a), (3, wint (i : Int))]) (fun _ => T) (fun _ => ∀ t ∈ b.txs, TSmall t) (by omega) ⟨by omega, by simp⟩ (by (try (simp -dsimp +decide (disch := omega) only [vq, Nat.reduceAdd, ci])); first | done | (and_intros <;> first | with_reducible rfl | rfl) | rfl) rfl (by simp) ?_ ?_
     . rintro k g ⟨hk, hts⟩
       refine SemA.o ?_
       simp -dsimp +decide (disch := omega) only [vq, ty, ↓reduceIte, Nat.reduceAdd, hsr, hlsl, hfd, hta, hln]
       refine ⟨⟨by omega, by omega⟩, CondP.dec (fun hc2 => ?_) (fun hc2 => ?_)⟩
       . obtain ⟨t, ht⟩ : ∃ t, b.txs[k]? = some t := ⟨b.txs[k]'(by omega), by simp⟩
         have hto := hbo.ok t (List.mem_of_getElem? ht)
         have htr := TTx.rulesR hto
         have hldt := fun (Y : Tbl) (K : AV -> Prop) => (show loadA prog 63 (b.ta.pl (k * 4)) Y K = K (.ag t.cs) by
          rw [((hbo.t.es Y).ld (P := prog) (t := 63) (by (simp -dsimp +decide only [])) (by (simp -dsimp +decide only [])) (by decide)).2 k K (by omega), ht]
          rfl)
         have hixt := fun (Y : Tbl) (ik : IntKind) (z : Int) (K : AV -> Prop) => (hbo.t.es Y).sl.ix (K := K) (by decide) ik z
         have hli := fun (Y : Tbl) s2 K => ((hto.i.es Y).sl).ln (K := K) s2
         have hlo := fun (Y : Tbl) s2 K => ((hto.o.es Y).sl).ln (K := K) s2
         have hil := hto.il
         have hol := hto.ol
         by_cases hsm : TSmall t
         . have c1 : ((t.ins.length : Int) > 8) = False := eq_false (by have := hsm.1; omega)
           have c2 : ((t.outs.length : Int) > 8) = False := eq_false (by have := hsm.2; omega)
           simp -dsimp +decide (disch := omega) only [vp0, ty, ↓reduceIte, Nat.reduceAdd, Nat.reduceLT, hsr, hlsl, hfd, hta, hldt, hixt, htr, hli, hlo, wtz, c1, c2]
           refine ⟨⟨by omega, by omega⟩, ⟨by omega, by omega⟩, ?_⟩
           refine SemA.loopK (T.length + 1) (fun s : Nat × Int => [(0, a), (3, wint (i : Int)), (4, wint (k : Int)), (5, .ptr T.length 0), (6, .p (.int .i64 s.2)), (7, wint (s.1 : Int))]) (fun _ => T ++ [.cells 63 t.cs]) (fun s => s.1 <= t.ins.length) (fun s => t.ins.length - s.1) (0, 0) [] 4 (fun n : Int => [(0, a), (3, wint (i : Int)), (4, wint (k : Int)), (5, .ptr T.length 0), (6, .p (.int .i64 n))]) (fun _ => T ++ [.cells 63 t.cs]) (fun _ => True) (by omega) (by dsimp only; omega) (by (try (simp -dsimp +decide (disch := omega) only [vq, Nat.reduceAdd, ci])); first | done | (and_intros <;> first | with_reducible rfl | rfl) | rfl) rfl (by simp) ?_ ?_
           . rintro ⟨j, n⟩ g hj
             dsimp only at hj
             refine SemA.o ?_
             simp -dsimp +decide (disch := omega) only [vq, ty, ↓reduceIte, Nat.reduceAdd, htr, hli]
             refine CondP.dec (fun hc3 => ?_) (fun hc3 => ?_)
             . obtain ⟨x, hx⟩ : ∃ x, t.ins[j]? = some x := ⟨t.ins[j]'(by omega), by simp⟩
               have hxo := hto.ii x (List.mem_of_getElem? hx)
               have hxr := TIn.rules hxo
               have hwl := hxo.wl
               have hfi := fun j k (K : AV -> Prop) => Sl.fld (K := K) (hto.i.es T).sl (show 0 < t.ins.length by omega) j k
               have hixi := fun (Y : Tbl) (ik : IntKind) (z : Int) (K : AV -> Prop) => (hto.i.es Y).sl.ix (K := K) (by decide) ik z
               have hlsc := fun (Y : Tbl) (K : AV -> Prop) => (show loadA prog 53 (t.ia.pl (j * 36 + 33)) Y K = K x.sc.a by
                rw [((hto.i.es Y).sl).ld (P := prog) (t := 53) (by (simp -dsimp +decide only [])) (j * 36 + 33) (by omega), flat_cell (hto.i.es Y).wd hx (by decide), hxr.2.2.2.2.1]
                rfl)
               have hlwa := fun (Y : Tbl) (K : AV -> Prop) => (show loadA prog 66 (t.ia.pl (j * 36 + 35)) Y K = K x.wa by
                rw [((hto.i.es Y).sl).ld (P := prog) (t := 66) (by (simp -dsimp +decide only [])) (j * 36 + 35) (by omega), flat_cell (hto.i.es Y).wd hx (by decide), hxr.2.2.2.2.2.2.1]
                rfl)
               have hnsc := fun (Y : Tbl) s2 K => (hxo.s.bs Y).ln (K := K) s2
               have hnwa := fun (Y : Tbl) s2 K => ((hxo.w.es Y).sl).ln (K := K) s2
               refine SemA.draw (fun i => true) [(0, true), (1, true), (2, true), (3, true), (4, true), (5, true), (6, true), (7, true), (8, true), (9, true), (10, true), (11, true), (12, true), (13, true), (14, true), (15, true), (16, true), (17, true)] mixed (by kernel_rfl) ?_
               simp -dsimp +decide (disch := omega) only [vp0, ty, ↓reduceIte, vt, htr, hixi, hfi, hlsc, hlwa, hnsc, hnwa]
               refine ⟨⟨by omega, by omega⟩, ⟨by omega, by omega⟩, ?_⟩
               refine SemA.loopK (T.length + 1) (fun s : Nat × Int => [(0, a), (3, wint (i : Int)), (4, wint (k : Int)), (5, .ptr T.length 0), (6, .p (.int .i64 s.2)), (7, wint (j : Int)), (8, wint (s.1 : Int))]) (fun _ => T ++ [.cells 63 t.cs]) (fun s => s.1 <= x.wit.length) (fun s => x.wit.length - s.1) (0, _) [] 6 (fun n : Int => [(0, a), (3, wint (i : Int)), (4, wint (k : Int)), (5, .ptr T.length 0), (6, .p (.int .i64 n)), (7, wint (j : Int))]) (fun _ => T ++ [.cells 63 t.cs]) (fun _ => True) (by omega) (by dsimp only; omega) (by (try (simp -dsimp +decide (disch := omega) only [vq, Nat.reduceAdd, ci])); first | done | (and_intros <;> first | with_reducible rfl | rfl) | rfl) rfl (by simp) ?_ ?_
               . rintro ⟨w, n⟩ g hw
                 dsimp only at hw
                 refine SemA.o ?_
                 simp -dsimp +decide (disch := omega) only [vq, ty, ↓reduceIte, Nat.reduceAdd, htr, hixi, hfi, hlwa, hnwa]
                 refine ⟨⟨by omega, by omega⟩, CondP.dec (fun hc4 => ?_) (fun hc4 => ?_)⟩
                 . obtain ⟨y, hy⟩ : ∃ y, x.wit[w]? = some y := ⟨x.wit[w]'(by omega), by simp⟩
                   have hyo := hxo.y y (List.mem_of_getElem? hy)
                   have hixw := fun (Y : Tbl) (ik : IntKind) (z : Int) (K : AV -> Prop) => (hxo.w.es Y).sl.ix (K := K) (by decide) ik z
                   have hlwy := fun (Y : Tbl) (K : AV -> Prop) => (show loadA prog 53 (x.wa.pl w) Y K = K y.a by
                    rw [((hxo.w.es Y).sl).ld (P := prog) (t := 53) (by (simp -dsimp +decide only [])) w (by omega), show (x.wit.flatMap fun y : By => [y.a])[w]? = (x.wit.flatMap fun y : By => [y.a])[w * 1 + 0]? by rw [Nat.mul_one, Nat.add_zero], flat_cell (hxo.w.es Y).wd hy (by decide)]
                    rfl)
                   have hnwy := fun (Y : Tbl) s2 K => (hyo.bs Y).ln (K := K) s2
                   simp -dsimp +decide (disch := omega) only [vt2, vze, vq, ty, ↓reduceIte, Nat.reduceAdd, vi, vt, wt, wa, htr, hixi, hfi, hlwa, hixw, hlwy, hnwy]
                   exact ⟨⟨by omega, by omega⟩, ⟨by omega, by omega⟩, (w + 1, _), ⟨by dsimp only; omega, by dsimp only; omega⟩, ⟨rfl, rfl⟩⟩
                 . simp -dsimp +decide (disch := omega) only [vt2, vze, vq, ↓reduceIte, Nat.reduceAdd, vt, wt, wa, htr]
                   exact ⟨_, rfl⟩
               . rintro n g tmp -
                 simp -dsimp +decide (disch := omega) only [vt2, vze, vq, ↓reduceIte, Nat.reduceAdd, vi, vt, wt, wa, htr]
                 exact ⟨(j + 1, n), ⟨by dsimp only; omega, by dsimp only; omega⟩, ⟨rfl, rfl⟩⟩
             . simp -dsimp +decide (disch := omega) only [vt2, vze, vq, ↓reduceIte, Nat.reduceAdd, vt, wt, wa, htr]
               exact ⟨_, rfl⟩
           . rintro n g tmp -
             simp -dsimp +decide (disch := omega) only [vq, ↓reduceIte, Nat.reduceAdd]
             refine SemA.loopK (T.length + 1) (fun s : Nat × Int => [(0, a), (3, wint (i : Int)), (4, wint (k : Int)), (5, .ptr T.length 0), (6, .p (.int .i64 s.2)), (9, wint (s.1 : Int))]) (fun _ => T ++ [.cells 63 t.cs]) (fun s => s.1 <= t.outs.length) (fun s => t.outs.length - s.1) (0, n) [] 8 (fun n : Int => [(0, a), (3, wint (i : Int)), (4, wint (k : Int)), (5, .ptr T.length 0), (6, .p (.int .i64 n))]) (fun _ => T ++ [.cells 63 t.cs]) (fun _ => True) (by omega) (by dsimp only; omega) (by (try (simp -dsimp +decide (disch := omega) only [vq, Nat.reduceAdd, ci])); first | done | (and_intros <;> first | with_reducible rfl | rfl) | rfl) rfl (by simp) ?_ ?_
             . rintro ⟨j, n⟩ g hj
               dsimp only at hj
               refine SemA.o ?_
               simp -dsimp +decide (disch := omega) only [vq, ty, ↓reduceIte, Nat.reduceAdd, htr, hlo]
               refine CondP.dec (fun hc3 => ?_) (fun hc3 => ?_)
               . obtain ⟨x, hx⟩ : ∃ x, t.outs[j]? = some x := ⟨t.outs[j]'(by omega), by simp⟩
                 have hxo := hto.oo x (List.mem_of_getElem? hx)
                 have hfo := fun j k (K : AV -> Prop) => Sl.fld (K := K) (hto.o.es T).sl (show 0 < t.outs.length by omega) j k
                 have hixo := fun (Y : Tbl) (ik : IntKind) (z : Int) (K : AV -> Prop) => (hto.o.es Y).sl.ix (K := K) (by decide) ik z
                 have hlsc := fun (Y : Tbl) (K : AV -> Prop) => (show loadA prog 53 (t.oa.pl (j * 2 + 1)) Y K = K x.sc.a by
                  rw [((hto.o.es Y).sl).ld (P := prog) (t := 53) (by (simp -dsimp +decide only [])) (j * 2 + 1) (by omega), flat_cell (hto.o.es Y).wd hx (by decide)]
                  rfl)
                 have hnsc := fun (Y : Tbl) s2 K => (hxo.s.bs Y).ln (K := K) s2
                 simp -dsimp +decide (disch := omega) only [vt2, vze, vq, ty, ↓reduceIte, Nat.reduceAdd, vi, vt, wt, wa, htr, hixo, hfo, hlsc, hnsc]
                 exact ⟨⟨by omega, by omega⟩, (j + 1, _), ⟨by dsimp only; omega, by dsimp only; omega⟩, ⟨rfl, rfl⟩⟩
               . simp -dsimp +decide (disch := omega) only [vt2, vze, vq, ↓reduceIte, Nat.reduceAdd, vt, wt, wa, htr]
                 exact ⟨_, rfl⟩
             . rintro n g tmp -
               simp -dsimp +decide (disch := omega) only [vq, ↓reduceIte, Nat.reduceAdd]
               refine CondP.dec (fun h1 => ?_) (fun h1 => ?_)
               . simp -dsimp +decide (disch := omega) only [va, ↓reduceIte]
                 exact Vw.cut ⟨no, rfl, rfl⟩
               . simp -dsimp +decide (disch := omega) only [vt2, vze, vq, ↓reduceIte, Nat.reduceAdd, vi, vt, wt, wa]
                 refine ⟨k + 1, ⟨⟨by omega, fun u hu => ?_⟩, by omega⟩, rfl⟩
                 rw [List.take_add_one, ht] at hu
                 rcases List.mem_append.1 hu with hu | hu
                 . exact hts u hu
                 . have hu : u = t := by simpa using hu
                   rw [hu]; exact hsm
         . by_cases h8 : t.ins.length <= 8
           . have c1 : ((t.ins.length : Int) > 8) = False := eq_false (by omega)
             have c2 : ((t.outs.length : Int) > 8) = True := eq_true (by rcases Nat.lt_or_ge 8 t.outs.length with h | h; omega; exact absurd ⟨h8, h⟩ hsm)
             simp -dsimp +decide (disch := omega) only [vp0, ty, ↓reduceIte, Nat.reduceAdd, Nat.reduceLT, hsr, hlsl, hfd, hta, hldt, hixt, htr, hli, hlo, wtz, c1, c2]
             exact ⟨⟨by omega, by omega⟩, ⟨by omega, by omega⟩, Vw.cut ⟨no, rfl, rfl⟩⟩
           . have c1 : ((t.ins.length : Int) > 8) = True := eq_true (by omega)
             simp -dsimp +decide (disch := omega) only [vp0, ty, ↓reduceIte, Nat.reduceAdd, Nat.reduceLT, hsr, hlsl, hfd, hta, hldt, hixt, htr, hli, wtz, c1]
             exact ⟨⟨by omega, by omega⟩, ⟨by omega, by omega⟩, Vw.cut ⟨no, rfl, rfl⟩⟩
       . have e : k = b.txs.length := by omega
         subst e
         rw [List.take_length] at hts
         simp -dsimp +decide (disch := omega) only [vt2, vze, vq, ↓reduceIte, Nat.reduceAdd, wt, wa]
         exact ⟨(), hts⟩
     . rintro _ g tmp hts
       simp -dsimp +decide (disch := omega) only [vt2, vze, vq, ↓reduceIte, Nat.reduceAdd, vi, wt, wa]
       refine ⟨i + 1, ⟨⟨by omega, fun u hu => ?_⟩, by omega⟩, rfl⟩
       rw [List.take_add_one, hbx] at hu
       rcases List.mem_append.1 hu with hu | hu
       . exact hs u hu
       . have hu : u = b := by simpa using hu
         rw [hu]; exact ⟨by omega, hts⟩
   . have e : i = l.length := by omega
     subst e
     rw [List.take_length] at hs
     simp -dsimp +decide (disch := omega) only [vt2, vze, vp0, ↓reduceIte, Nat.reduceAdd, wt, wa]
     exact ⟨(), hs⟩
 . rintro _ g tmp hs
   simp -dsimp +decide (disch := omega) only [vp0, ↓reduceIte, Nat.reduceAdd]
   exact Vw.done ⟨⟨true, rfl, fun _ => ⟨by omega, hs⟩⟩, rfl, rfl⟩
theorem wrA_flat {α : Type} {f : α -> List AV} {sz : Nat} {xs : List α} (hw : ∀ x ∈ xs, (f x).length = sz) {n : Nat} {x y : α} (hx : xs[n]? = some x) {k : Nat} {c : List AV} (hk : k + c.length <= sz) (hy : wrA (f x) k c = f y) : wrA (xs.flatMap f) (n * sz + k) c = (xs.set n y).flatMap f := by
 have hn := (List.getElem?_eq_some_iff.1 hx).1
 have e : xs = xs.take n ++ x :: xs.drop (n + 1) := by
  have h1 := List.take_append_drop n xs
  rw [List.drop_eq_getElem_cons hn] at h1
  rw [List.getElem?_eq_getElem hn] at hx
  rw [Option.some.inj hx] at h1
  exact h1.symm
 have hl : ((xs.take n).flatMap f).length = n * sz := by
  rw [flat_len fun x hx => hw x (List.mem_of_mem_take hx), List.length_take, Nat.min_eq_left (by omega)]
 have hxl := hw x (List.mem_of_getElem? hx)
 have e2 : xs.flatMap f = (xs.take n).flatMap f ++ (f x ++ (xs.drop (n + 1)).flatMap f) := by
  conv => lhs; rw [e]
  rw [List.flatMap_append, List.flatMap_cons]
 have e3 : (xs.set n y).flatMap f = (xs.take n).flatMap f ++ (f y ++ (xs.drop (n + 1)).flatMap f) := by
  rw [List.set_eq_take_append_cons_drop, if_pos hn, List.flatMap_append, List.flatMap_cons]
 rw [e2, e3, <- hy, wrA_eq (by rw [List.length_append, List.length_append, hl, hxl]; omega), wrA_eq (by omega)]
 rw [List.take_append, List.take_of_length_le (by rw [hl]; omega), hl, show n * sz + k - n * sz = k by omega, List.take_append_of_le_length (by omega)]
 rw [show n * sz + k + c.length = n * sz + (k + c.length) by omega, <- hl, List.drop_length_add_append, List.drop_append_of_le_length (by omega)]
 simp only [List.append_assoc]
abbrev BK (bs : List Blk) : AObj := .buf 52 69 (bs.flatMap Blk.cs)
def TK (V : Tbl) (j : Nat) (bs : List Blk) : Tbl := V.set j (BK bs)
theorem TK.rules {V : Tbl} {j : Nat} (hj : j < V.length) (bs : List Blk) : (∀ l, (TK V j bs ++ l)[j]? = some (BK bs)) /\ (TK V j bs)[j]? = some (BK bs) /\ (TK V j bs).length = V.length /\ (∀ l o, (TK V j bs ++ l).set j o = V.set j o ++ l) /\ (∀ o, (TK V j bs).set j o = V.set j o) := by
 have hl : (TK V j bs).length = V.length := List.length_set
 refine ⟨fun l => by rw [List.getElem?_append_left (by omega), TK, List.getElem?_set_self hj], by rw [TK, List.getElem?_set_self hj], hl, fun l o => by rw [List.set_append_left _ _ (by omega), TK, List.set_set], fun o => by rw [TK, List.set_set]⟩
theorem Blk.wr {b : Blk} (ok : b.h.Ok) : (∀ x : List UInt8, x.length = 32 -> wrA b.cs 1 (x.map by8) = Blk.cs { b with h := { b.h with prev := x } }) /\ (∀ x : List UInt8, x.length = 32 -> wrA b.cs 33 (x.map by8) = Blk.cs { b with h := { b.h with root := x } }) := by
 have hl := Hdr.cs_len ok
 have key : ∀ (k : Nat) (c : List AV), k + c.length <= 68 -> wrA b.cs k c = wrA b.h.cs k c ++ [b.ta] := fun k c hk => by
  rw [wrA_eq (by rw [Blk.cs_lh ok]; omega), wrA_eq (by omega), Blk.cs, List.take_append_of_le_length (by omega), List.drop_append_of_le_length (by omega)]
  simp only [List.append_assoc]
 refine ⟨fun x hx => ?_, fun x hx => ?_⟩
 . rw [key _ _ (by rw [List.length_map]; omega), (Hdr.wr ok).1 x hx]; rfl
 . rw [key _ _ (by rw [List.length_map]; omega), (Hdr.wr ok).2.1 x hx]; rfl
theorem mend15_ok {V : Tbl} {j : Nat} (hj : j < V.length) {bs : List Blk} (hok : ∀ b ∈ bs, b.Ok) (hl : bs.length <= 1000) {n : Nat} (hn : n < bs.length) :
 CallA prog G 18 [.sl j 0 bs.length, wint (n : Int)] (TK V j bs) fun v T' es => v = .tu [] /\ (∃ bs' : List Blk, bs'.length = bs.length /\ (∀ b ∈ bs', b.Ok) /\ T' = TK V j bs') /\ es = [(j, false)] := by
 refine CallA.wfs fun wf => ?_
 obtain ⟨b, hb⟩ : ∃ b, bs[n]? = some b := ⟨bs[n], by simp [hn]⟩
 have hbo := hok b (List.mem_of_getElem? hb)
 have hbl := hbo.l
 have hlen : ∀ cs, (TK V j cs).length = V.length := fun cs => (TK.rules hj cs).2.2.1
 have hw : ∀ q : Nat -> Bool, (∀ i, i < V.length -> q i = false) -> ∀ bs' : List Blk, (∀ b ∈ bs', b.Ok) -> (TK V j bs').map (AObj.wo q) = TK V j bs' := fun q hq bs' hok' => by
  have h1 := (wf.wf q (by rw [hlen]; exact hq)).1
  rw [TK, List.map_set] at h1
  have h2 := congrArg (fun l => l.set j (BK bs')) h1
  simp only [List.set_set] at h2
  rw [TK, List.map_set, AObj.wo, Blk.wof hok']
  exact h2
 have hw1 : ∀ bs' : List Blk, (∀ b ∈ bs', b.Ok) -> (∀ k, (TK V j bs').map (AObj.wo (fun i => decide (V.length + k <= i))) = TK V j bs') /\ (TK V j bs').map (AObj.wo (fun i => decide (V.length <= i))) = TK V j bs' := fun bs' h => ⟨fun k => hw _ (fun i hi => by simp; omega) bs' h, hw _ (fun i hi => by simp; omega) bs' h⟩
 have hE := Es.obj (sz := 69) (f := Blk.cs) (xs := bs) (TK.rules hj bs).2.1 rfl (fun b hb => Blk.cs_len (hok b hb))
 have hsr := Sl.rules hE.sl (by decide)
 have hlsl := Sl.loads hE.sl (P := prog) (t := 50) (by (simp -dsimp +decide only []))
 have hfd := fun j k (K : AV -> Prop) => Sl.fld (K := K) hE.sl (show 0 < bs.length by omega) j k
 have hta : (bs.flatMap Blk.cs)[n * 69 + 68]? = some b.ta := by rw [flat_cell hE.wd hb (by decide)]; exact Blk.cs_tah hbo.h
 have hln := fun (Y : Tbl) s2 K => ((hbo.t.es Y).sl).ln (K := K) s2
 have hiw : ∀ (m : List TTx) q, (m.flatMap fun t => t.id.map by8).map (AV.wo q) = m.flatMap fun t => t.id.map by8 := id_wof
 refine CallA.eV 56 func18 ntmps18 results18 ?_
 simp -dsimp +decide only [vq, ↓reduceIte, Nat.reduceSub, Nat.reduceAdd]
 refine SemA.adopt 4 33 32 (by decide) rfl ?_
 obtain ⟨U, hU⟩ : ∃ U, U = TK V j bs := ⟨_, rfl⟩
 have hUl : U.length = V.length := by rw [hU]; exact hlen bs
 rw [<- hU] at hE hsr hlsl ⊢
 have hUw : (∀ k, U.map (AObj.wo (fun i => decide (U.length + k <= i))) = U) /\ U.map (AObj.wo (fun i => decide (U.length <= i))) = U := by rw [hUl, hU]; exact hw1 bs hok
 have hUe : U.map (AObj.wo (fun x => x == U.length)) = U := by rw [hUl, hU]; exact hw _ (fun i hi => by simp; omega) bs hok
 have hjl : ∀ k, decide (U.length + k <= j) = false := fun k => decide_eq_false (by omega)
 have hje : (j == U.length) = false := by simp; omega
 simp -dsimp +decide only [va]
 refine SemA.loopK (U.length + 1) (fun k : Nat => [(0, .sl j 0 bs.length), (1, wint (n : Int)), (4, .sl U.length 0 k), (5, wint (k : Int))]) (fun k => U ++ [.buf 33 32 ((b.txs.take k).flatMap fun t => t.id.map by8)]) (fun k => k <= b.txs.length) (fun k => b.txs.length - k) 0 [] 0 (fun _ : Unit => [(0, .sl j 0 bs.length), (1, wint (n : Int)), (4, .sl U.length 0 b.txs.length)]) (fun _ => U ++ [.buf 33 32 (b.txs.flatMap fun t => t.id.map by8)]) (fun _ => True) (by omega) (by omega) (by (try (simp -dsimp +decide (disch := omega) only [vq, Nat.reduceAdd, ci])); first | done | (and_intros <;> first | with_reducible rfl | rfl) | rfl) rfl (by simp) ?_ ?_
 . rintro k g hk
   refine SemA.o ?_
   simp -dsimp +decide (disch := omega) only [vq, ty, ↓reduceIte, Nat.reduceAdd, hsr, hlsl, hfd, hta, hln]
   refine ⟨⟨by omega, by omega⟩, CondP.dec (fun hc => ?_) (fun hc => ?_)⟩
   . obtain ⟨t, ht⟩ : ∃ t, b.txs[k]? = some t := ⟨b.txs[k]'(by omega), by simp⟩
     have hto := hbo.ok t (List.mem_of_getElem? ht)
     have hid := t.id_len
     have hldt := fun (Y : Tbl) (K : AV -> Prop) => (show loadA prog 63 (b.ta.pl (k * 4)) Y K = K (.ag t.cs) by
      rw [((hbo.t.es Y).ld (P := prog) (t := 63) (by (simp -dsimp +decide only [])) (by (simp -dsimp +decide only [])) (by decide)).2 k K (by omega), ht]
      rfl)
     have hixt := fun (Y : Tbl) (ik : IntKind) (z : Int) (K : AV -> Prop) => (hbo.t.es Y).sl.ix (K := K) (by decide) ik z
     have hfl : ((b.txs.take k).flatMap fun t => t.id.map by8).length = k * 32 := by
      have := flat_len (f := fun t : TTx => t.id.map by8) (xs := b.txs.take k) (sz := 32) fun t _ => by rw [List.length_map, t.id_len]
      rw [this, List.length_take, Nat.min_eq_left hk]
     have hstep : (b.txs.take (k + 1)).flatMap (fun t => t.id.map by8) = (b.txs.take k).flatMap (fun t => t.id.map by8) ++ t.id.map by8 := by
      rw [List.take_add_one, ht, List.flatMap_append]; simp
     have t32 : List.take 32 (List.drop 0 t.id) = t.id := tk32 _ hid
     simp -dsimp +decide (disch := omega) only [vp0, ty, en, ↓reduceIte, hsr, hlsl, hfd, hta, hldt, hixt]
     refine ⟨⟨by omega, by omega⟩, ⟨by omega, by omega⟩, (id09_ok hto).det' ?_⟩
     simp -dsimp +decide (disch := omega) only [vt2, vze, vq, ty, ↓reduceIte, Nat.reduceAdd, Nat.reduceMul, vi, vt, hid, hfl, ez32, vh, rep1, t32, hUw, hUe, hje, hiw, hjl]
     exact ⟨⟨by omega, by omega⟩, k + 1, ⟨by omega, by omega⟩, ⟨rfl, rfl⟩, by rw [hstep]⟩
   . have e : k = b.txs.length := by omega
     subst e
     rw [List.take_length]
     simp -dsimp +decide (disch := omega) only [vt2, vze, vq, ↓reduceIte, Nat.reduceAdd, vt, hUw, hiw, hjl]
     exact ⟨(), trivial⟩
 . rintro _ g tmp -
   simp -dsimp +decide (disch := omega) only [vq, en, ↓reduceIte, Nat.reduceAdd]
   have hEi : Es (U ++ [.buf 33 32 (b.txs.flatMap fun t => t.id.map by8)]) 32 H8 (.sl U.length 0 b.txs.length) (b.txs.map TTx.id) := by
    have := Es.obj (sz := 32) (f := H8) (xs := b.txs.map TTx.id) (gn0 U (.buf 33 32 (b.txs.flatMap fun t => t.id.map by8)) []) (by rw [List.flatMap_map]; rfl) (fun h hh => by
     obtain ⟨t, ht, rfl⟩ := List.mem_map.1 hh
     show (t.id.map by8).length = 32
     rw [List.length_map, t.id_len])
    rwa [List.length_map] at this
   have h32 : H32 (b.txs.map TTx.id) := fun h hh => by
    obtain ⟨t, ht, rfl⟩ := List.mem_map.1 hh
    exact t.id_len
   have hrl := rootH_len h32
   refine (root10_ok h32 hEi (by simp; omega)).det' ?_
   have hkr := TK.rules hj bs
   rw [<- hU] at hkr
   have hfl69 : (bs.flatMap Blk.cs).length = bs.length * 69 := flat_len fun b hb => Blk.cs_len (hok b hb)
   have hwr : wrA (bs.flatMap Blk.cs) (n * 69 + 33) ((rootH (b.txs.map TTx.id)).map by8) = _ := wrA_flat hE.wd hb (by rw [List.length_map, hrl]; decide) ((Blk.wr hbo.h).2 _ hrl)
   have hpl : ∀ k m, (AV.sl j 0 m).pl k = .ptr j k := fun k m => by simp [AV.pl]
   have hk1 := hkr.1
   have hk2 := hkr.2.2.2.1
   obtain ⟨bs1, hbs1⟩ : ∃ bs1 : List Blk, bs1 = bs.set n { b with h := { b.h with root := rootH (b.txs.map TTx.id) } } := ⟨_, rfl⟩
   have ho1 : ∀ b ∈ bs1, b.Ok := fun x hx => by
    rw [hbs1] at hx
    rcases List.mem_or_eq_of_mem_set hx with hx | rfl
    . exact hok x hx
    . exact ⟨⟨hbo.h.p, hrl⟩, hbo.t, hbo.l, hbo.ok, hbo.il⟩
   have hl1 : bs1.length = bs.length := by rw [hbs1, List.length_set]
   rw [<- hbs1] at hwr
   simp -dsimp +decide (disch := omega) only [vq, ty, ↓reduceIte, Nat.reduceAdd, Nat.reduceLT, vi, hsr, hk1, hk2, hpl, hfl69, hwr, vh, hrl]
   refine ⟨⟨by omega, by omega⟩, by omega, ?_⟩
   obtain ⟨IB, hIB⟩ : ∃ IB : AObj, IB = .buf 33 32 (b.txs.flatMap fun t => t.id.map by8) := ⟨_, rfl⟩
   have hIw : ∀ q, IB.wo q = IB := fun q => by rw [hIB, AObj.wo, hiw]
   rw [<- hIB]
   have hrec : ∀ E, rec1 U.length j false E = (j, false) :: E := fun E => by rw [rec1, if_pos (by omega)]
   have hcut : ∀ cur : List Blk, (∀ b ∈ cur, b.Ok) -> List.map (AObj.wo fun x => decide (U.length + 1 <= x)) (List.take (U.length + 1) (TK V j cur ++ [IB])) = TK V j cur ++ [IB] := fun cur h => by
    rw [hUl, <- hlen cur, List.take_length_add_append, List.map_append, hlen cur, (hw1 cur h).1]
    simp [hIw]
   refine SemA.loopK (U.length + 1) (fun s : Nat × List Blk => [(0, .sl j 0 bs.length), (6, wint (s.1 : Int))]) (fun s => TK V j s.2 ++ [IB]) (fun s => 1 <= s.1 /\ s.1 <= bs.length /\ s.2.length = bs.length /\ ∀ b ∈ s.2, b.Ok) (fun s => bs.length - s.1) (n + 1, bs1) [(j, false)] 2 (fun _ : List Blk => []) (fun s => TK V j s ++ [IB]) (fun s => s.length = bs.length /\ ∀ b ∈ s, b.Ok) (by omega) ⟨by dsimp only; omega, by dsimp only; omega, hl1, ho1⟩ (by (try (simp -dsimp +decide (disch := omega) only [vq, Nat.reduceAdd])); first | done | (and_intros <;> first | with_reducible rfl | rfl) | rfl) rfl (by rw [hrec]; simp) ?_ ?_
   . rintro ⟨i, cur⟩ g ⟨hi1, hi, hcl, hco⟩
     dsimp only at hi1 hi hcl hco
     have hcr := TK.rules hj cur
     have hc1 := hcr.1
     have hc2 := hcr.2.2.2.1
     have hE2 : ∀ Y, Es (TK V j cur ++ Y) 69 Blk.cs (.sl j 0 cur.length) cur := fun Y => Es.obj (hcr.1 Y) rfl fun b hb => Blk.cs_len (hco b hb)
     have hsr2 := Sl.rules (hE2 [IB]).sl (by decide)
     rw [hcl] at hsr2
     refine SemA.o ?_
     simp -dsimp +decide (disch := omega) only [vq, ty, ↓reduceIte, Nat.reduceAdd, hsr2]
     refine CondP.dec (fun hc => ?_) (fun hc => ?_)
     . obtain ⟨x, hx⟩ : ∃ x, cur[i - 1]? = some x := ⟨cur[i - 1]'(by omega), by simp⟩
       obtain ⟨y, hy⟩ : ∃ y, cur[i]? = some y := ⟨cur[i]'(by omega), by simp⟩
       have hxo := hco x (List.mem_of_getElem? hx)
       have hyo := hco y (List.mem_of_getElem? hy)
       have hfl69 : (cur.flatMap Blk.cs).length = bs.length * 69 := by rw [flat_len fun b hb => Blk.cs_len (hco b hb), hcl]
       have hin : ((i : Int) - 1).toNat = i - 1 := by omega
       have hld : List.take 68 (List.drop ((i - 1) * 69) (cur.flatMap Blk.cs)) = x.h.cs := by
        have h4 := flat_at (f := Blk.cs) (sz := 69) (fun b hb => Blk.cs_len (hco b hb)) hx
        rw [show List.take 68 (List.drop ((i - 1) * 69) (cur.flatMap Blk.cs)) = List.take 68 x.cs by rw [<- h4, List.take_take]; rfl, Blk.cs, <- Hdr.cs_len hxo.h, List.take_left]
       have hidl := x.h.id_len
       have hwr : wrA (cur.flatMap Blk.cs) (i * 69 + 1) (x.h.id.map by8) = _ := wrA_flat (fun b hb => Blk.cs_len (hco b hb)) hy (by rw [List.length_map, hidl]; decide) ((Blk.wr hyo.h).1 _ hidl)
       simp -dsimp +decide (disch := omega) only [vp0, ty, en, ↓reduceIte, vi, hsr2, hc1, hpl, hfl69, hin, hld]
       refine ⟨⟨by omega, by omega⟩, by omega, (rid_ok hxo.h).det' ?_⟩
       obtain ⟨nx, hnx⟩ : ∃ nx : List Blk, nx = cur.set i { y with h := { y.h with prev := x.h.id } } := ⟨_, rfl⟩
       have hno : ∀ b ∈ nx, b.Ok := fun z hz => by
        rw [hnx] at hz
        rcases List.mem_or_eq_of_mem_set hz with hz | rfl
        . exact hco z hz
        . exact ⟨⟨hidl, hyo.h.r⟩, hyo.t, hyo.l, hyo.ok, hyo.il⟩
       have hnl : nx.length = bs.length := by rw [hnx, List.length_set, hcl]
       rw [<- hnx] at hwr
       have hcn := hcut nx hno
       have hTK : V.set j (BK nx) = TK V j nx := rfl
       simp -dsimp +decide (disch := omega) only [vt2, vze, vq, ty, ↓reduceIte, Nat.reduceAdd, Nat.reduceLT, vi, hsr2, hc1, hc2, hpl, hfl69, hwr, vh, hidl, hTK, hcn, hrec, hjl]
       refine ⟨⟨by omega, by omega⟩, by omega, (i + 1, nx), ⟨⟨by dsimp only; omega, by dsimp only; omega, hnl, hno⟩, by dsimp only; omega⟩, rfl, rfl⟩
     . have hcn := hcut cur hco
       simp -dsimp +decide (disch := omega) only [vt2, vze, vp0, ↓reduceIte, Nat.reduceAdd, hcn]
       exact ⟨cur, ⟨hcl, hco⟩, rfl⟩
   . rintro cur g tmp ⟨hcl, hco⟩
     simp -dsimp +decide (disch := omega) only [vp0, ↓reduceIte, Nat.reduceAdd]
     refine Vw.cutN U.length (Nat.le_refl _) ?_
     have e1 : List.take U.length (TK V j cur ++ [IB]) = TK V j cur := by rw [hUl, <- hlen cur, List.take_left]
     rw [e1, hUl, (hw1 cur hco).2]
     exact Vw.done ⟨rfl, ⟨cur, hcl, hco, rfl⟩, rfl⟩
end Go.Proofs.YtmcbdlefakjpoaaGreatDoor
namespace Go.E
section
variable {P : Program} {G : Nat -> AV} {T T' : Tbl} {E : Eff} {N n : Nat} {ds loc : List AV}
theorem SeeL.weak {ds' : List AV} {L : List (Nat × AV)} {E' : Eff} (i : Nat) {El : TypeId} {sz : Nat} {cs cs' : List AV} (hT : T[i]? = some (.buf El sz cs)) (hl : cs'.length = cs.length) (hw : ∀ Z ρ vs, RelL Z ρ cs vs -> RelL Z ρ cs' vs)
 (h : SeeL G N n ds loc (T.set i (.buf El sz cs')) E ds' L T' E') : SeeL G N n ds loc T E ds' L T' E' := by
 intro Z0 ρ0 T0 w0 Z ρ w dv lv hN hf ha
 refine h Z0 ρ0 T0 w0 Z ρ w dv lv hN ⟨hf.g, ?_, ?_⟩ ha
 . have hi := (List.getElem?_eq_some_iff.1 hT).1
   have hget : ∀ (j : Nat) (o' : AObj), (T.set i (.buf El sz cs'))[j]? = some o' -> ∃ o, T[j]? = some o /\ o'.live = o.live /\ (o' = o ∨ (o = .buf El sz cs /\ o' = .buf El sz cs')) := fun j o' ho => by
    rw [List.getElem?_set] at ho
    split at ho
    . rename_i hj
      subst hj
      cases ho
      exact ⟨_, hT, rfl, .inr ⟨rfl, rfl⟩⟩
    . exact ⟨o', ho, rfl, .inl rfl⟩
   refine ⟨hf.st.of, by rw [List.length_set]; exact hf.st.len, fun j o' x ho hx => ?_, fun j o' x b ho hl2 hx hb => ?_⟩
   . obtain ⟨o, h1, _, rfl | ⟨rfl, rfl⟩⟩ := hget j o' ho
     . exact hf.st.obj j _ x h1 hx
     . obtain ⟨g1, m, g2, g3, g4⟩ := hf.st.obj j _ x h1 hx
       refine ⟨g1, m, by rw [hl]; exact g2, g3, ?_⟩
       rcases g4 with ⟨k1, k2, k3⟩ | ⟨b, cur, k1, k2, k3, k4, k5⟩
       . exact .inl ⟨k1, by subst k2; exact List.eq_nil_of_length_eq_zero hl, k3⟩
       . exact .inr ⟨b, cur, k1, k2, k3, k4, hw _ _ _ k5⟩
   . obtain ⟨o, h1, h2, _⟩ := hget j o' ho
     obtain ⟨g1, g2⟩ := hf.st.apart j o x b h1 (by rw [<- h2]; exact hl2) hx hb
     refine ⟨g1, fun k o2 y hne ho2 hl3 hy => ?_⟩
     obtain ⟨o3, h3, h4, _⟩ := hget k o2 ho2
     exact g2 k o3 y hne h3 (by rw [<- h4]; exact hl3) hy
 . refine ⟨hf.ext.le, hf.ext.place, fun j x o b h3 h4 h5 h6 h7 => ?_⟩
   obtain ⟨g1, o', g2, g3⟩ := hf.ext.same j x o b h3 h4 h5 h6 h7
   refine ⟨g1, ?_⟩
   by_cases hj : i = j
   . subst hj
     exact ⟨_, List.getElem?_set_self (List.getElem?_eq_some_iff.1 hT).1, rfl⟩
   . exact ⟨o', by rw [List.getElem?_set_ne hj]; exact g2, g3⟩
theorem Lc_map {f : AV -> AV} : ∀ {L : List (Nat × AV)} {loc : List AV}, (∀ p ∈ L, f p.2 = p.2) -> Lc n L loc -> Lc n L (loc.map f)
 | [], loc, _, h => by simpa [Lc] using h
 | p :: r, loc, hf, h => by
   obtain ⟨h1, h2⟩ := h
   refine ⟨?_, Lc_map (fun q hq => hf q (by simp [hq])) h2⟩
   rw [List.getElem?_map, h1, Option.map_some, hf p (by simp)]
end
theorem rel_vs_take {Z : Heap} {ρ : List BI} {cs ds : List AV} {n : Nat} {v : Value} (h : Rel Z ρ (.vs (cs ++ ds) n) v) : Rel Z ρ (.vs cs n) v := by
 cases h with
 | vs0 h0 hc =>
   refine .vs0 ?_ hc
   rcases h0 with h0 | h0
   . exact .inl (List.append_eq_nil_iff.1 h0).1
   . exact .inr h0
 | vs hm hb hc hr =>
   refine .vs (f := _) hm hb (fun k hk => hc k (by rw [List.length_append]; omega)) (fun k hk => ?_)
   have := hr k (by rw [List.length_append]; omega)
   rwa [List.getElem_append_left hk] at this
end Go.E
namespace Go.Proofs.YtmcbdlefakjpoaaGreatDoor
open Go.E Go.Proofs.YtmcbdlefakjpoaaGreatDoor.Tryz Go.Proofs.Tryz
structure Trn where
 block : UInt8
 tx : UInt8
 at_ : UInt8
 what : UInt8
 mend : Bool
def Trn.cs (x : Trn) : List AV := [by8 x.block, by8 x.tx, by8 x.at_, by8 x.what, .p (.bool x.mend)]
theorem Trn.rules (x : Trn) : x.cs.length = 5 /\ x.cs[0]? = some (by8 x.block) /\ x.cs[1]? = some (by8 x.tx) /\ x.cs[2]? = some (by8 x.at_) /\ x.cs[3]? = some (by8 x.what) /\ x.cs[4]? = some (.p (.bool x.mend)) /\
 List.take 5 (List.drop 0 x.cs) = x.cs /\ List.take 5 x.cs = x.cs /\ (∀ q, x.cs.map (AV.wo q) = x.cs) /\ (∀ i cs, x.cs.map (AV.pub i cs) = x.cs) /\ (∀ f, x.cs.map (AV.ren f) = x.cs) /\ ones x.cs = true := by
 have hw : ∀ q, x.cs.map (AV.wo q) = x.cs := fun q => by simp only [Trn.cs, List.map_cons, List.map_nil, by8, AV.wo]
 exact ⟨rfl, rfl, rfl, rfl, rfl, rfl, rfl, rfl, hw, fun i cs => by simp only [Trn.cs, List.map_cons, List.map_nil, by8, AV.pub], fun f => ren_all hw, rfl⟩
def cpT (t : TTx) : TTx := ⟨t.v, .vs (t.ins.flatMap TIn.cs) t.ins.length, t.ins, .vs (t.outs.flatMap TOut.cs) t.outs.length, t.outs, t.lock⟩
def spT (N : Nat) (t : TTx) : TTx := ⟨t.v, .sl (N + 3) 0 t.ins.length, t.ins, .sl (N + 4) 0 t.outs.length, t.outs, t.lock⟩
theorem cpT_fine {t : TTx} (h : Fine t) : Fine (cpT t) := ⟨⟨⟨h.ok.i.1, .inl rfl⟩, ⟨h.ok.o.1, .inl rfl⟩, h.ok.il, h.ok.ol, h.ok.ii, h.ok.oo⟩, h.i1, h.i2, h.o1, h.o2⟩
def YsI (N kt k : Nat) (ys : List TTx) (B C : AObj) : Prop := ys.length = k /\
 ((k <= kt /\ (∀ t ∈ ys, Fine t) /\ B = .gone /\ C = .gone) ∨ (kt < k /\ ∃ y1 t y2, ys = y1 ++ spT N t :: y2 /\ y1.length = kt /\ (∀ t ∈ y1, Fine t) /\ (∀ t ∈ y2, Fine t) /\ Fine t /\ B = .buf 68 36 (t.ins.flatMap TIn.cs) /\ C = .buf 71 2 (t.outs.flatMap TOut.cs)))
def OutI (N n kt i : Nat) (bn : Blk) (out : List Blk) (A B C : AObj) : Prop := out.length = i /\
 ((i <= n /\ (∀ b ∈ out, b.Ok) /\ A = .gone /\ B = .gone /\ C = .gone) ∨ (n < i /\ ∃ o1 ys o2, out = o1 ++ ⟨bn.h, .sl (N + 2) 0 ys.length, ys⟩ :: o2 /\ o1.length = n /\ (∀ b ∈ o1, b.Ok) /\ (∀ b ∈ o2, b.Ok) /\ A = .buf 63 4 (ys.flatMap TTx.cs) /\ YsI N kt bn.txs.length ys B C))
def StC (N : Nat) (cs : List AV) : Prop := ∀ q : Nat -> Bool, q (N + 2) = false -> q (N + 3) = false -> q (N + 4) = false -> cs.map (AV.wo q) = cs
def StO (N : Nat) (o : AObj) : Prop := ∀ q : Nat -> Bool, q (N + 2) = false -> q (N + 3) = false -> q (N + 4) = false -> o.wo q = o
theorem StC.rules {N : Nat} {cs : List AV} (h : StC N cs) : cs.map (AV.wo (fun x => x == N + 1)) = cs /\ cs.map (AV.wo (fun x => x == N + 6)) = cs /\ cs.map (AV.wo (fun x => x == N + 8)) = cs /\ cs.map (AV.wo (fun x => x == N + 9)) = cs /\ cs.map (AV.wo (fun x => decide (N + 5 <= x))) = cs /\ cs.map (AV.wo (fun x => decide (N + 7 <= x))) = cs /\
 (∀ ds, cs.map (AV.pub (N + 6) ds) = cs) /\ (∀ ds, cs.map (AV.pub (N + 8) ds) = cs) /\ (∀ ds, cs.map (AV.pub (N + 9) ds) = cs) := by
 have key : ∀ k, 5 <= k -> ∀ ds, cs.map (AV.pub (N + k) ds) = cs := fun k hk ds => by
  have h1 := h (fun x => x == N + k) (by simp; omega) (by simp; omega) (by simp; omega)
  rw [<- AV.woL_eq] at h1
  rw [<- AV.pubL_eq]; exact pub_woL _ _ _ h1
 exact ⟨h _ (by simp) (by simp) (by simp), h _ (by simp) (by simp) (by simp), h _ (by simp) (by simp) (by simp), h _ (by simp) (by simp) (by simp), h _ (by simp) (by simp) (by simp), h _ (by simp) (by simp) (by simp), key 6 (by omega), key 8 (by omega), key 9 (by omega)⟩
theorem StO.rules {N : Nat} {o : AObj} (h : StO N o) : o.wo (fun x => x == N + 1) = o /\ o.wo (fun x => x == N + 6) = o /\ o.wo (fun x => x == N + 8) = o /\ o.wo (fun x => x == N + 9) = o /\ o.wo (fun x => decide (N + 5 <= x)) = o /\ o.wo (fun x => decide (N + 7 <= x)) = o /\
 (∀ ds, o.pub (N + 6) ds = o) /\ (∀ ds, o.pub (N + 8) ds = o) /\ (∀ ds, o.pub (N + 9) ds = o) := by
 have key : ∀ k, 5 <= k -> ∀ ds, o.pub (N + k) ds = o := fun k hk ds => pub_woO _ _ _ (h (fun x => x == N + k) (by simp; omega) (by simp; omega) (by simp; omega))
 exact ⟨h _ (by simp) (by simp) (by simp), h _ (by simp) (by simp) (by simp), h _ (by simp) (by simp) (by simp), h _ (by simp) (by simp) (by simp), h _ (by simp) (by simp) (by simp), h _ (by simp) (by simp) (by simp), key 6 (by omega), key 8 (by omega), key 9 (by omega)⟩
theorem StC.app {N : Nat} {cs ds : List AV} (h : StC N cs) (h2 : StC N ds) : StC N (cs ++ ds) := fun q a b c => by rw [List.map_append, h q a b c, h2 q a b c]
theorem StC.tx {N : Nat} {l : List TTx} (h : ∀ t ∈ l, Fine t) : StC N (l.flatMap TTx.cs) := fun q _ _ _ => TTx.wof h q
theorem StC.sp {N : Nat} {t : TTx} : StC N (spT N t).cs := fun q a b c => by
 simp only [TTx.cs, spT, List.map_cons, List.map_nil, AV.wo, w32, b, c]; rfl
theorem StC.blk {N : Nat} {l : List Blk} (h : ∀ b ∈ l, b.Ok) : StC N (l.flatMap Blk.cs) := fun q _ _ _ => Blk.wof h q
theorem StC.ys {N kt k : Nat} {ys : List TTx} {B C : AObj} (h : YsI N kt k ys B C) : StC N (ys.flatMap TTx.cs) /\ StO N B /\ StO N C := by
 obtain ⟨_, ⟨_, h1, rfl, rfl⟩ | ⟨_, y1, t, y2, rfl, _, h1, h2, h3, rfl, rfl⟩⟩ := h
 . exact ⟨.tx h1, fun _ _ _ _ => rfl, fun _ _ _ _ => rfl⟩
 . refine ⟨?_, fun q _ _ _ => ?_, fun q _ _ _ => ?_⟩
   . rw [List.flatMap_append, List.flatMap_cons]; exact (StC.tx h1).app (StC.sp.app (StC.tx h2))
   . rw [AObj.wo, TIn.wof h3.ok.ii]
   . rw [AObj.wo, TOut.wof h3.ok.oo]
theorem StC.out {N n kt i : Nat} {bn : Blk} (hbn : bn.h.Ok) {out : List Blk} {A B C : AObj} (h : OutI N n kt i bn out A B C) : StC N (out.flatMap Blk.cs) /\ StO N A /\ StO N B /\ StO N C := by
 obtain ⟨_, ⟨_, h1, rfl, rfl, rfl⟩ | ⟨_, o1, ys, o2, rfl, _, h1, h2, rfl, h3⟩⟩ := h
 . exact ⟨.blk h1, fun _ _ _ _ => rfl, fun _ _ _ _ => rfl, fun _ _ _ _ => rfl⟩
 . obtain ⟨k1, k2, k3⟩ := StC.ys h3
   refine ⟨?_, fun q a b c => ?_, k2, k3⟩
   . rw [List.flatMap_append, List.flatMap_cons]
     refine (StC.blk h1).app (StC.app (fun q a b c => ?_) (StC.blk h2))
     rw [Blk.cs, List.map_append, (Hdr.rules hbn).2.2.2.2.2.2.2.2.2.1]
     simp only [List.map_cons, List.map_nil, AV.wo, a]; rfl
   . rw [AObj.wo, k1 q a b c]
theorem OutI.lens {N n kt i : Nat} {bn : Blk} (hbn : bn.h.Ok) {out : List Blk} {A B C : AObj} (h : OutI N n kt i bn out A B C) : out.length = i /\ ∀ b ∈ out, b.cs.length = 69 := by
 refine ⟨h.1, ?_⟩
 obtain ⟨_, ⟨_, h1, _⟩ | ⟨_, o1, ys, o2, rfl, _, h1, h2, _⟩⟩ := h
 . exact fun b hb => Blk.cs_len (h1 b hb)
 . intro b hb
   rcases List.mem_append.1 hb with hb | hb
   . exact Blk.cs_len (h1 b hb)
   . rcases List.mem_cons.1 hb with rfl | hb
     . exact Blk.cs_lh hbn
     . exact Blk.cs_len (h2 b hb)
theorem TIn.onesf {xs : List TIn} (h : ∀ x ∈ xs, x.Ok) : ones (xs.flatMap TIn.cs) = true := by
 induction xs with
 | nil => rfl
 | cons x r ih =>
   have h1 := (TIn.rules (h x (by simp))).2.2.2.2.2.2.2.2.2.2.2
   have h2 := ih fun y hy => h y (by simp [hy])
   rw [ones] at h1 h2
   rw [List.flatMap_cons, ones, List.all_append, h1, h2]; rfl
theorem TOut.onesf {xs : List TOut} (h : ∀ x ∈ xs, x.Ok) : ones (xs.flatMap TOut.cs) = true := by
 induction xs with
 | nil => rfl
 | cons x r ih =>
   have h2 := ih fun y hy => h y (by simp [hy])
   rw [ones] at h2
   have h3 : ones x.cs = true := by
    have k1 := (h x (by simp)).s.k
    simp only [TOut.cs, ones, List.all_cons, List.all_nil, k1.one, Bool.and_true]; rfl
   rw [ones] at h3
   rw [List.flatMap_cons, ones, List.all_append, h3, h2]; rfl
theorem YsI.cp {N kt k : Nat} {ys : List TTx} {B C : AObj} {t : TTx} (h : YsI N kt k ys B C) (hk : k ≠ kt) (ht : Fine t) : YsI N kt (k + 1) (ys ++ [cpT t]) B C := by
 obtain ⟨h0, ⟨h1, h2, h3, h4⟩ | ⟨h1, y1, u, y2, rfl, h2, h3, h4, h5, h6, h7⟩⟩ := h
 . refine ⟨by simp [h0], .inl ⟨by omega, fun v hv => ?_, h3, h4⟩⟩
   rcases List.mem_append.1 hv with hv | hv
   . exact h2 v hv
   . rw [List.mem_singleton.1 hv]; exact cpT_fine ht
 . refine ⟨by rw [List.length_append, h0]; rfl, .inr ⟨by omega, y1, u, y2 ++ [cpT t], by simp, h2, h3, fun v hv => ?_, h5, h6, h7⟩⟩
   rcases List.mem_append.1 hv with hv | hv
   . exact h4 v hv
   . rw [List.mem_singleton.1 hv]; exact cpT_fine ht
theorem YsI.sp {N kt : Nat} {ys : List TTx} {B C : AObj} {t : TTx} (h : YsI N kt kt ys B C) (ht : Fine t) : (∀ t ∈ ys, Fine t) /\ YsI N kt (kt + 1) (ys ++ [spT N t]) (.buf 68 36 (t.ins.flatMap TIn.cs)) (.buf 71 2 (t.outs.flatMap TOut.cs)) := by
 obtain ⟨h0, ⟨h1, h2, h3, h4⟩ | ⟨h1, _⟩⟩ := h
 . exact ⟨h2, by simp [h0], .inr ⟨by omega, ys, t, [], rfl, h0, h2, by simp, ht, rfl, rfl⟩⟩
 . omega
theorem YsI.wo34 {N kt k : Nat} {ys : List TTx} {B C : AObj} (h : YsI N kt k ys B C) (q : Nat -> Bool) (h3 : q (N + 3) = false) (h4 : q (N + 4) = false) : (ys.flatMap TTx.cs).map (AV.wo q) = ys.flatMap TTx.cs := by
 obtain ⟨_, ⟨_, h1, _⟩ | ⟨_, y1, t, y2, rfl, _, h1, h2, _⟩⟩ := h
 . exact TTx.wof h1 q
 . rw [List.flatMap_append, List.flatMap_cons, List.map_append, List.map_append, TTx.wof h1, TTx.wof h2]
   congr 2
   simp only [TTx.cs, spT, List.map_cons, List.map_nil, AV.wo, w32, h3, h4]; rfl
theorem YsI.ren {N kt k : Nat} {ys : List TTx} {B C : AObj} (h : YsI N kt k ys B C) (f : Nat -> Option Nat) : B.ren f = B /\ C.ren f = C := by
 obtain ⟨_, ⟨_, h1, rfl, rfl⟩ | ⟨_, y1, t, y2, rfl, _, h1, h2, h3, rfl, rfl⟩⟩ := h
 . exact ⟨rfl, rfl⟩
 . exact ⟨by rw [AObj.ren, ren_all (TIn.wof h3.ok.ii)], by rw [AObj.ren, ren_all (TOut.wof h3.ok.oo)]⟩
def cpB (h : Hdr) (ys : List TTx) : Blk := ⟨h, .vs (ys.flatMap TTx.cs) ys.length, ys⟩
theorem cpB_ok {h : Hdr} (hh : h.Ok) {ys : List TTx} (hf : ∀ t ∈ ys, Fine t) (hl : ys.length <= 1000) : (cpB h ys).Ok :=
 ⟨hh, ⟨fun _ _ => rfl, .inl rfl⟩, hl, fun t ht => (hf t ht).ok, fun t ht => by
  have := hf t ht
  exact ⟨by have := this.i2; omega, by have := this.o2; omega⟩⟩
theorem OutI.cp {N n kt i : Nat} {bn b : Blk} {out : List Blk} {A B C : AObj} (h : OutI N n kt i bn out A B C) (hi : i ≠ n) (hb : b.Ok) : OutI N n kt (i + 1) bn (out ++ [b]) A B C := by
 obtain ⟨h0, ⟨h1, h2, h3⟩ | ⟨h1, o1, ys, o2, rfl, h2, h3, h4, h5, h6⟩⟩ := h
 . refine ⟨by simp [h0], .inl ⟨by omega, fun u hu => ?_, h3⟩⟩
   rcases List.mem_append.1 hu with hu | hu
   . exact h2 u hu
   . rw [List.mem_singleton.1 hu]; exact hb
 . refine ⟨by rw [List.length_append, h0]; rfl, .inr ⟨by omega, o1, ys, o2 ++ [b], by simp, h2, h3, fun u hu => ?_, h5, h6⟩⟩
   rcases List.mem_append.1 hu with hu | hu
   . exact h4 u hu
   . rw [List.mem_singleton.1 hu]; exact hb
theorem OutI.sp {N n kt : Nat} {bn : Blk} {out : List Blk} {A B C B1 C1 : AObj} {ys : List TTx} (h : OutI N n kt n bn out A B C) (hy : YsI N kt bn.txs.length ys B1 C1) : (∀ b ∈ out, b.Ok) /\ OutI N n kt (n + 1) bn (out ++ [⟨bn.h, .sl (N + 2) 0 ys.length, ys⟩]) (.buf 63 4 (ys.flatMap TTx.cs)) B1 C1 := by
 obtain ⟨h0, ⟨h1, h2, _⟩ | ⟨h1, _⟩⟩ := h
 . exact ⟨h2, by simp [h0], .inr ⟨by omega, out, ys, [], rfl, h0, h2, by simp, rfl, hy⟩⟩
 . omega
end Go.Proofs.YtmcbdlefakjpoaaGreatDoor
