/-
  'scantlinglaw29.FilterItems' returns true whatever comes below the statement's bulk, and leaves what came as it was; its row's listed variable is tied to the program's text. No condition.
-/
import Derived.Test.YtmcbdlefakjpoaaGreatDoorPk5
import Derived.Test.YtmcbdlefakjpoaaGreatDoorRows
import Derived.LaidMore
import Derived.OpenShut
import Derived.Stop.Joined
import Derived.Test.YtmcbdlefakjpoaaGreatDoorCards
import Derived.Test.YtmcbdlefakjpoaaGreatDoorTie
import Derived.SevenTiedAt
import Derived.ChangeCalls
import Derived.Deep.DeepHandedRow
set_option linter.unusedSimpArgs false
set_option linter.unusedVariables false
set_option linter.unusedSectionVars false
set_option maxRecDepth 8000
set_option maxHeartbeats 4000000
namespace Go.Proofs.YtmcbdlefakjpoaaGreatDoor
open Go.E Go.Proofs.YtmcbdlefakjpoaaGreatDoor.Tryz Go.Proofs.Tryz
def FinT (N : Nat) (I : List TIn) (O : List TOut) (t : TTx) : Prop := (t.Ok /\ t.ins.length <= 10000 /\ t.outs.length <= 10000) ∨ (t.ia = .sl (N + 3) 0 I.length /\ t.ins = I /\ ((t.oa = .sl (N + 4) 0 O.length /\ t.outs = O) ∨ (t.oa = .p (.slice none 0 0) /\ t.outs = [])))
def pbT (N : Nat) (I : List TIn) (O : List TOut) (t : TTx) : TTx := ⟨t.v, t.ia.pub (N + 3) (I.flatMap TIn.cs), t.ins, t.oa.pub (N + 4) (O.flatMap TOut.cs), t.outs, t.lock⟩
theorem pbT_cs {N : Nat} {I : List TIn} {O : List TOut} {t : TTx} (h : FinT N I O t) : (t.cs.map (AV.pub (N + 3) (I.flatMap TIn.cs))).map (AV.pub (N + 4) (O.flatMap TOut.cs)) = (pbT N I O t).cs := by
 rcases h with ⟨h, _⟩ | ⟨h1, _, ⟨h2, _⟩ | ⟨h2, _⟩⟩
 . have k1 := h.i.k.pub
   have k2 := h.o.k.pub
   simp only [TTx.cs, pbT, List.map_cons, List.map_nil, k1, k2, w32, AV.pub]
 . simp [TTx.cs, pbT, h1, h2, w32, AV.pub]
 . simp [TTx.cs, pbT, h1, h2, w32, AV.pub]
theorem pbT_ok {N : Nat} {I : List TIn} {O : List TOut} (hI : ∀ x ∈ I, x.Ok) (hO : ∀ x ∈ O, x.Ok) (hi : I.length <= 100) (ho : O.length <= 100) {t : TTx} (h : FinT N I O t) : (pbT N I O t).Ok := by
 rcases h with ⟨h, _⟩ | ⟨h1, h3, h2⟩
 . have k1 := h.i.k.pub
   have k2 := h.o.k.pub
   refine ⟨?_, ?_, h.il, h.ol, h.ii, h.oo⟩
   . show Lst _ _ (t.ia.pub _ _) _; rw [k1]; exact h.i
   . show Lst _ _ (t.oa.pub _ _) _; rw [k2]; exact h.o
 . have e1 : (pbT N I O t).ia = .vs (I.flatMap TIn.cs) I.length := by simp [pbT, h1, AV.pub]
   refine ⟨⟨fun y hy => ?_, .inl ?_⟩, ?_, by show t.ins.length <= _; rw [h3]; omega, ?_, by show ∀ y ∈ t.ins, _; rw [h3]; exact hI, ?_⟩
   . have : y ∈ I := by rw [<- h3]; exact hy
     exact (TIn.rules (hI y this)).1
   . show (pbT N I O t).ia = .vs (t.ins.flatMap TIn.cs) t.ins.length
     rw [e1, h3]
   . rcases h2 with ⟨h4, h5⟩ | ⟨h4, h5⟩
     . refine ⟨fun _ _ => rfl, .inl ?_⟩
       show t.oa.pub _ _ = .vs (t.outs.flatMap TOut.cs) t.outs.length
       rw [h4, h5]; simp [AV.pub]
     . refine ⟨fun _ _ => rfl, .inr ⟨?_, h5⟩⟩
       show t.oa.pub _ _ = _
       rw [h4, AV.pub]
   . show t.outs.length <= _
     rcases h2 with ⟨_, h5⟩ | ⟨_, h5⟩
     . rw [h5]; omega
     . rw [h5]; simp
   . show ∀ y ∈ t.outs, _
     rcases h2 with ⟨_, h5⟩ | ⟨_, h5⟩
     . rw [h5]; exact hO
     . rw [h5]; simp
theorem pbT_flat {N : Nat} {I : List TIn} {O : List TOut} : ∀ {ys : List TTx}, (∀ t ∈ ys, FinT N I O t) -> ((ys.flatMap TTx.cs).map (AV.pub (N + 3) (I.flatMap TIn.cs))).map (AV.pub (N + 4) (O.flatMap TOut.cs)) = (ys.map (pbT N I O)).flatMap TTx.cs
 | [], _ => rfl
 | t :: r, h => by rw [List.flatMap_cons, List.map_append, List.map_append, pbT_cs (h t (by simp)), pbT_flat fun u hu => h u (by simp [hu]), List.map_cons, List.flatMap_cons]
theorem relL_mid {Z : Heap} {ρ : List BI} {P S : List AV} {a b : AV} (h : ∀ v, Rel Z ρ a v -> Rel Z ρ b v) {vs : List Value} (hr : RelL Z ρ (P ++ a :: S) vs) : RelL Z ρ (P ++ b :: S) vs := by
 refine ⟨by have := hr.1; simp at this ⊢; exact this, fun k c v hc hv => ?_⟩
 rcases Nat.lt_trichotomy k P.length with hk | hk | hk
 . rw [List.getElem?_append_left hk] at hc
   exact hr.2 k c v (by rw [List.getElem?_append_left hk]; exact hc) hv
 . subst hk
   rw [List.getElem?_append_right (Nat.le_refl _), Nat.sub_self] at hc
   cases hc
   exact h v (hr.2 P.length a v (by rw [List.getElem?_append_right (Nat.le_refl _), Nat.sub_self]; rfl) hv)
 . rw [List.getElem?_append_right (by omega)] at hc
   obtain ⟨j, hj⟩ : ∃ j, k - P.length = j + 1 := ⟨k - P.length - 1, by omega⟩
   rw [hj] at hc
   exact hr.2 k c v (by rw [List.getElem?_append_right (by omega), hj]; exact hc) hv
theorem Blk.pubf {l : List Blk} (h : ∀ b ∈ l, b.Ok) (i : Nat) (cs : List AV) : (l.flatMap Blk.cs).map (AV.pub i cs) = l.flatMap Blk.cs := by
 induction l with
 | nil => rfl
 | cons b r ih => rw [List.flatMap_cons, List.map_append, Blk.pub (h b (by simp)), ih fun y hy => h y (by simp [hy])]
theorem fin15 {G : Nat -> AV} {T : Tbl} {args : List AV} (wf : Wfs T args) {m : Nat} {loc : List AV} {x : Trn} {hd : Hdr} (hh : hd.Ok) {o1 o2 : List Blk} (h1 : ∀ b ∈ o1, b.Ok) (h2 : ∀ b ∈ o2, b.Ok) {ys : List TTx} {I : List TIn} {O : List TOut} (hI : ∀ x ∈ I, x.Ok) (hO : ∀ x ∈ O, x.Ok) (hi : I.length <= 100) (ho : O.length <= 100) (hys : ∀ t ∈ ys, FinT T.length I O t) {mF : Nat} (hm : mF <= ys.length) (hyl : ys.length <= 100)
 {n len : Nat} (hlen : len = o1.length + 1 + o2.length) {L : List (Nat × AV)} (hL : L = [(3, .ptr T.length 0), (5, .sl (T.length + 1) 0 len), (10, wint (n : Int))]) (hloc : Lc m L loc) :
 ∃ bs : List Blk, bs.length = len /\ (∀ b ∈ bs, b.Ok) /\ SeeL G T.length m [] loc (T ++ [.cells 25 x.cs, .buf 52 69 (o1.flatMap Blk.cs ++ (bcl hd.cs (.sl (T.length + 2) 0 mF) ++ o2.flatMap Blk.cs)), .buf 63 4 (ys.flatMap TTx.cs), .buf 68 36 (I.flatMap TIn.cs), .buf 71 2 (O.flatMap TOut.cs)]) [] [] L (T ++ [.cells 25 x.cs, BK bs]) [] := by
 have wt := wf.t
 have wp := wf.p
 have hr := Trn.rules x
 have hhr := Hdr.rules hh
 have hwb := bcl_rules hhr.1
 have rh : ∀ q, hd.cs.map (AV.wo q) = hd.cs := hhr.2.2.2.2.2.2.2.2.2.1
 have rhp : ∀ i cs, hd.cs.map (AV.pub i cs) = hd.cs := hhr.2.2.2.2.2.2.2.2.2.2.1
 obtain ⟨ysP, hP⟩ : ∃ ysP, ysP = ys.map (pbT T.length I O) := ⟨_, rfl⟩
 have hpf := pbT_flat hys
 rw [<- hP] at hpf
 have hPok : ∀ t ∈ ysP, t.Ok := fun t ht => by
  rw [hP] at ht
  obtain ⟨u, hu, rfl⟩ := List.mem_map.1 ht
  exact pbT_ok hI hO hi ho (hys u hu)
 have hPl : ysP.length = ys.length := by rw [hP, List.length_map]
 have hPs : ∀ t ∈ ysP, t.ins.length <= 10000 /\ t.outs.length <= 10000 := fun t ht => by
  rw [hP] at ht
  obtain ⟨u, hu, rfl⟩ := List.mem_map.1 ht
  show u.ins.length <= 10000 /\ u.outs.length <= 10000
  rcases hys u hu with ⟨_, h⟩ | ⟨_, h3, ⟨_, h5⟩ | ⟨_, h5⟩⟩
  . exact h
  . rw [h3, h5]; omega
  . rw [h3, h5]; simp; omega
 have htl : (ysP.take mF).length = mF := by rw [List.length_take]; omega
 refine ⟨o1 ++ ⟨hd, .vs ((ysP.take mF).flatMap TTx.cs) mF, ysP.take mF⟩ :: o2, by simp; omega, fun b hb => ?_, ?_⟩
 . rcases List.mem_append.1 hb with hb | hb
   . exact h1 b hb
   . rcases List.mem_cons.1 hb with rfl | hb
     . exact ⟨hh, ⟨fun _ _ => rfl, .inl (by rw [htl])⟩, by rw [htl]; omega, fun t ht => hPok t (List.mem_of_mem_take ht), fun t ht => hPs t (List.mem_of_mem_take ht)⟩
     . exact h2 b hb
 . have p1 := Blk.pubf h1
   have p2 := Blk.pubf h2
   have p3 := TOut.pubf hO
   have w1 := Blk.wof h1
   have w2 := Blk.wof h2
   have hcl : ∀ a ∈ ysP.flatMap TTx.cs, a.Clean := fun u hu => by
    obtain ⟨t, ht, hu⟩ := List.mem_flatMap.1 hu
    exact TTx.clean (hPok t ht) u hu
   refine SeeL.pub (T.length + 3) (gn3 T _ _ _ _ _) rfl (TIn.cleanf hI) ?_
   simp -dsimp +decide only [va, ↓reduceIte, vt, wp, hr, hwb, rhp, p1, p2, p3, List.map_append]
   refine SeeL.pub (T.length + 4) (gn4 T _ _ _ _ _ _) rfl (TOut.cleanf hO) ?_
   simp -dsimp +decide only [va, ↓reduceIte, vt, wp, hr, hwb, rhp, p1, p2, p3, List.map_append, hpf]
   refine SeeL.pub (T.length + 2) (gn2 T _ _ _ _) rfl hcl ?_
   simp -dsimp +decide only [va, ↓reduceIte, wp, hr, hwb, rhp, p1, p2, List.map_append]
   refine SeeL.cut (T.length + 2) (by omega) ?_
   simp -dsimp +decide only [va, vt, wt, hr, hwb, rh, w1, w2, List.map_append]
   refine SeeL.weak (T.length + 1) (gn1 T _ _ _) (cs' := (o1 ++ ⟨hd, .vs ((ysP.take mF).flatMap TTx.cs) mF, ysP.take mF⟩ :: o2).flatMap Blk.cs) ?_ ?_ ?_
   . simp [Blk.cs, bcl]
   . intro Z ρ vs hv
     have e1 : o1.flatMap Blk.cs ++ (bcl hd.cs (.vs (ysP.flatMap TTx.cs) mF) ++ o2.flatMap Blk.cs) = (o1.flatMap Blk.cs ++ hd.cs) ++ .vs (ysP.flatMap TTx.cs) mF :: o2.flatMap Blk.cs := by simp [bcl]
     have e2 : (o1 ++ ⟨hd, .vs ((ysP.take mF).flatMap TTx.cs) mF, ysP.take mF⟩ :: o2).flatMap Blk.cs = (o1.flatMap Blk.cs ++ hd.cs) ++ .vs ((ysP.take mF).flatMap TTx.cs) mF :: o2.flatMap Blk.cs := by simp [Blk.cs]
     rw [e1] at hv
     rw [e2]
     refine relL_mid (fun v h => ?_) hv
     have e3 : ysP.flatMap TTx.cs = (ysP.take mF).flatMap TTx.cs ++ (ysP.drop mF).flatMap TTx.cs := by rw [<- List.flatMap_append, List.take_append_drop]
     rw [e3] at h
     exact rel_vs_take h
   . simp -dsimp +decide only [va]
     refine SeeL.done ⟨rfl, ?_, rfl, by simp⟩
     refine Lc_map ?_ (Lc_map ?_ (Lc_map ?_ (Lc_map ?_ hloc)))
     all_goals
      rw [hL]
      intro p hp
      simp only [List.mem_cons, List.not_mem_nil, or_false] at hp
      rcases hp with rfl | rfl | rfl
     all_goals simp [AV.wo, AV.pub, wint]
theorem set_wrA (l : List AV) {k : Nat} (h : k < l.length) (v : AV) : l.set k v = wrA l k [v] := by
 rw [wrA_eq (by simp; omega), List.set_eq_take_append_cons_drop, if_pos h]; simp
theorem set_flat {α : Type} {f : α -> List AV} {sz : Nat} {xs : List α} (hw : ∀ x ∈ xs, (f x).length = sz) {n : Nat} {x y : α} (hx : xs[n]? = some x) {k : Nat} {v : AV} (hk : k < sz) (hy : (f x).set k v = f y) : (xs.flatMap f).set (n * sz + k) v = (xs.set n y).flatMap f := by
 have hn := (List.getElem?_eq_some_iff.1 hx).1
 have hl := flat_len hw
 have h1 : n * sz + sz <= xs.length * sz := by rw [<- Nat.succ_mul]; exact Nat.mul_le_mul_right _ hn
 rw [set_wrA _ (by omega), wrA_flat hw hx (by simp; omega)]
 rw [<- set_wrA _ (by rw [hw x (List.mem_of_getElem? hx)]; exact hk), hy]
theorem mid_set {α : Type} {a b : List α} {x y : α} : (a ++ x :: b).set a.length y = a ++ y :: b := by
 rw [List.set_append_right _ _ (Nat.le_refl _), Nat.sub_self]; rfl
theorem mid_get {α : Type} {a b : List α} {x : α} : (a ++ x :: b)[a.length]? = some x := by
 rw [List.getElem?_append_right (Nat.le_refl _), Nat.sub_self]; rfl
theorem Hdr.byte {h : Hdr} (ok : h.Ok) {r : Nat} (hr : r < 32) : (∃ b, h.root[r]? = some b /\ h.cs[33 + r]? = some (by8 b)) /\ (∃ b, h.prev[r]? = some b /\ h.cs[1 + r]? = some (by8 b)) /\
 (∀ v : UInt8, h.cs.set (33 + r) (.p (.int .u8 (v.toNat : Int))) = Hdr.cs { h with root := h.root.set r v }) /\ (∀ v : UInt8, h.cs.set (1 + r) (.p (.int .u8 (v.toNat : Int))) = Hdr.cs { h with prev := h.prev.set r v }) := by
 have hp : (h.prev.map by8).length = 32 := by simp [ok.p]
 have hq : (h.root.map by8).length = 32 := by simp [ok.r]
 have hpr := ok.p
 have hrr := ok.r
 refine ⟨⟨h.root[r]'(by omega), by simp, ?_⟩, ⟨h.prev[r]'(by omega), by simp, ?_⟩, fun v => ?_, fun v => ?_⟩
 . rw [Hdr.cs, show 33 + r = (32 + r) + 1 by omega, List.getElem?_cons_succ, List.getElem?_append_right (by omega), hp, show 32 + r - 32 = r by omega, List.getElem?_append_left (by omega), List.getElem?_map, List.getElem?_eq_getElem (by omega)]; rfl
 . rw [Hdr.cs, show 1 + r = r + 1 by omega, List.getElem?_cons_succ, List.getElem?_append_left (by omega), List.getElem?_map, List.getElem?_eq_getElem (by omega)]; rfl
 . rw [Hdr.cs, show 33 + r = (32 + r) + 1 by omega, List.set_cons_succ, List.set_append_right _ _ (by omega), hp, show 32 + r - 32 = r by omega, List.set_append_left _ _ (by omega)]
   rw [show (h.root.map by8).set r (AV.p (.int .u8 (v.toNat : Int))) = (h.root.set r v).map by8 by rw [List.map_set]; rfl]; rfl
 . rw [Hdr.cs, show 1 + r = r + 1 by omega, List.set_cons_succ, List.set_append_left _ _ (by omega)]
   rw [show (h.prev.map by8).set r (AV.p (.int .u8 (v.toNat : Int))) = (h.prev.set r v).map by8 by rw [List.map_set]; rfl]; rfl
theorem gn8 (T : Tbl) (a b c d e f g h o : AObj) (l : Tbl) : (T ++ a :: b :: c :: d :: e :: f :: g :: h :: o :: l)[T.length + 8]? = some o := by simp
theorem gn9 (T : Tbl) (a b c d e f g h i o : AObj) (l : Tbl) : (T ++ a :: b :: c :: d :: e :: f :: g :: h :: i :: o :: l)[T.length + 9]? = some o := by simp
def TurnedV (v : AV) : Prop := ∃ bs : List Blk, (∀ b ∈ bs, b.Ok) /\ bs.length <= 15 /\ v = .vs (bs.flatMap Blk.cs) bs.length
theorem turned15_ok {T : Tbl} {a : AV} {l : List Blk} (hb : Es T 69 Blk.cs a l) (hok : ∀ b ∈ l, BFine b) (hl1 : 1 <= l.length) (hl : l.length <= 15) {x : Trn} :
 CallA prog G 7 [a, .ag x.cs] T fun v T' es => TurnedV v /\ T' = T /\ es = [] := by
 refine CallA.wfs fun wf => ?_
 have wt := wf.t
 have wp := wf.p
 have wa := wf.arg a (by simp)
 have wap := wf.argp a (by simp)
 have hr := Trn.rules x
 have hsr := Sl.rules hb.sl (by decide)
 have hlsl := Sl.loads hb.sl (P := prog) (t := 50) (by (simp -dsimp +decide only []))
 obtain ⟨n, hn, hnl⟩ : ∃ n, n = x.block.toNat % l.length /\ n < l.length := ⟨_, rfl, Nat.mod_lt _ (by omega)⟩
 obtain ⟨bn, hbn⟩ : ∃ b, l[n]? = some b := ⟨l[n]'hnl, by simp [hnl]⟩
 have hbnf := hok bn (List.mem_of_getElem? hbn)
 obtain ⟨kt, hkt⟩ : ∃ kt, kt = x.tx.toNat % bn.txs.length := ⟨_, rfl⟩
 refine CallA.enterZ 222 func7 ntmps7 (congrArg Array.toList results7) rfl ⟨by simp, by simp⟩ (by kernel_rfl) ?_
 refine SemA.cutS [] (fun bs : List Blk => [(3, .ptr T.length 0), (5, .sl (T.length + 1) 0 bs.length), (10, wint (n : Int))]) (fun bs => T ++ [.cells 25 x.cs, BK bs]) (fun bs => bs.length = l.length /\ ∀ b ∈ bs, b.Ok) [] 8 rfl (by kernel_rfl) ?_ ?_
 . simp -dsimp +decide (disch := omega) only [vp0, ↓reduceIte, Nat.reduceSub, Nat.reduceAdd, vt]
   refine SemA.adopt 5 52 69 (by decide) rfl ?_
   refine SemA.ghost (SemA.ghost (SemA.ghost ?_))
   simp -dsimp +decide only [vp0]
   refine SemA.loopS (fun s : Nat × List Blk × AObj × AObj × AObj => [(0, a), (3, .ptr T.length 0), (5, .sl (T.length + 1) 0 s.2.1.length), (6, wint (s.1 : Int))]) (fun s => T ++ [.cells 25 x.cs, BK s.2.1, s.2.2.1, s.2.2.2.1, s.2.2.2.2]) (fun s => s.1 <= l.length /\ OutI T.length n kt s.1 bn s.2.1 s.2.2.1 s.2.2.2.1 s.2.2.2.2) (fun s => l.length - s.1) (0, [], .gone, .gone, .gone) [] 0
    (fun s : List Blk × AObj × AObj × AObj => [(3, .ptr T.length 0), (5, .sl (T.length + 1) 0 s.1.length)]) (fun s => T ++ [.cells 25 x.cs, BK s.1, s.2.1, s.2.2.1, s.2.2.2]) (fun s => OutI T.length n kt l.length bn s.1 s.2.1 s.2.2.1 s.2.2.2) ⟨Nat.zero_le _, rfl, .inl ⟨Nat.zero_le _, by simp, rfl, rfl, rfl⟩⟩ (by (try (simp -dsimp +decide (disch := omega) only [vq, Nat.reduceAdd, ci])); first | done | (and_intros <;> first | with_reducible rfl | rfl) | rfl) (by simp) (by simp) ?_ ?_
   . rintro ⟨i, out, A, B, C⟩ g ⟨hi, hO⟩
     dsimp only at hi hO
     refine SemA.o ?_
     simp -dsimp +decide (disch := omega) only [vq, ty, ↓reduceIte, Nat.reduceAdd, hsr]
     refine CondP.dec (fun hc => ?_) (fun hc => ?_)
     . obtain ⟨b, hbx⟩ : ∃ b, l[i]? = some b := ⟨l[i]'(by omega), by simp⟩
       have hbf := hok b (List.mem_of_getElem? hbx)
       have hbo := hbf.ok
       have hhr := Hdr.rules hbo.h
       have hwz := bcl_rules (h := z68) rfl
       have hwb := bcl_rules hhr.1
       have wzf : wrA zB 0 b.h.cs = bcl b.h.cs (.p (.slice none 0 0)) := hwz.2.2.2.2.2.2.2.2.1 _ _ hhr.1
       have hldh := fun (Y : Tbl) (K : AV -> Prop) => (show loadA prog 35 (a.pl (i * 69)) (T ++ Y) K = K (.ag b.h.cs) by
        have hts : tsz prog 35 = 68 := by (simp -dsimp +decide only [])
        have h3 := (hb.app Y).sl.lds (K := K) (P := prog) (t := 35) (by (simp -dsimp +decide only [])) (i * 69) (by rw [hts]; decide) (by rw [hts]; omega)
        rw [h3, hts]
        have h4 := flat_at hb.wd hbx
        rw [show List.take 68 (List.drop (i * 69) (l.flatMap Blk.cs)) = List.take 68 b.cs by rw [<- h4, List.take_take]; rfl]
        congr 2
        rw [Blk.cs, <- hhr.1, List.take_left])
       have hfd := fun j k (K : AV -> Prop) => Sl.fld (K := K) hb.sl (show 0 < l.length by omega) j k
       simp -dsimp +decide (disch := omega) only [vp0, ty, ↓reduceIte, Nat.reduceAdd, Nat.reduceLT, hsr, hldh, hfd, hhr, ezB, wzf, hwz, hwb]
       refine ⟨⟨by omega, by omega⟩, ?_⟩
       refine SemA.adoptC (i := T.length + 5) (k := 68) 63 4 (by decide) (by omega) (gn5 T _ _ _ _ _ _ _) (hwb.2.2.2.2.2.2.1 _) ?_
       simp -dsimp +decide only [vp0, Nat.reduceAdd, hwb]
       obtain ⟨so, sA, sB, sC⟩ := StC.out hbnf.ok.h hO
       have hta : (l.flatMap Blk.cs)[i * 69 + 68]? = some b.ta := by rw [flat_cell hb.wd hbx (by decide)]; exact Blk.cs_tah hbo.h
       have hln := fun (Y : Tbl) s2 K => ((hbo.t.es Y).sl).ln (K := K) s2
       have hbl := hbo.l
       have rso := so.rules
       have tk4' := fun x y z w : AV => (tk4 x y z w).1
       have w4 : ∀ x0 x1 x2 x3 : AV, wrA [oW, AV.p (Value.slice none 0 0), AV.p (Value.slice none 0 0), oW] 0 [x0, x1, x2, x3] = [x0, x1, x2, x3] := fun _ _ _ _ => rfl
       have rsA := sA.rules
       have rh : ∀ q, b.h.cs.map (AV.wo q) = b.h.cs := hhr.2.2.2.2.2.2.2.2.2.1
       have rhp : ∀ i cs, b.h.cs.map (AV.pub i cs) = b.h.cs := hhr.2.2.2.2.2.2.2.2.2.2.1
       refine SemA.loopS (fun s : Nat × List TTx × AObj × AObj => [(0, a), (3, .ptr T.length 0), (5, .sl (T.length + 1) 0 out.length), (6, wint (i : Int)), (7, .ptr (T.length + 5) 0), (8, wint (s.1 : Int))]) (fun s => T ++ [.cells 25 x.cs, BK out, A, s.2.2.1, s.2.2.2, .cells 52 (bcl b.h.cs (.sl (T.length + 6) 0 s.2.1.length)), .buf 63 4 (s.2.1.flatMap TTx.cs)]) (fun s => s.1 <= b.txs.length /\ (i = n -> YsI T.length kt s.1 s.2.1 s.2.2.1 s.2.2.2) /\ (i ≠ n -> s.2.1.length = s.1 /\ (∀ t ∈ s.2.1, Fine t) /\ s.2.2.1 = B /\ s.2.2.2 = C)) (fun s => b.txs.length - s.1) (0, [], B, C) [] 2
        (fun s : List TTx × AObj × AObj => [(0, a), (3, .ptr T.length 0), (5, .sl (T.length + 1) 0 out.length), (6, wint (i : Int)), (7, .ptr (T.length + 5) 0)]) (fun s => T ++ [.cells 25 x.cs, BK out, A, s.2.1, s.2.2, .cells 52 (bcl b.h.cs (.sl (T.length + 6) 0 s.1.length)), .buf 63 4 (s.1.flatMap TTx.cs)]) (fun s => (i = n -> YsI T.length kt b.txs.length s.1 s.2.1 s.2.2) /\ (i ≠ n -> s.1.length = b.txs.length /\ (∀ t ∈ s.1, Fine t) /\ s.2.1 = B /\ s.2.2 = C)) ⟨Nat.zero_le _, fun e => ?_, fun _ => ⟨rfl, by simp, rfl, rfl⟩⟩ (by (try (simp -dsimp +decide (disch := omega) only [vq, Nat.reduceAdd, ci])); first | done | (and_intros <;> first | with_reducible rfl | rfl) | rfl) (by simp) (by simp) ?_ ?_
       . obtain ⟨_, ⟨_, _, _, h2, h3⟩ | ⟨h0, _⟩⟩ := hO
         . exact ⟨rfl, .inl ⟨Nat.zero_le _, by simp, h2, h3⟩⟩
         . omega
       . rintro ⟨k, ys, B1, C1⟩ g ⟨hk, hy1, hy2⟩
         dsimp only at hk hy1 hy2
         obtain ⟨sy, sB1, sC1⟩ : StC T.length (ys.flatMap TTx.cs) /\ StO T.length B1 /\ StO T.length C1 := by
          by_cases e : i = n
          . exact StC.ys (hy1 e)
          . obtain ⟨_, h2, rfl, rfl⟩ := hy2 e
            exact ⟨.tx h2, sB, sC⟩
         have hyl : ys.length = k := by
          by_cases e : i = n
          . exact (hy1 e).1
          . exact (hy2 e).1
         have rsy := sy.rules
         have rsB := sB1.rules
         have rsC := sC1.rules
         have hfy : (ys.flatMap TTx.cs).length = ys.length * 4 := flat_len fun _ _ => rfl
         refine SemA.o ?_
         simp -dsimp +decide (disch := omega) only [vq, ty, ↓reduceIte, Nat.reduceAdd, hsr, hlsl, hfd, hta, hln]
         refine ⟨⟨by omega, by omega⟩, CondP.dec (fun hc2 => ?_) (fun hc2 => ?_)⟩
         . obtain ⟨t, ht⟩ : ∃ t, b.txs[k]? = some t := ⟨b.txs[k]'(by omega), by simp⟩
           have htf := hbf.f t (List.mem_of_getElem? ht)
           have hto := htf.ok
           have hil := hto.il
           have hol := hto.ol
           have htr := TTx.rules hto
           have hldt := fun (Y : Tbl) (K : AV -> Prop) => (show loadA prog 63 (b.ta.pl (k * 4)) Y K = K (.ag t.cs) by
            rw [((hbo.t.es Y).ld (P := prog) (t := 63) (by (simp -dsimp +decide only [])) (by (simp -dsimp +decide only [])) (by decide)).2 k K (by omega), ht]
            rfl)
           have hixt := fun (Y : Tbl) (ik : IntKind) (z : Int) (K : AV -> Prop) => (hbo.t.es Y).sl.ix (K := K) (by decide) ik z
           have wtz : wrA [oW, AV.p (Value.slice none 0 0), AV.p (Value.slice none 0 0), oW] 0 t.cs = t.cs := rfl
           have hsi := Sl.rules (hto.i.es T).sl (by decide)
           have hso := Sl.rules (hto.o.es T).sl (by decide)
           have hti : ∀ v, t.cs.set 1 v = [w32 t.v, v, t.oa, w32 t.lock] := fun _ => rfl
           have wi := TIn.wof hto.ii
           have wo := TOut.wof hto.oo
           have oi := TIn.onesf hto.ii
           have oo := TOut.onesf hto.oo
           simp -dsimp +decide (disch := omega) only [vsk, vq, ty, ↓reduceIte, Nat.reduceAdd, Nat.reduceMul, Nat.reduceLT, vi, vt, wt, wa, hr, hsr, hlsl, hfd, hta, hldt, hixt, wtz, htr, hsi, hso, hti, wi, wo, oi, oo, rso, rsA, rsB, rsC, rsy, hwb, rh, hfy, tk4', w4, rep1]
           refine ⟨⟨by omega, by omega⟩, ⟨by omega, by omega⟩, ⟨by omega, by omega⟩, ⟨by omega, by omega⟩, ⟨by omega, by omega⟩, ?_⟩
           by_cases hsp : i = n /\ k = kt
           . obtain ⟨e1, e2⟩ := hsp
             have hyi := hy1 e1
             rw [e2] at hyi
             obtain ⟨hyf, hyn⟩ := hyi.sp htf
             have hof : ∀ b ∈ out, b.Ok := by
              obtain ⟨_, ⟨_, h, _⟩ | ⟨h, _⟩⟩ := hO
              . exact h
              . omega
             have hA : A = .gone := by
              obtain ⟨_, ⟨_, _, h, _⟩ | ⟨h, _⟩⟩ := hO
              . exact h
              . omega
             have hwi := tbl_ren (permF_id T.length [0, 1, 2, 8, 9, 5, 6]) wt.2.1
             have hra := AV.ren_of (permF_id T.length [0, 1, 2, 8, 9, 5, 6]) a wa.2.1
             have hv := vn (permF T.length [0, 1, 2, 8, 9, 5, 6]) T.length [0, 1, 2, 8, 9, 5, 6]
             have hix : idxO [0, 1, 2, 8, 9, 5, 6] 0 = some 0 /\ idxO [0, 1, 2, 8, 9, 5, 6] 1 = some 1 /\ idxO [0, 1, 2, 8, 9, 5, 6] 2 = some 2 /\ idxO [0, 1, 2, 8, 9, 5, 6] 8 = some 3 /\ idxO [0, 1, 2, 8, 9, 5, 6] 9 = some 4 /\ idxO [0, 1, 2, 8, 9, 5, 6] 5 = some 5 /\ idxO [0, 1, 2, 8, 9, 5, 6] 6 = some 6 /\ idxO [0, 1, 2, 8, 9, 5, 6] 7 = none /\ idxO [0, 1, 2, 8, 9, 5, 6] 10 = none := ⟨rfl, rfl, rfl, rfl, rfl, rfl, rfl, rfl, rfl⟩
             have r1 : (out.flatMap Blk.cs).map (AV.ren (permF T.length [0, 1, 2, 8, 9, 5, 6])) = out.flatMap Blk.cs := ren_all (Blk.wof hof)
             have r2 : (ys.flatMap TTx.cs).map (AV.ren (permF T.length [0, 1, 2, 8, 9, 5, 6])) = ys.flatMap TTx.cs := ren_all (TTx.wof hyf)
             have r3 : b.h.cs.map (AV.ren (permF T.length [0, 1, 2, 8, 9, 5, 6])) = b.h.cs := ren_all rh
             have r4 : (t.ins.flatMap TIn.cs).map (AV.ren (permF T.length [0, 1, 2, 8, 9, 5, 6])) = t.ins.flatMap TIn.cs := ren_all wi
             have r5 : (t.outs.flatMap TOut.cs).map (AV.ren (permF T.length [0, 1, 2, 8, 9, 5, 6])) = t.outs.flatMap TOut.cs := ren_all wo
             refine ⟨(k + 1, ys ++ [spT T.length t], .buf 68 36 (t.ins.flatMap TIn.cs), .buf 71 2 (t.outs.flatMap TOut.cs)), ⟨⟨by dsimp only; omega, fun _ => by rw [e2]; exact hyn, fun h => absurd e1 h⟩, by dsimp only; omega⟩, ?_⟩
             rw [hA]
             refine SeeL.perm T _ [0, 1, 2, 8, 9, 5, 6] rfl (by decide) (by simp) (Nat.le_refl _) hwi ?_
             simp -dsimp +decide only [va, hv, hix, hra, hr, hwb, r1, r2, r3, r4, r5, List.getElem?_cons_zero, List.getElem?_cons_succ, Option.getD_some, List.map_cons, List.map_nil, List.map_append]
             refine SeeL.done ⟨rfl, ?_, ?_, by simp⟩
             . exact (by (try (simp -dsimp +decide (disch := omega) only [vp0, Nat.reduceAdd])); first | done | (and_intros <;> first | with_reducible rfl | rfl) | rfl)
             . rw [List.flatMap_append, List.length_append]; rfl
           . refine ⟨(k + 1, ys ++ [cpT t], B1, C1), ⟨⟨by dsimp only; omega, fun e => (hy1 e).cp (fun h => hsp ⟨e, h⟩) htf, fun e => ?_⟩, by dsimp only; omega⟩, ?_⟩
             . obtain ⟨h1, h2, h3, h4⟩ := hy2 e
               refine ⟨by simp [h1], fun u hu => ?_, h3, h4⟩
               rcases List.mem_append.1 hu with hu | hu
               . exact h2 u hu
               . rw [List.mem_singleton.1 hu]; exact cpT_fine htf
             . have pi := TIn.pubf hto.ii
               have po := TOut.pubf hto.oo
               refine SeeL.pub (T.length + 8) (gn8 T _ _ _ _ _ _ _ _ _ _) rfl (TIn.cleanf hto.ii) ?_
               simp -dsimp +decide only [va, ↓reduceIte, vt, wp, wap, hr, rso, rsA, rsB, rsC, hwb, rhp, po]
               refine SeeL.pub (T.length + 9) (gn9 T _ _ _ _ _ _ _ _ _ _ _) rfl (TOut.cleanf hto.oo) ?_
               simp -dsimp +decide only [va, ↓reduceIte, vt, wp, wap, hr, rso, rsA, rsB, rsC, hwb, rhp]
               refine SeeL.cut (T.length + 7) (by omega) ?_
               simp -dsimp +decide only [vp0, ↓reduceIte, vt, wt, wa, hr, rso, rsA, rsB, rsC, rsy, hwb, rh, List.map_append]
               refine SeeL.done ⟨rfl, ?_, ?_, by simp⟩
               . exact (by (try (simp -dsimp +decide (disch := omega) only [vp0, Nat.reduceAdd])); first | done | (and_intros <;> first | with_reducible rfl | rfl) | rfl)
               . rw [List.flatMap_append, List.length_append]; rfl
         . have e : k = b.txs.length := by omega
           subst e
           simp -dsimp +decide (disch := omega) only [vsk, va, vl, ↓reduceIte]
           exact ⟨(ys, B1, C1), ⟨hy1, hy2⟩, SeeL.done ⟨rfl, (by (try (simp -dsimp +decide (disch := omega) only [vp0, Nat.reduceAdd])); first | done | (and_intros <;> first | with_reducible rfl | rfl) | rfl), rfl, by simp⟩⟩
       . rintro ⟨ys, B1, C1⟩ g tmp ⟨hy1, hy2⟩
         dsimp only at hy1 hy2
         obtain ⟨sy, sB1, sC1⟩ : StC T.length (ys.flatMap TTx.cs) /\ StO T.length B1 /\ StO T.length C1 := by
          by_cases e : i = n
          . exact StC.ys (hy1 e)
          . obtain ⟨_, h2, rfl, rfl⟩ := hy2 e
            exact ⟨.tx h2, sB, sC⟩
         have rsy := sy.rules
         have rsB := sB1.rules
         have rsC := sC1.rules
         have hlo := OutI.lens hbnf.ok.h hO
         have hfo : (out.flatMap Blk.cs).length = out.length * 69 := flat_len hlo.2
         have hon : ∀ v, ones (bcl b.h.cs v) = (true && v.one) := fun v => by rw [hwb.2.2.2.2.2.2.2.2.2.2.2.2, hhr.2.2.2.2.2.2.2.2.2.2.2]
         have hbb : ∀ j o m, (true && (AV.sl j o m).one) = true := fun _ _ _ => rfl
         simp -dsimp +decide (disch := omega) only [vsk, vq, ty, ↓reduceIte, Nat.reduceAdd, Nat.reduceMul, vi, vt, wt, wa, hr, hwz, hwb, ezB, rep1, rso, rsA, rsB, rsC, rsy, rh, hfo]
         refine ⟨hhr.2.2.2.2.2.2.2.2.2.2.2, ⟨by omega, by omega⟩, ?_⟩
         by_cases e : i = n
         . have hbe : b = bn := by
            rw [e] at hbx
            exact Option.some.inj (hbx.symm.trans hbn)
           have hyi := hy1 e
           rw [hbe] at hyi
           rw [e] at hO
           obtain ⟨hof, hon2⟩ := hO.sp hyi
           have hwi := tbl_ren (permF_id T.length [0, 1, 6, 3, 4]) wt.2.1
           have hra := AV.ren_of (permF_id T.length [0, 1, 6, 3, 4]) a wa.2.1
           have hv := vn (permF T.length [0, 1, 6, 3, 4]) T.length [0, 1, 6, 3, 4]
           have hix : idxO [0, 1, 6, 3, 4] 0 = some 0 /\ idxO [0, 1, 6, 3, 4] 1 = some 1 /\ idxO [0, 1, 6, 3, 4] 6 = some 2 /\ idxO [0, 1, 6, 3, 4] 3 = some 3 /\ idxO [0, 1, 6, 3, 4] 4 = some 4 /\ idxO [0, 1, 6, 3, 4] 5 = none /\ idxO [0, 1, 6, 3, 4] 7 = none := ⟨rfl, rfl, rfl, rfl, rfl, rfl, rfl⟩
           have r1 : (out.flatMap Blk.cs).map (AV.ren (permF T.length [0, 1, 6, 3, 4])) = out.flatMap Blk.cs := ren_all (Blk.wof hof)
           have r2 : (ys.flatMap TTx.cs).map (AV.ren (permF T.length [0, 1, 6, 3, 4])) = ys.flatMap TTx.cs :=
            cs_ren (q := fun j => !decide (permF T.length [0, 1, 6, 3, 4] j = some j)) (fun j hj => by simpa using hj) (hyi.wo34 _ (by simp [hv, hix]) (by simp [hv, hix]))
           have r3 : b.h.cs.map (AV.ren (permF T.length [0, 1, 6, 3, 4])) = b.h.cs := ren_all rh
           have r4 := (hyi.ren (permF T.length [0, 1, 6, 3, 4])).1
           have r5 := (hyi.ren (permF T.length [0, 1, 6, 3, 4])).2
           refine ⟨(n + 1, out ++ [⟨bn.h, .sl (T.length + 2) 0 ys.length, ys⟩], .buf 63 4 (ys.flatMap TTx.cs), B1, C1), ⟨⟨by dsimp only; omega, hon2⟩, by dsimp only; omega⟩, ?_⟩
           refine SeeL.perm T _ [0, 1, 6, 3, 4] rfl (by decide) (by simp) (Nat.le_refl _) hwi ?_
           simp -dsimp +decide only [va, hv, hix, hra, hr, hwb, r1, r2, r3, r4, r5, List.getElem?_cons_zero, List.getElem?_cons_succ, Option.getD_some, List.map_cons, List.map_nil, List.map_append]
           refine SeeL.done ⟨rfl, ?_, ?_, by simp⟩
           . rw [e]
             simp -dsimp +decide only [vp0, Nat.reduceAdd]
             exact ⟨by simp, rfl⟩
           . rw [hbe]
             simp only [BK, List.flatMap_append, List.flatMap_cons, List.flatMap_nil, List.append_nil]
             rfl
         . obtain ⟨h1, h2, h3, h4⟩ := hy2 e
           refine ⟨(i + 1, out ++ [cpB b.h ys], A, B1, C1), ⟨⟨by dsimp only; omega, by rw [h3, h4]; exact hO.cp e (cpB_ok hbo.h h2 (by omega))⟩, by dsimp only; omega⟩, ?_⟩
           refine SeeL.pub (T.length + 6) (gn6 T _ _ _ _ _ _ _ _) rfl (fun u hu => ?_) ?_
           . obtain ⟨t, ht, hu⟩ := List.mem_flatMap.1 hu
             exact TTx.clean (h2 t ht).ok u hu
           simp -dsimp +decide only [va, ↓reduceIte, vt, wp, wap, hr, rso, rsA, rsB, rsC, hwb, rhp, List.map_append]
           refine SeeL.cut (T.length + 5) (by omega) ?_
           simp -dsimp +decide only [vp0, ↓reduceIte, vt, wt, wa, hr, rso, rsA, rsB, rsC, hwb, rh, List.map_append]
           refine SeeL.done ⟨rfl, ?_, ?_, by simp⟩
           . simp -dsimp +decide only [vp0, Nat.reduceAdd]
             exact ⟨by simp, rfl⟩
           . simp only [BK, List.flatMap_append, List.flatMap_cons, List.flatMap_nil, List.append_nil]
             rfl
     . have e : i = l.length := by omega
       subst e
       simp -dsimp +decide (disch := omega) only [vsk, va, ↓reduceIte]
       exact ⟨(out, A, B, C), hO, SeeL.done ⟨rfl, (by (try (simp -dsimp +decide (disch := omega) only [vp0, Nat.reduceAdd])); first | done | (and_intros <;> first | with_reducible rfl | rfl) | rfl), rfl, by simp⟩⟩
   . rintro ⟨out, A, B, C⟩ g tmp hO
     dsimp only at hO
     obtain ⟨hol, ⟨h0, _⟩ | ⟨_, o1, ys, o2, ho, ho1, hok1, hok2, hA, hY⟩⟩ := hO
     . omega
     have hbe : out[n]? = some ⟨bn.h, .sl (T.length + 2) 0 ys.length, ys⟩ := by rw [ho, List.getElem?_append_right (by omega), ho1, Nat.sub_self]; rfl
     have hwid : ∀ b ∈ out, b.cs.length = 69 := by
      rw [ho]; intro b hb
      rcases List.mem_append.1 hb with hb | hb
      . exact Blk.cs_len (hok1 b hb)
      . rcases List.mem_cons.1 hb with rfl | hb
        . exact Blk.cs_lh hbnf.ok.h
        . exact Blk.cs_len (hok2 b hb)
     have hofl : (out.flatMap Blk.cs).length = out.length * 69 := flat_len hwid
     have hone : out.flatMap Blk.cs ≠ [] := fun e => by rw [e] at hofl; simp at hofl; omega
     have hta : (out.flatMap Blk.cs)[n * 69 + 68]? = some (.sl (T.length + 2) 0 ys.length) := by
      rw [flat_cell hwid hbe (by decide)]; exact Blk.cs_tah (b := ⟨bn.h, .sl (T.length + 2) 0 ys.length, ys⟩) hbnf.ok.h
     have hw8 : ∀ y : UInt8, IntKind.i64.wrap (y.toNat : Int) = (y.toNat : Int) := fun y => IntWalk.i64_in _ (by have := y.toNat_lt; omega)
     have hmod : (x.block.toNat : Int).tmod (out.length : Int) = (n : Int) := by rw [hn, hol]; rfl
     have hyl : ys.length = bn.txs.length := hY.1
     by_cases hm : ys.length = 0
     . have i0 : ((ys.length : Int) = 0) = True := eq_true (by omega)
       simp -dsimp +decide (disch := omega) only [vq, ty, ↓reduceIte, Nat.reduceAdd, hr, hw8, hmod, hta, i0]
       refine ⟨by omega, ⟨by omega, by omega, hone⟩, ?_⟩
       have hyn : ys = [] := List.eq_nil_of_length_eq_zero hm
       obtain ⟨_, ⟨_, _, hB, hC⟩ | ⟨h1, _⟩⟩ := hY
       . rw [hA, hB, hC, hyn]
         have e1 : out.flatMap Blk.cs = o1.flatMap Blk.cs ++ (bcl bn.h.cs (.sl (T.length + 2) 0 0) ++ o2.flatMap Blk.cs) := by rw [ho, hyn]; simp [Blk.cs, bcl]
         have hhr := Hdr.rules hbnf.ok.h
         have hwb := bcl_rules hhr.1
         have rhp : ∀ i cs, bn.h.cs.map (AV.pub i cs) = bn.h.cs := hhr.2.2.2.2.2.2.2.2.2.2.1
         have p1 := Blk.pubf hok1
         have p2 := Blk.pubf hok2
         refine Vw.pub (T.length + 2) (gn2 T _ _ _ _) rfl (by simp) ?_
         simp -dsimp +decide only [va, ↓reduceIte, vt, wp, hr, e1, hwb, rhp, p1, p2, List.map_append]
         refine Vw.pub (T.length + 1) (gn1 T _ _ _) rfl (fun u hu => ?_) ?_
         . rcases List.mem_append.1 hu with hu | hu
           . obtain ⟨b, hb, hu⟩ := List.mem_flatMap.1 hu
             exact Blk.clean (hok1 b hb) u hu
           rcases List.mem_append.1 hu with hu | hu
           . rcases List.mem_append.1 hu with hu | hu
             . exact Hdr.clean u hu
             . rw [List.mem_singleton.1 hu]; exact .vs _ _
           . obtain ⟨b, hb, hu⟩ := List.mem_flatMap.1 hu
             exact Blk.clean (hok2 b hb) u hu
         simp -dsimp +decide only [va, ↓reduceIte, wp]
         refine Vw.cut ⟨⟨o1 ++ ⟨bn.h, .vs [] 0, []⟩ :: o2, fun b hb => ?_, ?_, ?_⟩, rfl, rfl⟩
         . rcases List.mem_append.1 hb with hb | hb
           . exact hok1 b hb
           . rcases List.mem_cons.1 hb with rfl | hb
             . exact ⟨hbnf.ok.h, ⟨by simp, .inl rfl⟩, by simp, by simp, by simp⟩
             . exact hok2 b hb
         . have := congrArg List.length ho; simp at this ⊢; omega
         . have e2 : out.length = (o1 ++ ⟨bn.h, .vs [] 0, []⟩ :: o2).length := by rw [ho]; simp
           rw [AV.wo, e2]
           simp [Blk.cs, bcl]
       . omega
     have i0 : ((ys.length : Int) = 0) = False := eq_false (by omega)
     obtain ⟨_, ⟨h1, _⟩ | ⟨_, y1, t, y2, hys, hy1, hyf1, hyf2, htf, hB, hC⟩⟩ := hY
     . exfalso; have := Nat.mod_lt x.tx.toNat (show 0 < bn.txs.length by omega); omega
     have hmod2 : (x.tx.toNat : Int).tmod (ys.length : Int) = (kt : Int) := by rw [hkt, hyl]; rfl
     simp -dsimp +decide (disch := omega) only [vq, ty, ↓reduceIte, Nat.reduceAdd, hr, hw8, hmod, hta, i0]
     refine ⟨by omega, ⟨by omega, by omega, hone⟩, ?_⟩
     have hyk : ys[kt]? = some (spT T.length t) := by rw [hys, <- hy1]; exact mid_get
     have hyw : ∀ t ∈ ys, t.cs.length = 4 := fun _ _ => rfl
     have hal : (ys.flatMap TTx.cs).length = ys.length * 4 := flat_len hyw
     have hane : ys.flatMap TTx.cs ≠ [] := fun e => by rw [e] at hal; simp at hal; omega
     have hktl : kt < ys.length := (List.getElem?_eq_some_iff.1 hyk).1
     have hac1 : (ys.flatMap TTx.cs)[kt * 4 + 1]? = some (.sl (T.length + 3) 0 t.ins.length) := by rw [flat_cell hyw hyk (by decide)]; rfl
     have hac2 : (ys.flatMap TTx.cs)[kt * 4 + 2]? = some (.sl (T.length + 4) 0 t.outs.length) := by rw [flat_cell hyw hyk (by decide)]; rfl
     have hac3 : (ys.flatMap TTx.cs)[kt * 4 + 3]? = some (w32 t.lock) := by rw [flat_cell hyw hyk (by decide)]; rfl
     have hac4 : List.take 4 (List.drop (kt * 4) (ys.flatMap TTx.cs)) = (spT T.length t).cs := flat_at hyw hyk
     obtain ⟨wv, hwv, hwl⟩ : ∃ wv : Nat, wv = x.what.toNat % 9 /\ wv < 9 := ⟨_, rfl, Nat.mod_lt _ (by decide)⟩
     have hm9 : (x.what.toNat : Int).tmod 9 = (wv : Int) := by rw [hwv]; rfl
     rw [hA, hB, hC]
     have hol1 : out.length = o1.length + 1 + o2.length := by rw [ho]; simp; omega
     have e0 : out.flatMap Blk.cs = o1.flatMap Blk.cs ++ (bcl bn.h.cs (.sl (T.length + 2) 0 ys.length) ++ o2.flatMap Blk.cs) := by rw [ho]; simp [Blk.cs, bcl]
     have h1l : (o1.flatMap Blk.cs).length = n * 69 := by rw [flat_len fun b hb => Blk.cs_len (hok1 b hb), ho1]
     have hhr := Hdr.rules hbnf.ok.h
     have hwb := bcl_rules hhr.1
     have hst : ∀ u v, (o1.flatMap Blk.cs ++ (bcl bn.h.cs u ++ o2.flatMap Blk.cs)).set (n * 69 + 68) v = o1.flatMap Blk.cs ++ (bcl bn.h.cs v ++ o2.flatMap Blk.cs) := fun u v => by
      rw [List.set_append_right _ _ (by omega), h1l, show n * 69 + 68 - n * 69 = 68 by omega, List.set_append_left _ _ (by rw [hwb.1]; decide), hwb.2.2.2.1]
     have hfy : ∀ I O u, (u ∈ y1 ∨ u ∈ y2) -> FinT T.length I O u := fun I O u hu => by
      have hf : Fine u := by
       rcases hu with hu | hu
       . exact hyf1 u hu
       . exact hyf2 u hu
      exact .inl ⟨hf.ok, by have := hf.i2; omega, by have := hf.o2; omega⟩
     have hi2 := htf.i2
     have ho2 := htf.o2
     have hi1 := htf.i1
     have hoo1 := htf.o1
     have hl7 := hbnf.l
     have fin : ∀ (loc : List AV) (hd : Hdr) (ys' : List TTx) (I : List TIn) (O : List TOut) (mF : Nat) (cO cA cI cC : List AV), Lc 222 [(3, .ptr T.length 0), (5, .sl (T.length + 1) 0 out.length), (10, wint (n : Int))] loc -> hd.Ok -> cO = o1.flatMap Blk.cs ++ (bcl hd.cs (.sl (T.length + 2) 0 mF) ++ o2.flatMap Blk.cs) -> cA = ys'.flatMap TTx.cs -> cI = I.flatMap TIn.cs -> cC = O.flatMap TOut.cs -> (∀ x ∈ I, x.Ok) -> (∀ x ∈ O, x.Ok) -> I.length <= 100 -> O.length <= 100 -> (∀ t ∈ ys', FinT T.length I O t) -> mF <= ys'.length -> ys'.length <= 100 ->
      ∃ s : List Blk, (s.length = l.length /\ ∀ b ∈ s, b.Ok) /\ SeeL G T.length 222 [] loc (T ++ [.cells 25 x.cs, .buf 52 69 cO, .buf 63 4 cA, .buf 68 36 cI, .buf 71 2 cC]) [] [] [(3, .ptr T.length 0), (5, .sl (T.length + 1) 0 s.length), (10, wint (n : Int))] (T ++ [.cells 25 x.cs, BK s]) [] := by
      intro loc hd ys' I O mF cO cA cI cC hloc hh e1 e2 e3 e4 hI hO hi ho' hf hm hy
      subst e1 e2 e3 e4
      obtain ⟨bs, hb1, hb2, hS⟩ := fin15 wf (x := x) hh hok1 hok2 hI hO hi ho' hf hm hy hol1 rfl hloc
      rw [<- hb1] at hS
      exact ⟨bs, ⟨by omega, hb2⟩, hS⟩
     have hfys : ∀ u ∈ ys, FinT T.length t.ins t.outs u := fun u hu => by
      rw [hys] at hu
      rcases List.mem_append.1 hu with hu | hu
      . exact hfy _ _ u (.inl hu)
      . rcases List.mem_cons.1 hu with rfl | hu
        . exact .inr ⟨rfl, rfl, .inl ⟨rfl, rfl⟩⟩
        . exact hfy _ _ u (.inr hu)
     have hset : ∀ (u : TTx), ys.set kt u = y1 ++ u :: y2 := fun u => by rw [hys, <- hy1]; exact mid_set
     refine SemA.draw (fun i => true) [(0, true), (1, true), (2, true), (3, true), (4, true), (5, true), (6, true), (7, true), (8, true), (9, true), (10, true), (11, true), (12, true), (13, true), (14, true)] mixed (by kernel_rfl) ?_
     simp -dsimp +decide (disch := omega) only [vq, ty, ↓reduceIte, vt, hr, hw8, hta, hmod2]
     refine ⟨by omega, ⟨by omega, by omega, hane⟩, ?_⟩
     rcases (by omega : wv = 0 ∨ wv = 1 ∨ wv = 2 ∨ wv = 3 ∨ wv = 4 ∨ wv = 5 ∨ wv = 6 ∨ wv = 7 ∨ wv = 8) with h | h | h | h | h | h | h | h | h
     . have hv : (wv : Int) = 0 := by rw [h]; rfl
       simp -dsimp +decide (disch := omega) only [vp0, hm9, hv]
       refine SemA.draw (fun i => true) [(0, true), (1, true), (2, true), (3, true), (4, true), (5, true), (6, true), (7, true), (8, true), (9, true), (10, true), (11, true), (12, true), (13, true), (14, false)] mixed (by kernel_rfl) ?_
       simp -dsimp +decide (disch := omega) only [vsk, vq, ty, ↓reduceIte, Nat.reduceAdd, Nat.reduceLT, Int.reduceToNat, vi, vt, hta]
       exact ⟨by omega, ⟨by omega, by omega⟩, by rw [hofl]; omega, fin _ bn.h ys t.ins t.outs (ys.length - 1) _ _ _ _ (by (try (simp -dsimp +decide (disch := omega) only [vq, Nat.reduceAdd])); first | done | (and_intros <;> first | with_reducible rfl | rfl) | rfl) hbnf.ok.h (by rw [e0, hst]) rfl rfl rfl htf.ok.ii htf.ok.oo (by omega) (by omega) hfys (by omega) (by omega)⟩
     . have hv : (wv : Int) = 1 := by rw [h]; rfl
       simp -dsimp +decide (disch := omega) only [vp0, ↓reduceIte, hm9, hv]
       obtain ⟨j, hj, hjl⟩ : ∃ j, j = x.at_.toNat % t.outs.length /\ j < t.outs.length := ⟨_, rfl, Nat.mod_lt _ (by omega)⟩
       have hmj : (x.at_.toNat : Int).tmod (t.outs.length : Int) = (j : Int) := by rw [hj]; rfl
       obtain ⟨o, hoj⟩ : ∃ o, t.outs[j]? = some o := ⟨t.outs[j]'hjl, by simp [hjl]⟩
       have hcj : (t.outs.flatMap TOut.cs)[j * 2]? = some (w64 o.value) := by rw [show j * 2 = j * 2 + 0 from rfl, flat_cell (f := TOut.cs) (sz := 2) (fun _ _ => rfl) hoj (by decide)]; rfl
       refine SemA.draw (fun i => true) [(0, true), (1, true), (2, true), (3, true), (4, true), (5, true), (6, true), (7, true), (8, true), (9, true), (10, true), (11, true), (12, true), (13, true), (14, true), (15, true), (16, true), (17, true), (18, true), (19, false)] mixed (by kernel_rfl) ?_
       simp -dsimp +decide (disch := omega) only [vsk, vr, ty, ↓reduceIte, Nat.reduceLT, vt, hr, hw8, hac2, hmj, hcj]
       have hol2 : (t.outs.flatMap TOut.cs).length = t.outs.length * 2 := flat_len fun _ _ => rfl
       have hon2 : t.outs.flatMap TOut.cs ≠ [] := fun e => by rw [e] at hol2; simp at hol2; omega
       have hoo := htf.ok.oo o (List.mem_of_getElem? hoj)
       obtain ⟨O2, hO2⟩ : ∃ O2, O2 = t.outs.set j ⟨o.value + UInt64.ofInt 100000, o.sc⟩ := ⟨_, rfl⟩
       have hO2l : O2.length = t.outs.length := by rw [hO2, List.length_set]
       have hO2o : ∀ y ∈ O2, y.Ok := fun y hy => by
        rw [hO2] at hy
        rcases List.mem_or_eq_of_mem_set hy with hy | rfl
        . exact htf.ok.oo y hy
        . exact ⟨hoo.s, hoo.l⟩
       refine ⟨by omega, ⟨by omega, by omega, hon2⟩, ⟨by omega, by omega, hon2⟩, by omega, fin _ bn.h (y1 ++ ⟨t.v, .sl (T.length + 3) 0 t.ins.length, t.ins, .sl (T.length + 4) 0 O2.length, O2, t.lock⟩ :: y2) t.ins O2 ys.length _ _ _ _ (by (try (simp -dsimp +decide (disch := omega) only [vq, Nat.reduceAdd])); first | done | (and_intros <;> first | with_reducible rfl | rfl) | rfl) hbnf.ok.h e0 ?_ rfl ?_ htf.ok.ii hO2o (by omega) (by omega) (fun u hu => ?_) (by rw [hys]; simp) (by rw [hys] at hyl; simp at hyl ⊢; omega)⟩
       . rw [hys, hO2l]; simp [TTx.cs, spT]
       . rw [hO2]; exact set_flat (k := 0) (sz := 2) (fun _ _ => rfl) hoj (by decide) rfl
       . rcases List.mem_append.1 hu with hu | hu
         . exact hfy _ _ u (.inl hu)
         . rcases List.mem_cons.1 hu with rfl | hu
           . exact .inr ⟨rfl, rfl, .inl ⟨rfl, rfl⟩⟩
           . exact hfy _ _ u (.inr hu)
     . have hv : (wv : Int) = 2 := by rw [h]; rfl
       simp -dsimp +decide (disch := omega) only [vp0, ↓reduceIte, hm9, hv]
       obtain ⟨j, hj, hjl⟩ : ∃ j, j = x.at_.toNat % t.ins.length /\ j < t.ins.length := ⟨_, rfl, Nat.mod_lt _ (by omega)⟩
       have hmj : (x.at_.toNat : Int).tmod (t.ins.length : Int) = (j : Int) := by rw [hj]; rfl
       obtain ⟨o, hoj⟩ : ∃ o, t.ins[j]? = some o := ⟨t.ins[j]'hjl, by simp [hjl]⟩
       have hoo := htf.ok.ii o (List.mem_of_getElem? hoj)
       have hor := TIn.rules hoo
       have hiw : ∀ y ∈ t.ins, y.cs.length = 36 := fun y hy => (TIn.rules (htf.ok.ii y hy)).1
       have hcj : (t.ins.flatMap TIn.cs)[j * 36 + 32]? = some (w32 o.n) := by rw [flat_cell hiw hoj (by decide)]; exact hor.2.2.2.1
       refine SemA.draw (fun i => true) [(0, true), (1, true), (2, true), (3, true), (4, true), (5, true), (6, true), (7, true), (8, true), (9, true), (10, true), (11, true), (12, true), (13, true), (14, true), (15, true), (16, true), (17, true), (18, true), (19, true), (20, true), (21, false)] mixed (by kernel_rfl) ?_
       simp -dsimp +decide (disch := omega) only [vsk, vr, ty, ↓reduceIte, Nat.reduceAdd, Nat.reduceLT, vt, hr, hw8, hac1, hmj, hcj]
       have hol2 : (t.ins.flatMap TIn.cs).length = t.ins.length * 36 := flat_len hiw
       have hon2 : t.ins.flatMap TIn.cs ≠ [] := fun e => by rw [e] at hol2; simp at hol2; omega
       obtain ⟨I2, hI2⟩ : ∃ I2, I2 = t.ins.set j ⟨o.tx, o.n + UInt32.ofInt 1, o.sc, o.seq, o.wa, o.wit⟩ := ⟨_, rfl⟩
       have hI2l : I2.length = t.ins.length := by rw [hI2, List.length_set]
       have hI2o : ∀ y ∈ I2, y.Ok := fun y hy => by
        rw [hI2] at hy
        rcases List.mem_or_eq_of_mem_set hy with hy | rfl
        . exact htf.ok.ii y hy
        . exact ⟨hoo.t, hoo.s, hoo.l, hoo.w, hoo.y, hoo.wl⟩
       refine ⟨by omega, ⟨by omega, by omega, hon2⟩, ⟨by omega, by omega, hon2⟩, by omega, fin _ bn.h (y1 ++ ⟨t.v, .sl (T.length + 3) 0 I2.length, I2, .sl (T.length + 4) 0 t.outs.length, t.outs, t.lock⟩ :: y2) I2 t.outs ys.length _ _ _ _ (by (try (simp -dsimp +decide (disch := omega) only [vq, Nat.reduceAdd])); first | done | (and_intros <;> first | with_reducible rfl | rfl) | rfl) hbnf.ok.h e0 ?_ ?_ rfl hI2o htf.ok.oo (by omega) (by omega) (fun u hu => ?_) (by rw [hys]; simp) (by rw [hys] at hyl; simp at hyl ⊢; omega)⟩
       . rw [hys, hI2l]; simp [TTx.cs, spT]
       . rw [hI2]
         refine set_flat hiw hoj (by decide) ?_
         rw [TIn.cs, TIn.cs, List.set_append_right _ _ (by rw [List.length_map, hoo.t]; exact Nat.le_refl _), List.length_map, hoo.t]; rfl
       . rcases List.mem_append.1 hu with hu | hu
         . exact hfy _ _ u (.inl hu)
         . rcases List.mem_cons.1 hu with rfl | hu
           . exact .inr ⟨rfl, rfl, .inl ⟨rfl, rfl⟩⟩
           . exact hfy _ _ u (.inr hu)
     . have hv : (wv : Int) = 3 := by rw [h]; rfl
       simp -dsimp +decide (disch := omega) only [vp0, ↓reduceIte, hm9, hv]
       have htm : (out.flatMap Blk.cs).map (AV.wo (fun i => i == T.length + 2)) = o1.flatMap Blk.cs ++ (bcl bn.h.cs .any ++ o2.flatMap Blk.cs) := by
        rw [e0, List.map_append, List.map_append, Blk.wof hok1, Blk.wof hok2, hwb.2.2.2.2.2.2.2.2.2.1, hhr.2.2.2.2.2.2.2.2.2.1]; simp [AV.wo]
       have hsp4 : (spT T.length t).cs.length = 4 := rfl
       have hsq : ∀ q : Nat -> Bool, q (T.length + 3) = false -> q (T.length + 4) = false -> (ys.flatMap TTx.cs).map (AV.wo q) = ys.flatMap TTx.cs := fun q a b => by
        rw [hys, List.flatMap_append, List.flatMap_cons, List.map_append, List.map_append, TTx.wof hyf1, TTx.wof hyf2]
        congr 2
        simp only [TTx.cs, spT, List.map_cons, List.map_nil, AV.wo, w32, a, b]; rfl
       have hsw : ∀ q : Nat -> Bool, q (T.length + 3) = false -> q (T.length + 4) = false -> (spT T.length t).cs.map (AV.wo q) = (spT T.length t).cs := fun q a b => by
        simp only [TTx.cs, spT, List.map_cons, List.map_nil, AV.wo, w32, a, b]; rfl
       have hsw1 := hsw (fun x => x == T.length + 2) (by simp) (by simp)
       have hsw2 := hsw (fun x => decide (T.length + 5 <= x)) (by simp) (by simp)
       have hstk : List.take 4 (spT T.length t).cs = (spT T.length t).cs := rfl
       have hsq1 := hsq (fun x => x == T.length + 2) (by simp) (by simp)
       have hsq2 := hsq (fun x => decide (T.length + 5 <= x)) (by simp) (by simp)
       have wi := TIn.wof htf.ok.ii
       have wo := TOut.wof htf.ok.oo
       have w1 := Blk.wof hok1
       have w2 := Blk.wof hok2
       have rh : ∀ q, bn.h.cs.map (AV.wo q) = bn.h.cs := hhr.2.2.2.2.2.2.2.2.2.1
       have wtz : wrA [oW, AV.p (Value.slice none 0 0), AV.p (Value.slice none 0 0), oW] 0 (spT T.length t).cs = (spT T.length t).cs := rfl
       have hons : ones (spT T.length t).cs = true := rfl
       have hlen69 : (o1.flatMap Blk.cs ++ (bcl bn.h.cs .any ++ o2.flatMap Blk.cs)).length = out.length * 69 := by
        rw [List.length_append, List.length_append, h1l, hwb.1, flat_len fun b hb => Blk.cs_len (hok2 b hb)]; omega
       refine SemA.drawU [(3, .ptr T.length 0), (5, .sl (T.length + 1) 0 out.length), (10, wint (n : Int))] (T ++ [.cells 25 x.cs, .buf 52 69 (o1.flatMap Blk.cs ++ (bcl bn.h.cs (.sl (T.length + 2) 0 (ys.length + 1)) ++ o2.flatMap Blk.cs)), .buf 63 4 (ys.flatMap TTx.cs ++ (spT T.length t).cs), .buf 68 36 (t.ins.flatMap TIn.cs), .buf 71 2 (t.outs.flatMap TOut.cs)]) [] 12 (fun i => decide (i < T.length)) (.st 0 true (.st 1 true (.st 2 true (.st 3 true (.st 5 true (.st 6 true (.alt 4 (.st 7 false (.st 8 false (.st 9 false (.st 10 true (.st 11 true (.st 12 false .nil)))))) 7 (.alt 4 (.st 8 false (.st 9 false (.st 10 true (.st 11 true (.st 12 false .nil))))) 8 (.st 4 false (.st 9 false (.st 10 true (.st 11 true (.st 12 false .nil))))))))))))) mixed (by kernel_rfl) ?_ ?_
       . simp -dsimp +decide (disch := omega) only [vq, ty, ↓reduceIte, Nat.reduceAdd, Nat.reduceMul, Nat.reduceLT, vpu, vt, wt, hr, hta, hac4, hal, wtz, hsp4, rep1, htm, hst, hsq1, hons, wi, wo, hlen69, hstk, hsw1]
         and_intros
         all_goals first
          | omega
          | exact .inl (by simp)
          | (refine SeeL.cut (T.length + 5) (by omega) ?_
             simp -dsimp +decide only [vp0, ↓reduceIte, vt, wt, hr, wi, wo, w1, w2, hsq2, hsw2, hwb, rh, List.map_append]
             refine SeeL.done ⟨rfl, ?_, rfl, by simp⟩
             exact (by (try (simp -dsimp +decide (disch := omega) only [vp0, Nat.reduceAdd])); first | done | (and_intros <;> first | with_reducible rfl | rfl) | rfl))
       . intro g tmp
         simp -dsimp +decide (disch := omega) only [vsk, vq, ↓reduceIte, Nat.reduceAdd]
         refine fin _ bn.h (ys ++ [spT T.length t]) t.ins t.outs (ys.length + 1) _ _ _ _ (by (try (simp -dsimp +decide (disch := omega) only [vq, Nat.reduceAdd])); first | done | (and_intros <;> first | with_reducible rfl | rfl) | rfl) hbnf.ok.h rfl (by simp) rfl rfl htf.ok.ii htf.ok.oo (by omega) (by omega) (fun u hu => ?_) (by simp) (by simp; omega)
         rcases List.mem_append.1 hu with hu | hu
         . exact hfys u hu
         . rw [List.mem_singleton.1 hu]; exact .inr ⟨rfl, rfl, .inl ⟨rfl, rfl⟩⟩
     . have hv : (wv : Int) = 4 := by rw [h]; rfl
       simp -dsimp +decide (disch := omega) only [vp0, ↓reduceIte, hm9, hv]
       obtain ⟨j, hj, hjl⟩ : ∃ j, j = x.at_.toNat % 32 /\ j < 32 := ⟨_, rfl, Nat.mod_lt _ (by decide)⟩
       have hmj : (x.at_.toNat : Int).tmod 32 = (j : Int) := by rw [hj]; rfl
       have hby := Hdr.byte hbnf.ok.h hjl
       obtain ⟨c, hc1, hc2⟩ := hby.1
       have hcg : (out.flatMap Blk.cs)[n * 69 + (33 + j)]? = some (by8 c) := by
        rw [e0, List.getElem?_append_right (by omega), h1l, show n * 69 + (33 + j) - n * 69 = 33 + j by omega, List.getElem?_append_left (by rw [hwb.1]; omega), bcl, List.getElem?_append_left (by rw [hhr.1]; omega), hc2]
       have hcs : ∀ v : UInt8, (out.flatMap Blk.cs).set (n * 69 + (33 + j)) (.p (.int .u8 (v.toNat : Int))) = o1.flatMap Blk.cs ++ (bcl (Hdr.cs { bn.h with root := bn.h.root.set j v }) (.sl (T.length + 2) 0 ys.length) ++ o2.flatMap Blk.cs) := fun v => by
        rw [e0, List.set_append_right _ _ (by omega), h1l, show n * 69 + (33 + j) - n * 69 = 33 + j by omega, List.set_append_left _ _ (by rw [hwb.1]; omega), bcl, List.set_append_left _ _ (by rw [hhr.1]; omega), hby.2.2.1 v]; rfl
       refine SemA.draw (fun i => true) [(0, true), (1, true), (2, true), (3, true), (4, true), (5, true), (6, true), (7, true), (8, true), (9, true), (10, true), (11, true), (12, true), (13, true), (14, false)] mixed (by kernel_rfl) ?_
       simp -dsimp +decide (disch := omega) only [vsk, vr, ty, ↓reduceIte, Nat.reduceLT, ci, vt, hr, hmj, hcg, hcs]
       refine ⟨⟨by omega, by omega⟩, ⟨by omega, by omega⟩, by rw [hofl]; omega, fin _ { bn.h with root := bn.h.root.set j (c ^^^ UInt8.ofInt 1) } ys t.ins t.outs ys.length _ _ _ _ (by (try (simp -dsimp +decide (disch := omega) only [vq, Nat.reduceAdd])); first | done | (and_intros <;> first | with_reducible rfl | rfl) | rfl) ?_ rfl rfl rfl rfl htf.ok.ii htf.ok.oo (by omega) (by omega) hfys (Nat.le_refl _) (by omega)⟩
       exact ⟨by simp [hbnf.ok.h.p], by simp [hbnf.ok.h.r]⟩
     . have hv : (wv : Int) = 5 := by rw [h]; rfl
       simp -dsimp +decide (disch := omega) only [vp0, ↓reduceIte, hm9, hv]
       obtain ⟨j, hj, hjl⟩ : ∃ j, j = x.at_.toNat % 32 /\ j < 32 := ⟨_, rfl, Nat.mod_lt _ (by decide)⟩
       have hmj : (x.at_.toNat : Int).tmod 32 = (j : Int) := by rw [hj]; rfl
       have hby := Hdr.byte hbnf.ok.h hjl
       obtain ⟨c, hc1, hc2⟩ := hby.2.1
       have hcg : (out.flatMap Blk.cs)[n * 69 + (1 + j)]? = some (by8 c) := by
        rw [e0, List.getElem?_append_right (by omega), h1l, show n * 69 + (1 + j) - n * 69 = 1 + j by omega, List.getElem?_append_left (by rw [hwb.1]; omega), bcl, List.getElem?_append_left (by rw [hhr.1]; omega), hc2]
       have hcs : ∀ v : UInt8, (out.flatMap Blk.cs).set (n * 69 + (1 + j)) (.p (.int .u8 (v.toNat : Int))) = o1.flatMap Blk.cs ++ (bcl (Hdr.cs { bn.h with prev := bn.h.prev.set j v }) (.sl (T.length + 2) 0 ys.length) ++ o2.flatMap Blk.cs) := fun v => by
        rw [e0, List.set_append_right _ _ (by omega), h1l, show n * 69 + (1 + j) - n * 69 = 1 + j by omega, List.set_append_left _ _ (by rw [hwb.1]; omega), bcl, List.set_append_left _ _ (by rw [hhr.1]; omega), hby.2.2.2 v]; rfl
       refine SemA.draw (fun i => true) [(0, true), (1, true), (2, true), (3, true), (4, true), (5, true), (6, true), (7, true), (8, true), (9, true), (10, true), (11, true), (12, true), (13, true), (14, false)] mixed (by kernel_rfl) ?_
       simp -dsimp +decide (disch := omega) only [vsk, vr, ty, ↓reduceIte, Nat.reduceLT, ci, vt, hr, hmj, hcg, hcs]
       refine ⟨⟨by omega, by omega⟩, ⟨by omega, by omega⟩, by rw [hofl]; omega, fin _ { bn.h with prev := bn.h.prev.set j (c ^^^ UInt8.ofInt 1) } ys t.ins t.outs ys.length _ _ _ _ (by (try (simp -dsimp +decide (disch := omega) only [vq, Nat.reduceAdd])); first | done | (and_intros <;> first | with_reducible rfl | rfl) | rfl) ?_ rfl rfl rfl rfl htf.ok.ii htf.ok.oo (by omega) (by omega) hfys (Nat.le_refl _) (by omega)⟩
       exact ⟨by simp [hbnf.ok.h.p], by simp [hbnf.ok.h.r]⟩
     . have hv : (wv : Int) = 6 := by rw [h]; rfl
       simp -dsimp +decide (disch := omega) only [vsk, vq, ty, ↓reduceIte, Nat.reduceAdd, hm9, hv]
       refine ⟨by omega, fin _ bn.h (y1 ++ ⟨t.v, .sl (T.length + 3) 0 t.ins.length, t.ins, .p (.slice none 0 0), [], t.lock⟩ :: y2) t.ins t.outs ys.length _ _ _ _ (by (try (simp -dsimp +decide (disch := omega) only [vq, Nat.reduceAdd])); first | done | (and_intros <;> first | with_reducible rfl | rfl) | rfl) hbnf.ok.h e0 ?_ rfl rfl htf.ok.ii htf.ok.oo (by omega) (by omega) (fun u hu => ?_) (by rw [hys]; simp) (by rw [hys] at hyl; simp at hyl ⊢; omega)⟩
       . rw [<- hset]; exact set_flat hyw hyk (by decide) rfl
       . rcases List.mem_append.1 hu with hu | hu
         . exact hfy _ _ u (.inl hu)
         . rcases List.mem_cons.1 hu with rfl | hu
           . exact .inr ⟨rfl, rfl, .inr ⟨rfl, rfl⟩⟩
           . exact hfy _ _ u (.inr hu)
     . have hv : (wv : Int) = 7 := by rw [h]; rfl
       simp -dsimp +decide (disch := omega) only [vsk, vr, ty, ↓reduceIte, Nat.reduceAdd, Nat.reduceLT, hm9, hv, hac3]
       refine ⟨by omega, fin _ bn.h (y1 ++ ⟨t.v, .sl (T.length + 3) 0 t.ins.length, t.ins, .sl (T.length + 4) 0 t.outs.length, t.outs, t.lock + UInt32.ofInt 1⟩ :: y2) t.ins t.outs ys.length _ _ _ _ (by (try (simp -dsimp +decide (disch := omega) only [vq, Nat.reduceAdd])); first | done | (and_intros <;> first | with_reducible rfl | rfl) | rfl) hbnf.ok.h e0 ?_ rfl rfl htf.ok.ii htf.ok.oo (by omega) (by omega) (fun u hu => ?_) (by rw [hys]; simp) (by rw [hys] at hyl; simp at hyl ⊢; omega)⟩
       . rw [<- hset]; exact set_flat hyw hyk (by decide) rfl
       . rcases List.mem_append.1 hu with hu | hu
         . exact hfy _ _ u (.inl hu)
         . rcases List.mem_cons.1 hu with rfl | hu
           . exact .inr ⟨rfl, rfl, .inl ⟨rfl, rfl⟩⟩
           . exact hfy _ _ u (.inr hu)
     . have hv : (wv : Int) = 8 := by rw [h]; rfl
       simp -dsimp +decide (disch := omega) only [vsk, vq, ↓reduceIte, hm9, hv]
       exact fin _ bn.h ys t.ins t.outs ys.length _ _ _ _ (by (try (simp -dsimp +decide (disch := omega) only [vq, Nat.reduceAdd])); first | done | (and_intros <;> first | with_reducible rfl | rfl) | rfl) hbnf.ok.h e0 rfl rfl rfl htf.ok.ii htf.ok.oo (by omega) (by omega) hfys (Nat.le_refl _) (by omega)
 . rintro bs g tmp ⟨hbl, hbo⟩
   have fin2 : ∀ bs : List Blk, bs.length = l.length -> (∀ b ∈ bs, b.Ok) -> Vw G T (fun v T' es => TurnedV v /\ T' = T /\ es = []) (.sl (T.length + 1) 0 bs.length) (T ++ [.cells 25 x.cs, BK bs]) [] := fun bs hbl hbo => by
    refine Vw.pub (T.length + 1) (gn1 T _ _ _) rfl (fun u hu => ?_) ?_
    . obtain ⟨b, hb, hu⟩ := List.mem_flatMap.1 hu
      exact Blk.clean (hbo b hb) u hu
    simp -dsimp +decide only [va, ↓reduceIte, wp]
    exact Vw.cut ⟨⟨bs, hbo, by omega, rfl⟩, rfl, rfl⟩
   refine SemA.o ?_
   cases hme : x.mend with
   | true =>
     rw [hme] at hr
     simp -dsimp +decide (disch := omega) only [vq, ty, en, ↓reduceIte, Nat.reduceAdd, hr]
     have hTK : ∀ b' : List Blk, TK (T ++ [.cells 25 x.cs, .gone]) (T.length + 1) b' = T ++ [.cells 25 x.cs, BK b'] := fun b' => by
      rw [TK, List.set_append_right _ _ (by omega), show T.length + 1 - T.length = 1 by omega]; rfl
     have hm := mend15_ok (V := T ++ [.cells 25 x.cs, .gone]) (j := T.length + 1) (by simp) hbo (by omega) (n := n) (by omega)
     rw [hTK] at hm
     refine hm.mono ?_
     rintro v T' es ⟨rfl, ⟨bs', hl', hok', rfl⟩, rfl⟩
     rw [hTK, <- hl']
     simp -dsimp +decide (disch := omega) only [va, ↓reduceIte]
     exact fin2 bs' (by omega) hok'
   | false =>
     rw [hme] at hr
     simp -dsimp +decide (disch := omega) only [vq, ty, ↓reduceIte, Nat.reduceAdd, hr]
     exact fin2 bs hbl hbo
theorem same10_ok {T : Tbl} {a b : AV} {l m : List (List UInt8)} (ha : Es T 32 H8 a l) (hb : Es T 32 H8 b m) (h1 : H32 l) (h2 : H32 m) (hl : l.length <= 1000000) (hm : m.length <= 1000000) :
 CallA prog G 10 [a, b] T fun v T' es => v = .p (.bool (decide (l = m))) /\ T' = T /\ es = [] := by
 have hra := Sl.rules ha.sl (by decide)
 have hrb := Sl.rules hb.sl (by decide)
 have hla := ha.ld (P := prog) (t := 33) (by (simp -dsimp +decide only [])) (by (simp -dsimp +decide only [])) (by decide)
 have hlb := hb.ld (P := prog) (t := 33) (by (simp -dsimp +decide only [])) (by (simp -dsimp +decide only [])) (by decide)
 by_cases hlen : l.length = m.length
 rotate_left
 . have i1 : ((l.length : Int) = (m.length : Int)) = False := eq_false (by omega)
   have hd : decide (l = m) = false := decide_eq_false (by rintro rfl; exact hlen rfl)
   rw [hd]
   refine CallA.eV 6 func10 ntmps10 results10 ?_
   simp -dsimp +decide only [vp0, ty, ↓reduceIte, Nat.reduceSub, Nat.reduceAdd]
   simp -dsimp +decide (disch := omega) only [vp0, ty, ↓reduceIte, hra, hrb, i1]
   exact Vw.done ⟨rfl, rfl, rfl⟩
 . have i1 : ((l.length : Int) = (m.length : Int)) = True := eq_true (by omega)
   refine CallA.eV 6 func10 ntmps10 results10 ?_
   simp -dsimp +decide only [vp0, ty, ↓reduceIte, Nat.reduceSub, Nat.reduceAdd]
   simp -dsimp +decide (disch := omega) only [vp0, ty, ↓reduceIte, hra, hrb, i1]
   refine SemA.loopL (fun i : Nat => [(0, a), (1, b), (5, wint (i : Int))]) (fun _ => T) (fun i => i <= l.length /\ l.take i = m.take i) (fun i => l.length - i) 0 [] (by kernel_rfl) ⟨by omega, by simp⟩ (by (simp -dsimp +decide only [vq, Nat.reduceAdd, ci])) rfl (by simp) ?_
   rintro i g ⟨hi, he⟩
   simp -dsimp +decide only [vq, ty, ↓reduceIte, Nat.reduceAdd, hra]
   refine CondP.dec (fun h => ?_) (fun h => ?_)
   . obtain ⟨x, hx⟩ : ∃ x, l[i]? = some x := ⟨l[i]'(by omega), by simp⟩
     obtain ⟨y, hy⟩ : ∃ y, m[i]? = some y := ⟨m[i]'(by omega), by simp⟩
     have hq := fun xo yo K => neH (h1 x (List.mem_of_getElem? hx)) (h2 y (List.mem_of_getElem? hy)) xo yo K
     simp -dsimp +decide only [va]
     refine SemA.drawS (.fl 0 (.fl 1 (.fl 2 (.fl 3 (.fl 4 (.fl 5 (.fl 6 (.fl 7 (.fl 8 .nil))))))))) mixed (by kernel_rfl) ?_
     simp -dsimp +decide (disch := omega) only [vy, vp0, ty, ↓reduceIte, hra, hrb, hla, hlb, hx, hy, hq]
     refine ⟨⟨by omega, by omega⟩, ⟨by omega, by omega⟩, CondP.ndec (fun h => ?_) (fun h => ?_)⟩
     . simp -dsimp +decide (disch := omega) only [va, ↓reduceIte]
       refine Vw.done ⟨?_, rfl, rfl⟩
       rw [decide_eq_false]
       rintro rfl
       rw [hx] at hy; cases hy; exact h rfl
     . simp -dsimp +decide (disch := omega) only [vq, ↓reduceIte, Nat.reduceAdd, vi]
       refine ⟨i + 1, ⟨by omega, ?_⟩, by omega, rfl⟩
       rw [List.take_add_one, List.take_add_one, hx, hy, he, h]
   . simp -dsimp +decide (disch := omega) only [va, ↓reduceIte]
     refine Vw.done ⟨?_, rfl, rfl⟩
     rw [List.take_of_length_le (by omega), List.take_of_length_le (by omega)] at he
     rw [decide_eq_true he]
theorem txH_few (ahead : List TTx) {t : TTx} (h : TSmall t) : (txH ahead t).length <= 16 := by
 have := txH_len ahead t
 have h1 := h.1
 have h2 := h.2
 omega
theorem blkH_few : ∀ (l ahead : List TTx), (∀ t ∈ l, TSmall t) -> (blkH ahead l).length <= l.length * 16
 | [], _, _ => by simp [blkH]
 | t :: r, ahead, h => by
   have h1 := txH_few ahead (h t (by simp))
   have h2 := blkH_few r (ahead ++ [t]) fun u hu => h u (by simp [hu])
   rw [blkH, List.length_append, List.length_cons, Nat.succ_mul]; omega
theorem touchZ_few {l : List Blk} (h : FewP l) (z : Int) : (touchZ l z).length <= 200 := by
 unfold touchZ touchH
 split
 . split
   . rename_i b hb
     have hs := h.2 b (List.mem_of_getElem? hb)
     have := blkH_few b.txs (flatB (l.take z.toNat)) hs.2
     have := hs.1
     omega
   . simp
 . simp
theorem filterItems_ok {T : Tbl} {a pa : AV} {l : List Blk} {pl : List Pln} {x : Trn} {z : Int} (hbL : Lst 69 Blk.cs a l) (hraw : ∀ b ∈ l, BRaw b) (hl : l.length <= 1048576)
 (hpL : Lst 3 Pln.cs pa pl) (hpok : ∀ x ∈ pl, x.Ok) (hz : -9223372036854775808 <= z /\ z <= 9223372036854775807) :
 CallA prog G 3 [a, pa, .ag x.cs, .p (.int .i64 z)] T fun v T' es => v = .p (.bool true) /\ T' = T /\ es = [] := by
 refine CallA.wfs fun wf => ?_
 have hb := hbL.es T
 have hp := hpL.es T
 have hkn : a.known = some [a] := by
  rcases hbL.2 with e | ⟨e, -⟩ <;> rw [e] <;> rfl
 have hrep2 : ∀ x : AV, (List.replicate 2 [x]).flatten = [x, x] := fun _ => rfl
 have wt := wf.t
 have wa := wf.arg a (by simp)
 have hsp := Sl.rules hp.sl (by decide)
 have hxr := x.rules
 have g0 := fun l => gn0 T (.cells 25 x.cs) l
 refine CallA.eV 76 func3 ntmps3 results3 ?_
 simp -dsimp +decide only [vp0, ty, ↓reduceIte, Nat.reduceSub, Nat.reduceAdd]
 by_cases h10 : 10 < pl.length
 . have c1 : ((10 : Int) < (pl.length : Int)) = True := eq_true (by omega)
   simp -dsimp +decide (disch := omega) only [vp0, en, ↓reduceIte, hsp, c1]
   refine works_ok.det' ?_
   simp -dsimp +decide (disch := omega) only [va, ↓reduceIte]
   exact Vw.cut ⟨rfl, rfl, rfl⟩
 . have c1 : ((10 : Int) < (pl.length : Int)) = False := eq_false (by omega)
   simp -dsimp +decide (disch := omega) only [vp0, en, ↓reduceIte, hsp, c1]
   refine (few15_ok (hb.app _) hraw hl).mono ?_
   rintro v T' es ⟨⟨f, rfl, hf⟩, rfl, rfl⟩
   cases f with
   | false =>
     simp -dsimp +decide (disch := omega) only [vp0, en, ↓reduceIte]
     refine works_ok.det' ?_
     simp -dsimp +decide (disch := omega) only [va, ↓reduceIte]
     exact Vw.cut ⟨rfl, rfl, rfl⟩
   | true =>
     have hfew := hf rfl
     have hok : ∀ b ∈ l, b.Ok := fun b hb => (hraw b hb).okb (hfew.2 b hb)
     simp -dsimp +decide (disch := omega) only [vp0, ↓reduceIte]
     refine SemA.draw (fun i => true) [(1, true), (3, true), (0, false), (2, false), (4, false), (5, true)] mixed (by kernel_rfl) ?_
     simp -dsimp +decide (disch := omega) only [vp0, ty, en, ↓reduceIte, vt, hxr, g0]
     refine (easy13_ok (i := 10) (s := 10) (by omega)).det' ?_
     simp -dsimp +decide (disch := omega) only [vp0, en, ↓reduceIte]
     refine (blocks15_ok (easy_ok' (by omega)) (hp.app _) hpok (by omega)).mono ?_
     rintro v T' es ⟨⟨bl, hbl, rfl⟩, rfl, rfl⟩
     simp -dsimp +decide (disch := omega) only [vp0, en, ↓reduceIte]
     refine (turned15_ok (Es.vs fun b hb => Blk.cs_len (hbl.f b hb).ok) hbl.f hbl.n hbl.m (x := x)).mono ?_
     rintro v T' es ⟨⟨m, hmok, hml, rfl⟩, rfl, rfl⟩
     simp -dsimp +decide (disch := omega) only [vp0, en, ↓reduceIte, vt]
     have hbm : ∀ Y : Tbl, Es Y 69 Blk.cs (.vs (m.flatMap Blk.cs) m.length) m := fun Y => Es.vs fun b hb => Blk.cs_len (hmok b hb)
     refine (few15_ok (hbm _) (fun b hb => (hmok b hb).raw) (by omega)).mono ?_
     rintro v T' es ⟨⟨f, rfl, hf2⟩, rfl, rfl⟩
     cases f with
     | false =>
       simp -dsimp +decide (disch := omega) only [vp0, en, ↓reduceIte]
       refine works_ok.det' ?_
       simp -dsimp +decide (disch := omega) only [va, ↓reduceIte]
       exact Vw.cut ⟨rfl, rfl, rfl⟩
     | true =>
       have hfew2 := hf2 rfl
       have hkm : (AV.vs (m.flatMap Blk.cs) m.length).known = some [.vs (m.flatMap Blk.cs) m.length] := rfl
       simp -dsimp +decide (disch := omega) only [vp0, ty, ↓reduceIte, Nat.reduceAdd, hkn, hkm, hrep2]
       obtain ⟨mv, hmv⟩ : ∃ mv, mv = AV.vs (m.flatMap Blk.cs) m.length := ⟨_, rfl⟩
       have hmw : ∀ q, mv.wo q = mv := fun q => by rw [hmv]; exact (Kept1.vs _ _).wo q
       rw [<- hmv]
       refine SemA.loopK (T.length + 2) (fun c : Nat => [(3, .p (.int .i64 z)), (10, .sl (T.length + 1) 0 2), (11, wint (c : Int))]) (fun _ => T ++ [.cells 25 x.cs, .buf 22 1 [a, mv]]) (fun c => c <= 2) (fun c => 2 - c) 0 [] 0 (fun _ : Unit => []) (fun _ => T ++ [.cells 25 x.cs, .buf 22 1 [a, mv]]) (fun _ => True) (by omega) (by omega) (by (try (simp -dsimp +decide (disch := omega) only [vq, Nat.reduceAdd, ci])); first | done | (and_intros <;> first | with_reducible rfl | rfl) | rfl) rfl (by simp) ?_ ?_
       . rintro c g hc
         refine SemA.o ?_
         simp -dsimp +decide (disch := omega) only [vq, ↓reduceIte, Nat.reduceAdd]
         refine CondP.dec (fun hc2 => ?_) (fun hc2 => ?_)
         . obtain ⟨ra, rl, hget, hE, hokr, hfr⟩ : ∃ (ra : AV) (rl : List Blk), [a, mv][c]? = some ra /\ (∀ Y : Tbl, Es (T ++ Y) 69 Blk.cs ra rl) /\ (∀ b ∈ rl, b.Ok) /\ FewP rl := by
            rcases (show c = 0 ∨ c = 1 by omega) with rfl | rfl
            . exact ⟨a, l, rfl, fun Y => hb.app Y, hok, hfew⟩
            . exact ⟨mv, m, rfl, fun Y => hmv ▸ hbm _, hmok, hfew2⟩
           have hrlen := hfr.1
           simp -dsimp +decide (disch := omega) only [va, ↓reduceIte]
           refine SemA.loopK (T.length + 2) (fun j : Nat => [(3, .p (.int .i64 z)), (10, .sl (T.length + 1) 0 2), (11, wint (c : Int)), (12, .p (.int .i64 ((j : Int) - 1)))]) (fun _ => T ++ [.cells 25 x.cs, .buf 22 1 [a, mv]]) (fun j => j <= rl.length + 2) (fun j => rl.length + 2 - j) 0 [] 2 (fun _ : Unit => [(3, .p (.int .i64 z)), (10, .sl (T.length + 1) 0 2), (11, wint (c : Int))]) (fun _ => T ++ [.cells 25 x.cs, .buf 22 1 [a, mv]]) (fun _ => True) (by omega) (by omega) (by (try (simp -dsimp +decide (disch := omega) only [vq, Nat.reduceAdd, Int.reduceSub, ci])); first | done | (and_intros <;> first | with_reducible rfl | rfl) | rfl) rfl (by simp) ?_ ?_
           . rintro j g hj
             have hln := fun (Y : Tbl) s2 K => ((hE Y).sl).ln (K := K) s2
             refine SemA.o ?_
             simp -dsimp +decide (disch := omega) only [vq, ty, ↓reduceIte, Nat.reduceAdd, ci, hget, hln]
             refine ⟨⟨by omega, by omega⟩, CondP.dec (fun hc3 => ?_) (fun hc3 => ?_)⟩
             . simp -dsimp +decide (disch := omega) only [va]
               refine SemA.draw (fun i => true) [(0, true), (1, true), (2, true), (3, true), (4, true), (6, true), (7, true), (8, true), (9, true), (10, true), (5, false), (11, false), (12, false), (13, true)] mixed (by kernel_rfl) ?_
               simp -dsimp +decide (disch := omega) only [vp0, ty, en, ↓reduceIte, ci, vt, hget]
               refine ⟨⟨by omega, by omega⟩, ⟨by omega, by omega⟩, (items_ok (hE _) hokr (by omega) (z := (j : Int) - 1) (by omega)).mono ?_⟩
               rintro v T' es ⟨hvL, rfl, rfl⟩
               have hvw := hvL.k.wo
               simp -dsimp +decide (disch := omega) only [vp0, en, ↓reduceIte]
               refine (ritems_ok (hE _) hokr (by omega) (z := (j : Int) - 1) (by omega)).det' ?_
               simp -dsimp +decide (disch := omega) only [vp0, en, ↓reduceIte]
               have hul : (uniq (touchZ rl ((j : Int) - 1))).length <= 1000000 := by
                have h1 := touchZ_few hfr ((j : Int) - 1)
                have h2 := uniq_len (touchZ rl ((j : Int) - 1))
                omega
               refine (same10_ok (hvL.es _) (Es.vs (h8 (uniq_32 (touchZ_32 rl _)))) (uniq_32 (touchZ_32 rl _)) (uniq_32 (touchZ_32 rl _)) hul hul).det' ?_
               simp -dsimp +decide (disch := omega) only [vt2, vze, vq, ↓reduceIte, Nat.reduceAdd, vi, vt, hvw, wt, wa, hmw, hxr]
               refine ⟨j + 1, ⟨by omega, by omega⟩, ?_⟩
               rw [show ((j + 1 : Nat) : Int) - 1 = (j : Int) - 1 + 1 by omega]
             . have e : j = rl.length + 2 := by omega
               subst e
               simp -dsimp +decide (disch := omega) only [vt2, vze, vq, ↓reduceIte, Nat.reduceAdd, vt, wt, wa, hmw, hxr]
               first | done | exact ⟨(), trivial⟩
           . rintro _ g tmp -
             simp -dsimp +decide (disch := omega) only [vq, ↓reduceIte, Nat.reduceAdd]
             refine SemA.draw (fun i => true) [(0, true), (1, true), (2, true), (3, true), (4, true), (6, true), (7, true), (8, true), (9, true), (10, true), (5, false), (11, false), (12, false), (13, true)] mixed (by kernel_rfl) ?_
             simp -dsimp +decide (disch := omega) only [vp0, ty, en, ↓reduceIte, ci, vt, hget]
             refine ⟨⟨by omega, by omega⟩, ⟨by omega, by omega⟩, (items_ok (hE _) hokr (by omega) (z := z) hz).mono ?_⟩
             rintro v T' es ⟨hvL, rfl, rfl⟩
             have hvw := hvL.k.wo
             simp -dsimp +decide (disch := omega) only [vp0, en, ↓reduceIte]
             refine (ritems_ok (hE _) hokr (by omega) (z := z) hz).det' ?_
             simp -dsimp +decide (disch := omega) only [vp0, en, ↓reduceIte]
             have hul : (uniq (touchZ rl (z))).length <= 1000000 := by
              have h1 := touchZ_few hfr (z)
              have h2 := uniq_len (touchZ rl (z))
              omega
             refine (same10_ok (hvL.es _) (Es.vs (h8 (uniq_32 (touchZ_32 rl _)))) (uniq_32 (touchZ_32 rl _)) (uniq_32 (touchZ_32 rl _)) hul hul).det' ?_
             simp -dsimp +decide (disch := omega) only [vt2, vze, vq, ↓reduceIte, Nat.reduceAdd, vi, vt, hvw, wt, wa, hmw, hxr]
             exact ⟨c + 1, ⟨by omega, by omega⟩, rfl⟩
         . simp -dsimp +decide (disch := omega) only [vt2, vze, vp0, ↓reduceIte, Nat.reduceAdd, vt, wt, wa, hmw, hxr]
           first | done | exact ⟨(), trivial⟩
       . rintro _ g tmp -
         simp -dsimp +decide (disch := omega) only [vp0, en, ↓reduceIte, Nat.reduceAdd]
         refine works_ok.det' ?_
         simp -dsimp +decide (disch := omega) only [va, ↓reduceIte]
         exact Vw.cut ⟨rfl, rfl, rfl⟩
def mB : Nat := 1048576
theorem open_by {d : Dat} (h : HasT prog 53 d) (hb : d.bulk <= mB) : ∃ y : By, d.avs = [y.a] /\ y.Ok /\ y.b.length <= 1048576 := by
 obtain ⟨xs, h1, h2, h3, h4⟩ := open_sl (f := fun a : UInt8 => [by8 a]) (Ok := fun _ => True) h Tryz.underlying53 hb fun d hd _ => by
  obtain ⟨a, rfl⟩ := open_u8 Tryz.underlying5 d hd
  exact ⟨a, by rw [Dat.avs]; rfl, trivial⟩
 rw [flat_single] at h1
 exact ⟨⟨.vs (xs.map by8) xs.length, xs⟩, h1, .inl rfl, h3⟩
theorem open_h {d : Dat} (h : HasT prog 33 d) : ∃ l : List UInt8, d.avs = l.map by8 /\ l.length = 32 := by
 obtain ⟨xs, h1, h2, -⟩ := open_ar (f := fun a : UInt8 => [by8 a]) (Ok := fun _ => True) h Tryz.underlying33 fun d hd => by
  obtain ⟨a, rfl⟩ := open_u8 Tryz.underlying5 d hd
  exact ⟨a, by rw [Dat.avs]; rfl, trivial⟩
 rw [flat_single] at h1
 exact ⟨xs, h1, h2⟩
theorem open_w8 {d : Dat} (h : HasT prog 5 d) : ∃ a : UInt8, d.avs = [by8 a] := by
 obtain ⟨a, rfl⟩ := open_u8 Tryz.underlying5 d h
 exact ⟨a, by rw [Dat.avs]; rfl⟩
theorem open_w32 {d : Dat} (h : HasT prog 30 d) : ∃ a : UInt32, d.avs = [w32 a] := by
 obtain ⟨a, rfl⟩ := open_u32 Tryz.underlying30 d h
 exact ⟨a, by rw [Dat.avs]; rfl⟩
theorem open_w64 {d : Dat} (h : HasT prog 69 d) : ∃ a : UInt64, d.avs = [w64 a] := by
 obtain ⟨a, rfl⟩ := open_u64 Tryz.underlying69 d h
 exact ⟨a, by rw [Dat.avs]; rfl⟩
theorem open_bo {d : Dat} (h : HasT prog 4 d) : ∃ a : Bool, d.avs = [.p (.bool a)] := by
 obtain ⟨a, rfl⟩ := h.bool Tryz.underlying4
 exact ⟨a, by rw [Dat.avs]⟩
theorem open_place {d : Dat} (h : HasT prog 65 d) : ∃ (l : List UInt8) (n : UInt32), d.avs = l.map by8 ++ [w32 n] /\ l.length = 32 := by
 obtain ⟨l, rfl, hl, hf⟩ := h.struct Tryz.underlying65
 match l, hl with
 | [d0, d1], _ =>
   obtain ⟨a, e0, h0⟩ := open_h (hf 0 _ d0 rfl rfl)
   obtain ⟨b, e1⟩ := open_w32 (hf 1 _ d1 rfl rfl)
   exact ⟨a, b, by simp only [Dat.avs_ag, List.flatMap_cons, List.flatMap_nil, e0, e1, List.append_nil], h0⟩
theorem open_out {d : Dat} (h : HasT prog 71 d) (hb : d.bulk <= mB) : ∃ x : TOut, d.avs = x.cs /\ x.Ok := by
 obtain ⟨l, rfl, hl, hf⟩ := h.struct Tryz.underlying71
 match l, hl with
 | [d0, d1], _ =>
   simp only [Dat.bulk, Dat.bulkL] at hb
   obtain ⟨a, e0⟩ := open_w64 (hf 0 _ d0 rfl rfl)
   obtain ⟨y, e1, h1, h2⟩ := open_by (hf 1 _ d1 rfl rfl) (by omega)
   exact ⟨⟨a, y⟩, by simp only [Dat.avs_ag, List.flatMap_cons, List.flatMap_nil, e0, e1]; rfl, h1, h2⟩
theorem open_in {d : Dat} (h : HasT prog 68 d) (hb : d.bulk <= mB) : ∃ x : TIn, d.avs = x.cs /\ x.Ok := by
 obtain ⟨l, rfl, hl, hf⟩ := h.struct Tryz.underlying68
 match l, hl with
 | [d0, d1, d2, d3], _ =>
   simp only [Dat.bulk, Dat.bulkL] at hb
   obtain ⟨t, n, e0, h0⟩ := open_place (hf 0 _ d0 rfl rfl)
   obtain ⟨y, e1, h1, h1l⟩ := open_by (hf 1 _ d1 rfl rfl) (by omega)
   obtain ⟨s, e2⟩ := open_w32 (hf 2 _ d2 rfl rfl)
   obtain ⟨ws, e3, -, h3, h3o⟩ := open_sl (f := fun y : By => [y.a]) (Ok := By.Ok) (N := mB) (hf 3 _ d3 rfl rfl) Tryz.underlying66 (by omega) fun d hd hb => by
    obtain ⟨y, e, h, _⟩ := open_by hd hb
    exact ⟨y, e, h⟩
   exact ⟨⟨t, n, y, s, .vs (ws.flatMap fun y => [y.a]) ws.length, ws⟩, by simp only [Dat.avs_ag, List.flatMap_cons, List.flatMap_nil, e0, e1, e2, e3]; simp [TIn.cs], h0, h1, h1l, ⟨fun _ _ => rfl, .inl rfl⟩, h3o, h3⟩
theorem open_tx {d : Dat} (h : HasT prog 63 d) (hb : d.bulk <= mB) : ∃ x : TTx, d.avs = x.cs /\ TRaw x := by
 obtain ⟨l, rfl, hl, hf⟩ := h.struct Tryz.underlying63
 match l, hl with
 | [d0, d1, d2, d3], _ =>
   simp only [Dat.bulk, Dat.bulkL] at hb
   obtain ⟨v, e0⟩ := open_w32 (hf 0 _ d0 rfl rfl)
   obtain ⟨is, e1, -, h1, h1o⟩ := open_sl (f := TIn.cs) (Ok := TIn.Ok) (N := mB) (hf 1 _ d1 rfl rfl) Tryz.underlying60 (by omega) fun d hd hb => open_in hd hb
   obtain ⟨os, e2, -, h2, h2o⟩ := open_sl (f := TOut.cs) (Ok := TOut.Ok) (N := mB) (hf 2 _ d2 rfl rfl) Tryz.underlying61 (by omega) fun d hd hb => open_out hd hb
   obtain ⟨k, e3⟩ := open_w32 (hf 3 _ d3 rfl rfl)
   exact ⟨⟨v, .vs (is.flatMap TIn.cs) is.length, is, .vs (os.flatMap TOut.cs) os.length, os, k⟩, by simp only [Dat.avs_ag, List.flatMap_cons, List.flatMap_nil, e0, e1, e2, e3]; rfl,
    ⟨fun x hx => (TIn.rules (h1o x hx)).1, .inl rfl⟩, ⟨fun x hx => rfl, .inl rfl⟩, h1, h2, h1o, h2o⟩
theorem open_hdr {d : Dat} (h : HasT prog 35 d) : ∃ x : Hdr, d.avs = x.cs /\ x.Ok := by
 obtain ⟨l, rfl, hl, hf⟩ := h.struct Tryz.underlying35
 match l, hl with
 | [d0, d1, d2, d3, d4, d5], _ =>
   obtain ⟨v, e0⟩ := open_w32 (hf 0 _ d0 rfl rfl)
   obtain ⟨p, e1, h1⟩ := open_h (hf 1 _ d1 rfl rfl)
   obtain ⟨r, e2, h2⟩ := open_h (hf 2 _ d2 rfl rfl)
   obtain ⟨t, e3⟩ := open_w32 (hf 3 _ d3 rfl rfl)
   obtain ⟨b, e4⟩ := open_w32 (hf 4 _ d4 rfl rfl)
   obtain ⟨n, e5⟩ := open_w32 (hf 5 _ d5 rfl rfl)
   exact ⟨⟨v, p, r, t, b, n⟩, by simp only [Dat.avs_ag, List.flatMap_cons, List.flatMap_nil, e0, e1, e2, e3, e4, e5]; rfl, h1, h2⟩
theorem open_blk {d : Dat} (h : HasT prog 52 d) (hb : d.bulk <= mB) : ∃ x : Blk, d.avs = x.cs /\ BRaw x := by
 obtain ⟨l, rfl, hl, hf⟩ := h.struct Tryz.underlying52
 match l, hl with
 | [d0, d1], _ =>
   simp only [Dat.bulk, Dat.bulkL] at hb
   obtain ⟨x, e0, h0⟩ := open_hdr (hf 0 _ d0 rfl rfl)
   obtain ⟨ts, e1, -, h1, h1o⟩ := open_sl (f := TTx.cs) (Ok := TRaw) (N := mB) (hf 1 _ d1 rfl rfl) Tryz.underlying50 (by omega) fun d hd hb => open_tx hd hb
   exact ⟨⟨x, .vs (ts.flatMap TTx.cs) ts.length, ts⟩, by simp only [Dat.avs_ag, List.flatMap_cons, List.flatMap_nil, e0, e1, List.append_nil]; rfl, h0, ⟨fun _ _ => rfl, .inl rfl⟩, h1, h1o⟩
theorem open_blks {d : Dat} (h : HasT prog 22 d) (hb : d.bulk <= mB) : ∃ l : List Blk, Lst 69 Blk.cs d.arg l /\ (∀ b ∈ l, BRaw b) /\ l.length <= 1048576 := by
 obtain ⟨xs, -, e, h3, h4⟩ := open_sl (f := Blk.cs) (Ok := BRaw) h Tryz.underlying22 hb fun d hd hb => open_blk hd hb
 exact ⟨xs, ⟨fun b hb => by rw [Blk.cs, List.length_append, Hdr.cs_len (h4 b hb).h]; rfl, .inl e⟩, h4, h3⟩
theorem open_spend {d : Dat} (h : HasT prog 118 d) (hb : d.bulk <= mB) : ∃ x : Spd, d.avs = x.cs /\ x.Ok := by
 obtain ⟨l, rfl, hl, hf⟩ := h.struct Tryz.underlying118
 match l, hl with
 | [d0, d1, d2, d3, d4], _ =>
   simp only [Dat.bulk, Dat.bulkL] at hb
   obtain ⟨a, e0⟩ := open_w8 (hf 0 _ d0 rfl rfl)
   obtain ⟨b, e1⟩ := open_bo (hf 1 _ d1 rfl rfl)
   obtain ⟨y, e2, h2, h2l⟩ := open_by (hf 2 _ d2 rfl rfl) (by omega)
   obtain ⟨p, e3⟩ := open_w8 (hf 3 _ d3 rfl rfl)
   obtain ⟨q, e4⟩ := open_w8 (hf 4 _ d4 rfl rfl)
   exact ⟨⟨a, b, y, p, q⟩, by simp only [Dat.avs_ag, List.flatMap_cons, List.flatMap_nil, e0, e1, e2, e3, e4]; rfl, h2, Nat.le_trans h2l (by decide)⟩
theorem open_plan {d : Dat} (h : HasT prog 79 d) (hb : d.bulk <= mB) : ∃ x : Pln, d.avs = x.cs /\ x.Ok := by
 obtain ⟨l, rfl, hl, hf⟩ := h.struct Tryz.underlying79
 match l, hl with
 | [d0, d1, d2], _ =>
   simp only [Dat.bulk, Dat.bulkL] at hb
   obtain ⟨a, e0⟩ := open_w8 (hf 0 _ d0 rfl rfl)
   obtain ⟨ss, e1, -, h1, h1o⟩ := open_sl (f := Spd.cs) (Ok := Spd.Ok) (N := mB) (hf 1 _ d1 rfl rfl) Tryz.underlying77 (by omega) fun d hd hb => open_spend hd hb
   obtain ⟨p, e2⟩ := open_w8 (hf 2 _ d2 rfl rfl)
   exact ⟨⟨a, .vs (ss.flatMap Spd.cs) ss.length, ss, p⟩, by simp only [Dat.avs_ag, List.flatMap_cons, List.flatMap_nil, e0, e1, e2]; rfl, ⟨fun _ _ => rfl, .inl rfl⟩, Nat.le_trans h1 (by decide), h1o⟩
theorem open_plans {d : Dat} (h : HasT prog 23 d) (hb : d.bulk <= mB) : ∃ l : List Pln, Lst 3 Pln.cs d.arg l /\ (∀ x ∈ l, x.Ok) := by
 obtain ⟨xs, -, e, h3, h4⟩ := open_sl (f := Pln.cs) (Ok := Pln.Ok) h Tryz.underlying23 hb fun d hd hb => open_plan hd hb
 exact ⟨xs, ⟨fun _ _ => rfl, .inl e⟩, h4⟩
theorem open_turn {d : Dat} (h : HasT prog 25 d) : ∃ x : Trn, d.arg = .ag x.cs := by
 obtain ⟨l, rfl, hl, hf⟩ := h.struct Tryz.underlying25
 match l, hl with
 | [d0, d1, d2, d3, d4], _ =>
   obtain ⟨a, e0⟩ := open_w8 (hf 0 _ d0 rfl rfl)
   obtain ⟨b, e1⟩ := open_w8 (hf 1 _ d1 rfl rfl)
   obtain ⟨c, e2⟩ := open_w8 (hf 2 _ d2 rfl rfl)
   obtain ⟨p, e3⟩ := open_w8 (hf 3 _ d3 rfl rfl)
   obtain ⟨q, e4⟩ := open_bo (hf 4 _ d4 rfl rfl)
   exact ⟨⟨a, b, c, p, q⟩, by simp only [Dat.arg, List.flatMap_cons, List.flatMap_nil, e0, e1, e2, e3, e4]; rfl⟩
mutual
theorem bulk_toD {H : Type} : ∀ d : DataW H, (toD d).bulk <= Rows.uptoBulk d
 | .lit l => by cases l <;> simp [toD, Dat.bulk, Dat.bulkL, Rows.uptoBulk]
 | .nil => by simp [toD, Dat.bulk, Dat.bulkL, Rows.uptoBulk]
 | .ptr d => by simp [toD, Dat.bulk, Dat.bulkL, Rows.uptoBulk]
 | .slice elems spare => by have := bulk_toDs elems; simp only [toD, Dat.bulk, Rows.uptoBulk]; omega
 | .agg parts => by have := bulk_toDs parts; simp only [toD, Dat.bulk, Rows.uptoBulk]; omega
 | .iface t d => by simp [toD, Dat.bulk, Dat.bulkL, Rows.uptoBulk]
 | .map e => by simp [toD, Dat.bulk, Dat.bulkL, Rows.uptoBulk]
 | .held h => by simp [toD, Dat.bulk, Dat.bulkL, Rows.uptoBulk]
theorem bulk_toDs {H : Type} : ∀ l : List (DataW H), Dat.bulkL (toDs l) <= Rows.uptoBulkAll l
 | [] => by simp [toDs, Dat.bulkL]
 | d :: r => by have := bulk_toD d; have := bulk_toDs r; simp only [toDs, Dat.bulkL, Rows.uptoBulkAll]; omega
end
theorem small_all {H : Type} {l : List (DataW H)} (h : Rows.uptoSmall H l = true) : ∀ d ∈ l, (toD d).bulk <= mB := fun d hd => by
 have h1 := of_decide_eq_true h
 have h2 := bulk_toDs l
 rw [toDs_eq] at h2
 have h3 := Dat.mem_le (List.mem_map_of_mem (f := toD) hd)
 exact Nat.le_trans h3 (Nat.le_trans h2 h1)
end Go.Proofs.YtmcbdlefakjpoaaGreatDoor
namespace Go.Proofs.YtmcbdlefakjpoaaGreatDoor
open Go.ChangeShapes Go.WideShapes Go.ChangeAt Go.RowKit Go.E Go.Proofs.YtmcbdlefakjpoaaGreatDoor.Tryz Go.Proofs.Tryz
theorem own : ownKnob prog.godebug = none := by kernel_rfl
theorem laidOut : laidOutB prog = true := by kernel_rfl
theorem gTable : prog.globalNamed "scantling/sha.table" = some 0 := by kernel_rfl
def tblT : TypeId := 196
theorem tTable : (prog.globals[0]?).map (·.type) = some tblT := by kernel_rfl
def tblZ : List Int := tbl.map fun x => (x.toNat : Int)
theorem tblD : (Rows.laid_scantling_sha_table : DataW Unit) = .agg (tblZ.map fun z => .lit (.int .u32 z)) := rfl
theorem gok {W : World} (h : laidMetH prog [("scantling/sha.table", Rows.laid_scantling_sha_table)] W) : GOK G (wholeH W) := by
 rw [MakeChecks.laidMetH_plain _ _ _ (by kernel_rfl)] at h
 obtain ⟨ps, ⟨g0, t0, cs0, f0, p0, q0, hg0, ht0, hv0, hd0, _, _⟩, _, _⟩ := h
 obtain rfl := Option.some.inj (gTable.symm.trans hg0)
 obtain rfl := Option.some.inj (tTable.symm.trans ht0)
 rw [tblD] at hd0
 have hcs := trod_lits (n := 64) Tryz.underlying196 Tryz.underlying30 (by kernel_rfl) (by kernel_rfl) hd0
 have hrd : Rd W (some ⟨0, 0, none⟩) (tblZ.map (Value.int .u32)) := by
  refine .inr ⟨_, rfl, rfl, fun k v hk => ?_⟩
  have := World.var?_cell hg0 hv0 k
  rw [<- hcs] at hk
  rw [add_plain rfl]
  simp only [Nat.zero_add]
  rw [this]
  simpa using hk
 intro g
 unfold G
 split
 . rename_i h0
   subst h0
   refine rel_vp0 (vs := tblZ.map (Value.int .u32)) ?_ (by decide) (arr_holds (wholeH_whole W) hrd)
   have := RelL.ps (Z := wholeH W) (ρ := []) (tblZ.map (Value.int .u32))
   rw [List.map_map] at this
   rw [show tbl.map w32 = tblZ.map (AV.p ∘ Value.int .u32) by rw [tblZ, List.map_map]; rfl]
   exact this
 . exact .p _
theorem door_met (os : Os) (args : Array Value) : laidMetH prog [("scantling/sha.table", Rows.laid_scantling_sha_table)] ((World.doorLaid prog 14 os).forCall (fun _ _ => 0) ⟨#[], args, []⟩).memory :=
 laidMetH_of_parts3 (fuel := 8) (laidMet_of_run' 8 (by kernel_rfl) (by kernel_rfl)) (by kernel_rfl) (by kernel_rfl)
end Go.Proofs.YtmcbdlefakjpoaaGreatDoor
namespace Go.Proofs.YtmcbdlefakjpoaaGreatDoor.filterItemsL
open Go.ChangeShapes Go.WideShapes Go.ChangeAt Go.RowKit Go.E Go.Proofs.YtmcbdlefakjpoaaGreatDoor.Tryz Go.Proofs.Tryz
set_option maxRecDepth 100000 in
theorem contract (H : Type) (enc : TypeId × Value -> H) (W : World) (base : Nat) (args : Array Value) (ds gs : List (DataW H)) (before : List MemPlace)
 (hval : ∀ (j : Nat) t v, Tryz.f3.params[j]? = some t -> args[j]? = some v -> Value.okWide prog W .any base t v)
 (hW : DataW.Whole enc prog Tryz.f3.params.toList Rows.filterItemsSpec.vars false W args.toList ds gs before)
 (hz : (DataW.weightsEach prog (Tryz.f3.params.toList ++ Rows.filterItemsSpec.plain.varTypes prog) (ds ++ gs)).all (· <= reachBytes) = true)
 (hs : Rows.uptoSmall H (ds ++ gs) = true)
 (hL : laidMetH prog [("scantling/sha.table", Rows.laid_scantling_sha_table)] W) :
 Calls prog 3 args W fun e W' => ∃ v, e = .returned v /\ Rows.filterItemsSpec.post enc prog Tryz.f3 false true false false W args v W' := by
 have hn : ds.length = 4 := by
  obtain ⟨p, q, hA, _⟩ := hW
  rw [Tryz.params3] at hA
  exact (trodAll_length hA).2
 have hg : gs = [] := by
  obtain ⟨p, q, hA, hV, _⟩ := hW
  exact (trodVars_none hV).1
 subst hg
 have hsm := small_all hs
 rw [List.append_nil] at hsm
 refine law_callsU (tys := [22, 52, 35, 30, 33, 5, 50, 63, 60, 68, 65, 53, 66, 61, 71, 69, 23, 79, 77, 118, 4, 25, 3]) 4 laidOut (by kernel_rfl) (by kernel_rfl) Tryz.underlying4 rfl ?_ hW (by kernel_rfl) (by kernel_rfl) hval hz (gok hL) ?_
 . match ds, hn with
   | [_, _, _, _], _ => rfl
 intro xs hx hxd
 have hxs : ∀ x ∈ xs, x.bulk <= mB := fun x hx => by
  rw [hxd] at hx
  obtain ⟨d, hd, rfl⟩ := List.mem_map.1 hx
  exact hsm d hd
 clear hxd
 rw [Tryz.params3] at hx
 cases hx with | cons h0 hx =>
 cases hx with | cons h1 hx =>
 cases hx with | cons h2 hx =>
 cases hx with | cons h3 hx =>
 cases hx
 obtain ⟨l, g0, g1, g2⟩ := open_blks h0 (hxs _ (by simp))
 obtain ⟨pl, g3, g4⟩ := open_plans h1 (hxs _ (by simp))
 obtain ⟨x, g5⟩ := open_turn h2
 obtain ⟨z, rfl, hw⟩ := h3.int Tryz.underlying3
 have hz2 : -9223372036854775808 <= z /\ z <= 9223372036854775807 := by simpa [Lit.wf, IntKind.min, IntKind.max, IntKind.signed, IntKind.bits] using hw
 have e3 : (Dat.i .i64 z).arg = .p (.int .i64 z) := by
  rw [Dat.arg, Dat.avs]
  . rfl
  . intro l h; cases h
 simp only [List.map_cons, List.map_nil, g5, e3]
 exact (filterItems_ok g0 g1 g2 g3 g4 hz2).mono fun v T' es h => h.1
theorem reads (os : Os) {H : Type} (enc : TypeId × Value -> H) : ∃ places, DataW.whole enc prog ((World.doorLaid prog 14 os).forCall (fun _ _ => 0) ⟨#[], #[.slice none 0 0, .slice none 0 0, .agg #[.int .u8 0, .int .u8 0, .int .u8 0, .int .u8 0, .bool false], .int .i64 0], []⟩).memory Tryz.f3.params.toList Rows.filterItemsSpec.vars false [Value.slice none 0 0, .slice none 0 0, .agg #[.int .u8 0, .int .u8 0, .int .u8 0, .int .u8 0, .bool false], .int .i64 0] 8 = some ([.nil, .nil, .agg [.lit (.int .u8 0), .lit (.int .u8 0), .lit (.int .u8 0), .lit (.int .u8 0), .lit (.bool false)], .lit (.int .i64 0)], [], places) :=
 ⟨[], by kernel_rfl⟩
set_option maxRecDepth 100000 in
theorem lifted (os : Os) (started : os.Started) (H : Type) (enc : TypeId × Value -> H) (F : Stop.Interp) :
 ReturnsInHanded {} Tryz.checked os 3 .any ((Rows.OpenSpec.upto Rows.filterItemsSpec).preRow enc prog Tryz.f3 Rows.filterItemsUptoRow.domain false Rows.filterItemsUptoRow.laid) (((Rows.OpenSpec.upto Rows.filterItemsSpec).at F).post enc prog Tryz.f3 false true false false) := by
 obtain ⟨places, hx⟩ := reads os enc
 have hok : Input.okWideB prog ((World.doorLaid prog 14 os).forCall (fun _ _ => 0) ⟨#[], #[.slice none 0 0, .slice none 0 0, .agg #[.int .u8 0, .int .u8 0, .int .u8 0, .int .u8 0, .bool false], .int .i64 0], []⟩) 3 ⟨#[], #[.slice none 0 0, .slice none 0 0, .agg #[.int .u8 0, .int .u8 0, .int .u8 0, .int .u8 0, .bool false], .int .i64 0], []⟩ = true := by kernel_rfl
 refine returnsInHanded_of_row (C := Tryz.checked) (s := Rows.OpenSpec.upto Rows.filterItemsSpec) own started (by kernel_rfl) func3
  ⟨World.doorLaid prog 14 os, fun _ _ => 0, ⟨#[], #[.slice none 0 0, .slice none 0 0, .agg #[.int .u8 0, .int .u8 0, .int .u8 0, .int .u8 0, .bool false], .int .i64 0], []⟩, rfl, World.shaped_of_RefB (by kernel_rfl) (by kernel_rfl), (Input.okWide_of_okWideB (base := 0) hok).1, (Input.okWide_of_okWideB hok).2,
   OpenSpec.preRow_of_cond 8 hx (by kernel_rfl) (fun k hk => by cases hk; kernel_rfl) (by kernel_rfl) (door_met os _), by
   simp only [Assume.holds]
   exact ⟨by simp, by simp, fun _ => Modest.zero, by simp, by simp⟩⟩ ?_
 intro W base args ds gs before hval hW _ hcond hz hL _ _
 exact contract H enc W base args ds gs before hval hW hz (hcond _ rfl) hL
theorem said : Rows.FilterItemsUptoSaid :=
 OpenClaim.holds_of_cond 3 Tryz.f3 rfl rfl rfl rfl rfl rfl rfl ⟨rfl, rfl, rfl, rfl, rfl⟩ rfl rfl rfl rfl rfl (by kernel_rfl) func3 (by kernel_rfl)
  (of_decide_eq_true (by kernel_rfl)) (by unfold Func.isWrapper; first | (rw [if_pos (by decide +kernel)]; kernel_rfl) | (rw [if_neg (by decide +kernel)]; exact ⟨rfl, rfl⟩))
  (fun os started H enc _ F => by rw [OpenClaim.pre_eq_preRow]; exact lifted os started H enc F)
theorem plain (f : FuncId) (fn : Func) (hf : Tryz.pinned.checked.prog.funcNamed "scantling/scantlinglaw29.FilterItems" = some f) (hfn : Tryz.pinned.checked.prog.funcs[f]? = some fn) :
 false = Tryz.pinned.checked.prog.looks [] /\ ∀ (j : Nat) t, fn.params[j]? = some t -> Tryz.pinned.checked.prog.wantsStandIn t = false := by
 obtain rfl : f = 3 := Option.some.inj ((show prog.funcNamed "scantling/scantlinglaw29.FilterItems" = some 3 by kernel_rfl).symm.trans hf) |>.symm
 obtain rfl : fn = Tryz.f3 := (Option.some.inj (func3.symm.trans hfn)).symm
 exact ⟨by kernel_rfl, fun j t ht => by
  have hm : t ∈ Tryz.f3.params.toList := by simpa using Array.mem_of_getElem? ht
  have hall : (Tryz.f3.params.toList.all fun u => !prog.wantsStandIn u) = true := by kernel_rfl
  exact (show prog.wantsStandIn t = false by simpa using List.all_eq_true.1 hall t hm)⟩
theorem proved : Rows.FilterItemsUptoCardSaid :=
 Claim7.holds_tied_plain_at .later [] _ _ _ _ said (fun _ h => by cases h) (by kernel_rfl) (fun _ h => by cases h) filterItemsUpto_row_tie rfl ⟨rfl, rfl⟩ (by kernel_rfl) rfl plain (by kernel_rfl)
end Go.Proofs.YtmcbdlefakjpoaaGreatDoor.filterItemsL
