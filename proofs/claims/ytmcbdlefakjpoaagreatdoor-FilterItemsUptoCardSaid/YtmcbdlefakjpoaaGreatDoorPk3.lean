/-
  Part 3 of the proof: no statement of its own. No condition but those in each theorem.
-/
import Derived.Test.YtmcbdlefakjpoaaGreatDoorPk2
import Derived.Test.YtmcbdlefakjpoaaGreatDoorProg
import Derived.KernelRfl
set_option linter.unusedSimpArgs false
set_option linter.unusedVariables false
set_option linter.unusedSectionVars false
set_option maxRecDepth 8000
set_option maxHeartbeats 4000000
namespace Go.E
open Go.ChangeShapes Go.WideShapes Go.ChangeAt Go.RowKit
inductive Dat where
 | b (x : Bool)
 | i (k : IntKind) (n : Int)
 | s (x : ByteArray)
 | sl (l : List Dat)
 | ag (l : List Dat)
instance : Inhabited Dat := ⟨.ag []⟩
mutual
def Dat.avs : Dat -> List AV
 | .b x => [.p (.bool x)]
 | .i k n => [.p (.int k n)]
 | .s x => [.p (.string x)]
 | .sl l => [.vs (Dat.avsL l) l.length]
 | .ag l => Dat.avsL l
def Dat.avsL : List Dat -> List AV
 | [] => []
 | d :: r => Dat.avs d ++ Dat.avsL r
end
theorem Dat.avsL_eq : ∀ l : List Dat, Dat.avsL l = l.flatMap Dat.avs
 | [] => by rw [Dat.avsL]; rfl
 | d :: r => by rw [Dat.avsL, Dat.avsL_eq r]; rfl
mutual
def toD {H : Type} : DataW H -> Dat
 | .lit (.bool b) => .b b
 | .lit (.int k n) => .i k n
 | .lit (.string l) => .s ⟨l.toArray⟩
 | .nil => .sl []
 | .slice elems _ => .sl (toDs elems)
 | .agg parts => .ag (toDs parts)
 | _ => .ag []
def toDs {H : Type} : List (DataW H) -> List Dat
 | [] => []
 | d :: r => toD d :: toDs r
end
theorem toDs_eq {H : Type} : ∀ l : List (DataW H), toDs l = l.map toD
 | [] => by rw [toDs]; rfl
 | d :: r => by rw [toDs, toDs_eq r]; rfl
def Dat.arg : Dat -> AV
 | .ag l => .ag (l.flatMap Dat.avs)
 | d => d.avs.headD .any
inductive HasT (P : Program) : TypeId -> Dat -> Prop
 | b {t : TypeId} (h : P.underlying t = some .bool) (x : Bool) : HasT P t (.b x)
 | i {t : TypeId} {k : IntKind} (h : P.underlying t = some (.int k)) (n : Int) (hw : (Lit.int k n).wf = true) : HasT P t (.i k n)
 | s {t : TypeId} (h : P.underlying t = some .string) (x : ByteArray) (hs : x.size <= reachBytes) : HasT P t (.s x)
 | sl {t e : TypeId} (h : P.underlying t = some (.slice e)) (l : List Dat) (hl : l.length * P.bytesOf e <= reachBytes) (ha : ∀ d ∈ l, HasT P e d) : HasT P t (.sl l)
 | ar {t e : TypeId} {n : Nat} (h : P.underlying t = some (.array n e)) (l : List Dat) (hl : l.length = n) (ha : ∀ d ∈ l, HasT P e d) : HasT P t (.ag l)
 | st {t : TypeId} {fs : Array Field} (h : P.underlying t = some (.struct fs)) (l : List Dat) (hl : l.length = fs.size) (ha : ∀ (k : Nat) (f : Field) (d : Dat), fs[k]? = some f -> l[k]? = some d -> HasT P f.type d) : HasT P t (.ag l)
inductive HasTs (P : Program) : List TypeId -> List Dat -> Prop
 | nil : HasTs P [] []
 | cons {t : TypeId} {ts : List TypeId} {d : Dat} {ds : List Dat} (h : HasT P t d) (hs : HasTs P ts ds) : HasTs P (t :: ts) (d :: ds)
def tilesF (P : Program) : Nat -> List Field -> Option Nat
 | off, [] => some off
 | off, f :: r => if f.offset = off then tilesF P (off + P.cellsOf f.type) r else none
def argT (P : Program) (t : TypeId) : Bool := match P.underlying t with
 | some .bool => P.cellsOf t == 1
 | some (.int _) => P.cellsOf t == 1
 | some .string => P.cellsOf t == 1
 | some (.slice e) => P.cellsOf t == 1 && decide (0 < P.cellsOf e)
 | some (.array n e) => P.cellsOf t == n * P.cellsOf e
 | some (.struct fs) => tilesF P 0 fs.toList == some (P.cellsOf t)
 | _ => false
def kidsT (P : Program) (t : TypeId) : List TypeId := match P.underlying t with
 | some (.slice e) => [e]
 | some (.array _ e) => [e]
 | some (.struct fs) => fs.toList.map (·.type)
 | _ => []
def closedT (P : Program) (ts : List TypeId) : Bool := ts.all fun t => argT P t && (kidsT P t).all fun k => ts.contains k
def wholeH (W : World) : Heap := ⟨fun b => W.heap[b]?, W.os, W.output⟩
theorem wholeH_of (W : World) : (wholeH W).of W := ⟨fun _ _ h => h, rfl, rfl⟩
theorem wholeH_whole (W : World) : (whole W).holds (wholeH W) := ⟨fun _ _ h => h, rfl, rfl⟩
theorem rel_row {Z : Heap} {ρ : List BI} {cs : List AV} {vs : List Value} {a : Option Addr} {n m : Nat} (h : RelL Z [] cs vs) (hn : n <= m) (ha : (arr a vs).holds Z) : Rel Z ρ (.vs cs n) (.slice a n m) := by
 rcases ha with rfl | ⟨p, c, T, fr, rfl, h1, h2, h3⟩
 . exact .vs0 (.inl (List.eq_nil_of_length_eq_zero h.1)) hn
 . obtain ⟨b, o, s⟩ := p
   simp only at h1 h2 h3
   subst h1
   refine .vs (f := fun k => vs.getD k undef) hn h2 (fun k hk => ?_) fun k hk => ?_
   . have hk' : k < vs.length := by rw [<- h.1]; exact hk
     exact h3 k _ (by simp [List.getD, hk'])
   . have hk' : k < vs.length := by rw [<- h.1]; exact hk
     exact h.2 k _ _ (by simp [hk]) (by simp [List.getD, hk'])
theorem rel_vp0 {Z : Heap} {ρ : List BI} {cs : List AV} {vs : List Value} {b : Nat} (h : RelL Z [] cs vs) (hne : vs ≠ []) (ha : (arr (some ⟨b, 0, none⟩) vs).holds Z) : Rel Z ρ (.vp cs 0) (.pointer (some ⟨b, 0, none⟩)) := by
 rcases ha with rfl | ⟨p, c, T, fr, hp, h1, h2, h3⟩
 . exact absurd rfl hne
 . cases hp
   refine .vp (o := 0) (off := 0) (f := fun k => vs.getD k undef) h2 (fun k hk => ?_) fun k hk => ?_
   . have hk' : k < vs.length := by rw [<- h.1]; exact hk
     exact h3 k _ (by simp [List.getD, hk'])
   . have hk' : k < vs.length := by rw [<- h.1]; exact hk
     exact h.2 k _ _ (by simp [hk]) (by simp [List.getD, hk'])
section
variable {H : Type} {enc : TypeId × Value -> H} {P : Program} {W : World} {base : Nat} {sp : Nat -> Bool} {held : Bool}
theorem weightsAll_each {e : TypeId} {l : List (DataW H)} {B : Nat} (h : ∀ n ∈ DataW.weightsAll P e l, n <= B) {d : DataW H} (hd : d ∈ l) : ∀ n ∈ d.weights P e, n <= B := fun n hn => h n (weightsAll_mem hd n hn)
theorem weightsEach_at : ∀ {ts : List TypeId} {l : List (DataW H)} {k : Nat} {t : TypeId} {d : DataW H}, ts[k]? = some t -> l[k]? = some d -> ∀ n ∈ d.weights P t, n ∈ DataW.weightsEach P ts l
 | [], _, _, _, _, h, _ => by simp at h
 | _ :: _, [], _, _, _, _, h => by simp at h
 | t :: ts, d :: l, 0, _, _, h, h' => by
   simp at h h'; subst h; subst h'
   intro n hn; simp [DataW.weightsEach, hn]
 | t :: ts, d :: l, k + 1, _, _, h, h' => by
   intro n hn
   simp only [DataW.weightsEach, List.mem_append]
   exact .inr (weightsEach_at (by simpa using h) (by simpa using h') n hn)
theorem RelL.flat {Z : Heap} {ρ : List BI} : ∀ {l : List Dat} {vss : List (List Value)}, l.length = vss.length -> (∀ (k : Nat) (d : Dat) (vs : List Value), l[k]? = some d -> vss[k]? = some vs -> RelL Z ρ d.avs vs) -> RelL Z ρ (l.flatMap Dat.avs) vss.flatten
 | [], [], _, _ => by simpa using RelL.nil
 | d :: l, vs :: vss, hl, h => by
   rw [List.flatMap_cons, List.flatten_cons]
   exact (h 0 d vs rfl rfl).append (RelL.flat (by simpa using hl) fun k d' vs' h1 h2 => h (k + 1) d' vs' (by simpa using h1) (by simpa using h2))
theorem trod_dat {ts : List TypeId} (hc : closedT P ts = true) : ∀ (fuel : Nat) (t : TypeId) (cs : List Value) (x : DataW H × List MemPlace), t ∈ ts -> DataW.trod enc P W base sp held fuel t cs = some x -> (∀ n ∈ x.1.weights P t, n <= reachBytes) ->
 ∃ d : Dat, HasT P t d /\ RelL (wholeH W) [] d.avs cs /\ cs.length = P.cellsOf t /\ d = toD x.1 := by
 intro fuel
 induction fuel with
 | zero => intro t cs x _ h; simp [DataW.trod] at h
 | succ fuel ih =>
   intro t cs x ht h hz
   have hct := List.all_eq_true.1 hc t ht
   rw [Bool.and_eq_true] at hct
   obtain ⟨hA, hK⟩ := hct
   have hKid : ∀ k ∈ kidsT P t, k ∈ ts := fun k hk => by simpa using List.all_eq_true.1 hK k hk
   unfold argT at hA
   unfold kidsT at hKid
   cases hu : P.underlying t with
   | none => simp [hu] at hA
   | some D =>
     rw [hu] at hA hKid
     cases D with
     | bool =>
       obtain ⟨b, rfl, rfl⟩ := DataW.trod_bool hu h
       exact ⟨.b b, .b hu b, by rw [Dat.avs]; exact .cons (.p _) .nil, by simp at hA; simp [hA], by rw [toD]⟩
     | int k =>
       obtain ⟨n, rfl, rfl, hw⟩ := DataW.trod_int hu h
       exact ⟨.i k n, .i hu n hw, by rw [Dat.avs]; exact .cons (.p _) .nil, by simp at hA; simp [hA], by rw [toD]⟩
     | string =>
       obtain ⟨s, rfl, rfl, hs⟩ := DataW.trod_string hu h
       refine ⟨.s s, .s hu s ?_, by rw [Dat.avs]; exact .cons (.p _) .nil, by simp at hA; simp [hA], by rw [toD]⟩
       have := hz s.data.toList.length (by simp [DataW.weights])
       simpa using this
     | slice e =>
       simp only [Bool.and_eq_true, beq_iff_eq, decide_eq_true_eq] at hA
       have hks := hKid e (by simp)
       rcases DataW.trod_slice hu h with ⟨rfl, rfl⟩ | ⟨a, len, cap, elems, rest, n, hn, rfl, rfl, hb, hlc, hcm, hlen, hel, hsp, hns⟩
       . exact ⟨.sl [], .sl hu [] (by simp) (by simp), by rw [Dat.avs, Dat.avsL]; exact .cons (.vs0 (.inl rfl) (Nat.le_refl _)) .nil, by simp [hA.1], by rw [toD]⟩
       . cases hn
         have hw : (elems.length + rest.length) * P.bytesOf e <= reachBytes /\ ∀ d ∈ elems.map (·.1), ∀ n ∈ d.weights P e, n <= reachBytes := by
          simp only [DataW.weights, hu, List.mem_cons, List.mem_append] at hz
          refine ⟨?_, fun d hd n hn => hz n (.inr (.inl (weightsAll_mem hd n hn)))⟩
          have := hz _ (.inl rfl)
          simpa using this
         have each : ∀ i, i < len -> ∃ y : Dat × List Value, W.cells? base (a.add (i * P.cellsOf e)) (P.cellsOf e) = some y.2 /\ HasT P e y.1 /\ RelL (wholeH W) [] y.1.avs y.2 /\ y.2.length = P.cellsOf e /\ elems[i]?.map (fun z => toD z.1) = some y.1 := by
          intro i hi
          have := hel i hi
          rw [List.getElem?_eq_getElem (by omega)] at this
          obtain ⟨cs', h1, h2⟩ := Option.bind_eq_some_iff.1 this
          obtain ⟨d, g1, g2, g3, g4⟩ := ih e cs' _ hks h2 (hw.2 _ (List.mem_map.2 ⟨_, List.getElem_mem _, rfl⟩))
          exact ⟨(d, cs'), h1, g1, g2, g3, by rw [List.getElem?_eq_getElem (by omega), Option.map_some, g4]⟩
         obtain ⟨F, hF⟩ := Deep.choose_lt each
         refine ⟨.sl ((List.range len).map fun i => (F i).1), .sl hu _ ?_ ?_, ?_, by simp [hA.1], ?_⟩
         . refine Nat.le_trans (Nat.mul_le_mul_right _ ?_) hw.1
           simp; omega
         . intro d hd
           obtain ⟨i, hi, rfl⟩ := List.mem_map.1 hd
           exact (hF i (by simpa using hi)).2.1
         . rw [Dat.avs, Dat.avsL_eq]
           have e1 : ((List.range len).map fun i => (F i).1).length = len := by simp
           rw [e1]
           refine .cons (rel_row (vs := ((List.range len).map fun i => (F i).2).flatten) (.flat (by simp) fun k d vs h1 h2 => ?_) hlc (arr_holds (wholeH_whole W) ?_)) .nil
           . simp only [List.getElem?_map, Option.map_eq_some_iff] at h1 h2
             obtain ⟨k1, g1, rfl⟩ := h1
             obtain ⟨k2, g2, rfl⟩ := h2
             rw [g1] at g2; cases g2
             have hk : k1 < len := by
              have := List.mem_of_getElem? g1; simpa using this
             exact (hF k1 hk).2.2.1
           . by_cases hl0 : len = 0
             . subst hl0; exact .inl (by simp)
             . obtain ⟨q1, q2, q3⟩ := World.cells?_some (hF 0 (by omega)).1
               have hspot : a.spot = none := by
                have := q3 0 hA.2
                obtain ⟨v, hv⟩ : ∃ v, (F 0).2[0]? = some v := ⟨_, List.getElem?_eq_getElem (by rw [q2]; exact hA.2)⟩
                rw [hv] at this
                have := spot_none this
                simpa [Addr.add] using this
               refine .inr ⟨a, rfl, hspot, fun k v hk => ?_⟩
               have hsz : 0 < P.cellsOf e := hA.2
               have key : ∀ (n : Nat), (∀ i, i < n -> ((F i).2).length = P.cellsOf e) -> ∀ k : Nat, (((List.range n).map fun i => (F i).2).flatten)[k]? = if k < n * P.cellsOf e then (F (k / P.cellsOf e)).2[k % P.cellsOf e]? else none := by
                intro n
                induction n with
                | zero => intro _ k; simp
                | succ n ihn =>
                  intro hh k
                  have hl2 : (((List.range n).map fun i => (F i).2).flatten).length = n * P.cellsOf e := by
                   clear ihn
                   induction n with
                   | zero => simp
                   | succ n ihm =>
                     rw [List.range_succ, List.map_append, List.flatten_append, List.length_append, ihm fun i hi => hh i (by omega)]
                     simp [hh n (by omega), Nat.succ_mul]
                  rw [List.range_succ, List.map_append, List.flatten_append, List.getElem?_append, hl2]
                  by_cases hkn : k < n * P.cellsOf e
                  . rw [if_pos hkn, ihn (fun i hi => hh i (by omega)), if_pos hkn, if_pos (by rw [Nat.succ_mul]; omega)]
                  . rw [if_neg hkn]
                    simp only [List.map_cons, List.map_nil, List.flatten_cons, List.flatten_nil, List.append_nil]
                    by_cases hkn2 : k < (n + 1) * P.cellsOf e
                    . rw [if_pos hkn2]
                      rw [Nat.succ_mul] at hkn2
                      have hd : k / P.cellsOf e = n := by
                       refine Nat.div_eq_of_lt_le (by omega) (by rw [Nat.succ_mul]; omega)
                      have hm : k % P.cellsOf e = k - n * P.cellsOf e := by
                       have := Nat.div_add_mod k (P.cellsOf e)
                       rw [hd, Nat.mul_comm] at this; omega
                      rw [hd, hm]
                    . rw [if_neg hkn2, List.getElem?_eq_none]
                      rw [hh n (by omega)]; rw [Nat.succ_mul] at hkn2; omega
               rw [key len (fun i hi => (hF i hi).2.2.2.1)] at hk
               split at hk
               . rename_i hkl
                 have hi : k / P.cellsOf e < len := Nat.div_lt_of_lt_mul (by rw [Nat.mul_comm]; exact hkl)
                 obtain ⟨_, _, g3⟩ := World.cells?_some (hF _ hi).1
                 have := g3 (k % P.cellsOf e) (Nat.mod_lt _ hsz)
                 rw [hk, Deep.add_add] at this
                 rwa [show k / P.cellsOf e * P.cellsOf e + k % P.cellsOf e = k by rw [Nat.mul_comm]; exact Nat.div_add_mod _ _] at this
               . cases hk
         . rw [toD, toDs_eq, List.map_map]
           refine congrArg Dat.sl (List.ext_getElem? fun i => ?_)
           by_cases hi : i < len
           . have := (hF i hi).2.2.2.2
             rw [List.getElem?_map, List.getElem?_map, List.getElem?_range hi]
             exact this.symm
           . rw [List.getElem?_eq_none (by simp; omega), List.getElem?_eq_none (by simp; omega)]
     | array n e =>
       simp only [beq_iff_eq] at hA
       have hks := hKid e (by simp)
       obtain ⟨xs, m, hm, rfl, hl, hlx, hel⟩ := DataW.trod_array hu h
       cases hm
       have hw : ∀ d ∈ xs.map (·.1), ∀ n ∈ d.weights P e, n <= reachBytes := by
        simp only [DataW.weights, hu] at hz
        exact fun d hd => weightsAll_each hz hd
       have each : ∀ i, i < n -> ∃ d : Dat, (HasT P e d /\ RelL (wholeH W) [] d.avs ((cs.drop (i * P.cellsOf e)).take (P.cellsOf e))) /\ xs[i]?.map (fun z => toD z.1) = some d := by
        intro i hi
        have := hel i hi
        rw [List.getElem?_eq_getElem (by omega)] at this
        obtain ⟨d, g1, g2, g3, g4⟩ := ih e _ _ hks this (hw _ (List.mem_map.2 ⟨_, List.getElem_mem _, rfl⟩))
        exact ⟨d, ⟨g1, g2⟩, by rw [List.getElem?_eq_getElem (by omega), Option.map_some, g4]⟩
       obtain ⟨F, hF'⟩ := Deep.choose_lt each
       have hF := fun i hi => (hF' i hi).1
       refine ⟨.ag ((List.range n).map F), .ar hu _ (by simp) ?_, ?_, hl, ?_⟩
       . intro d hd
         obtain ⟨i, hi, rfl⟩ := List.mem_map.1 hd
         exact (hF i (by simpa using hi)).1
       . rw [Dat.avs, Dat.avsL_eq]
         have e2 : cs = ((List.range n).map fun i => (cs.drop (i * P.cellsOf e)).take (P.cellsOf e)).flatten := by
          have : ∀ n : Nat, cs.take (n * P.cellsOf e) = ((List.range n).map fun i => (cs.drop (i * P.cellsOf e)).take (P.cellsOf e)).flatten := by
           intro n
           induction n with
           | zero => simp
           | succ n ihn => rw [List.range_succ, List.map_append, List.flatten_append, <- ihn, Nat.succ_mul, List.take_add]; simp
          rw [<- this n, List.take_of_length_le (by omega)]
         rw [e2]
         refine .flat (by simp) fun k d vs h1 h2 => ?_
         simp only [List.getElem?_map, Option.map_eq_some_iff] at h1 h2
         obtain ⟨k1, g1, rfl⟩ := h1
         obtain ⟨k2, g2, rfl⟩ := h2
         rw [g1] at g2; cases g2
         have hk : k1 < n := by
          have := List.mem_of_getElem? g1; simpa using this
         exact (hF k1 hk).2
       . rw [toD, toDs_eq, List.map_map]
         refine congrArg Dat.ag (List.ext_getElem? fun i => ?_)
         by_cases hi : i < n
         . have := (hF' i hi).2
           rw [List.getElem?_map, List.getElem?_map, List.getElem?_range hi]
           exact this.symm
         . rw [List.getElem?_eq_none (by simp; omega), List.getElem?_eq_none (by simp; omega)]
     | struct fs =>
       simp only [beq_iff_eq] at hA
       obtain ⟨xs, m, hm, rfl, hl, hlx, hel⟩ := DataW.trod_struct hu h
       cases hm
       have hw : ∀ (k : Nat) (f : Field) (d : DataW H), fs[k]? = some f -> (xs.map (·.1))[k]? = some d -> ∀ n ∈ d.weights P f.type, n <= reachBytes := by
        simp only [DataW.weights, hu] at hz
        intro k f d hf hd n hn
        exact hz n (weightsEach_at (k := k) (by rw [List.getElem?_map]; simp [hf]) hd n hn)
       have each : ∀ i, i < fs.size -> ∃ d : Dat, (∀ f, fs[i]? = some f -> HasT P f.type d /\ RelL (wholeH W) [] d.avs ((cs.drop f.offset).take (P.cellsOf f.type))) /\ xs[i]?.map (fun z => toD z.1) = some d := by
        intro i hi
        have hf : fs[i]? = some fs[i] := by simp [hi]
        have := hel i fs[i] hf
        have hx : xs[i]? = some (xs[i]'(by omega)) := List.getElem?_eq_getElem (by omega)
        rw [hx] at this
        obtain ⟨d, g1, g2, g3, g4⟩ := ih fs[i].type _ _ (hKid _ (List.mem_map.2 ⟨fs[i], by simp, rfl⟩)) this (hw i _ _ hf (by rw [List.getElem?_map, hx]; rfl))
        refine ⟨d, fun f hf' => ?_, by rw [hx, Option.map_some, g4]⟩
        rw [hf] at hf'; cases hf'
        exact ⟨g1, g2⟩
       obtain ⟨F, hF'⟩ := Deep.choose_lt each
       have hF := fun i hi => (hF' i hi).1
       refine ⟨.ag ((List.range fs.size).map F), .st hu _ (by simp) ?_, ?_, hl, ?_⟩
       . intro k f d hf hd
         simp only [List.getElem?_map, Option.map_eq_some_iff] at hd
         obtain ⟨k1, g1, rfl⟩ := hd
         have hk : k < fs.size := (Array.getElem?_eq_some_iff.1 hf).1
         have : k1 = k := by simpa [hk] using g1.symm
         subst this
         exact (hF k1 hk f hf).1
       . rw [Dat.avs, Dat.avsL_eq]
         have key : ∀ (l : List Field) (F : Nat -> Dat) (off : Nat), tilesF P off l = some (P.cellsOf t) -> off <= cs.length -> (∀ (i : Nat) (f : Field), l[i]? = some f -> RelL (wholeH W) [] (F i).avs ((cs.drop f.offset).take (P.cellsOf f.type))) ->
          RelL (wholeH W) [] (((List.range l.length).map F).flatMap Dat.avs) (cs.drop off) := by
          intro l
          induction l with
          | nil =>
            intro F off ht ho _
            simp only [tilesF, Option.some.injEq] at ht
            rw [List.drop_of_length_le (by omega)]
            simpa using RelL.nil
          | cons f l ihl =>
            intro F off ht ho hh
            simp only [tilesF] at ht
            split at ht
            . rename_i hfo
              have h0 := hh 0 f rfl
              have hle : off + P.cellsOf f.type <= cs.length := by
               have mono : ∀ (l : List Field) (o r : Nat), tilesF P o l = some r -> o <= r := by
                intro l
                induction l with
                | nil => intro o r h; simp [tilesF] at h; omega
                | cons g l ihg =>
                  intro o r h
                  simp only [tilesF] at h
                  split at h
                  . have := ihg _ _ h; omega
                  . cases h
               have := mono _ _ _ ht
               omega
              have h1 := ihl (fun i => F (i + 1)) _ ht hle fun i f' hf' => hh (i + 1) f' (by simpa using hf')
              rw [List.length_cons, List.range_succ_eq_map, List.map_cons, List.flatMap_cons, List.map_map]
              have e3 : cs.drop off = (cs.drop off).take (P.cellsOf f.type) ++ cs.drop (off + P.cellsOf f.type) := by
               rw [<- List.drop_drop, List.take_append_drop]
              rw [e3]
              rw [hfo] at h0
              exact h0.append h1
            . cases ht
         have := key fs.toList F 0 hA (Nat.zero_le _) fun i f hf => (hF i (by have := (List.getElem?_eq_some_iff.1 hf).1; simpa using this) f (by simpa using hf)).2
         simpa using this
       . rw [toD, toDs_eq, List.map_map]
         refine congrArg Dat.ag (List.ext_getElem? fun i => ?_)
         by_cases hi : i < fs.size
         . have := (hF' i hi).2
           rw [List.getElem?_map, List.getElem?_map, List.getElem?_range hi]
           exact this.symm
         . rw [List.getElem?_eq_none (by simp; omega), List.getElem?_eq_none (by simp; omega)]
     | _ => simp at hA
theorem arg_dat {ts : List TypeId} (hc : closedT P ts = true) {t : TypeId} {v : Value} {d : DataW H} {p : List MemPlace} {r : Reach} {b0 : Nat} (ht : t ∈ ts) (hv : Value.okWide P W r b0 t v) (h : DataW.Trod enc P W base sp held t v d p)
 (hz : ∀ n ∈ d.weights P t, n <= reachBytes) : ∃ x : Dat, (HasT P t x /\ Rel (wholeH W) [] x.arg v) /\ x = toD d := by
 obtain ⟨fuel, h⟩ := h
 obtain ⟨x, h1, h2, h3, h4⟩ := trod_dat hc fuel t _ _ ht h hz
 refine ⟨x, ⟨h1, ?_⟩, h4⟩
 clear h4
 have one : ∀ {a : AV}, RelL (wholeH W) [] [a] v.cells.toList -> v.cells = #[v] -> Rel (wholeH W) [] a v := by
  intro a h e
  rw [e] at h
  exact h.2 0 _ _ rfl rfl
 cases h1 with
 | b hu x => rw [Dat.avs] at h2; obtain ⟨b, rfl⟩ := okWide_bool hu hv; simp only [Dat.arg, Dat.avs]; exact one h2 rfl
 | i hu n hw => rw [Dat.avs] at h2; obtain ⟨b, rfl⟩ := okWide_int hu hv; simp only [Dat.arg, Dat.avs]; exact one h2 rfl
 | s hu x hs => rw [Dat.avs] at h2; obtain ⟨b, rfl⟩ := okWide_string hu hv; simp only [Dat.arg, Dat.avs]; exact one h2 rfl
 | sl hu l hl ha => rw [Dat.avs] at h2; obtain ⟨a, n, c, rfl⟩ := okWide_slice hu hv; simp only [Dat.arg, Dat.avs]; exact one h2 rfl
 | ar hu l hl ha =>
   rw [Dat.avs, Dat.avsL_eq] at h2
   unfold Value.okWide at hv
   rw [hu] at hv
   obtain ⟨cs, rfl, _⟩ := hv
   simp only [Dat.arg]
   have := Rel.ag' h2
   simpa [Value.cells] using this
 | st hu l hl ha =>
   rw [Dat.avs, Dat.avsL_eq] at h2
   unfold Value.okWide at hv
   rw [hu] at hv
   obtain ⟨cs, rfl, _⟩ := hv
   simp only [Dat.arg]
   have := Rel.ag' h2
   simpa [Value.cells] using this
theorem args_dat {tys : List TypeId} (hc : closedT P tys = true) {r : Reach} {b0 : Nat} : ∀ {ts : List TypeId} {vs : List Value} {ds : List (DataW H)} {ps : List MemPlace}, (ts.all fun t => tys.contains t) = true -> DataW.TrodAll enc P W base sp held ts vs ds ps ->
 (∀ (j : Nat) (t : TypeId) (v : Value), ts[j]? = some t -> vs[j]? = some v -> Value.okWide P W r b0 t v) -> (∀ n ∈ DataW.weightsEach P ts ds, n <= reachBytes) -> ∃ xs : List Dat, (HasTs P ts xs /\ RelL (wholeH W) [] (xs.map Dat.arg) vs) /\ xs = ds.map toD
 | [], vs, ds, ps, _, h, _, _ => by obtain ⟨rfl, rfl, rfl⟩ := trodAll_nil h; exact ⟨[], ⟨.nil, .nil⟩, rfl⟩
 | t :: ts, vs, ds, ps, hr, h, hv, hz => by
   obtain ⟨v, vs', d, ds', p, q, rfl, rfl, rfl, h0, r0⟩ := trodAll_cons h
   simp only [List.all_cons, Bool.and_eq_true] at hr
   simp only [DataW.weightsEach, List.mem_append] at hz
   obtain ⟨x, ⟨g1, g2⟩, g5⟩ := arg_dat hc (by simpa using hr.1) (hv 0 _ _ rfl rfl) h0 fun n hn => hz n (.inl hn)
   obtain ⟨xs, ⟨g3, g4⟩, g6⟩ := args_dat hc hr.2 r0 (fun j t' v' h1 h2 => hv (j + 1) t' v' (by simpa using h1) (by simpa using h2)) fun n hn => hz n (.inr hn)
   exact ⟨x :: xs, ⟨.cons g1 g3, by simpa using RelL.cons g2 g4⟩, by rw [List.map_cons, g5, g6]⟩
theorem st_begin (W : World) : St (wholeH W) [] [] W := ⟨wholeH_of W, rfl, fun i o x h => by simp at h, fun i o x b h => by simp at h⟩
theorem law_callsU {f : FuncId} {fn : Func} {s : ChangeSpec} {args : Array Value} {ds gs : List (DataW H)} {before : List MemPlace} {G : Nat -> AV} {tys : List TypeId} {r : Reach} {b0 : Nat} (tb : TypeId) (hl : laidOutB P = true) (hr : (fn.params.toList.all fun t => P.readableRec t && decide (t < P.types.size)) = true)
 (hres : fn.resultTypes = #[tb]) (htb : P.underlying tb = some .bool) (hvars : s.vars = []) (hfn : s.fn H (ds ++ gs) = { results := [.lit (.bool true)], args := ds })
 (hW : DataW.Whole enc P fn.params.toList s.vars false W args.toList ds gs before) (hc : closedT P tys = true) (hp : (fn.params.toList.all fun t => tys.contains t) = true)
 (hval : ∀ (j : Nat) t v, fn.params[j]? = some t -> args[j]? = some v -> Value.okWide P W r b0 t v)
 (hz : (DataW.weightsEach P (fn.params.toList ++ s.plain.varTypes P) (ds ++ gs)).all (· <= reachBytes) = true)
 (hG : GOK G (wholeH W)) (h : ∀ xs : List Dat, HasTs P fn.params.toList xs -> xs = ds.map toD -> CallA P G f (xs.map Dat.arg) [] fun v _ _ => v = .p (.bool true)) :
 Calls P f args W fun e W' => ∃ v, e = .returned v /\ s.post enc P fn false true false false W args v W' := by
 refine law_calls tb hl hr hres htb hvars hfn hW ?_
 obtain ⟨p, q, hA, hV, rfl, hfz, hnd⟩ := hW
 rw [hvars] at hV
 obtain ⟨rfl, rfl⟩ := trodVars_none hV
 have hz' : ∀ n ∈ DataW.weightsEach P fn.params.toList ds, n <= reachBytes := by
  have e : s.plain.varTypes P = [] := by
   simp [DataSpec.varTypes, ChangeSpec.plain, hvars]
  rw [e, List.append_nil, List.append_nil] at hz
  intro n hn
  simpa using List.all_eq_true.1 hz n hn
 obtain ⟨xs, ⟨h1, h2⟩, h3⟩ := args_dat hc hp hA (fun j t v h1 h2 => hval j t v (by simpa using h1) (by simpa using h2)) hz'
 have := h xs h1 h3 (wholeH W) [] W args.toList hG (st_begin W) h2
 rw [Array.toArray_toList] at this
 refine this.mono ?_
 rintro v w' ⟨Z', ρ', T', es, a, k1, k2, k3, rfl⟩
 exact ⟨k3.p_inv, [], [whole W], ⟨Z', [], k1.of, trivial, by simp, by simp, fun φ hφ => by
  simp only [List.mem_singleton] at hφ; subst hφ; exact (whole W).mono _ _ k2.le (wholeH_whole W)⟩, by simp⟩
end
theorem HasT.int {P : Program} {t : TypeId} {k : IntKind} {d : Dat} (h : HasT P t d) (hu : P.underlying t = some (.int k)) : ∃ n : Int, d = .i k n /\ (Lit.int k n).wf = true := by
 cases h with
 | i h' n hw => rw [hu] at h'; cases h'; exact ⟨n, rfl, hw⟩
 | b h' x => rw [hu] at h'; cases h'
 | s h' x hs => rw [hu] at h'; cases h'
 | sl h' l hl ha => rw [hu] at h'; cases h'
 | ar h' l hl ha => rw [hu] at h'; cases h'
 | st h' l hl ha => rw [hu] at h'; cases h'
theorem HasT.bool {P : Program} {t : TypeId} {d : Dat} (h : HasT P t d) (hu : P.underlying t = some .bool) : ∃ b : Bool, d = .b b := by
 cases h with
 | b h' x => exact ⟨x, rfl⟩
 | i h' n hw => rw [hu] at h'; cases h'
 | s h' x hs => rw [hu] at h'; cases h'
 | sl h' l hl ha => rw [hu] at h'; cases h'
 | ar h' l hl ha => rw [hu] at h'; cases h'
 | st h' l hl ha => rw [hu] at h'; cases h'
theorem HasT.slice {P : Program} {t e : TypeId} {d : Dat} (h : HasT P t d) (hu : P.underlying t = some (.slice e)) : ∃ l : List Dat, d = .sl l /\ l.length * P.bytesOf e <= reachBytes /\ ∀ x ∈ l, HasT P e x := by
 cases h with
 | sl h' l hl ha => rw [hu] at h'; cases h'; exact ⟨l, rfl, hl, ha⟩
 | b h' x => rw [hu] at h'; cases h'
 | i h' n hw => rw [hu] at h'; cases h'
 | s h' x hs => rw [hu] at h'; cases h'
 | ar h' l hl ha => rw [hu] at h'; cases h'
 | st h' l hl ha => rw [hu] at h'; cases h'
theorem HasT.array {P : Program} {t e : TypeId} {n : Nat} {d : Dat} (h : HasT P t d) (hu : P.underlying t = some (.array n e)) : ∃ l : List Dat, d = .ag l /\ l.length = n /\ ∀ x ∈ l, HasT P e x := by
 cases h with
 | ar h' l hl ha => rw [hu] at h'; cases h'; exact ⟨l, rfl, hl, ha⟩
 | b h' x => rw [hu] at h'; cases h'
 | i h' n hw => rw [hu] at h'; cases h'
 | s h' x hs => rw [hu] at h'; cases h'
 | sl h' l hl ha => rw [hu] at h'; cases h'
 | st h' l hl ha => rw [hu] at h'; cases h'
theorem HasT.struct {P : Program} {t : TypeId} {fs : Array Field} {d : Dat} (h : HasT P t d) (hu : P.underlying t = some (.struct fs)) :
 ∃ l : List Dat, d = .ag l /\ l.length = fs.size /\ ∀ (k : Nat) (f : Field) (d : Dat), fs[k]? = some f -> l[k]? = some d -> HasT P f.type d := by
 cases h with
 | st h' l hl ha => rw [hu] at h'; cases h'; exact ⟨l, rfl, hl, ha⟩
 | b h' x => rw [hu] at h'; cases h'
 | i h' n hw => rw [hu] at h'; cases h'
 | s h' x hs => rw [hu] at h'; cases h'
 | sl h' l hl ha => rw [hu] at h'; cases h'
 | ar h' l hl ha => rw [hu] at h'; cases h'
theorem open_u8 {P : Program} {e : TypeId} (hu : P.underlying e = some (.int .u8)) (d : Dat) (h : HasT P e d) : ∃ a : UInt8, d = .i .u8 (a.toNat : Int) := by
 obtain ⟨n, rfl, hw⟩ := h.int hu
 have hz : 0 <= n /\ n <= 255 := by simpa [Lit.wf, IntKind.min, IntKind.max, IntKind.signed, IntKind.bits] using hw
 exact ⟨UInt8.ofNat n.toNat, by rw [UInt8.toNat_ofNat']; congr 1; omega⟩
theorem open_u32 {P : Program} {e : TypeId} (hu : P.underlying e = some (.int .u32)) (d : Dat) (h : HasT P e d) : ∃ a : UInt32, d = .i .u32 (a.toNat : Int) := by
 obtain ⟨n, rfl, hw⟩ := h.int hu
 have hz : 0 <= n /\ n <= 4294967295 := by simpa [Lit.wf, IntKind.min, IntKind.max, IntKind.signed, IntKind.bits] using hw
 exact ⟨UInt32.ofNat n.toNat, by rw [UInt32.toNat_ofNat']; congr 1; omega⟩
theorem open_u64 {P : Program} {e : TypeId} (hu : P.underlying e = some (.int .u64)) (d : Dat) (h : HasT P e d) : ∃ a : UInt64, d = .i .u64 (a.toNat : Int) := by
 obtain ⟨n, rfl, hw⟩ := h.int hu
 have hz : 0 <= n /\ n <= 18446744073709551615 := by simpa [Lit.wf, IntKind.min, IntKind.max, IntKind.signed, IntKind.bits] using hw
 exact ⟨UInt64.ofNat n.toNat, by rw [UInt64.toNat_ofNat']; congr 1; omega⟩
theorem trod_lits {H : Type} {enc : TypeId × Value -> H} {P : Program} {W : World} {base : Nat} {sp : Nat -> Bool} {held : Bool} {t e : TypeId} {n : Nat} {k : IntKind} {fuel : Nat} {cs : List Value} {p : List MemPlace} {zs : List Int}
 (hu : P.underlying t = some (.array n e)) (he : P.underlying e = some (.int k)) (hc : P.cellsOf e = 1) (hct : P.cellsOf t = n) (h : DataW.trod enc P W base sp held fuel t cs = some (.agg (zs.map fun z => .lit (.int k z)), p)) : cs = zs.map (Value.int k) := by
 obtain ⟨xs, m, hm, hx, hl, hlx, hel⟩ := DataW.trod_array hu h
 rw [hc] at hel
 simp only [Prod.mk.injEq, DataW.agg.injEq] at hx
 have hzl : zs.length = n := by
  have := congrArg List.length hx.1; simp at this; omega
 refine List.ext_getElem? fun i => ?_
 by_cases hi : i < n
 . have h0 := hel i hi
   rw [List.getElem?_eq_getElem (by omega)] at h0
   obtain ⟨z, e1, e2, _⟩ := DataW.trod_int he h0
   have h3 := congrArg (fun l => l[i]?) hx.1
   simp only [List.getElem?_map, List.getElem?_eq_getElem (show i < zs.length by omega), List.getElem?_eq_getElem (show i < xs.length by omega), Option.map_some, Option.some.injEq] at h3
   rw [e2] at h3
   have hz : zs[i]'(by omega) = z := by simpa using h3
   have h4 := congrArg (fun l => l[0]?) e1
   simp only [Nat.mul_one, List.getElem?_take_of_lt (show 0 < 1 by omega), List.getElem?_drop, Nat.add_zero] at h4
   rw [h4]
   simp [hzl, hi, hz]
 . rw [List.getElem?_eq_none (by omega), List.getElem?_eq_none (by simp; omega)]
end Go.E
namespace Go.E
mutual
def Dat.bulk : Dat -> Nat
 | .sl l => Dat.bulkL l + 1
 | .ag l => Dat.bulkL l + 1
 | _ => 1
def Dat.bulkL : List Dat -> Nat
 | [] => 0
 | d :: r => Dat.bulk d + Dat.bulkL r
end
theorem Dat.one_le (d : Dat) : 1 <= d.bulk := by cases d <;> simp [Dat.bulk]
theorem Dat.len_le : ∀ l : List Dat, l.length <= Dat.bulkL l
 | [] => Nat.zero_le _
 | d :: r => by have := Dat.one_le d; have := Dat.len_le r; rw [Dat.bulkL, List.length_cons]; omega
theorem Dat.mem_le {d : Dat} : ∀ {l : List Dat}, d ∈ l -> d.bulk <= Dat.bulkL l
 | a :: r, h => by
   rw [Dat.bulkL]
   rcases List.mem_cons.1 h with rfl | h
   . omega
   . have := Dat.mem_le h; omega
theorem Dat.avs_sl (l : List Dat) : (Dat.sl l).avs = [.vs (l.flatMap Dat.avs) l.length] := by rw [Dat.avs, Dat.avsL_eq]
theorem Dat.avs_ag (l : List Dat) : (Dat.ag l).avs = l.flatMap Dat.avs := by rw [Dat.avs, Dat.avsL_eq]
theorem open_all {α : Type} {f : α -> List AV} {Ok : α -> Prop} : ∀ {l : List Dat}, (∀ d ∈ l, ∃ x : α, d.avs = f x /\ Ok x) -> ∃ xs : List α, l.flatMap Dat.avs = xs.flatMap f /\ xs.length = l.length /\ ∀ x ∈ xs, Ok x
 | [], _ => ⟨[], rfl, rfl, fun _ h => nomatch h⟩
 | d :: r, h => by
   obtain ⟨x, h1, h2⟩ := h d (by simp)
   obtain ⟨xs, h3, h4, h5⟩ := open_all (l := r) fun y hy => h y (by simp [hy])
   refine ⟨x :: xs, by rw [List.flatMap_cons, List.flatMap_cons, h1, h3], by simp [h4], fun y hy => ?_⟩
   rcases List.mem_cons.1 hy with rfl | hy
   . exact h2
   . exact h5 y hy
theorem open_sl {α : Type} {P : Program} {t e : TypeId} {f : α -> List AV} {Ok : α -> Prop} {d : Dat} {N : Nat} (hd : HasT P t d) (hu : P.underlying t = some (.slice e)) (hb : d.bulk <= N)
 (h1 : ∀ d, HasT P e d -> d.bulk <= N -> ∃ x : α, d.avs = f x /\ Ok x) : ∃ xs : List α, d.avs = [.vs (xs.flatMap f) xs.length] /\ d.arg = .vs (xs.flatMap f) xs.length /\ xs.length <= N /\ ∀ x ∈ xs, Ok x := by
 obtain ⟨l, rfl, -, hl⟩ := hd.slice hu
 rw [Dat.bulk] at hb
 obtain ⟨xs, h2, h3, h4⟩ := open_all (f := f) (Ok := Ok) (l := l) fun y hy => h1 y (hl y hy) (by have := Dat.mem_le hy; omega)
 have e : (Dat.sl l).avs = [.vs (xs.flatMap f) xs.length] := by rw [Dat.avs_sl, h2, h3]
 refine ⟨xs, e, ?_, by have := Dat.len_le l; omega, h4⟩
 rw [Dat.arg, e]
 . rfl
 . intro l h; cases h
theorem open_ar {α : Type} {P : Program} {t e : TypeId} {n : Nat} {f : α -> List AV} {Ok : α -> Prop} {d : Dat} (hd : HasT P t d) (hu : P.underlying t = some (.array n e))
 (h1 : ∀ d, HasT P e d -> ∃ x : α, d.avs = f x /\ Ok x) : ∃ xs : List α, d.avs = xs.flatMap f /\ xs.length = n /\ ∀ x ∈ xs, Ok x := by
 obtain ⟨l, rfl, hn, hl⟩ := hd.array hu
 obtain ⟨xs, h2, h3, h4⟩ := open_all (f := f) (Ok := Ok) (l := l) fun y hy => h1 y (hl y hy)
 exact ⟨xs, by rw [Dat.avs_ag, h2], by rw [h3, hn], h4⟩
theorem flat_single {α : Type} (h : α -> AV) (l : List α) : (l.flatMap fun a => [h a]) = l.map h := by
 induction l with
 | nil => rfl
 | cons a r ih => rw [List.flatMap_cons, ih]; rfl
end Go.E
namespace Go.E
def limb (x j : Nat) : UInt64 := UInt64.ofNat (x / 2 ^ (64 * j))
abbrev lw (x j : Nat) : AV := .p (.int .u64 ((limb x j).toNat : Int))
def Bg (x : Nat) : List AV := [lw x 0, lw x 1, lw x 2, lw x 3]
theorem Bg_len (x : Nat) : (Bg x).length = 4 := rfl
theorem limb_nat (x j : Nat) : (limb x j).toNat = x / 2 ^ (64 * j) % 2 ^ 64 := by rw [limb, UInt64.toNat_ofNat']
theorem limb_bit (x j i : Nat) : (limb x j).toNat.testBit i = (decide (i < 64) && x.testBit (64 * j + i)) := by
 rw [limb_nat, Nat.testBit_mod_two_pow, Nat.testBit_div_two_pow, Nat.add_comm]
theorem limb_ext {u : UInt64} {x j : Nat} (h : ∀ i, i < 64 -> u.toNat.testBit i = x.testBit (64 * j + i)) : u = limb x j := by
 apply UInt64.toNat_inj.1
 refine Nat.eq_of_testBit_eq fun i => ?_
 rw [limb_bit]
 by_cases hi : i < 64
 . rw [h i hi]; simp [hi]
 . rw [Nat.testBit_lt_two_pow (Nat.lt_of_lt_of_le u.toNat_lt (Nat.pow_le_pow_right (by decide) (by omega)))]
   simp [hi]
theorem Bg_inj {x y : Nat} (hx : x < 2 ^ 256) (hy : y < 2 ^ 256) (h : Bg x = Bg y) : x = y := by
 simp only [Bg, List.cons.injEq, AV.p.injEq, Value.int.injEq, true_and, and_true, Int.natCast_inj, limb_nat, Nat.mul_zero, Nat.pow_zero, Nat.div_one, Nat.mul_one, Nat.reduceMul] at h
 omega
theorem Bg_get (x : Nat) {j : Nat} (hj : j < 4) : (Bg x)[j]? = some (lw x j) := by
 match j, hj with
 | 0, _ => rfl
 | 1, _ => rfl
 | 2, _ => rfl
 | 3, _ => rfl
theorem Bg_wo (q : Nat -> Bool) (x : Nat) : (Bg x).map (AV.wo q) = Bg x := by
 simp only [Bg, List.map_cons, List.map_nil, AV.wo]
theorem Bg_pub (i : Nat) (cs : List AV) (x : Nat) : (Bg x).map (AV.pub i cs) = Bg x := by
 simp only [Bg, List.map_cons, List.map_nil, AV.pub]
theorem Bg_ones (x : Nat) : ones (Bg x) = true := rfl
theorem Bg_set {x y j : Nat} {u : UInt64} (hj : j < 4) (hu : u = limb y j) (ho : ∀ i, i < 4 -> i ≠ j -> limb y i = limb x i) : (Bg x).set j (.p (.int .u64 (u.toNat : Int))) = Bg y := by
 subst hu
 match j, hj with
 | 0, _ => simp only [Bg, lw, List.set_cons_zero, ho 1 (by omega) (by omega), ho 2 (by omega) (by omega), ho 3 (by omega) (by omega)]
 | 1, _ => simp only [Bg, lw, List.set_cons_zero, List.set_cons_succ, ho 0 (by omega) (by omega), ho 2 (by omega) (by omega), ho 3 (by omega) (by omega)]
 | 2, _ => simp only [Bg, lw, List.set_cons_zero, List.set_cons_succ, ho 0 (by omega) (by omega), ho 1 (by omega) (by omega), ho 3 (by omega) (by omega)]
 | 3, _ => simp only [Bg, lw, List.set_cons_zero, List.set_cons_succ, ho 0 (by omega) (by omega), ho 1 (by omega) (by omega), ho 2 (by omega) (by omega)]
theorem limb_or {x k j : Nat} (hk : k < 256) (hj : j < 4) : limb (x ||| 2 ^ k) j = if j = k / 64 then limb x j ||| u64_shl 1 (k % 64) else limb x j := by
 symm
 split
 . rename_i h
   refine limb_ext fun i hi => ?_
   have hs : (u64_shl 1 (k % 64)).toNat = 2 ^ (k % 64) := by
    rw [u64_shl, if_pos (by omega), UInt64.toNat_shiftLeft]
    show 1 <<< ((UInt64.ofNat (k % 64)).toNat % 64) % 2 ^ 64 = _
    rw [UInt64.toNat_ofNat', Nat.mod_eq_of_lt (a := k % 64) (b := 2 ^ 64) (by omega), Nat.mod_mod, Nat.shiftLeft_eq, Nat.one_mul, Nat.mod_eq_of_lt (Nat.pow_lt_pow_right (by decide) (by omega))]
   rw [UInt64.toNat_or, Nat.testBit_or, limb_bit, hs, Nat.testBit_or, Nat.testBit_two_pow, Nat.testBit_two_pow]
   have e : decide (k % 64 = i) = decide (k = 64 * j + i) := by
    rw [decide_eq_decide]; omega
   rw [e]; simp [hi]
 . rename_i h
   refine limb_ext fun i hi => ?_
   rw [limb_bit, Nat.testBit_or, Nat.testBit_two_pow]
   have e : decide (k = 64 * j + i) = false := by
    rw [decide_eq_false_iff_not]; omega
   rw [e]; simp [hi]
theorem Bg_or {x k : Nat} (hk : k < 256) : (Bg x).set (k / 64) (.p (.int .u64 ((limb x (k / 64) ||| u64_shl 1 (k % 64)).toNat : Int))) = Bg (x ||| 2 ^ k) := by
 have hj : k / 64 < 4 := by omega
 refine Bg_set hj ?_ fun i hi hn => ?_
 . rw [limb_or hk hj, if_pos rfl]
 . rw [limb_or hk hi, if_neg hn]
def bitN (x i : Nat) : Nat := x / 2 ^ i % 2
theorem bitN_lt (x i : Nat) : bitN x i < 2 := Nat.mod_lt _ (by decide)
theorem limb_bitN (x k : Nat) (hk : k < 256) : (u64_shr (limb x (k / 64)) (k % 64) &&& 1).toNat = bitN x k := by
 rw [UInt64.toNat_and, u64_shr, if_pos (by omega), UInt64.toNat_shiftRight]
 show (limb x (k / 64)).toNat >>> ((UInt64.ofNat (k % 64)).toNat % 64) &&& 1 = _
 rw [UInt64.toNat_ofNat', Nat.mod_eq_of_lt (a := k % 64) (b := 2 ^ 64) (by omega), Nat.mod_mod, Nat.shiftRight_eq_div_pow, Nat.and_one_is_mod, limb_nat, bitN]
 have h1 : x / 2 ^ (64 * (k / 64)) % 2 ^ 64 / 2 ^ (k % 64) % 2 = x / 2 ^ (64 * (k / 64)) / 2 ^ (k % 64) % 2 := by
  have e : 2 ^ 64 = 2 ^ (k % 64) * 2 ^ (64 - k % 64) := by rw [<- Nat.pow_add]; congr 1; omega
  rw [e, Nat.mod_mul_right_div_self]
  have e2 : 2 ^ (64 - k % 64) = 2 * 2 ^ (63 - k % 64) := by rw [<- Nat.pow_succ']; congr 1; omega
  rw [e2, Nat.mod_mul_right_mod]
 rw [h1, Nat.div_div_eq_div_mul, <- Nat.pow_add, Nat.div_add_mod]
def fromZ : List Int -> Nat
 | [] => 0
 | b :: r => (if b = 1 then 1 else 0) + 2 * fromZ r
theorem fromZ_lt : ∀ l : List Int, fromZ l < 2 ^ l.length
 | [] => by simp [fromZ]
 | b :: r => by
   have := fromZ_lt r
   rw [fromZ, List.length_cons, Nat.pow_succ]
   split <;> omega
theorem fromZ_snoc : ∀ (l : List Int) (b : Int), fromZ (l ++ [b]) = fromZ l + (if b = 1 then 2 ^ l.length else 0)
 | [], b => by simp [fromZ]
 | c :: l, b => by
   rw [List.cons_append, fromZ, fromZ_snoc l b, fromZ, List.length_cons, Nat.pow_succ]
   split <;> split <;> omega
def bitsZ (x n : Nat) : List Int := (List.range n).map fun i => (bitN x i : Int)
theorem bitsZ_len (x n : Nat) : (bitsZ x n).length = n := by simp [bitsZ]
theorem bitsZ_next (x n : Nat) : bitsZ x (n + 1) = bitsZ x n ++ [(bitN x n : Int)] := by simp [bitsZ, List.range_succ]
theorem from_bits (x : Nat) : ∀ n, fromZ (bitsZ x n) = x % 2 ^ n
 | 0 => by simp [bitsZ, fromZ, Nat.mod_one]
 | n + 1 => by
   rw [bitsZ_next, fromZ_snoc, from_bits x n, bitsZ_len, Nat.pow_succ, Nat.mod_mul, bitN]
   have h : x / 2 ^ n % 2 < 2 := Nat.mod_lt _ (by decide)
   by_cases h1 : x / 2 ^ n % 2 = 1
   . rw [h1]; simp
   . have h0 : x / 2 ^ n % 2 = 0 := by omega
     rw [h0]; simp
theorem bitsZ_get (x : Nat) {n i : Nat} (h : i < n) : (bitsZ x n)[i]? = some (bitN x i : Int) := by simp [bitsZ, h]
theorem gn0 (T : Tbl) (o : AObj) (l : Tbl) : (T ++ o :: l)[T.length]? = some o := by simp
theorem gn1 (T : Tbl) (a o : AObj) (l : Tbl) : (T ++ a :: o :: l)[T.length + 1]? = some o := by simp
theorem gn2 (T : Tbl) (a b o : AObj) (l : Tbl) : (T ++ a :: b :: o :: l)[T.length + 2]? = some o := by simp
theorem gn3 (T : Tbl) (a b c o : AObj) (l : Tbl) : (T ++ a :: b :: c :: o :: l)[T.length + 3]? = some o := by simp
theorem gn4 (T : Tbl) (a b c d o : AObj) (l : Tbl) : (T ++ a :: b :: c :: d :: o :: l)[T.length + 4]? = some o := by simp
theorem gn5 (T : Tbl) (a b c d e o : AObj) (l : Tbl) : (T ++ a :: b :: c :: d :: e :: o :: l)[T.length + 5]? = some o := by simp
theorem gn6 (T : Tbl) (a b c d e f o : AObj) (l : Tbl) : (T ++ a :: b :: c :: d :: e :: f :: o :: l)[T.length + 6]? = some o := by simp
theorem gn7 (T : Tbl) (a b c d e f g o : AObj) (l : Tbl) : (T ++ a :: b :: c :: d :: e :: f :: g :: o :: l)[T.length + 7]? = some o := by simp
theorem gn8 (T : Tbl) (a b c d e f g h o : AObj) (l : Tbl) : (T ++ a :: b :: c :: d :: e :: f :: g :: h :: o :: l)[T.length + 8]? = some o := by simp
theorem gn9 (T : Tbl) (a b c d e f g h i o : AObj) (l : Tbl) : (T ++ a :: b :: c :: d :: e :: f :: g :: h :: i :: o :: l)[T.length + 9]? = some o := by simp
theorem vres (P : Program) (loc : List AV) (T : Tbl) :
 (∀ a b rs (K : AV -> Prop), resA P (a :: b :: rs) loc T K = rsA P loc T (a :: b :: rs) fun l => oneA l K) /\ (∀ K : List AV -> Prop, rsA P loc T [] K = K []) /\
 (∀ t r (K : List AV -> Prop), rsA P loc T (.tmp t :: r) K = rsA P loc T r fun l => K (loc.getD t .any :: l)) /\
 (∀ t ty r (K : List AV -> Prop), rsA P loc T (.cell t ty :: r) K = loadA P ty (loc.getD t .any) T fun v => rsA P loc T r fun l => K (v :: l)) /\
 (∀ a b l (K : AV -> Prop), oneA (a :: b :: l) K = K (.tu (a :: b :: l))) := ⟨fun _ _ _ _ => rfl, fun _ => rfl, fun _ _ _ => rfl, fun _ _ _ _ => rfl, fun _ _ _ _ => rfl⟩
end Go.E
namespace Go.Proofs.YtmcbdlefakjpoaaGreatDoor
open Go.E Go.Proofs.Tryz
theorem Tryz.ty0 : tk prog 2 = .int .i64 /\ tk prog 3 = .int .i64 /\ tsz prog 3 = 1 /\ tby prog 3 = 8 /\ tzr prog 3 = some (.int .i64 0) /\ tak prog 3 = some false /\ tsz prog 4 = 1 /\ tzr prog 4 = some (.bool false) /\ tak prog 4 = some false /\ tk prog 5 = .int .u8 /\ tsz prog 5 = 1 /\ tby prog 5 = 1 /\ tzr prog 5 = some (.int .u8 0) /\ tak prog 5 = some false /\ tk prog 9 = .string /\ tk prog 22 = .slice 52 /\ tsz prog 22 = 1 /\ tzr prog 22 = some (.slice none 0 0) /\ tak prog 22 = some false /\ tk prog 23 = .slice 79 /\ tsz prog 25 = 5 /\ tak prog 25 = some true /\ tfo prog 25 0 = some 0 /\ tfo prog 25 1 = some 1 /\ tfo prog 25 2 = some 2 /\ tfo prog 25 3 = some 3 /\ tfo prog 25 4 = some 4 /\ tk prog 30 = .int .u32 /\ tsz prog 30 = 1 /\ tby prog 30 = 4 /\ tzr prog 30 = some (.int .u32 0) /\ tak prog 30 = some false /\ tk prog 31 = .slice 213 /\ tsz prog 31 = 1 /\ tak prog 31 = some false /\ tk prog 33 = .array 32 5 /\ tsz prog 33 = 32 /\ tby prog 33 = 32 /\ tzr prog 33 = some (.agg #[.int .u8 0, .int .u8 0, .int .u8 0, .int .u8 0, .int .u8 0, .int .u8 0, .int .u8 0, .int .u8 0, .int .u8 0, .int .u8 0, .int .u8 0, .int .u8 0, .int .u8 0, .int .u8 0, .int .u8 0, .int .u8 0, .int .u8 0, .int .u8 0, .int .u8 0, .int .u8 0, .int .u8 0, .int .u8 0, .int .u8 0, .int .u8 0, .int .u8 0, .int .u8 0, .int .u8 0, .int .u8 0, .int .u8 0, .int .u8 0, .int .u8 0, .int .u8 0]) /\ tak prog 33 = some true := by refine ⟨?_, ?_, ?_, ?_, ?_, ?_, ?_, ?_, ?_, ?_, ?_, ?_, ?_, ?_, ?_, ?_, ?_, ?_, ?_, ?_, ?_, ?_, ?_, ?_, ?_, ?_, ?_, ?_, ?_, ?_, ?_, ?_, ?_, ?_, ?_, ?_, ?_, ?_, ?_, ?_⟩ <;> kernel_rfl
theorem Tryz.ty1 : tst prog 33 = false /\ tsz prog 35 = 68 /\ tby prog 35 = 80 /\ tzr prog 35 = some (.agg #[.int .u32 0, .int .u8 0, .int .u8 0, .int .u8 0, .int .u8 0, .int .u8 0, .int .u8 0, .int .u8 0, .int .u8 0, .int .u8 0, .int .u8 0, .int .u8 0, .int .u8 0, .int .u8 0, .int .u8 0, .int .u8 0, .int .u8 0, .int .u8 0, .int .u8 0, .int .u8 0, .int .u8 0, .int .u8 0, .int .u8 0, .int .u8 0, .int .u8 0, .int .u8 0, .int .u8 0, .int .u8 0, .int .u8 0, .int .u8 0, .int .u8 0, .int .u8 0, .int .u8 0, .int .u8 0, .int .u8 0, .int .u8 0, .int .u8 0, .int .u8 0, .int .u8 0, .int .u8 0, .int .u8 0, .int .u8 0, .int .u8 0, .int .u8 0, .int .u8 0, .int .u8 0, .int .u8 0, .int .u8 0, .int .u8 0, .int .u8 0, .int .u8 0, .int .u8 0, .int .u8 0, .int .u8 0, .int .u8 0, .int .u8 0, .int .u8 0, .int .u8 0, .int .u8 0, .int .u8 0, .int .u8 0, .int .u8 0, .int .u8 0, .int .u8 0, .int .u8 0, .int .u32 0, .int .u32 0, .int .u32 0]) /\ tak prog 35 = some true /\ tfo prog 35 0 = some 0 /\ tff prog 35 0 = some (0, 30) /\ tfo prog 35 1 = some 1 /\ tfo prog 35 2 = some 33 /\ tff prog 35 2 = some (33, 33) /\ tfo prog 35 3 = some 65 /\ tff prog 35 3 = some (65, 30) /\ tfo prog 35 4 = some 66 /\ tff prog 35 4 = some (66, 30) /\ tfo prog 35 5 = some 67 /\ tst prog 35 = true /\ tsz prog 37 = 72 /\ tzr prog 37 = some (.agg #[.int .u32 0, .int .i64 0, .int .u32 0, .slice none 0 0, .int .u32 0, .int .u8 0, .int .u8 0, .int .u8 0, .int .u8 0, .int .u8 0, .int .u8 0, .int .u8 0, .int .u8 0, .int .u8 0, .int .u8 0, .int .u8 0, .int .u8 0, .int .u8 0, .int .u8 0, .int .u8 0, .int .u8 0, .int .u8 0, .int .u8 0, .int .u8 0, .int .u8 0, .int .u8 0, .int .u8 0, .int .u8 0, .int .u8 0, .int .u8 0, .int .u8 0, .int .u8 0, .int .u8 0, .int .u8 0, .int .u8 0, .int .u8 0, .int .u8 0, .int .u8 0, .int .u8 0, .int .u8 0, .int .u8 0, .int .u8 0, .int .u8 0, .int .u8 0, .int .u8 0, .int .u8 0, .int .u8 0, .int .u8 0, .int .u8 0, .int .u8 0, .int .u8 0, .int .u8 0, .int .u8 0, .int .u8 0, .int .u8 0, .int .u8 0, .int .u8 0, .int .u8 0, .int .u8 0, .int .u8 0, .int .u8 0, .int .u8 0, .int .u8 0, .int .u8 0, .int .u8 0, .int .u8 0, .int .u8 0, .int .u8 0, .int .u8 0, .int .u32 0, .int .u32 0, .int .u32 0]) /\ tak prog 37 = some true /\ tfo prog 37 0 = some 0 /\ tff prog 37 0 = some (0, 30) /\ tfo prog 37 1 = some 1 /\ tff prog 37 1 = some (1, 3) /\ tfo prog 37 2 = some 2 /\ tff prog 37 2 = some (2, 30) /\ tfo prog 37 3 = some 3 /\ tfo prog 37 4 = some 4 /\ tff prog 37 4 = some (4, 35) /\ tst prog 37 = true /\ tk prog 39 = .slice 22 /\ tk prog 41 = .slice 33 /\ tsz prog 41 = 1 /\ tzr prog 41 = some (.slice none 0 0) /\ tak prog 41 = some false /\ tk prog 50 = .slice 63 /\ tsz prog 50 = 1 /\ tak prog 50 = some false /\ tsz prog 52 = 69 /\ tby prog 52 = 104 /\ tzr prog 52 = some (.agg #[.int .u32 0, .int .u8 0, .int .u8 0, .int .u8 0, .int .u8 0, .int .u8 0, .int .u8 0, .int .u8 0, .int .u8 0, .int .u8 0, .int .u8 0, .int .u8 0, .int .u8 0, .int .u8 0, .int .u8 0, .int .u8 0, .int .u8 0, .int .u8 0, .int .u8 0, .int .u8 0, .int .u8 0, .int .u8 0, .int .u8 0, .int .u8 0, .int .u8 0, .int .u8 0, .int .u8 0, .int .u8 0, .int .u8 0, .int .u8 0, .int .u8 0, .int .u8 0, .int .u8 0, .int .u8 0, .int .u8 0, .int .u8 0, .int .u8 0, .int .u8 0, .int .u8 0, .int .u8 0, .int .u8 0, .int .u8 0, .int .u8 0, .int .u8 0, .int .u8 0, .int .u8 0, .int .u8 0, .int .u8 0, .int .u8 0, .int .u8 0, .int .u8 0, .int .u8 0, .int .u8 0, .int .u8 0, .int .u8 0, .int .u8 0, .int .u8 0, .int .u8 0, .int .u8 0, .int .u8 0, .int .u8 0, .int .u8 0, .int .u8 0, .int .u8 0, .int .u8 0, .int .u32 0, .int .u32 0, .int .u32 0, .slice none 0 0]) := by refine ⟨?_, ?_, ?_, ?_, ?_, ?_, ?_, ?_, ?_, ?_, ?_, ?_, ?_, ?_, ?_, ?_, ?_, ?_, ?_, ?_, ?_, ?_, ?_, ?_, ?_, ?_, ?_, ?_, ?_, ?_, ?_, ?_, ?_, ?_, ?_, ?_, ?_, ?_, ?_, ?_⟩ <;> kernel_rfl
theorem Tryz.ty2 : tak prog 52 = some true /\ tfo prog 52 0 = some 0 /\ tff prog 52 0 = some (0, 35) /\ tfo prog 52 1 = some 68 /\ tff prog 52 1 = some (68, 50) /\ tst prog 52 = true /\ tk prog 53 = .slice 5 /\ tsz prog 53 = 1 /\ tzr prog 53 = some (.slice none 0 0) /\ tak prog 53 = some false /\ tsz prog 54 = 1 /\ tzr prog 54 = some (.int .i64 0) /\ tak prog 54 = some false /\ tk prog 60 = .slice 68 /\ tsz prog 60 = 1 /\ tak prog 60 = some false /\ tk prog 61 = .slice 71 /\ tsz prog 61 = 1 /\ tby prog 61 = 24 /\ tzr prog 61 = some (.slice none 0 0) /\ tak prog 61 = some false /\ tsz prog 63 = 4 /\ tby prog 63 = 64 /\ tzr prog 63 = some (.agg #[.int .u32 0, .slice none 0 0, .slice none 0 0, .int .u32 0]) /\ tak prog 63 = some true /\ tfo prog 63 0 = some 0 /\ tff prog 63 0 = some (0, 30) /\ tfo prog 63 1 = some 1 /\ tff prog 63 1 = some (1, 60) /\ tfo prog 63 2 = some 2 /\ tff prog 63 2 = some (2, 61) /\ tfo prog 63 3 = some 3 /\ tff prog 63 3 = some (3, 30) /\ tst prog 63 = true /\ tsz prog 65 = 33 /\ tby prog 65 = 36 /\ tzr prog 65 = some (.agg #[.int .u8 0, .int .u8 0, .int .u8 0, .int .u8 0, .int .u8 0, .int .u8 0, .int .u8 0, .int .u8 0, .int .u8 0, .int .u8 0, .int .u8 0, .int .u8 0, .int .u8 0, .int .u8 0, .int .u8 0, .int .u8 0, .int .u8 0, .int .u8 0, .int .u8 0, .int .u8 0, .int .u8 0, .int .u8 0, .int .u8 0, .int .u8 0, .int .u8 0, .int .u8 0, .int .u8 0, .int .u8 0, .int .u8 0, .int .u8 0, .int .u8 0, .int .u8 0, .int .u32 0]) /\ tak prog 65 = some true /\ tfo prog 65 0 = some 0 /\ tff prog 65 0 = some (0, 33) := by refine ⟨?_, ?_, ?_, ?_, ?_, ?_, ?_, ?_, ?_, ?_, ?_, ?_, ?_, ?_, ?_, ?_, ?_, ?_, ?_, ?_, ?_, ?_, ?_, ?_, ?_, ?_, ?_, ?_, ?_, ?_, ?_, ?_, ?_, ?_, ?_, ?_, ?_, ?_, ?_, ?_⟩ <;> kernel_rfl
theorem Tryz.ty3 : tfo prog 65 1 = some 32 /\ tff prog 65 1 = some (32, 30) /\ tst prog 65 = true /\ tk prog 66 = .slice 53 /\ tsz prog 66 = 1 /\ tsz prog 68 = 36 /\ tby prog 68 = 96 /\ tzr prog 68 = some (.agg #[.int .u8 0, .int .u8 0, .int .u8 0, .int .u8 0, .int .u8 0, .int .u8 0, .int .u8 0, .int .u8 0, .int .u8 0, .int .u8 0, .int .u8 0, .int .u8 0, .int .u8 0, .int .u8 0, .int .u8 0, .int .u8 0, .int .u8 0, .int .u8 0, .int .u8 0, .int .u8 0, .int .u8 0, .int .u8 0, .int .u8 0, .int .u8 0, .int .u8 0, .int .u8 0, .int .u8 0, .int .u8 0, .int .u8 0, .int .u8 0, .int .u8 0, .int .u8 0, .int .u32 0, .slice none 0 0, .int .u32 0, .slice none 0 0]) /\ tfo prog 68 0 = some 0 /\ tff prog 68 0 = some (0, 65) /\ tfo prog 68 1 = some 33 /\ tff prog 68 1 = some (33, 53) /\ tfo prog 68 2 = some 34 /\ tff prog 68 2 = some (34, 30) /\ tfo prog 68 3 = some 35 /\ tff prog 68 3 = some (35, 66) /\ tst prog 68 = true /\ tk prog 69 = .int .u64 /\ tsz prog 69 = 1 /\ tby prog 69 = 8 /\ tzr prog 69 = some (.int .u64 0) /\ tak prog 69 = some false /\ tsz prog 71 = 2 /\ tby prog 71 = 32 /\ tzr prog 71 = some (.agg #[.int .u64 0, .slice none 0 0]) /\ tak prog 71 = some true /\ tfo prog 71 0 = some 0 /\ tff prog 71 0 = some (0, 69) /\ tfo prog 71 1 = some 1 /\ tff prog 71 1 = some (1, 53) /\ tst prog 71 = true /\ tk prog 77 = .slice 118 /\ tsz prog 77 = 1 /\ tak prog 77 = some false /\ tsz prog 79 = 3 /\ tfo prog 79 0 = some 0 /\ tfo prog 79 1 = some 1 /\ tfo prog 79 2 = some 2 /\ tk prog 80 = .map 33 83 /\ tsz prog 80 = 1 := by refine ⟨?_, ?_, ?_, ?_, ?_, ?_, ?_, ?_, ?_, ?_, ?_, ?_, ?_, ?_, ?_, ?_, ?_, ?_, ?_, ?_, ?_, ?_, ?_, ?_, ?_, ?_, ?_, ?_, ?_, ?_, ?_, ?_, ?_, ?_, ?_, ?_, ?_, ?_, ?_, ?_⟩ <;> kernel_rfl
theorem Tryz.ty4 : tzr prog 80 = some (.map none) /\ tak prog 80 = some false /\ tk prog 83 = .slice 61 /\ tzr prog 83 = some (.slice none 0 0) /\ tk prog 96 = .slice 69 /\ tsz prog 96 = 1 /\ tzr prog 96 = some (.slice none 0 0) /\ tak prog 96 = some false /\ tzr prog 102 = some (.agg #[.slice none 0 0, .int .i64 0]) /\ tfo prog 102 0 = some 0 /\ tff prog 102 0 = some (0, 53) /\ tfo prog 102 1 = some 1 /\ tst prog 102 = true /\ tk prog 103 = .int .u64 /\ tk prog 112 = .slice 65 /\ tsz prog 118 = 5 /\ tfo prog 118 0 = some 0 /\ tfo prog 118 1 = some 1 /\ tfo prog 118 2 = some 2 /\ tfo prog 118 3 = some 3 /\ tfo prog 118 4 = some 4 /\ tk prog 119 = .slice 35 /\ tk prog 124 = .array 8 30 /\ tsz prog 124 = 8 /\ tzr prog 124 = some (.agg #[.int .u32 0, .int .u32 0, .int .u32 0, .int .u32 0, .int .u32 0, .int .u32 0, .int .u32 0, .int .u32 0]) /\ tak prog 124 = some true /\ tst prog 124 = false /\ tk prog 125 = .array 64 5 /\ tsz prog 127 = 74 /\ tzr prog 127 = some (.agg #[.bool false, .int .u32 0, .int .u32 0, .int .u32 0, .int .u32 0, .int .u32 0, .int .u32 0, .int .u32 0, .int .u32 0, .int .u8 0, .int .u8 0, .int .u8 0, .int .u8 0, .int .u8 0, .int .u8 0, .int .u8 0, .int .u8 0, .int .u8 0, .int .u8 0, .int .u8 0, .int .u8 0, .int .u8 0, .int .u8 0, .int .u8 0, .int .u8 0, .int .u8 0, .int .u8 0, .int .u8 0, .int .u8 0, .int .u8 0, .int .u8 0, .int .u8 0, .int .u8 0, .int .u8 0, .int .u8 0, .int .u8 0, .int .u8 0, .int .u8 0, .int .u8 0, .int .u8 0, .int .u8 0, .int .u8 0, .int .u8 0, .int .u8 0, .int .u8 0, .int .u8 0, .int .u8 0, .int .u8 0, .int .u8 0, .int .u8 0, .int .u8 0, .int .u8 0, .int .u8 0, .int .u8 0, .int .u8 0, .int .u8 0, .int .u8 0, .int .u8 0, .int .u8 0, .int .u8 0, .int .u8 0, .int .u8 0, .int .u8 0, .int .u8 0, .int .u8 0, .int .u8 0, .int .u8 0, .int .u8 0, .int .u8 0, .int .u8 0, .int .u8 0, .int .u8 0, .int .u8 0, .int .u64 0]) /\ tak prog 127 = some true /\ tfo prog 127 0 = some 0 /\ tff prog 127 0 = some (0, 4) /\ tfo prog 127 1 = some 1 /\ tff prog 127 1 = some (1, 124) /\ tfo prog 127 2 = some 9 /\ tfo prog 127 3 = some 73 /\ tst prog 127 = true /\ tk prog 132 = .map 33 3 /\ tk prog 133 = .slice 30 := by refine ⟨?_, ?_, ?_, ?_, ?_, ?_, ?_, ?_, ?_, ?_, ?_, ?_, ?_, ?_, ?_, ?_, ?_, ?_, ?_, ?_, ?_, ?_, ?_, ?_, ?_, ?_, ?_, ?_, ?_, ?_, ?_, ?_, ?_, ?_, ?_, ?_, ?_, ?_, ?_, ?_⟩ <;> kernel_rfl
theorem Tryz.ty5 : tk prog 163 = .slice 166 /\ tsz prog 166 = 38 /\ tby prog 166 = 112 /\ tzr prog 166 = some (.agg #[.int .i64 0, .int .i64 0, .int .u8 0, .int .u8 0, .int .u8 0, .int .u8 0, .int .u8 0, .int .u8 0, .int .u8 0, .int .u8 0, .int .u8 0, .int .u8 0, .int .u8 0, .int .u8 0, .int .u8 0, .int .u8 0, .int .u8 0, .int .u8 0, .int .u8 0, .int .u8 0, .int .u8 0, .int .u8 0, .int .u8 0, .int .u8 0, .int .u8 0, .int .u8 0, .int .u8 0, .int .u8 0, .int .u8 0, .int .u8 0, .int .u8 0, .int .u8 0, .int .u8 0, .int .u8 0, .int .u32 0, .slice none 0 0, .slice none 0 0, .int .u32 0]) /\ tff prog 166 0 = some (0, 3) /\ tff prog 166 1 = some (1, 3) /\ tfo prog 166 2 = some 2 /\ tff prog 166 2 = some (2, 33) /\ tfo prog 166 3 = some 34 /\ tff prog 166 3 = some (34, 63) /\ tst prog 166 = true /\ tk prog 170 = .array 4 69 /\ tsz prog 170 = 4 /\ tzr prog 170 = some (.agg #[.int .u64 0, .int .u64 0, .int .u64 0, .int .u64 0]) /\ tak prog 170 = some true /\ tst prog 170 = false /\ tk prog 177 = .array 8 5 /\ tzr prog 177 = some (.agg #[.int .u8 0, .int .u8 0, .int .u8 0, .int .u8 0, .int .u8 0, .int .u8 0, .int .u8 0, .int .u8 0]) /\ tzr prog 180 = some (.agg #[.slice none 0 0]) /\ tfo prog 180 0 = some 0 /\ tst prog 180 = true /\ tk prog 196 = .array 64 30 /\ tsz prog 196 = 64 /\ tzr prog 196 = some (.agg #[.int .u32 0, .int .u32 0, .int .u32 0, .int .u32 0, .int .u32 0, .int .u32 0, .int .u32 0, .int .u32 0, .int .u32 0, .int .u32 0, .int .u32 0, .int .u32 0, .int .u32 0, .int .u32 0, .int .u32 0, .int .u32 0, .int .u32 0, .int .u32 0, .int .u32 0, .int .u32 0, .int .u32 0, .int .u32 0, .int .u32 0, .int .u32 0, .int .u32 0, .int .u32 0, .int .u32 0, .int .u32 0, .int .u32 0, .int .u32 0, .int .u32 0, .int .u32 0, .int .u32 0, .int .u32 0, .int .u32 0, .int .u32 0, .int .u32 0, .int .u32 0, .int .u32 0, .int .u32 0, .int .u32 0, .int .u32 0, .int .u32 0, .int .u32 0, .int .u32 0, .int .u32 0, .int .u32 0, .int .u32 0, .int .u32 0, .int .u32 0, .int .u32 0, .int .u32 0, .int .u32 0, .int .u32 0, .int .u32 0, .int .u32 0, .int .u32 0, .int .u32 0, .int .u32 0, .int .u32 0, .int .u32 0, .int .u32 0, .int .u32 0, .int .u32 0]) /\ tak prog 196 = some true /\ tsz prog 213 = 33 /\ tzr prog 213 = some (.agg #[.int .i64 0, .int .u8 0, .int .u8 0, .int .u8 0, .int .u8 0, .int .u8 0, .int .u8 0, .int .u8 0, .int .u8 0, .int .u8 0, .int .u8 0, .int .u8 0, .int .u8 0, .int .u8 0, .int .u8 0, .int .u8 0, .int .u8 0, .int .u8 0, .int .u8 0, .int .u8 0, .int .u8 0, .int .u8 0, .int .u8 0, .int .u8 0, .int .u8 0, .int .u8 0, .int .u8 0, .int .u8 0, .int .u8 0, .int .u8 0, .int .u8 0, .int .u8 0, .int .u8 0]) /\ tfo prog 213 0 = some 0 /\ tfo prog 213 1 = some 1 /\ tk prog 219 = .slice 3 := by refine ⟨?_, ?_, ?_, ?_, ?_, ?_, ?_, ?_, ?_, ?_, ?_, ?_, ?_, ?_, ?_, ?_, ?_, ?_, ?_, ?_, ?_, ?_, ?_, ?_, ?_, ?_, ?_, ?_, ?_, ?_⟩ <;> kernel_rfl
abbrev ty := And.intro Tryz.ty0 (And.intro Tryz.ty1 (And.intro Tryz.ty2 (And.intro Tryz.ty3 (And.intro Tryz.ty4 Tryz.ty5))))
theorem Tryz.en : entered prog 5 = true /\ entered prog 6 = true /\ entered prog 7 = true /\ entered prog 8 = true /\ entered prog 9 = true /\ entered prog 10 = true /\ entered prog 11 = true /\ entered prog 12 = true /\ entered prog 15 = true /\ entered prog 16 = true /\ entered prog 17 = true /\ entered prog 18 = true /\ entered prog 19 = true /\ entered prog 20 = true /\ entered prog 21 = true /\ entered prog 22 = true /\ entered prog 23 = true /\ entered prog 24 = true /\ entered prog 25 = true /\ entered prog 26 = true /\ entered prog 27 = true /\ entered prog 28 = true /\ entered prog 32 = true /\ entered prog 33 = true /\ entered prog 34 = true /\ entered prog 35 = true /\ entered prog 36 = true /\ entered prog 37 = true /\ entered prog 38 = true /\ entered prog 39 = true /\ entered prog 40 = true /\ entered prog 41 = true /\ entered prog 42 = true /\ entered prog 43 = true /\ entered prog 44 = true /\ entered prog 45 = true /\ entered prog 46 = true /\ entered prog 47 = true /\ entered prog 48 = true /\ entered prog 49 = true /\ entered prog 50 = true /\ entered prog 51 = true /\ entered prog 52 = true /\ entered prog 53 = true /\ entered prog 54 = true /\ entered prog 55 = true /\ entered prog 56 = true /\ entered prog 57 = true /\ entered prog 60 = true /\ entered prog 62 = true /\ entered prog 63 = true /\ entered prog 64 = true /\ entered prog 65 = true /\ entered prog 66 = true /\ entered prog 67 = true /\ entered prog 68 = true /\ entered prog 69 = true /\ entered prog 70 = true /\ entered prog 71 = true /\ entered prog 72 = true /\ entered prog 73 = true /\ entered prog 74 = true /\ entered prog 75 = true /\ entered prog 76 = true /\ entered prog 77 = true /\ entered prog 78 = true /\ entered prog 79 = true /\ entered prog 80 = true /\ entered prog 81 = true /\ entered prog 82 = true /\ entered prog 84 = true /\ entered prog 85 = true /\ entered prog 86 = true /\ entered prog 87 = true /\ entered prog 88 = true /\ entered prog 89 = true /\ entered prog 90 = true /\ entered prog 91 = true /\ entered prog 92 = true /\ entered prog 93 = true /\ entered prog 94 = true /\ entered prog 95 = true /\ entered prog 96 = true /\ entered prog 97 = true /\ entered prog 98 = true /\ entered prog 99 = true /\ entered prog 100 = true /\ entered prog 101 = true /\ entered prog 102 = true /\ entered prog 103 = true /\ entered prog 112 = true /\ entered prog 113 = true /\ entered prog 114 = true /\ entered prog 115 = true /\ entered prog 116 = true /\ entered prog 117 = true /\ entered prog 118 = true /\ entered prog 119 = true /\ entered prog 120 = true /\ entered prog 121 = true /\ entered prog 122 = true /\ entered prog 128 = true := by refine ⟨?_, ?_, ?_, ?_, ?_, ?_, ?_, ?_, ?_, ?_, ?_, ?_, ?_, ?_, ?_, ?_, ?_, ?_, ?_, ?_, ?_, ?_, ?_, ?_, ?_, ?_, ?_, ?_, ?_, ?_, ?_, ?_, ?_, ?_, ?_, ?_, ?_, ?_, ?_, ?_, ?_, ?_, ?_, ?_, ?_, ?_, ?_, ?_, ?_, ?_, ?_, ?_, ?_, ?_, ?_, ?_, ?_, ?_, ?_, ?_, ?_, ?_, ?_, ?_, ?_, ?_, ?_, ?_, ?_, ?_, ?_, ?_, ?_, ?_, ?_, ?_, ?_, ?_, ?_, ?_, ?_, ?_, ?_, ?_, ?_, ?_, ?_, ?_, ?_, ?_, ?_, ?_, ?_, ?_, ?_, ?_, ?_, ?_, ?_, ?_, ?_, ?_⟩ <;> kernel_rfl
theorem Tryz.mixed : prog.follows .mixedOrders = true := by kernel_rfl
end Go.Proofs.YtmcbdlefakjpoaaGreatDoor
namespace Go.Proofs.YtmcbdlefakjpoaaGreatDoor
open Go.E Go.Proofs.YtmcbdlefakjpoaaGreatDoor.Tryz Go.Proofs.Tryz
def tbl : List UInt32 := [1116352408, 1899447441, 3049323471, 3921009573, 961987163, 1508970993, 2453635748, 2870763221, 3624381080, 310598401, 607225278, 1426881987, 1925078388, 2162078206, 2614888103, 3248222580, 3835390401, 4022224774, 264347078, 604807628, 770255983, 1249150122, 1555081692, 1996064986, 2554220882, 2821834349, 2952996808, 3210313671, 3336571891, 3584528711, 113926993, 338241895, 666307205, 773529912, 1294757372, 1396182291, 1695183700, 1986661051, 2177026350, 2456956037, 2730485921, 2820302411, 3259730800, 3345764771, 3516065817, 3600352804, 4094571909, 275423344, 430227734, 506948616, 659060556, 883997877, 958139571, 1322822218, 1537002063, 1747873779, 1955562222, 2024104815, 2227730452, 2361852424, 2428436474, 2756734187, 3204031479, 3329325298]
theorem tbl_len : tbl.length = 64 := rfl
noncomputable def Tryz.G : Nat -> AV := fun g => if g = 0 then .vp (tbl.map w32) 0 else .p (.pointer (some ⟨g, 0, none⟩))
theorem G0 : G 0 = .vp (tbl.map w32) 0 := rfl
def rotr (x : UInt32) (k : Nat) : UInt32 := u32_shr x k ||| u32_shl x (32 - k)
theorem rot_num : ∀ k : Nat, k < 32 -> 0 < k -> (UInt64.ofInt (IntKind.i64.wrap (0 - (k : Int))) &&& UInt64.ofInt 31).toNat = 32 - k /\ (UInt64.ofInt 32 - (UInt64.ofInt (IntKind.i64.wrap (0 - (k : Int))) &&& UInt64.ofInt 31)).toNat = k /\ (UInt64.ofInt 32 - UInt64.ofInt (k : Int)).toNat = 32 - k := by decide +kernel
theorem rot_ok {T : Tbl} {x : UInt32} {k : Int} : CallA prog G 122 [.p (.int .u32 (x.toNat : Int)), .p (.int .i64 k)] T fun v T' es => v = .p (.int .u32 ((u32_shl x (UInt64.ofInt k &&& UInt64.ofInt 31).toNat ||| u32_shr x (UInt64.ofInt 32 - (UInt64.ofInt k &&& UInt64.ofInt 31)).toNat).toNat : Int)) /\ T' = T /\ es = [] := by
 refine CallA.eV 6 func122 ntmps122 results122 ?_
 simp -dsimp +decide only [vp0, vu, ty, ↓reduceIte, Nat.reduceSub, Nat.reduceAdd]
 exact Vw.done ⟨rfl, rfl, rfl⟩
theorem right_ok {T : Tbl} {x : UInt32} (k : Nat) (h0 : 0 < k) (h1 : k < 32) : CallA prog G 100 [.p (.int .u32 (x.toNat : Int)), .p (.int .i64 (k : Int))] T fun v T' es => v = .p (.int .u32 ((rotr x k).toNat : Int)) /\ T' = T /\ es = [] := by
 refine CallA.eV 5 func100 ntmps100 results100 ?_
 simp -dsimp +decide only [vp0, en, ↓reduceIte, Nat.reduceSub, Nat.reduceAdd]
 refine rot_ok.mono ?_
 rintro v T' es ⟨rfl, rfl, rfl⟩
 simp -dsimp +decide only [va, ↓reduceIte]
 refine Vw.done ⟨?_, rfl, rfl⟩
 obtain ⟨e1, e2, _⟩ := rot_num k h1 h0
 rw [e1, e2, rotr, UInt32.or_comm]
theorem rright_ok {T : Tbl} {x : UInt32} (k : Nat) (h0 : 0 < k) (h1 : k < 32) : CallA prog G 56 [.p (.int .u32 (x.toNat : Int)), .p (.int .u64 (k : Int))] T fun v T' es => v = .p (.int .u32 ((rotr x k).toNat : Int)) /\ T' = T /\ es = [] := by
 refine CallA.eV 5 func56 ntmps56 results56 ?_
 simp -dsimp +decide only [vp0, vu, ↓reduceIte, Nat.reduceSub, Nat.reduceAdd]
 refine ⟨by omega, Vw.done ⟨?_, rfl, rfl⟩⟩
 rw [(rot_num k h1 h0).2.2, rotr]
def sg0 (x : UInt32) : UInt32 := rotr x 7 ^^^ rotr x 18 ^^^ u32_shr x 3
def sg1 (x : UInt32) : UInt32 := rotr x 17 ^^^ rotr x 19 ^^^ u32_shr x 10
def be32 (p : List UInt8) (t : Nat) : Nat -> UInt32
 | 0 => 0
 | j + 1 => u32_shl (be32 p t j) 8 ||| (p[4 * t + j]!).toUInt32
def nextW (p : List UInt8) (l : List UInt32) : UInt32 := if l.length < 16 then be32 p l.length 4 else l[l.length - 16]! + l[l.length - 7]! + (sg0 l[l.length - 15]!) + (sg1 l[l.length - 2]!)
def sch (p : List UInt8) : Nat -> List UInt32
 | 0 => []
 | t + 1 => sch p t ++ [nextW p (sch p t)]
theorem sch_len (p : List UInt8) : ∀ t, (sch p t).length = t
 | 0 => rfl
 | t + 1 => by rw [sch, List.length_append, sch_len p t]; rfl
theorem at_mid (p : List UInt8) (t : Nat) (x : UInt32) (r : List UInt32) : (sch p t ++ x :: r)[t]? = some x := by simp [sch_len]
theorem at_pre (p : List UInt8) (t : Nat) (r : List UInt32) (k : Nat) (h : k < t) : (sch p t ++ r)[k]? = some (sch p t)[k]! := by
 rw [List.getElem?_append_left (by rw [sch_len]; exact h), getElem!_pos _ _ (by rw [sch_len]; exact h), List.getElem?_eq_getElem]
theorem set_mid (p : List UInt8) (t : Nat) (x y : UInt32) (r : List UInt32) : (sch p t ++ x :: r).set t y = sch p t ++ y :: r := by rw [List.set_append]; simp [sch_len]
theorem schedule_ok {T : Tbl} {i off : Nat} {E : TypeId} {cs : List AV} {p : List UInt8} (hT : T[i]? = some (.cells E cs)) (hp : p.length = 64) (hc : ∀ k, k < 64 -> cs[off + k]? = some (by8 p[k]!)) :
 CallA prog G 99 [.ptr i off] T fun v T' es => v = .ag ((sch p 64).map w32) /\ T' = T /\ es = [] := by
 have hT' := get_old hT
 have hne : cs ≠ [] := by rintro rfl; simpa using hc 0
 refine CallA.eV 23 func99 ntmps99 results99 ?_
 simp -dsimp +decide only [vp0, ty, ↓reduceIte, Nat.reduceSub]
 refine SemA.loopL (fun t : Nat => [(0, .ptr i off), (2, .ptr T.length 0), (8, .p (.int .i64 t))]) (fun t => T ++ [.cells 196 ((sch p t ++ List.replicate (64 - t) 0).map w32)]) (fun t => t <= 64) (fun t => 64 - t) 0 [] (by kernel_rfl) (by omega) (by (simp -dsimp +decide only [vp0, Nat.reduceAdd, ci])) rfl (by simp) ?_
 rintro t g ht
 simp -dsimp +decide only [vp0, ↓reduceIte, Nat.reduceAdd]
 refine CondP.dec (fun h => ?_) (fun h => ?_)
 . simp -dsimp +decide only [vp0, ↓reduceIte]
   refine CondP.dec (fun h1 => ?_) (fun h1 => ?_)
   . simp -dsimp +decide (disch := omega) only [vp0, ty, ↓reduceIte, Int.reduceToNat, vi, hT']
     rw [show 4 * t + 4 - 4 * t = 4 by omega]
     refine ⟨by omega, by omega, by omega, ?_⟩
     refine SemA.loopL (fun j : Nat => [(0, .ptr i off), (2, .ptr T.length 0), (3, .p (.int .i64 t)), (8, .p (.int .i64 t)), (20, .sl i (off + 4 * t) 4), (21, .p (.int .i64 4)), (22, .p (.int .i64 j))]) (fun j => T ++ [.cells 196 ((sch p t ++ be32 p t j :: List.replicate (63 - t) 0).map w32)]) (fun j => j <= 4) (fun j => 4 - j) 0 [] (by kernel_rfl) (by omega) (by (simp -dsimp +decide only [vp0, Nat.reduceAdd, ci])) ?_ (by simp) ?_
     . rw [show 64 - t = (63 - t) + 1 by omega]; rfl
     rintro j g ht
     simp -dsimp +decide only [vp0, ↓reduceIte, Nat.reduceAdd]
     refine CondP.dec (fun h => ?_) (fun h => ?_)
     . simp -dsimp +decide (disch := omega) only [vr, ty, ↓reduceIte, Nat.reduceAdd, Nat.reduceLT, Int.reduceToNat, ci, vi, hT', hc (4 * t + j) (by omega), at_mid p t, set_mid p t]
       refine ⟨⟨by omega, by omega, hne⟩, ⟨by omega, by omega⟩, ⟨by omega, by omega⟩, by simp [sch_len], j + 1, by omega, by omega, rfl, rfl⟩
     . have hj : j = 4 := by omega
       subst hj
       simp -dsimp +decide (disch := omega) only [vp0, ↓reduceIte, Nat.reduceAdd, ci, vi]
       refine ⟨t + 1, by omega, by omega, rfl, ?_⟩
       rw [sch, nextW, sch_len, if_pos (by omega), show 64 - (t + 1) = 63 - t by omega, List.append_assoc]; rfl
   . rw [show 64 - t = (63 - t) + 1 by omega, List.replicate_succ]
     simp -dsimp +decide only [va]
     refine SemA.draw (fun _ => true) [(0, true), (1, true), (2, true), (3, true), (4, true), (5, true), (6, true), (7, true), (8, true), (9, true)] mixed (by kernel_rfl) ?_
     simp -dsimp +decide (disch := omega) only [vq, ty, ↓reduceIte, Int.reduceToNat, ci, vi, at_pre]
     refine ⟨by omega, by omega, ?_⟩
     refine SemA.draw (fun _ => true) [(0, true), (1, true), (2, true), (3, true), (4, true), (5, true), (6, true), (7, true), (8, true), (9, true), (10, true), (12, true), (15, true), (16, true), (19, true), (21, true), (24, true), (25, true), (11, false), (13, false), (14, true), (17, true), (18, true), (20, false), (22, false), (23, true), (26, true), (27, true), (28, true), (29, false)] mixed (by kernel_rfl) ?_
     simp -dsimp +decide (disch := omega) only [vr, ty, en, ↓reduceIte, Int.reduceToNat, ci, vi, at_pre]
     refine ⟨by omega, by omega, ?_⟩
     refine (right_ok 7 (by omega) (by omega)).det ?_
     simp -dsimp +decide (disch := omega) only [vp0, en, ↓reduceIte]
     refine (right_ok 18 (by omega) (by omega)).det ?_
     simp -dsimp +decide (disch := omega) only [vp0, vu, en, ↓reduceIte]
     refine (right_ok 17 (by omega) (by omega)).det ?_
     simp -dsimp +decide (disch := omega) only [vp0, en, ↓reduceIte]
     refine (right_ok 19 (by omega) (by omega)).det ?_
     simp -dsimp +decide (disch := omega) only [vr, ty, ↓reduceIte, Nat.reduceAdd, Nat.reduceLT, ci, vi, set_mid p t]
     refine ⟨by omega, by simp [sch_len], t + 1, by omega, by omega, rfl, ?_⟩
     rw [sch, nextW, sch_len, if_neg (by omega), show 64 - (t + 1) = 63 - t by omega, List.append_assoc]; rfl
 . have ht : t = 64 := by omega
   subst ht
   simp -dsimp +decide only [vq, ty, ↓reduceIte, Nat.reduceSub, ci]
   rw [wrA_eq (by simp [sch_len])]
   refine ⟨by simp [sch_len], ⟨by simp [sch_len], by simp [sch_len], by simp [sch_len]⟩, by simp [sch_len], Vw.cut ⟨?_, rfl, rfl⟩⟩
   simp [sch_len]
   rw [List.take_of_length_le (by simp [sch_len])]
   simp -dsimp +decide only [va, vl]
theorem n64 : (∀ a : Nat, (a : Int).tmod 64 = ((a % 64 : Nat) : Int)) /\ (∀ a : Nat, (a : Int).tdiv 64 = ((a / 64 : Nat) : Int)) := ⟨fun _ => rfl, fun _ => rfl⟩
theorem ofInt_lt {n : Nat} (h : n < 18446744073709551616) : (UInt64.ofInt (n : Int)).toNat = n := by
 rw [UInt64.ofInt]; simp; omega
def bitI (x : Nat) (i : Int) : Nat := if 0 <= i /\ i < 256 then bitN x i.toNat else 0
theorem bitI_nat (x i : Nat) (h : i < 256) : bitI x (i : Int) = bitN x i := by rw [bitI, if_pos (by omega), Int.toNat_natCast]
theorem bit02_ok {T : Tbl} {x : Nat} {i : Int} : CallA prog G 120 [.ag (Bg x), wint i] T fun v T' es => v = wint (bitI x i : Int) /\ T' = T /\ es = [] := by
 refine CallA.wfs fun wf => ?_
 refine CallA.eV 5 func120 ntmps120 results120 ?_
 simp -dsimp +decide only [vq, ↓reduceIte, Nat.reduceSub, Nat.reduceAdd]
 by_cases h1 : i < 0
 . have e : bitI x i = 0 := by rw [bitI, if_neg (by omega)]
   rw [e]
   simp -dsimp +decide (disch := omega) only [vp0, ↓reduceIte, h1]
   exact Vw.cut ⟨rfl, rfl, rfl⟩
 by_cases h2 : i < 256
 . obtain ⟨k, rfl⟩ : ∃ k : Nat, i = k := ⟨i.toNat, by omega⟩
   have hk : k < 256 := by omega
   rw [bitI_nat x k hk]
   have hg := Bg_get x (j := k / 64) (by omega)
   have h3 : ((256 : Int) <= (k : Int)) = False := by simp; omega
   simp -dsimp +decide (disch := omega) only [vp0, vu, ty, ↓reduceIte, ci, vi, h1, h3, n64, hg]
   refine ⟨⟨by omega, by omega⟩, ?_⟩
   have hb := bitN_lt x k
   rw [show (UInt64.ofInt ((k % 64 : Nat) : Int)).toNat = k % 64 from ofInt_lt (by omega), show UInt64.ofInt 1 = 1 from rfl, limb_bitN x k hk]
   simp -dsimp +decide (disch := omega) only [vi]
   exact Vw.cut ⟨rfl, rfl, rfl⟩
 . have e : bitI x i = 0 := by rw [bitI, if_neg (by omega)]
   rw [e]
   have h3 : ((256 : Int) <= i) = True := by simp; omega
   simp -dsimp +decide (disch := omega) only [vp0, ↓reduceIte, h1, h3]
   exact Vw.cut ⟨rfl, rfl, rfl⟩
theorem from02_ok {T : Tbl} {a : AV} {l : List Int} (hb : Sl T 1 a (l.map wint) l.length) (hl : l.length <= 1000000) : CallA prog G 121 [a] T fun v T' es => v = .ag (Bg (fromZ (l.take 256))) /\ T' = T /\ es = [] := by
 have hr := Sl.rules hb (by decide)
 have hld := Sl.loads hb (P := prog) (t := 3) (by (simp -dsimp +decide only []))
 refine CallA.wfs fun wf => ?_
 refine CallA.eV 5 func121 ntmps121 results121 ?_
 simp -dsimp +decide only [vp0, ty, ↓reduceIte, Nat.reduceSub]
 refine SemA.loopE (fun k : Nat => [(0, a), (2, .ptr T.length 0), (3, .ptr (T.length + 1) 0), (4, wint (k : Int))]) (fun k => T ++ [.cells 170 (Bg 0), .cells 170 (Bg (fromZ (l.take k)))]) (fun k => k <= l.length /\ k <= 256) (fun k => l.length - k) 0 [] 0 (fun _ : Unit => [(2, .ptr T.length 0), (3, .ptr (T.length + 1) 0)]) (fun _ => T ++ [.cells 170 (Bg 0), .cells 170 (Bg (fromZ (l.take 256)))]) (fun _ => True) ⟨by omega, by omega⟩ (by (simp -dsimp +decide (disch := omega) only [vq, Nat.reduceAdd, ci]); first | rfl | done) (by rw [List.take_zero]; rfl) (by simp) ?_ ?_
 . rintro k g ⟨hk, hk2⟩
   refine SemA.o ?_
   simp -dsimp +decide (disch := omega) only [vq, ty, ↓reduceIte, Nat.reduceAdd, hr]
   by_cases h1 : ((k : Int) < (l.length : Int))
   . by_cases h2 : ((k : Int) < 256)
     . obtain ⟨z, hz⟩ : ∃ z, l[k]? = some z := ⟨l[k]'(by omega), by simp⟩
       have hzg : (l.map wint)[k]? = some (wint z) := by rw [List.getElem?_map, hz]; rfl
       have hg := Bg_get (fromZ (l.take k)) (j := k / 64) (by omega)
       have hlt := fromZ_lt (l.take k)
       rw [List.length_take, Nat.min_eq_left hk] at hlt
       have hnx : fromZ (l.take (k + 1)) = fromZ (l.take k) + if z = 1 then 2 ^ k else 0 := by
        rw [List.take_add_one, hz]
        have := fromZ_snoc (l.take k) z
        rw [List.length_take, Nat.min_eq_left hk] at this
        exact this
       by_cases hz1 : z = 1
       . rw [if_pos hz1] at hnx
         have hor : fromZ (l.take k) ||| 2 ^ k = fromZ (l.take (k + 1)) := by
          rw [hnx, Nat.or_comm, <- Nat.mul_one (2 ^ k), <- Nat.two_pow_add_eq_or_of_lt hlt, Nat.mul_one, Nat.add_comm]
         simp -dsimp +decide (disch := omega) only [vz, vze, vr, ty, ↓reduceIte, Nat.reduceAdd, Nat.reduceLT, ci, vi, hr, hld, h1, h2, hzg, hz1, n64, hg]
         repeat (refine And.intro (by first | omega | exact ⟨by omega, by omega⟩ | (rw [Bg_len]; omega)) ?_)
         rw [show (UInt64.ofInt ((k % 64 : Nat) : Int)).toNat = k % 64 from ofInt_lt (by omega), show UInt64.ofInt 1 = 1 from rfl, Bg_or (by omega), hor]
         exact ⟨k + 1, ⟨⟨by omega, by omega⟩, by omega⟩, rfl, rfl⟩
       . simp only [if_neg hz1, Nat.add_zero] at hnx
         simp -dsimp +decide (disch := omega) only [vz, vze, vq, ty, ↓reduceIte, Nat.reduceAdd, vi, hr, hld, h1, h2, hzg, hz1]
         repeat (refine And.intro (by first | omega | exact ⟨by omega, by omega⟩) ?_)
         exact ⟨k + 1, ⟨⟨by omega, by omega⟩, by omega⟩, rfl, by rw [hnx]⟩
     . have e : l.take 256 = l.take k := by rw [show k = 256 by omega]
       rw [e]
       simp -dsimp +decide (disch := omega) only [vz, vze, vp0, ↓reduceIte, Nat.reduceAdd, h1, h2]
       exact ⟨(), trivial⟩
   . have e : l.take 256 = l.take k := by rw [List.take_of_length_le (by omega), List.take_of_length_le (by omega)]
     rw [e]
     simp -dsimp +decide (disch := omega) only [vz, vze, vp0, ↓reduceIte, Nat.reduceAdd, h1]
     exact ⟨(), trivial⟩
 . rintro _ g tmp -
   simp -dsimp +decide (disch := omega) only [vp0, ty, ↓reduceIte, Nat.reduceAdd, Bg_len]
   obtain ⟨o, ho⟩ : ∃ o, o = fromZ (l.take 256) := ⟨_, rfl⟩
   rw [<- ho, show List.take 4 (Bg o) = Bg o from rfl, wrA_all (by rw [Bg_len, Bg_len]), show List.take 4 (Bg o) = Bg o from rfl]
   refine ⟨⟨rfl, by rw [Bg_len]; decide, Nat.le_refl _, rfl⟩, Nat.le_refl _, ?_⟩
   exact Vw.cut ⟨by rw [AV.wo, AV.woL_eq, Bg_wo], rfl, rfl⟩
end Go.Proofs.YtmcbdlefakjpoaaGreatDoor
namespace Go.E
section
variable {P : Program} {t : TypeId}
theorem bytes_beq (a b : ByteArray) : (a.toList == b.toList) = decide (a = b) := by
 rw [ByteArray.toList_eq, ByteArray.toList_eq, Bool.eq_iff_iff, beq_iff_eq, decide_eq_true_iff]
 exact ⟨fun h => WideShapes.bytes_inj h, fun h => by rw [h]⟩
theorem str_eql (a b : ByteArray) (xo yo : Operand) (K : AV -> Prop) :
 pureK P K (do eqGuard .eql t xo yo (.string a) (.string b); binOp .eql t (.string a) (.string b)) = K (.p (.bool (decide (a = b)))) :=
 pureK_det fun w => by simp [eqGuard, binOp, Op.stringOp, bytes_beq]
theorem str_neq (a b : ByteArray) (xo yo : Operand) (K : AV -> Prop) :
 pureK P K (do eqGuard .neq t xo yo (.string a) (.string b); binOp .neq t (.string a) (.string b)) = K (.p (.bool (!decide (a = b)))) :=
 pureK_det fun w => by simp [eqGuard, binOp, Op.stringOp, bytes_beq]
end
theorem str_inj (l m : List UInt8) : ((⟨l.toArray⟩ : ByteArray) = ⟨m.toArray⟩) = (l = m) := by
 refine propext ⟨fun h => ?_, fun h => by rw [h]⟩
 have := congrArg ByteArray.data h
 simpa using this
theorem vstr (P : Program) :
 (∀ (t : TypeId) (a b : ByteArray) (xo yo : Operand) (K : AV -> Prop), pureK P K (do eqGuard .eql t xo yo (.string a) (.string b); binOp .eql t (.string a) (.string b)) = K (.p (.bool (decide (a = b))))) /\
 (∀ (t : TypeId) (a b : ByteArray) (xo yo : Operand) (K : AV -> Prop), pureK P K (do eqGuard .neq t xo yo (.string a) (.string b); binOp .neq t (.string a) (.string b)) = K (.p (.bool (!decide (a = b))))) /\
 (∀ l m : List UInt8, ((⟨l.toArray⟩ : ByteArray) = ⟨m.toArray⟩) = (l = m)) :=
 ⟨fun _ a b xo yo K => str_eql a b xo yo K, fun _ a b xo yo K => str_neq a b xo yo K, str_inj⟩
theorem callA_args {P : Program} {G : Nat -> AV} {f : FuncId} {args args' : List AV} {T : Tbl} {K : AV -> Tbl -> Eff -> Prop} (h : ∀ (Z : Heap) (ρ : List BI) (vs : List Value), RelL Z ρ args vs -> RelL Z ρ args' vs) (hc : CallA P G f args' T K) : CallA P G f args T K :=
 fun Z ρ w vs hG hs ha => hc Z ρ w vs hG hs (h Z ρ vs ha)
theorem rel_nil {Z : Heap} {ρ : List BI} {v : Value} (h : Rel Z ρ (.p (.slice none 0 0)) v) : Rel Z ρ (.vs [] 0) v := by
 rw [h.p_inv]; exact .vs0 (.inl rfl) (Nat.le_refl _)
theorem CallA.andThen {P : Program} {G : Nat -> AV} {f : FuncId} {args : List AV} {T : Tbl} {K K' : AV -> Tbl -> Eff -> Prop} (h : CallA P G f args T K') (hk : ∀ v T' es, K' v T' es -> Vw G T K v T' es) : CallA P G f args T K :=
 fun Z ρ w vs hG hs ha => (h Z ρ w vs hG hs ha).mono fun v w' ⟨Z', ρ', T', es, a, k1, k2, k3, k4⟩ => hk a T' es k4 Z ρ w Z' ρ' w' v hs ⟨hG.mono k2.le, k1, k2⟩ k3
end Go.E
namespace Go.Proofs.YtmcbdlefakjpoaaGreatDoor
open Go.E Go.Proofs.YtmcbdlefakjpoaaGreatDoor.Tryz Go.Proofs.Tryz
theorem tkB' (x : Nat) : List.take 4 (Bg x) = Bg x := rfl
theorem vbg : (∀ x, List.take 4 (List.drop 0 (Bg x)) = Bg x) /\ (∀ x, List.take 4 (Bg x) = Bg x) /\ (∀ x, (Bg x).length = 4) /\ (keepOK (fun _ => true) [] = true) /\ (∀ T, keepT (fun _ => true) T = T) /\ (∀ p : Prop, (True ∨ p) = True) /\ (∀ p : Prop, (True /\ p) = p) /\
 (∀ q x, (Bg x).map (AV.wo q) = Bg x) /\ (∀ i cs x, (Bg x).map (AV.pub i cs) = Bg x) /\ (∀ x, ones (Bg x) = true) /\ (∀ x y, wrA (Bg x) 0 (Bg y) = Bg y) :=
 ⟨fun _ => rfl, fun _ => rfl, Bg_len, rfl, keep_all, fun _ => true_or _, fun _ => true_and _, Bg_wo, Bg_pub, Bg_ones, fun x y => wrA_all (by rw [Bg_len, Bg_len])⟩
theorem half (x k : Nat) : x / 2 ^ k = 2 * (x / 2 ^ (k + 1)) + bitN x k := by
 rw [bitN, Nat.pow_succ, <- Nat.div_div_eq_div_mul]; omega
theorem top0 {x : Nat} (hx : x < 2 ^ 256) : x / 2 ^ 256 = 0 := Nat.div_eq_of_lt hx
theorem bit_top {x : Nat} (hx : x < 2 ^ 256) {i : Nat} (h : 256 <= i) : bitN x i = 0 := by
 rw [bitN, Nat.div_eq_of_lt (Nat.lt_of_lt_of_le hx (Nat.pow_le_pow_right (by decide) h))]
theorem less02_ok {T : Tbl} {x y : Nat} (hx : x < 2 ^ 256) (hy : y < 2 ^ 256) : CallA prog G 97 [.ag (Bg x), .ag (Bg y)] T fun v T' es => v = .p (.bool (decide (x < y))) /\ T' = T /\ es = [] := by
 refine CallA.wfs fun wf => ?_
 refine CallA.eV 6 func97 ntmps97 results97 ?_
 simp -dsimp +decide only [vp0, ↓reduceIte, Nat.reduceSub, Nat.reduceAdd]
 have g0 := fun l => gn0 T (.cells 170 (Bg x)) l
 have g1 := fun a l => gn1 T a (.cells 170 (Bg y)) l
 refine SemA.loopE (fun k : Nat => [(2, .ptr T.length 0), (3, .ptr (T.length + 1) 0), (5, wint (255 - (k : Int)))]) (fun _ => T ++ [.cells 170 (Bg x), .cells 170 (Bg y)]) (fun k => k <= 256 /\ x / 2 ^ (256 - k) = y / 2 ^ (256 - k)) (fun k => 256 - k) 0 [] 0 (fun _ : Unit => []) (fun _ => T ++ [.cells 170 (Bg x), .cells 170 (Bg y)]) (fun _ => x = y) ⟨by omega, by rw [top0 hx, top0 hy]⟩ (by (simp -dsimp +decide (disch := omega) only [vq, Nat.reduceAdd, Int.reduceSub, ci]); first | rfl | done) rfl (by simp) ?_ ?_
 . rintro k g ⟨hk, he⟩
   refine SemA.o ?_
   simp -dsimp +decide (disch := omega) only [vq, ↓reduceIte, Nat.reduceAdd]
   refine CondP.dec (fun h => ?_) (fun h => ?_)
   . have hc : (255 - (k : Int)) = ((255 - k : Nat) : Int) := by omega
     have hxh := half x (255 - k)
     have hyh := half y (255 - k)
     rw [show 255 - k + 1 = 256 - k by omega] at hxh hyh
     have hbx := bitI_nat x (255 - k) (by omega)
     have hby := bitI_nat y (255 - k) (by omega)
     rw [hc]
     refine SemA.draw (fun i => true) [(0, true), (1, true), (3, true), (4, true), (2, false), (5, false), (6, true)] mixed (by kernel_rfl) ?_
     simp -dsimp +decide (disch := omega) only [vp0, ty, en, ↓reduceIte, vbg, g0, g1]
     refine bit02_ok.det' ?_
     simp -dsimp +decide (disch := omega) only [vq, en, ↓reduceIte, vbg]
     refine bit02_ok.det' ?_
     rw [hbx, hby]
     simp -dsimp +decide (disch := omega) only [vq, ↓reduceIte, vbg]
     refine CondP.ndec (fun h2 => ?_) (fun h2 => ?_)
     . have hlt : decide (((bitN x (255 - k) : Nat) : Int) < ((bitN y (255 - k) : Nat) : Int)) = decide (x < y) := by
        rw [decide_eq_decide]
        constructor
        . intro hl
          exact Nat.lt_of_not_le fun hle => by
           have := Nat.div_le_div_right (c := 2 ^ (255 - k)) hle
           omega
        . intro hl
          have := Nat.div_le_div_right (c := 2 ^ (255 - k)) (Nat.le_of_lt hl)
          omega
       refine SemA.draw (fun i => true) [(0, true), (1, true), (3, true), (4, true), (2, false), (5, false), (6, true), (7, true)] mixed (by kernel_rfl) ?_
       simp -dsimp +decide (disch := omega) only [vp0, ty, en, ↓reduceIte, vbg, g0, g1]
       refine bit02_ok.det' ?_
       simp -dsimp +decide (disch := omega) only [vq, en, ↓reduceIte, vbg]
       refine bit02_ok.det' ?_
       rw [hbx, hby]
       simp -dsimp +decide (disch := omega) only [vq, ↓reduceIte, vbg, hlt]
       exact Vw.cut ⟨rfl, rfl, rfl⟩
     . simp -dsimp +decide (disch := omega) only [vz, vze, vq, ↓reduceIte, Nat.reduceAdd, vi, vbg]
       exact ⟨k + 1, ⟨⟨by omega, by rw [show 256 - (k + 1) = 255 - k by omega]; omega⟩, by omega⟩, by rw [show (255 - ((k + 1 : Nat) : Int)) = ((255 - k : Nat) : Int) - 1 by omega]⟩
   . have e : k = 256 := by omega
     subst e
     simp -dsimp +decide (disch := omega) only [vz, vze, vp0, ↓reduceIte, Nat.reduceAdd, Int.reduceSub, ci]
     exact ⟨(), by simpa using he⟩
 . rintro _ g tmp hq
   have e : decide (x < y) = false := by simp [hq]
   rw [e]
   simp -dsimp +decide (disch := omega) only [vp0, ↓reduceIte, Nat.reduceAdd]
   exact Vw.cut ⟨rfl, rfl, rfl⟩
def isLen (x n : Nat) : Prop := x < 2 ^ n /\ (n = 0 ∨ 2 ^ (n - 1) <= x)
theorem bits02_ok {T : Tbl} {x : Nat} (hx : x < 2 ^ 256) : CallA prog G 96 [.ag (Bg x)] T fun v T' es => (∃ n : Nat, v = wint (n : Int) /\ isLen x n /\ n <= 256) /\ T' = T /\ es = [] := by
 refine CallA.wfs fun wf => ?_
 refine CallA.eV 5 func96 ntmps96 results96 ?_
 simp -dsimp +decide only [vp0, ↓reduceIte, Nat.reduceSub]
 have g0 := fun l => gn0 T (.cells 170 (Bg x)) l
 refine SemA.loopE (fun s : Nat × Nat => [(1, .ptr T.length 0), (3, wint (s.2 : Int)), (4, wint (s.1 : Int))]) (fun _ => T ++ [.cells 170 (Bg x)]) (fun s => s.1 <= 256 /\ s.2 <= s.1 /\ isLen (x % 2 ^ s.1) s.2) (fun s => 256 - s.1) (0, 0) [] 0 (fun n : Nat => [(3, wint (n : Int))]) (fun _ => T ++ [.cells 170 (Bg x)]) (fun n => isLen x n /\ n <= 256) ⟨by simp, by simp, by simp [isLen, Nat.mod_one]⟩ (by (simp -dsimp +decide (disch := omega) only [vq, Nat.reduceAdd, ci]); first | rfl | done) rfl (by simp) ?_ ?_
 . rintro ⟨k, n⟩ g ⟨hk, hn, hl⟩
   dsimp only at hk hn hl
   refine SemA.o ?_
   simp -dsimp +decide (disch := omega) only [vq, ↓reduceIte, Nat.reduceAdd]
   refine CondP.dec (fun h => ?_) (fun h => ?_)
   . have hb := bitI_nat x k (by omega)
     have hlt := bitN_lt x k
     have hm : x % 2 ^ (k + 1) = x % 2 ^ k + 2 ^ k * bitN x k := by rw [bitN, Nat.pow_succ, Nat.mod_mul]
     have hmk : x % 2 ^ k < 2 ^ k := Nat.mod_lt _ (Nat.two_pow_pos k)
     simp -dsimp +decide (disch := omega) only [vp0, ty, en, ↓reduceIte, vbg, g0]
     refine bit02_ok.det' ?_
     rw [hb]
     simp -dsimp +decide (disch := omega) only [vq, ↓reduceIte, vbg]
     refine CondP.dec (fun h2 => ?_) (fun h2 => ?_)
     . have h1 : bitN x k = 1 := by omega
       rw [h1, Nat.mul_one] at hm
       simp -dsimp +decide (disch := omega) only [vz, vze, vq, ↓reduceIte, Nat.reduceAdd, vi, vbg]
       refine ⟨(k + 1, k + 1), ⟨⟨by dsimp only; omega, Nat.le_refl _, ?_⟩, by dsimp only; omega⟩, ⟨rfl, rfl⟩⟩
       refine ⟨?_, .inr ?_⟩
       . dsimp only; rw [hm, Nat.pow_succ]; omega
       . dsimp only; rw [hm]; simp
     . have h1 : bitN x k = 0 := by omega
       rw [h1, Nat.mul_zero, Nat.add_zero] at hm
       simp -dsimp +decide (disch := omega) only [vz, vze, vq, ↓reduceIte, Nat.reduceAdd, vi, vbg]
       refine ⟨(k + 1, n), ⟨⟨by dsimp only; omega, by dsimp only; omega, ?_⟩, by dsimp only; omega⟩, ⟨rfl, rfl⟩⟩
       dsimp only; rw [hm]; exact hl
   . have e : k = 256 := by omega
     subst e
     rw [Nat.mod_eq_of_lt hx] at hl
     simp -dsimp +decide (disch := omega) only [vz, vze, vq, ↓reduceIte, Nat.reduceAdd, ci]
     exact ⟨n, ⟨hl, hn⟩, rfl⟩
 . rintro n g tmp ⟨hl, hn⟩
   simp -dsimp +decide (disch := omega) only [vq, ↓reduceIte, Nat.reduceAdd]
   exact Vw.cut ⟨⟨n, rfl, hl, hn⟩, rfl, rfl⟩
theorem half2 (x k : Nat) : x / 2 ^ (k + 1) = x / 2 ^ k / 2 := by rw [Nat.pow_succ, <- Nat.div_div_eq_div_mul]
theorem sl_bits {T l : Tbl} {x n k : Nat} (h : (T ++ l)[T.length + k]? = some (.buf 3 1 ((bitsZ x n).map wint))) : Sl (T ++ l) 1 (.sl (T.length + k) 0 n) ((bitsZ x n).map wint) (bitsZ x n).length := by
 have := Sl.obj (T := T ++ l) (sz := 1) (n := n) h rfl (by rw [List.length_map, bitsZ_len, Nat.mul_one])
 rwa [bitsZ_len]
theorem from_bits256 (z : Nat) : fromZ ((bitsZ z 256).take 256) = z % 2 ^ 256 := by
 rw [List.take_of_length_le (by rw [bitsZ_len]; omega), from_bits]
theorem add02_ok {T : Tbl} {x y : Nat} (hx : x < 2 ^ 256) (hy : y < 2 ^ 256) : CallA prog G 119 [.ag (Bg x), .ag (Bg y)] T fun v T' es => v = .tu [.ag (Bg ((x + y) % 2 ^ 256)), .p (.bool (decide (2 ^ 256 <= x + y)))] /\ T' = T /\ es = [] := by
 refine CallA.wfs fun wf => ?_
 have wt := wf.t
 refine CallA.eV 10 func119 ntmps119 results119 ?_
 simp -dsimp +decide only [vp0, ty, ↓reduceIte, Nat.reduceSub, Nat.reduceAdd]
 have g0 := fun l => gn0 T (.cells 170 (Bg x)) l
 have g1 := fun a l => gn1 T a (.cells 170 (Bg y)) l
 refine SemA.adopt 6 3 1 (by decide) rfl ?_
 simp -dsimp +decide only [vp0, Nat.reduceAdd]
 refine SemA.loopK (T.length + 4) (fun s : Nat × Nat => [(2, .ptr T.length 0), (3, .ptr (T.length + 1) 0), (4, .ptr (T.length + 2) 0), (6, .sl (T.length + 3) 0 s.1), (7, wint (s.2 : Int)), (8, wint (s.1 : Int))]) (fun s => T ++ [.cells 170 (Bg x), .cells 170 (Bg y), .cells 170 (Bg 0), .buf 3 1 ((bitsZ (x + y) s.1).map wint)]) (fun s => s.1 <= 256 /\ s.2 <= 1 /\ (x + y) / 2 ^ s.1 = x / 2 ^ s.1 + y / 2 ^ s.1 + s.2) (fun s => 256 - s.1) (0, 0) [] 0 (fun c : Nat => [(4, .ptr (T.length + 2) 0), (6, .sl (T.length + 3) 0 256), (7, wint (c : Int))]) (fun _ => T ++ [.cells 170 (Bg x), .cells 170 (Bg y), .cells 170 (Bg 0), .buf 3 1 ((bitsZ (x + y) 256).map wint)]) (fun c => c <= 1 /\ (x + y) / 2 ^ 256 = c) (by omega) ⟨by simp, by simp, by simp⟩ (by (simp -dsimp +decide (disch := omega) only [vq, Nat.reduceAdd, ci]); first | rfl | done) rfl (by simp) ?_ ?_
 . rintro ⟨k, c⟩ g ⟨hk, hc, he⟩
   dsimp only at hk hc he
   refine SemA.o ?_
   simp -dsimp +decide (disch := omega) only [vq, ↓reduceIte, Nat.reduceAdd]
   refine CondP.dec (fun h => ?_) (fun h => ?_)
   . have hbx := bitI_nat x k (by omega)
     have hby := bitI_nat y k (by omega)
     have lx := bitN_lt x k
     have ly := bitN_lt y k
     have hn1 := half2 x k
     have hn2 := half2 y k
     have hn3 := half2 (x + y) k
     have b1 : bitN x k = x / 2 ^ k % 2 := rfl
     have b2 : bitN y k = y / 2 ^ k % 2 := rfl
     have b3 : bitN (x + y) k = (x + y) / 2 ^ k % 2 := rfl
     have hrem : ((bitN x k : Int) + (bitN y k : Int) + (c : Int)).tmod 2 = (bitN (x + y) k : Int) := by
      rw [Int.tmod_eq_emod_of_nonneg (by omega)]; omega
     have hquo : ((bitN x k : Int) + (bitN y k : Int) + (c : Int)).tdiv 2 = (((bitN x k + bitN y k + c) / 2 : Nat) : Int) := by
      rw [Int.tdiv_eq_ediv_of_nonneg (by omega)]; omega
     refine SemA.draw (fun i => true) [(0, true), (1, true), (3, true), (4, true), (7, true), (2, false), (5, false), (6, true), (8, true), (9, true)] mixed (by kernel_rfl) ?_
     simp -dsimp +decide (disch := omega) only [vp0, ty, en, ↓reduceIte, vbg, g0, g1]
     refine bit02_ok.det' ?_
     simp -dsimp +decide (disch := omega) only [vq, en, ↓reduceIte, vbg]
     refine bit02_ok.det' ?_
     rw [hbx, hby]
     simp -dsimp +decide (disch := omega) only [vt2, vze, vq, ty, ↓reduceIte, Nat.reduceAdd, vi, vt, wt, vbg, hrem, hquo]
     refine ⟨⟨bitsZ_len _ _, by omega, by omega⟩, (k + 1, (bitN x k + (bitN y k + c)) / 2), ⟨⟨by dsimp only; omega, by dsimp only; omega, by dsimp only; omega⟩, by dsimp only; omega⟩, ⟨rfl, rfl, rfl⟩, by rw [bitsZ_next]⟩
   . have e : k = 256 := by omega
     subst e
     rw [top0 hx, top0 hy, Nat.add_zero, Nat.zero_add] at he
     simp -dsimp +decide (disch := omega) only [vt2, vze, vq, ↓reduceIte, Nat.reduceAdd, ci, vt, wt, vbg]
     exact ⟨c, ⟨hc, he⟩, rfl⟩
 . rintro c g tmp ⟨hc, he⟩
   simp -dsimp +decide (disch := omega) only [vq, en, ↓reduceIte, Nat.reduceAdd]
   refine (from02_ok (sl_bits (gn3 T _ _ _ _ [])) (by rw [bitsZ_len]; omega)).det' ?_
   rw [from_bits256]
   have hd : decide ((c : Int) = 1) = decide (2 ^ 256 <= x + y) := by rw [decide_eq_decide]; omega
   simp -dsimp +decide (disch := omega) only [vp0, ty, ↓reduceIte, Nat.reduceLT, vbg, vres, hd]
   exact Vw.cut ⟨by rw [AV.wo, AV.woL_eq]; simp only [List.map_cons, List.map_nil, AV.wo, AV.woL_eq, Bg_wo], rfl, rfl⟩
theorem sub02_ok {T : Tbl} {x y : Nat} (hx : x < 2 ^ 256) (hy : y < 2 ^ 256) : CallA prog G 128 [.ag (Bg x), .ag (Bg y)] T fun v T' es => v = .tu [.ag (Bg ((x + 2 ^ 256 - y) % 2 ^ 256)), .p (.bool (decide (x < y)))] /\ T' = T /\ es = [] := by
 refine CallA.wfs fun wf => ?_
 have wt := wf.t
 refine CallA.eV 10 func128 ntmps128 results128 ?_
 simp -dsimp +decide only [vp0, ty, ↓reduceIte, Nat.reduceSub, Nat.reduceAdd]
 have g0 := fun l => gn0 T (.cells 170 (Bg x)) l
 have g1 := fun a l => gn1 T a (.cells 170 (Bg y)) l
 obtain ⟨z, hz⟩ : ∃ z, z = x + 2 ^ 256 - y := ⟨_, rfl⟩
 rw [<- hz]
 refine SemA.adopt 6 3 1 (by decide) rfl ?_
 simp -dsimp +decide only [vp0, Nat.reduceAdd]
 refine SemA.loopK (T.length + 4) (fun s : Nat × Nat => [(2, .ptr T.length 0), (3, .ptr (T.length + 1) 0), (4, .ptr (T.length + 2) 0), (6, .sl (T.length + 3) 0 s.1), (7, wint (s.2 : Int)), (8, wint (s.1 : Int))]) (fun s => T ++ [.cells 170 (Bg x), .cells 170 (Bg y), .cells 170 (Bg 0), .buf 3 1 ((bitsZ z s.1).map wint)]) (fun s => s.1 <= 256 /\ s.2 <= 1 /\ z / 2 ^ s.1 + y / 2 ^ s.1 + s.2 = x / 2 ^ s.1 + 2 ^ (256 - s.1)) (fun s => 256 - s.1) (0, 0) [] 0 (fun c : Nat => [(4, .ptr (T.length + 2) 0), (6, .sl (T.length + 3) 0 256), (7, wint (c : Int))]) (fun _ => T ++ [.cells 170 (Bg x), .cells 170 (Bg y), .cells 170 (Bg 0), .buf 3 1 ((bitsZ z 256).map wint)]) (fun c => c <= 1 /\ z / 2 ^ 256 + c = 1) (by omega) ⟨by simp, by simp, by simp only [Nat.pow_zero, Nat.div_one, Nat.sub_zero]; omega⟩ (by (simp -dsimp +decide (disch := omega) only [vq, Nat.reduceAdd, ci]); first | rfl | done) rfl (by simp) ?_ ?_
 . rintro ⟨k, c⟩ g ⟨hk, hc, he⟩
   dsimp only at hk hc he
   refine SemA.o ?_
   simp -dsimp +decide (disch := omega) only [vq, ↓reduceIte, Nat.reduceAdd]
   refine CondP.dec (fun h => ?_) (fun h => ?_)
   . have hbx := bitI_nat x k (by omega)
     have hby := bitI_nat y k (by omega)
     have lx := bitN_lt x k
     have ly := bitN_lt y k
     have hn1 := half2 x k
     have hn2 := half2 y k
     have hn3 := half2 z k
     have b1 : bitN x k = x / 2 ^ k % 2 := rfl
     have b2 : bitN y k = y / 2 ^ k % 2 := rfl
     have b3 : bitN z k = z / 2 ^ k % 2 := rfl
     have hw : 2 ^ (256 - k) = 2 * 2 ^ (255 - k) := by rw [show 256 - k = (255 - k) + 1 by omega, Nat.pow_succ, Nat.mul_comm]
     refine SemA.draw (fun i => true) [(0, true), (1, true), (3, true), (4, true), (7, true), (2, false), (5, false), (6, true), (8, true), (9, true)] mixed (by kernel_rfl) ?_
     simp -dsimp +decide (disch := omega) only [vp0, ty, en, ↓reduceIte, vbg, g0, g1]
     refine bit02_ok.det' ?_
     simp -dsimp +decide (disch := omega) only [vq, en, ↓reduceIte, vbg]
     refine bit02_ok.det' ?_
     rw [hbx, hby]
     simp -dsimp +decide (disch := omega) only [vq, ↓reduceIte, vi, vbg]
     refine CondP.dec (fun h2 => ?_) (fun h2 => ?_)
     . have hs : (bitN x k : Int) - (bitN y k : Int) - (c : Int) + 2 = (bitN z k : Int) := by omega
       simp -dsimp +decide (disch := omega) only [vt2, vze, vq, ty, ↓reduceIte, Nat.reduceAdd, vi, vt, wt, vbg, hs]
       refine ⟨⟨bitsZ_len _ _, by omega, by omega⟩, (k + 1, 1), ⟨⟨by dsimp only; omega, by dsimp only; omega, by dsimp only; rw [show 256 - (k + 1) = 255 - k by omega]; omega⟩, by dsimp only; omega⟩, ⟨rfl, rfl, rfl⟩, by rw [bitsZ_next]⟩
     . have hs : (bitN x k : Int) - (bitN y k : Int) - (c : Int) = (bitN z k : Int) := by omega
       simp -dsimp +decide (disch := omega) only [vt2, vze, vq, ty, ↓reduceIte, Nat.reduceAdd, vi, vt, wt, vbg, hs]
       refine ⟨⟨bitsZ_len _ _, by omega, by omega⟩, (k + 1, 0), ⟨⟨by dsimp only; omega, by dsimp only; omega, by dsimp only; rw [show 256 - (k + 1) = 255 - k by omega]; omega⟩, by dsimp only; omega⟩, ⟨rfl, rfl, rfl⟩, by rw [bitsZ_next]⟩
   . have e : k = 256 := by omega
     subst e
     rw [top0 hx, top0 hy, Nat.add_zero, Nat.zero_add] at he
     simp -dsimp +decide (disch := omega) only [vt2, vze, vq, ↓reduceIte, Nat.reduceAdd, ci, vt, wt, vbg]
     exact ⟨c, ⟨hc, he⟩, rfl⟩
 . rintro c g tmp ⟨hc, he⟩
   simp -dsimp +decide (disch := omega) only [vq, en, ↓reduceIte, Nat.reduceAdd]
   refine (from02_ok (sl_bits (gn3 T _ _ _ _ [])) (by rw [bitsZ_len]; omega)).det' ?_
   rw [from_bits256]
   have hd : decide ((c : Int) = 1) = decide (x < y) := by rw [decide_eq_decide]; omega
   simp -dsimp +decide (disch := omega) only [vp0, ty, ↓reduceIte, Nat.reduceLT, vbg, vres, hd]
   exact Vw.cut ⟨by rw [AV.wo, AV.woL_eq]; simp only [List.map_cons, List.map_nil, AV.wo, AV.woL_eq, Bg_wo], rfl, rfl⟩
theorem bitN_mul (x n i : Nat) : bitN (x * 2 ^ n) i = if i < n then 0 else bitN x (i - n) := by
 split
 . rename_i h
   rw [bitN, show n = i + ((n - i - 1) + 1) by omega, Nat.pow_add, <- Nat.mul_assoc, Nat.mul_right_comm, Nat.mul_div_cancel _ (Nat.two_pow_pos i), Nat.pow_succ, <- Nat.mul_assoc, Nat.mul_mod_left]
 . rename_i h
   have e : 2 ^ i = 2 ^ (i - n) * 2 ^ n := by rw [<- Nat.pow_add]; congr 1; omega
   rw [bitN, bitN, e, Nat.mul_div_mul_right _ _ (Nat.two_pow_pos n)]
theorem bitN_div (x n i : Nat) : bitN (x / 2 ^ n) i = bitN x (i + n) := by
 rw [bitN, bitN, Nat.div_div_eq_div_mul, <- Nat.pow_add, Nat.add_comm]
theorem bitI_up {x n i : Nat} (hi : i < 256) (hn : n <= 256) : bitI x ((i : Int) - (n : Int)) = bitN (x * 2 ^ n) i := by
 rw [bitN_mul, bitI]
 by_cases h : i < n
 . rw [if_pos h, if_neg (by omega)]
 . rw [if_neg h, if_pos (by omega), show ((i : Int) - (n : Int)).toNat = i - n by omega]
theorem bitI_down {x n i : Nat} (hx : x < 2 ^ 256) : bitI x ((i : Int) + (n : Int)) = bitN (x / 2 ^ n) i := by
 rw [bitN_div, bitI]
 by_cases h : i + n < 256
 . rw [if_pos (by omega), show ((i : Int) + (n : Int)).toNat = i + n by omega]
 . rw [if_neg (by omega), bit_top hx (by omega)]
theorem up02_ok {T : Tbl} {x n : Nat} (hx : x < 2 ^ 256) (hn : n <= 1000000) : CallA prog G 95 [.ag (Bg x), wint (n : Int)] T fun v T' es => v = .ag (Bg (x * 2 ^ n % 2 ^ 256)) /\ T' = T /\ es = [] := by
 refine CallA.wfs fun wf => ?_
 have wt := wf.t
 refine CallA.eV 7 func95 ntmps95 results95 ?_
 simp -dsimp +decide only [vq, ty, ↓reduceIte, Nat.reduceSub, Nat.reduceAdd]
 have g0 := fun l => gn0 T (.cells 170 (Bg x)) l
 have ez : [oQ, oQ, oQ, oQ] = Bg 0 := rfl
 by_cases h0 : n = 0
 . subst h0
   rw [Nat.pow_zero, Nat.mul_one, Nat.mod_eq_of_lt hx]
   simp -dsimp +decide (disch := omega) only [vp0, ty, ↓reduceIte, Nat.reduceLT, ci, vbg, ez, g0]
   exact Vw.cut ⟨by rw [AV.wo, AV.woL_eq, Bg_wo], rfl, rfl⟩
 have h1 : ((n : Int) <= 0) = False := by simp; omega
 simp -dsimp +decide (disch := omega) only [vp0, ↓reduceIte, ez, h1]
 refine SemA.adopt 5 3 1 (by decide) rfl ?_
 simp -dsimp +decide only [vp0, Nat.reduceAdd]
 refine SemA.loopK (T.length + 3) (fun k : Nat => [(2, .ptr T.length 0), (1, wint (n : Int)), (4, .ptr (T.length + 1) 0), (5, .sl (T.length + 2) 0 k), (6, wint (k : Int))]) (fun k => T ++ [.cells 170 (Bg x), .cells 170 (Bg 0), .buf 3 1 ((bitsZ (x * 2 ^ n) k).map wint)]) (fun k => k <= 256) (fun k => 256 - k) 0 [] 0 (fun _ : Unit => [(4, .ptr (T.length + 1) 0), (5, .sl (T.length + 2) 0 256)]) (fun _ => T ++ [.cells 170 (Bg x), .cells 170 (Bg 0), .buf 3 1 ((bitsZ (x * 2 ^ n) 256).map wint)]) (fun _ => True) (by omega) (by simp) (by (simp -dsimp +decide (disch := omega) only [vq, Nat.reduceAdd, ci]); first | rfl | done) rfl (by simp) ?_ ?_
 . rintro k g hk
   refine SemA.o ?_
   simp -dsimp +decide (disch := omega) only [vq, ↓reduceIte, Nat.reduceAdd]
   refine CondP.dec (fun h => ?_) (fun h => ?_)
   . by_cases h2 : (256 : Int) < (n : Int)
     . have hz : (0 : Int) = (bitN (x * 2 ^ n) k : Int) := by rw [bitN_mul, if_pos (by omega)]; rfl
       simp -dsimp +decide (disch := omega) only [vt2, vze, vq, ty, ↓reduceIte, Nat.reduceAdd, vi, vt, wt, vbg, h2]
       exact ⟨⟨bitsZ_len _ _, by omega, by omega⟩, k + 1, ⟨by omega, by omega⟩, ⟨rfl, rfl⟩, by rw [bitsZ_next, <- hz]⟩
     . have hb := bitI_up (x := x) (n := n) (i := k) (by omega) (by omega)
       simp -dsimp +decide (disch := omega) only [vp0, ty, en, ↓reduceIte, vi, vbg, g0, h2]
       refine bit02_ok.det' ?_
       rw [hb]
       simp -dsimp +decide (disch := omega) only [vt2, vze, vq, ty, ↓reduceIte, Nat.reduceAdd, vi, vt, wt, vbg]
       exact ⟨⟨bitsZ_len _ _, by omega, by omega⟩, k + 1, ⟨by omega, by omega⟩, ⟨rfl, rfl⟩, by rw [bitsZ_next]⟩
   . have e : k = 256 := by omega
     subst e
     simp -dsimp +decide (disch := omega) only [vt2, vze, vq, ↓reduceIte, Nat.reduceAdd, ci, vt, wt, vbg]
     exact ⟨(), trivial⟩
 . rintro _ g tmp -
   simp -dsimp +decide (disch := omega) only [vp0, en, ↓reduceIte, Nat.reduceAdd]
   refine (from02_ok (sl_bits (gn2 T _ _ _ [])) (by rw [bitsZ_len]; omega)).det' ?_
   rw [from_bits256]
   simp -dsimp +decide (disch := omega) only [vp0, ty, ↓reduceIte, Nat.reduceLT, vbg]
   exact Vw.cut ⟨by rw [AV.wo, AV.woL_eq, Bg_wo], rfl, rfl⟩
theorem down02_ok {T : Tbl} {x n : Nat} (hx : x < 2 ^ 256) (hn : n <= 1000000) : CallA prog G 94 [.ag (Bg x), wint (n : Int)] T fun v T' es => v = .ag (Bg (x / 2 ^ n)) /\ T' = T /\ es = [] := by
 refine CallA.wfs fun wf => ?_
 have wt := wf.t
 refine CallA.eV 7 func94 ntmps94 results94 ?_
 simp -dsimp +decide only [vq, ty, ↓reduceIte, Nat.reduceSub, Nat.reduceAdd]
 have g0 := fun l => gn0 T (.cells 170 (Bg x)) l
 have ez : [oQ, oQ, oQ, oQ] = Bg 0 := rfl
 by_cases h0 : n = 0
 . subst h0
   rw [Nat.pow_zero, Nat.div_one]
   simp -dsimp +decide (disch := omega) only [vp0, ty, ↓reduceIte, Nat.reduceLT, ci, vbg, ez, g0]
   exact Vw.cut ⟨by rw [AV.wo, AV.woL_eq, Bg_wo], rfl, rfl⟩
 have h1 : ((n : Int) <= 0) = False := by simp; omega
 simp -dsimp +decide (disch := omega) only [vp0, ↓reduceIte, ez, h1]
 refine SemA.adopt 5 3 1 (by decide) rfl ?_
 simp -dsimp +decide only [vp0, Nat.reduceAdd]
 refine SemA.loopK (T.length + 3) (fun k : Nat => [(2, .ptr T.length 0), (1, wint (n : Int)), (4, .ptr (T.length + 1) 0), (5, .sl (T.length + 2) 0 k), (6, wint (k : Int))]) (fun k => T ++ [.cells 170 (Bg x), .cells 170 (Bg 0), .buf 3 1 ((bitsZ (x / 2 ^ n) k).map wint)]) (fun k => k <= 256) (fun k => 256 - k) 0 [] 0 (fun _ : Unit => [(4, .ptr (T.length + 1) 0), (5, .sl (T.length + 2) 0 256)]) (fun _ => T ++ [.cells 170 (Bg x), .cells 170 (Bg 0), .buf 3 1 ((bitsZ (x / 2 ^ n) 256).map wint)]) (fun _ => True) (by omega) (by simp) (by (simp -dsimp +decide (disch := omega) only [vq, Nat.reduceAdd, ci]); first | rfl | done) rfl (by simp) ?_ ?_
 . rintro k g hk
   refine SemA.o ?_
   simp -dsimp +decide (disch := omega) only [vq, ↓reduceIte, Nat.reduceAdd]
   refine CondP.dec (fun h => ?_) (fun h => ?_)
   . by_cases h2 : (256 : Int) < (n : Int)
     . have hz : (0 : Int) = (bitN (x / 2 ^ n) k : Int) := by rw [bitN_div, bit_top hx (by omega)]; rfl
       simp -dsimp +decide (disch := omega) only [vt2, vze, vq, ty, ↓reduceIte, Nat.reduceAdd, vi, vt, wt, vbg, h2]
       exact ⟨⟨bitsZ_len _ _, by omega, by omega⟩, k + 1, ⟨by omega, by omega⟩, ⟨rfl, rfl⟩, by rw [bitsZ_next, <- hz]⟩
     . have hb := bitI_down (n := n) (i := k) hx
       simp -dsimp +decide (disch := omega) only [vp0, ty, en, ↓reduceIte, vi, vbg, g0, h2]
       refine bit02_ok.det' ?_
       rw [hb]
       simp -dsimp +decide (disch := omega) only [vt2, vze, vq, ty, ↓reduceIte, Nat.reduceAdd, vi, vt, wt, vbg]
       exact ⟨⟨bitsZ_len _ _, by omega, by omega⟩, k + 1, ⟨by omega, by omega⟩, ⟨rfl, rfl⟩, by rw [bitsZ_next]⟩
   . have e : k = 256 := by omega
     subst e
     simp -dsimp +decide (disch := omega) only [vt2, vze, vq, ↓reduceIte, Nat.reduceAdd, ci, vt, wt, vbg]
     exact ⟨(), trivial⟩
 . rintro _ g tmp -
   simp -dsimp +decide (disch := omega) only [vp0, en, ↓reduceIte, Nat.reduceAdd]
   refine (from02_ok (sl_bits (gn2 T _ _ _ [])) (by rw [bitsZ_len]; omega)).det' ?_
   rw [from_bits256, Nat.mod_eq_of_lt (Nat.lt_of_le_of_lt (Nat.div_le_self _ _) hx)]
   simp -dsimp +decide (disch := omega) only [vp0, ty, ↓reduceIte, Nat.reduceLT, vbg]
   exact Vw.cut ⟨by rw [AV.wo, AV.woL_eq, Bg_wo], rfl, rfl⟩
theorem u8_bit (b : UInt8) {j : Nat} (hj : j < 8) : (u8_shr b j &&& 1).toNat = b.toNat / 2 ^ j % 2 := by
 rw [UInt8.toNat_and, u8_shr, if_pos hj, UInt8.toNat_shiftRight]
 show b.toNat >>> ((UInt8.ofNat j).toNat % 8) &&& 1 = _
 rw [UInt8.toNat_ofNat', Nat.mod_eq_of_lt (a := j) (b := 2 ^ 8) (by omega), Nat.mod_eq_of_lt hj, Nat.shiftRight_eq_div_pow, Nat.and_one_is_mod]
theorem i64_small {n : Nat} (h : n < 9223372036854775808) : IntKind.i64.wrap (n : Int) = (n : Int) := by
 simp -dsimp +decide (disch := omega) only [vi]
def hN : List UInt8 -> Nat
 | [] => 0
 | b :: r => b.toNat + 256 * hN r
theorem hN_lt : ∀ l : List UInt8, hN l < 2 ^ (8 * l.length)
 | [] => by simp [hN]
 | b :: r => by
   have h1 := hN_lt r
   have h2 := b.toNat_lt
   rw [hN, List.length_cons, show 8 * (r.length + 1) = 8 * r.length + 8 by omega, Nat.pow_add]
   omega
theorem hN_bit : ∀ (l : List UInt8) (i : Nat), bitN (hN l) i = match l[i / 8]? with | none => 0 | some b => b.toNat / 2 ^ (i % 8) % 2
 | [], i => by simp [hN, bitN]
 | b :: r, i => by
   have h2 := b.toNat_lt
   rw [hN, bitN]
   by_cases h : i < 8
   . rw [show i / 8 = 0 by omega, show i % 8 = i by omega]
     show (b.toNat + 256 * hN r) / 2 ^ i % 2 = b.toNat / 2 ^ i % 2
     rw [show 256 = 2 ^ i * (2 * 2 ^ (7 - i)) by rw [<- Nat.pow_succ', <- Nat.pow_add, show i + (7 - i + 1) = 8 by omega], Nat.mul_assoc, Nat.add_mul_div_left _ _ (Nat.two_pow_pos i), Nat.mul_assoc, Nat.add_mul_mod_self_left]
   . have e : 2 ^ i = 256 * 2 ^ (i - 8) := by rw [show (256 : Nat) = 2 ^ 8 from rfl, <- Nat.pow_add, show 8 + (i - 8) = i by omega]
     have e2 : (b.toNat + 256 * hN r) / 256 = hN r := by omega
     rw [e, <- Nat.div_div_eq_div_mul, e2]
     have := hN_bit r (i - 8)
     rw [bitN] at this
     rw [this, show i / 8 = (i - 8) / 8 + 1 by omega, List.getElem?_cons_succ, show (i - 8) % 8 = i % 8 by omega]
theorem ofhash02_ok {T : Tbl} {h : List UInt8} (hh : h.length = 32) : CallA prog G 98 [.ag (h.map by8)] T fun v T' es => v = .ag (Bg (hN h)) /\ T' = T /\ es = [] := by
 refine CallA.wfs fun wf => ?_
 have wt := wf.t
 refine CallA.eV 5 func98 ntmps98 results98 ?_
 simp -dsimp +decide only [vp0, ty, ↓reduceIte, Nat.reduceSub]
 have g0 := fun l => gn0 T (.cells 33 (h.map by8)) l
 have hlt : hN h < 2 ^ 256 := by have := hN_lt h; rwa [hh] at this
 refine SemA.adopt 3 3 1 (by decide) rfl ?_
 simp -dsimp +decide only [vp0, Nat.reduceAdd]
 refine SemA.loopK (T.length + 3) (fun k : Nat => [(1, .ptr T.length 0), (2, .ptr (T.length + 1) 0), (3, .sl (T.length + 2) 0 k), (4, wint (k : Int))]) (fun k => T ++ [.cells 33 (h.map by8), .cells 170 (Bg 0), .buf 3 1 ((bitsZ (hN h) k).map wint)]) (fun k => k <= 256) (fun k => 256 - k) 0 [] 0 (fun _ : Unit => [(2, .ptr (T.length + 1) 0), (3, .sl (T.length + 2) 0 256)]) (fun _ => T ++ [.cells 33 (h.map by8), .cells 170 (Bg 0), .buf 3 1 ((bitsZ (hN h) 256).map wint)]) (fun _ => True) (by omega) (by simp) (by (simp -dsimp +decide (disch := omega) only [vq, Nat.reduceAdd, ci]); first | rfl | done) rfl (by simp) ?_ ?_
 . rintro k g hk
   refine SemA.o ?_
   simp -dsimp +decide (disch := omega) only [vq, ↓reduceIte, Nat.reduceAdd]
   refine CondP.dec (fun h1 => ?_) (fun h1 => ?_)
   . obtain ⟨b, hb⟩ : ∃ b, h[k / 8]? = some b := ⟨h[k / 8]'(by omega), by simp⟩
     have hbg : (h.map by8)[k / 8]? = some (by8 b) := by rw [List.getElem?_map, hb]; rfl
     have hbit := hN_bit h k
     rw [hb] at hbit
     dsimp only at hbit
     have t8 : (∀ a : Nat, (a : Int).tmod 8 = ((a % 8 : Nat) : Int)) /\ (∀ a : Nat, (a : Int).tdiv 8 = ((a / 8 : Nat) : Int)) := ⟨fun _ => rfl, fun _ => rfl⟩
     simp -dsimp +decide (disch := omega) only [vt2, vze, vr, ty, ↓reduceIte, Nat.reduceAdd, ci, vi, vt, wt, vbg, g0, t8, hbg, List.length_map]
     have hj : (u8_shr b (UInt64.ofInt ((k % 8 : Nat) : Int)).toNat &&& UInt8.ofInt 1).toNat = bitN (hN h) k := by
      rw [show (UInt64.ofInt ((k % 8 : Nat) : Int)).toNat = k % 8 from ofInt_lt (by omega), show UInt8.ofInt 1 = 1 from rfl, hbit, u8_bit _ (by omega)]
     have hlt2 := bitN_lt (hN h) k
     rw [hj, i64_small (by omega)]
     exact ⟨⟨by omega, by omega⟩, ⟨bitsZ_len _ _, by omega, by omega⟩, k + 1, ⟨by omega, by omega⟩, ⟨rfl, rfl⟩, by rw [bitsZ_next]⟩
   . have e : k = 256 := by omega
     subst e
     simp -dsimp +decide (disch := omega) only [vt2, vze, vq, ↓reduceIte, Nat.reduceAdd, ci, vt, wt, vbg]
     exact ⟨(), trivial⟩
 . rintro _ g tmp -
   simp -dsimp +decide (disch := omega) only [vp0, en, ↓reduceIte, Nat.reduceAdd]
   refine (from02_ok (sl_bits (gn2 T _ _ _ [])) (by rw [bitsZ_len]; omega)).det' ?_
   rw [from_bits256, Nat.mod_eq_of_lt hlt]
   simp -dsimp +decide (disch := omega) only [vp0, ty, ↓reduceIte, Nat.reduceLT, vbg]
   exact Vw.cut ⟨by rw [AV.wo, AV.woL_eq, Bg_wo], rfl, rfl⟩
theorem bitI_up' {x k i : Nat} (hx : x < 2 ^ 256) : bitI x ((i : Int) - (k : Int)) = bitN (x * 2 ^ k) i := by
 rw [bitN_mul, bitI]
 by_cases h : i < k
 . rw [if_pos h, if_neg (by omega)]
 . rw [if_neg h]
   by_cases h2 : i - k < 256
   . rw [if_pos (by omega), show ((i : Int) - (k : Int)).toNat = i - k by omega]
   . rw [if_neg (by omega), bit_top hx (by omega)]
def mixZ (a b i n : Nat) : List Int := bitsZ a i ++ (bitsZ b n).drop i
theorem mixZ_len {a b i n : Nat} (h : i <= n) : (mixZ a b i n).length = n := by simp [mixZ, bitsZ_len]; omega
theorem mixZ_get {a b i n : Nat} (h : i < n) : (mixZ a b i n)[i]? = some (bitN b i : Int) := by
 rw [mixZ, List.getElem?_append_right (by rw [bitsZ_len]; omega), bitsZ_len, Nat.sub_self, List.getElem?_drop, Nat.add_zero, bitsZ_get b h]
theorem mixZ_set {a b i n : Nat} (h : i < n) : (mixZ a b i n).set i (bitN a i : Int) = mixZ a b (i + 1) n := by
 rw [mixZ, List.set_append_right _ _ (by rw [bitsZ_len]; omega), bitsZ_len, Nat.sub_self, mixZ, bitsZ_next, List.append_assoc]
 congr 1
 have hl : i < (bitsZ b n).length := by rw [bitsZ_len]; exact h
 rw [List.drop_eq_getElem_cons hl, List.set_cons_zero]; rfl
theorem mixZ_end {a b n : Nat} : mixZ a b n n = bitsZ a n := by
 rw [mixZ, List.drop_of_length_le (by rw [bitsZ_len]; omega), List.append_nil]
theorem bitsZ_same {a b k : Nat} (h : ∀ i, i < k -> bitN a i = bitN b i) : bitsZ a k = bitsZ b k := List.map_congr_left fun i hi => by rw [h i (by simpa using hi)]
theorem mixZ_begin {a b k n : Nat} (hk : k <= n) (h : ∀ i, i < k -> bitN a i = bitN b i) : bitsZ b n = mixZ a b k n := by
 rw [mixZ, bitsZ_same h]
 have : bitsZ b k = (bitsZ b n).take k := by
  rw [bitsZ, bitsZ, <- List.map_take, List.take_range, Nat.min_eq_left hk]
 rw [this, List.take_append_drop]
theorem bitN_addmul (u x k i : Nat) (h : i < k) : bitN (u + x * 2 ^ k) i = bitN u i := by
 rw [bitN, show k = i + ((k - i - 1) + 1) by omega, Nat.pow_add, <- Nat.mul_assoc, Nat.mul_right_comm, Nat.mul_comm _ (2 ^ i), Nat.add_mul_div_left _ _ (Nat.two_pow_pos i), Nat.pow_succ, <- Nat.mul_assoc, Nat.add_mul_mod_self_right]; rfl
theorem div_addmul (u x k : Nat) : (u + x * 2 ^ k) / 2 ^ k = u / 2 ^ k + x := by
 rw [Nat.mul_comm, Nat.add_mul_div_left _ _ (Nat.two_pow_pos k)]
theorem mulstep (x n k : Nat) : x * (n % 2 ^ (k + 1)) = x * (n % 2 ^ k) + bitN n k * (x * 2 ^ k) := by
 rw [bitN, Nat.pow_succ, Nat.mod_mul, Nat.mul_add]
 congr 1
 rw [Nat.mul_comm (2 ^ k), Nat.mul_left_comm]
theorem u64_bit (b : UInt64) {j : Nat} (hj : j < 64) : (u64_shr b j &&& 1).toNat = bitN b.toNat j := by
 rw [UInt64.toNat_and, u64_shr, if_pos hj, UInt64.toNat_shiftRight, bitN]
 show b.toNat >>> ((UInt64.ofNat j).toNat % 64) &&& 1 = _
 rw [UInt64.toNat_ofNat', Nat.mod_eq_of_lt (a := j) (b := 2 ^ 64) (by omega), Nat.mod_eq_of_lt hj, Nat.shiftRight_eq_div_pow, Nat.and_one_is_mod]
theorem zeros_bits (n : Nat) : (bitsZ 0 n).map wint = List.replicate n (wint 0) := by
 rw [bitsZ, List.map_map]
 refine List.ext_getElem (by simp) fun i h1 h2 => ?_
 simp [bitN]
theorem or_next {Q k : Nat} (hk : k < 64) : UInt64.ofNat (Q % 2 ^ k) ||| u64_shl (UInt64.ofInt (bitN Q k : Int)) k = UInt64.ofNat (Q % 2 ^ (k + 1)) := by
 have hb := bitN_lt Q k
 have h1 : 2 ^ k <= 2 ^ 63 := Nat.pow_le_pow_right (by decide) (by omega)
 have h2 : Q % 2 ^ k < 2 ^ k := Nat.mod_lt _ (Nat.two_pow_pos k)
 have h4 : 2 ^ k * bitN Q k <= 2 ^ k := by
  calc 2 ^ k * bitN Q k <= 2 ^ k * 1 := Nat.mul_le_mul_left _ (by omega)
   _ = 2 ^ k := Nat.mul_one _
 have h5 : Q % 2 ^ (k + 1) = Q % 2 ^ k + 2 ^ k * bitN Q k := by rw [bitN, Nat.pow_succ, Nat.mod_mul]
 apply UInt64.toNat_inj.1
 rw [UInt64.toNat_or, UInt64.toNat_ofNat', UInt64.toNat_ofNat', u64_shl, if_pos hk, UInt64.toNat_shiftLeft, ofInt_lt (by omega)]
 show Q % 2 ^ k % 2 ^ 64 ||| bitN Q k <<< ((UInt64.ofNat k).toNat % 64) % 2 ^ 64 = _
 rw [UInt64.toNat_ofNat', Nat.mod_eq_of_lt (a := k) (b := 2 ^ 64) (by omega), Nat.mod_eq_of_lt hk, Nat.shiftLeft_eq, Nat.mul_comm (bitN Q k), Nat.mod_eq_of_lt (a := Q % 2 ^ k) (by omega), Nat.mod_eq_of_lt (a := 2 ^ k * bitN Q k) (by omega), Nat.or_comm, <- Nat.two_pow_add_eq_or_of_lt h2, h5, Nat.mod_eq_of_lt (a := Q % 2 ^ k + 2 ^ k * bitN Q k) (b := 2 ^ 64) (by omega), Nat.add_comm]
theorem mul02_ok {T : Tbl} {x : Nat} {n : UInt64} (hx : x < 2 ^ 256) : CallA prog G 118 [.ag (Bg x), w64 n] T fun v T' es => v = .tu [.ag (Bg (x * n.toNat % 2 ^ 256)), w64 (UInt64.ofNat (x * n.toNat / 2 ^ 256))] /\ T' = T /\ es = [] := by
 refine CallA.wfs fun wf => ?_
 refine CallA.eV 13 func118 ntmps118 results118 ?_
 simp -dsimp +decide only [vq, ty, ↓reduceIte, Nat.reduceSub, Nat.reduceAdd, Int.reduceToNat]
 have g0 := fun l => gn0 T (.cells 170 (Bg x)) l
 have ez : [oQ, oQ, oQ, oQ] = Bg 0 := rfl
 simp -dsimp +decide only [ez]
 refine SemA.loopE (fun k : Nat => [(1, w64 n), (2, .ptr T.length 0), (4, .ptr (T.length + 1) 0), (6, .sl (T.length + 2) 0 320), (7, wint (k : Int))]) (fun k => T ++ [.cells 170 (Bg x), .cells 170 (Bg 0), .buf 3 1 ((bitsZ (x * (n.toNat % 2 ^ k)) 320).map wint)]) (fun k => k <= 64) (fun k => 64 - k) 0 [] 0 (fun _ : Unit => [(4, .ptr (T.length + 1) 0), (6, .sl (T.length + 2) 0 320)]) (fun _ => T ++ [.cells 170 (Bg x), .cells 170 (Bg 0), .buf 3 1 ((bitsZ (x * n.toNat) 320).map wint)]) (fun _ => True) (by omega) (by (simp -dsimp +decide (disch := omega) only [vq, Nat.reduceAdd, ci]); first | rfl | done) (by rw [Nat.pow_zero, Nat.mod_one, Nat.mul_zero, zeros_bits]; rfl) (by simp) ?_ ?_
 . rintro k g hk
   refine SemA.o ?_
   simp -dsimp +decide (disch := omega) only [vq, ↓reduceIte, Nat.reduceAdd]
   refine CondP.dec (fun h => ?_) (fun h => ?_)
   . have hb : (u64_shr n (UInt64.ofInt (k : Int)).toNat &&& UInt64.ofInt 1).toNat = bitN n.toNat k := by
      rw [ofInt_lt (by omega), show UInt64.ofInt 1 = 1 from rfl, u64_bit n (by omega)]
     have hbl := bitN_lt n.toNat k
     have hst := mulstep x n.toNat k
     simp -dsimp +decide (disch := omega) only [vp0, vu, ty, ↓reduceIte, vbg, hb]
     refine CondP.dec (fun h2 => ?_) (fun h2 => ?_)
     . have hb0 : bitN n.toNat k = 0 := by omega
       simp only [hb0, Nat.zero_mul, Nat.add_zero] at hst
       simp -dsimp +decide (disch := omega) only [vz, vze, vq, ↓reduceIte, Nat.reduceAdd, vi, vbg]
       exact ⟨k + 1, ⟨by omega, by omega⟩, rfl, by rw [hst]⟩
     . have hb1 : bitN n.toNat k = 1 := by omega
       rw [hb1, Nat.one_mul] at hst
       obtain ⟨u, hu⟩ : ∃ u, u = x * (n.toNat % 2 ^ k) := ⟨_, rfl⟩
       rw [<- hu] at hst ⊢
       simp -dsimp +decide (disch := omega) only [va, ↓reduceIte]
       refine SemA.loopE (fun s : Nat × Nat => [(1, w64 n), (2, .ptr T.length 0), (4, .ptr (T.length + 1) 0), (6, .sl (T.length + 2) 0 320), (7, wint (k : Int)), (8, wint (s.2 : Int)), (9, wint (s.1 : Int))]) (fun s => T ++ [.cells 170 (Bg x), .cells 170 (Bg 0), .buf 3 1 ((mixZ (u + x * 2 ^ k) u s.1 320).map wint)]) (fun s => k <= s.1 /\ s.1 <= 320 /\ s.2 <= 1 /\ (u + x * 2 ^ k) / 2 ^ s.1 = u / 2 ^ s.1 + x * 2 ^ k / 2 ^ s.1 + s.2) (fun s => 320 - s.1) (k, 0) [] 2 (fun _ : Unit => [(1, w64 n), (2, .ptr T.length 0), (4, .ptr (T.length + 1) 0), (6, .sl (T.length + 2) 0 320), (7, wint (k : Int))]) (fun _ => T ++ [.cells 170 (Bg x), .cells 170 (Bg 0), .buf 3 1 ((bitsZ (u + x * 2 ^ k) 320).map wint)]) (fun _ => True) ⟨Nat.le_refl _, by dsimp only; omega, by simp, by dsimp only; rw [div_addmul, Nat.mul_div_cancel _ (Nat.two_pow_pos k), Nat.add_zero]⟩ (by (simp -dsimp +decide (disch := omega) only [vq, Nat.reduceAdd, ci]); first | rfl | done) (by dsimp only; rw [mixZ_begin (a := u + x * 2 ^ k) (k := k) (by omega) fun i hi => bitN_addmul u x k i hi]) (by simp) ?_ ?_
       . rintro ⟨i, c⟩ g1 ⟨hki, hi, hc, he⟩
         dsimp only at hki hi hc he
         refine SemA.o ?_
         simp -dsimp +decide (disch := omega) only [vq, ↓reduceIte, Nat.reduceAdd]
         refine CondP.dec (fun h3 => ?_) (fun h3 => ?_)
         . have hbx := bitI_up' (k := k) (i := i) hx
           have hg : ((mixZ (u + x * 2 ^ k) u i 320).map wint)[i]? = some (wint (bitN u i)) := by rw [List.getElem?_map, mixZ_get (by omega)]; rfl
           have hml : (mixZ (u + x * 2 ^ k) u i 320).length = 320 := mixZ_len (by omega)
           have lx := bitN_lt u i
           have ly := bitN_lt (x * 2 ^ k) i
           have hn1 := half2 u i
           have hn2 := half2 (x * 2 ^ k) i
           have hn3 := half2 (u + x * 2 ^ k) i
           have b1 : bitN u i = u / 2 ^ i % 2 := rfl
           have b2 : bitN (x * 2 ^ k) i = x * 2 ^ k / 2 ^ i % 2 := rfl
           have b3 : bitN (u + x * 2 ^ k) i = (u + x * 2 ^ k) / 2 ^ i % 2 := rfl
           have hrem : ((bitN u i : Int) + (bitN (x * 2 ^ k) i : Int) + (c : Int)).tmod 2 = (bitN (u + x * 2 ^ k) i : Int) := by
            rw [Int.tmod_eq_emod_of_nonneg (by omega)]; omega
           have hquo : ((bitN u i : Int) + (bitN (x * 2 ^ k) i : Int) + (c : Int)).tdiv 2 = (((bitN u i + bitN (x * 2 ^ k) i + c) / 2 : Nat) : Int) := by
            rw [Int.tdiv_eq_ediv_of_nonneg (by omega)]; omega
           refine SemA.draw (fun i => true) [(0, true), (1, true), (2, true), (3, true), (4, true), (5, true), (6, true), (7, true), (10, true), (8, false), (9, true), (11, true), (12, true)] mixed (by kernel_rfl) ?_
           simp -dsimp +decide (disch := omega) only [vq, ty, en, ↓reduceIte, ci, vi, vbg, g0, hg]
           have hne : List.map wint (mixZ (u + x * 2 ^ k) u i 320) ≠ [] := fun e => by rw [e] at hg; simp at hg
           refine ⟨⟨by omega, by omega, hne⟩, ?_⟩
           refine bit02_ok.det' ?_
           rw [hbx]
           simp -dsimp +decide (disch := omega) only [vz, vze, vq, ty, ↓reduceIte, Nat.reduceAdd, Nat.reduceLT, ci, vi, vbg, hrem, hquo, List.length_map, hml]
           exact ⟨⟨by omega, by omega, hne⟩, by omega, (i + 1, (bitN u i + (bitN (x * 2 ^ k) i + c)) / 2), ⟨⟨by dsimp only; omega, by dsimp only; omega, by dsimp only; omega, by dsimp only; omega⟩, by dsimp only; omega⟩, ⟨rfl, rfl⟩, by rw [mixZ_set (by omega)]⟩
         . have e : i = 320 := by omega
           subst e
           rw [mixZ_end]
           simp -dsimp +decide (disch := omega) only [vz, vze, vq, ↓reduceIte, Nat.reduceAdd, ci]
           exact ⟨(), trivial⟩
       . rintro _ g1 tmp1 -
         simp -dsimp +decide (disch := omega) only [vz, vze, vq, ↓reduceIte, Nat.reduceAdd, vi, vbg]
         exact ⟨k + 1, ⟨by omega, by omega⟩, rfl, by rw [hst]⟩
   . have e : k = 64 := by omega
     subst e
     rw [Nat.mod_eq_of_lt n.toNat_lt]
     simp -dsimp +decide (disch := omega) only [vz, vze, vp0, ↓reduceIte, Nat.reduceAdd, ci]
     exact ⟨(), trivial⟩
 . rintro _ g tmp -
   simp -dsimp +decide (disch := omega) only [vp0, ↓reduceIte, Nat.reduceAdd]
   obtain ⟨P, hP⟩ : ∃ P, P = x * n.toNat := ⟨_, rfl⟩
   rw [<- hP]
   refine SemA.loopE (fun k : Nat => [(4, .ptr (T.length + 1) 0), (6, .sl (T.length + 2) 0 320), (11, w64 (UInt64.ofNat (P / 2 ^ 256 % 2 ^ k))), (12, wint (k : Int))]) (fun _ => T ++ [.cells 170 (Bg x), .cells 170 (Bg 0), .buf 3 1 ((bitsZ P 320).map wint)]) (fun k => k <= 64) (fun k => 64 - k) 0 [] 4 (fun _ : Unit => [(4, .ptr (T.length + 1) 0), (6, .sl (T.length + 2) 0 320), (11, w64 (UInt64.ofNat (P / 2 ^ 256)))]) (fun _ => T ++ [.cells 170 (Bg x), .cells 170 (Bg 0), .buf 3 1 ((bitsZ P 320).map wint)]) (fun _ => True) (by omega) (by (simp -dsimp +decide (disch := omega) only [vq, Nat.reduceAdd, ci]); rw [Nat.pow_zero, Nat.mod_one]; rfl) rfl (by simp) ?_ ?_
   . rintro k g1 hk
     refine SemA.o ?_
     simp -dsimp +decide (disch := omega) only [vq, ↓reduceIte, Nat.reduceAdd]
     refine CondP.dec (fun h => ?_) (fun h => ?_)
     . have hg : ((bitsZ P 320).map wint)[256 + k]? = some (wint (bitN P (256 + k))) := by rw [List.getElem?_map, bitsZ_get P (by omega)]; rfl
       have hbl := bitN_lt P (256 + k)
       have hne : List.map wint (bitsZ P 320) ≠ [] := fun e => by rw [e] at hg; simp at hg
       have hor := or_next (Q := P / 2 ^ 256) (k := k) (by omega)
       rw [bitN_div, Nat.add_comm k 256] at hor
       simp -dsimp +decide (disch := omega) only [vz, vze, vr, ty, ↓reduceIte, Nat.reduceAdd, Int.reduceToNat, ci, vi, vbg, hg]
       refine ⟨⟨by omega, by omega, hne⟩, ?_⟩
       rw [ofInt_lt (n := k) (by omega), hor]
       exact ⟨k + 1, ⟨by omega, by omega⟩, rfl, rfl⟩
     . have e : k = 64 := by omega
       subst e
       have hPl : P / 2 ^ 256 < 2 ^ 64 := by
        rw [Nat.div_lt_iff_lt_mul (by decide), hP]
        have h1 := n.toNat_lt
        calc x * n.toNat <= 2 ^ 256 * n.toNat := Nat.mul_le_mul_right _ (by omega)
         _ < 2 ^ 64 * 2 ^ 256 := by rw [Nat.mul_comm]; exact Nat.mul_lt_mul_of_pos_right h1 (by decide)
       rw [Nat.mod_eq_of_lt hPl]
       simp -dsimp +decide (disch := omega) only [vz, vze, vq, ↓reduceIte, Nat.reduceAdd, ci]
       exact ⟨(), trivial⟩
   . rintro _ g1 tmp1 -
     simp -dsimp +decide (disch := omega) only [vq, en, ↓reduceIte, Nat.reduceAdd]
     refine (from02_ok (sl_bits (gn2 T _ _ _ [])) (by rw [bitsZ_len]; omega)).det' ?_
     rw [show (bitsZ P 320).take 256 = bitsZ P 256 by rw [bitsZ, bitsZ, <- List.map_take, List.take_range]; rfl, from_bits]
     simp -dsimp +decide (disch := omega) only [vp0, ty, ↓reduceIte, Nat.reduceLT, vbg, vres]
     exact Vw.cut ⟨by rw [AV.wo, AV.woL_eq]; simp only [List.map_cons, List.map_nil, AV.wo, AV.woL_eq, Bg_wo, w64], rfl, rfl⟩
open Classical in
theorem KT.eqA {P : Program} {k : TypeId} {ls : List Lf} (h : KT P k ls) {xs ys : List Value} (hx : FitL ls xs) (hy : FitL ls ys) (xo yo : Operand) (K : AV -> Prop) : binA P .eql k (.ag (xs.map .p)) (.ag (ys.map .p)) xo yo K = K (.p (.bool (decide (xs = ys)))) := by
 show getO (plains (xs.map .p)) (fun _ => getO (AV.flat (.ag (ys.map .p))) fun b => _) = _
 rw [plains_map]
 show getO (AV.flat (.ag (ys.map .p))) (fun b => _) = _
 simp only [AV.flat, plains_map, Option.map_some, getO]
 rw [h.eql hx hy]
open Classical in
theorem KT.neA {P : Program} {k : TypeId} {ls : List Lf} (h : KT P k ls) {xs ys : List Value} (hx : FitL ls xs) (hy : FitL ls ys) (xo yo : Operand) (K : AV -> Prop) : binA P .neq k (.ag (xs.map .p)) (.ag (ys.map .p)) xo yo K = K (.p (.bool (!decide (xs = ys)))) := by
 show getO (plains (xs.map .p)) (fun _ => getO (AV.flat (.ag (ys.map .p))) fun b => _) = _
 rw [plains_map]
 show getO (AV.flat (.ag (ys.map .p))) (fun b => _) = _
 simp only [AV.flat, plains_map, Option.map_some, getO]
 rw [h.neq hx hy]
def lf4 : List Lf := List.replicate 4 (.i .u64)
theorem ktB : KT prog 170 lf4 := ⟨(by kernel_rfl), (by kernel_rfl), (by kernel_rfl), (by kernel_rfl), Nat.le_of_ble_eq_true (by kernel_rfl), (by kernel_rfl)⟩
def bgV (x : Nat) : List Value := [.int .u64 ((limb x 0).toNat : Int), .int .u64 ((limb x 1).toNat : Int), .int .u64 ((limb x 2).toNat : Int), .int .u64 ((limb x 3).toNat : Int)]
theorem bgV_p (x : Nat) : Bg x = (bgV x).map .p := rfl
theorem fitB (x : Nat) : FitL lf4 (bgV x) := by
 have h : ∀ j, (Lit.int .u64 ((limb x j).toNat : Int)).wf = true := fun j => by
  have := (limb x j).toNat_lt
  simp [Lit.wf, IntKind.min, IntKind.max, IntKind.bits, IntKind.signed]; omega
 exact .cons ⟨rfl, h 0⟩ (.cons ⟨rfl, h 1⟩ (.cons ⟨rfl, h 2⟩ (.cons ⟨rfl, h 3⟩ .nil)))
theorem bgV_eq {x y : Nat} (hx : x < 2 ^ 256) (hy : y < 2 ^ 256) : bgV x = bgV y ↔ x = y :=
 ⟨fun h => Bg_inj hx hy (by rw [bgV_p, bgV_p, h]), fun h => by rw [h]⟩
open Classical in
theorem eqB {x y : Nat} (hx : x < 2 ^ 256) (hy : y < 2 ^ 256) (xo yo : Operand) (K : AV -> Prop) : binA prog .eql 170 (.ag (Bg x)) (.ag (Bg y)) xo yo K = K (.p (.bool (decide (x = y)))) := by
 rw [bgV_p, bgV_p, KT.eqA ktB (fitB x) (fitB y)]
 congr 3
 rw [Bool.eq_iff_iff, decide_eq_true_iff, decide_eq_true_iff]; exact bgV_eq hx hy
open Classical in
theorem neB {x y : Nat} (hx : x < 2 ^ 256) (hy : y < 2 ^ 256) (xo yo : Operand) (K : AV -> Prop) : binA prog .neq 170 (.ag (Bg x)) (.ag (Bg y)) xo yo K = K (.p (.bool (!decide (x = y)))) := by
 rw [bgV_p, bgV_p, KT.neA ktB (fitB x) (fitB y)]
 congr 4
 rw [Bool.eq_iff_iff, decide_eq_true_iff, decide_eq_true_iff]; exact bgV_eq hx hy
theorem bg_small (n : UInt64) : Bg n.toNat = [.p (.int .u64 (n.toNat : Int)), .p (.int .u64 0), .p (.int .u64 0), .p (.int .u64 0)] := by
 have h := n.toNat_lt
 have e0 : lw n.toNat 0 = .p (.int .u64 (n.toNat : Int)) := by unfold lw; rw [limb_nat, Nat.mul_zero, Nat.pow_zero, Nat.div_one, Nat.mod_eq_of_lt h]
 have e : ∀ j, 0 < j -> lw n.toNat j = .p (.int .u64 0) := fun j hj => by
  unfold lw
  rw [limb_nat, Nat.div_eq_of_lt (Nat.lt_of_lt_of_le h (Nat.pow_le_pow_right (by decide) (by omega)))]; rfl
 unfold Bg
 rw [e0, e 1 (by omega), e 2 (by omega), e 3 (by omega)]
theorem of02_ok {T : Tbl} {n : UInt64} : CallA prog G 93 [w64 n] T fun v T' es => v = .ag (Bg n.toNat) /\ T' = T /\ es = [] := by
 refine CallA.wfs fun wf => ?_
 refine CallA.eV 3 func93 ntmps93 results93 ?_
 simp -dsimp +decide only [vq, ty, ↓reduceIte, Nat.reduceSub, Nat.reduceAdd, Nat.reduceLT]
 rw [wrA_all (by rfl)]
 refine ⟨Nat.le_refl 4, ?_⟩
 refine Vw.cut ⟨?_, rfl, rfl⟩
 rw [<- bg_small, tkB', AV.wo, AV.woL_eq, Bg_wo]
theorem mixZ_down1 {q j n : Nat} (h : j < n) (hb : bitN q j = 1) : (mixZ 0 q (j + 1) n).set j 1 = mixZ 0 q j n := by
 have hl : j < (bitsZ q n).length := by rw [bitsZ_len]; exact h
 rw [mixZ, bitsZ_next, List.append_assoc, List.set_append_right _ _ (by rw [bitsZ_len]; omega), bitsZ_len, Nat.sub_self, List.singleton_append, List.set_cons_zero, mixZ, List.drop_eq_getElem_cons hl]
 have := bitsZ_get q h
 rw [List.getElem?_eq_getElem hl] at this
 rw [Option.some.inj this, hb]; rfl
theorem mixZ_down0 {q j n : Nat} (h : j < n) (hb : bitN q j = 0) : mixZ 0 q (j + 1) n = mixZ 0 q j n := by
 have hl : j < (bitsZ q n).length := by rw [bitsZ_len]; exact h
 rw [mixZ, bitsZ_next, List.append_assoc, mixZ, List.drop_eq_getElem_cons hl]
 have := bitsZ_get q h
 rw [List.getElem?_eq_getElem hl] at this
 rw [Option.some.inj this, hb, show bitN 0 j = 0 by simp [bitN]]; rfl
theorem divstep (N y b : Nat) (h0 : 0 < y) (hb : b < 2) : (2 * N + b) / y = 2 * (N / y) + (if y <= 2 * (N % y) + b then 1 else 0) /\ (2 * N + b) % y = 2 * (N % y) + b - (if y <= 2 * (N % y) + b then y else 0) := by
 have hm := Nat.mod_lt N h0
 have hd := Nat.div_add_mod N y
 generalize N / y = q at *
 generalize N % y = r at *
 subst hd
 split
 . rename_i h
   have e : 2 * (y * q + r) + b = (2 * r + b - y) + y * (2 * q + 1) := by rw [Nat.mul_add y, Nat.mul_add 2, Nat.mul_left_comm, Nat.mul_one]; omega
   rw [e, Nat.add_mul_div_left _ _ h0, Nat.add_mul_mod_self_left, Nat.div_eq_of_lt (by omega), Nat.mod_eq_of_lt (by omega)]
   omega
 . rename_i h
   have e : 2 * (y * q + r) + b = (2 * r + b) + y * (2 * q) := by rw [Nat.mul_add 2, Nat.mul_left_comm]; omega
   rw [e, Nat.add_mul_div_left _ _ h0, Nat.add_mul_mod_self_left, Nat.div_eq_of_lt (by omega), Nat.mod_eq_of_lt (by omega)]
   omega
theorem Bg_low {z b : Nat} (hz : z % 2 = 0) (hb : b < 2) : (Bg z).set 0 (.p (.int .u64 ((limb z 0 ||| UInt64.ofInt (b : Int)).toNat : Int))) = Bg (z + b) := by
 rcases (show b = 0 ∨ b = 1 by omega) with rfl | rfl
 . rw [show UInt64.ofInt ((0 : Nat) : Int) = 0 from rfl, UInt64.or_zero, Nat.add_zero]; rfl
 . have h := Bg_or (x := z) (k := 0) (by decide)
   have e : z ||| 2 ^ 0 = z + 1 := by
    have h2 := Nat.two_pow_add_eq_or_of_lt (i := 1) (b := 1) (by decide) (z / 2)
    rw [show 2 ^ 1 * (z / 2) = z by omega] at h2
    rw [Nat.pow_zero, <- h2]
   rw [e] at h
   exact h
theorem vone (a b : AV) (l : List AV) (K : AV -> Prop) : oneA (a :: b :: l) K = K (.tu (a :: b :: l)) := rfl
theorem bb2 : ((false || false) = false) /\ ((false || true) = true) /\ ((true || false) = true) /\ ((true || true) = true) /\ ((!false) = true) /\ ((!true) = false) /\ ((false == false) = true) /\ ((true == true) = true) /\ ((true == false) = false) /\ ((false == true) = false) := by decide
theorem div02_ok {T : Tbl} {x y : Nat} (hx : x < 2 ^ 256) (hy : y < 2 ^ 256) (h0 : 0 < y) : CallA prog G 117 [.ag (Bg x), .ag (Bg y)] T fun v T' es => v = .tu [.ag (Bg (x / y)), .ag (Bg (x % y)), .p (.int .i64 0)] /\ T' = T /\ es = [] := by
 refine CallA.wfs fun wf => ?_
 refine CallA.eV 12 func117 ntmps117 results117 ?_
 simp -dsimp +decide only [vp0, ty, ↓reduceIte, Nat.reduceSub, Nat.reduceAdd]
 have ez : [oQ, oQ, oQ, oQ] = Bg 0 := rfl
 have hne : (y = 0) = False := by simp; omega
 simp -dsimp +decide (disch := omega) only [vp0, ty, ↓reduceIte, Nat.reduceAdd, Int.reduceToNat, vbg, ez, eqB hy (show 0 < 2 ^ 256 by decide), hne]
 have g0 := fun l => gn0 T (.cells 170 (Bg x)) l
 have g1 := fun a l => gn1 T a (.cells 170 (Bg y)) l
 have hq256 : x / y < 2 ^ 256 := Nat.lt_of_le_of_lt (Nat.div_le_self _ _) hx
 refine SemA.loopE (fun k : Nat => [(2, .ptr T.length 0), (3, .ptr (T.length + 1) 0), (4, .ptr (T.length + 2) 0), (5, .ptr (T.length + 3) 0), (8, .ptr (T.length + 5) 0), (9, .sl (T.length + 6) 0 256), (10, wint (255 - (k : Int)))]) (fun k => T ++ [.cells 170 (Bg x), .cells 170 (Bg y), .cells 170 (Bg 0), .cells 170 (Bg 0), .cells 170 (Bg 0), .cells 170 (Bg (x / 2 ^ (256 - k) % y)), .buf 3 1 ((mixZ 0 (x / y) (256 - k) 256).map wint)]) (fun k => k <= 256) (fun k => 256 - k) 0 [] 0 (fun _ : Unit => [(4, .ptr (T.length + 2) 0), (5, .ptr (T.length + 3) 0), (8, .ptr (T.length + 5) 0), (9, .sl (T.length + 6) 0 256)]) (fun _ => T ++ [.cells 170 (Bg x), .cells 170 (Bg y), .cells 170 (Bg 0), .cells 170 (Bg 0), .cells 170 (Bg 0), .cells 170 (Bg (x % y)), .buf 3 1 ((bitsZ (x / y) 256).map wint)]) (fun _ => True) (by omega) (by (simp -dsimp +decide (disch := omega) only [vq, Nat.reduceAdd, Int.reduceSub, ci]); first | rfl | done) (by rw [Nat.sub_zero, top0 hx, Nat.zero_mod, mixZ_end, zeros_bits]; rfl) (by simp) ?_ ?_
 . rintro k g hk
   refine SemA.o ?_
   simp -dsimp +decide (disch := omega) only [vq, ↓reduceIte, Nat.reduceAdd]
   refine CondP.dec (fun h => ?_) (fun h => ?_)
   . obtain ⟨j, hj⟩ : ∃ j, j = 255 - k := ⟨_, rfl⟩
     have hc : (255 - (k : Int)) = (j : Int) := by omega
     have hj1 : 256 - k = j + 1 := by omega
     rw [hc, hj1]
     obtain ⟨N, hN⟩ : ∃ N, N = x / 2 ^ (j + 1) := ⟨_, rfl⟩
     have hxh := half x j
     rw [<- hN] at hxh ⊢
     have hbx := bitI_nat x j (by omega)
     have lb := bitN_lt x j
     obtain ⟨hd1, hd2⟩ := divstep N y (bitN x j) h0 lb
     rw [<- hxh] at hd1 hd2
     have hm := Nat.mod_lt N h0
     obtain ⟨R, hR⟩ : ∃ R, R = N % y := ⟨_, rfl⟩
     rw [<- hR] at hd1 hd2 hm ⊢
     have hRx : R < 2 ^ 256 := by omega
     have hqb : bitN (x / y) j = x / 2 ^ j / y % 2 := by rw [bitN, Nat.div_div_eq_div_mul, Nat.mul_comm, <- Nat.div_div_eq_div_mul]
     have htop := bitI_nat R 255 (by omega)
     have htv : bitN R 255 = if 2 ^ 255 <= R then 1 else 0 := by
      rw [bitN]
      have : R / 2 ^ 255 < 2 := by rw [Nat.div_lt_iff_lt_mul (by decide)]; omega
      split
      . have : 1 <= R / 2 ^ 255 := by rw [Nat.le_div_iff_mul_le (by decide)]; omega
        omega
      . rw [Nat.div_eq_of_lt (by omega)]
     simp -dsimp +decide (disch := omega) only [vp0, ty, en, ↓reduceIte, vbg]
     refine bit02_ok.det' ?_
     rw [show ((255 : Int)) = ((255 : Nat) : Int) from rfl, htop]
     simp -dsimp +decide (disch := omega) only [vq, ty, en, ↓reduceIte, ci, vbg]
     refine (up02_ok (n := 1) hRx (by omega)).det' ?_
     rw [Nat.pow_one]
     simp -dsimp +decide (disch := omega) only [vp0, ty, ↓reduceIte, Nat.reduceLT, vbg]
     refine SemA.drawE 8 (fun _ => true) [(0, true), (1, true), (2, true), (3, true), (4, false), (5, true), (6, true), (7, true), (8, false)] mixed (by kernel_rfl) ?_
     have hg2 := Bg_get (R * 2 % 2 ^ 256) (j := 0) (by omega)
     simp -dsimp +decide (disch := omega) only [vp0, ty, en, ↓reduceIte, Int.reduceToNat, vbg, g0, hg2]
     refine bit02_ok.det' ?_
     rw [hbx]
     obtain ⟨M, hM⟩ : ∃ M, M = R * 2 % 2 ^ 256 + bitN x j := ⟨_, rfl⟩
     have hlow := Bg_low (z := R * 2 % 2 ^ 256) (b := bitN x j) (by omega) lb
     rw [<- hM] at hlow
     have hMx : M < 2 ^ 256 := by omega
     have hsub : (if y <= 2 * R + bitN x j then (M + 2 ^ 256 - y) % 2 ^ 256 else M) = x / 2 ^ j % y := by
      rw [hd2]; split <;> split at htv <;> omega
     have hml : (mixZ 0 (x / y) (j + 1) 256).length = 256 := mixZ_len (by omega)
     have hnil : List.map wint (mixZ 0 (x / y) (j + 1) 256) ≠ [] := fun e => by
      have := congrArg List.length e
      rw [List.length_map, hml] at this; simp at this
     simp -dsimp +decide (disch := omega) only [vr, ty, ↓reduceIte, Nat.reduceLT, Int.reduceToNat, vbg, hlow]
     by_cases ht : 2 ^ 255 <= R
     . have hb1 : bitN R 255 = 1 := by rw [htv, if_pos ht]
       have hge : y <= 2 * R + bitN x j := by omega
       rw [if_pos hge] at hsub hd1
       simp -dsimp +decide (disch := omega) only [vp0, ty, en, ↓reduceIte, ci, vbg, g1, hb1]
       refine (sub02_ok hMx hy).det' ?_
       rw [hsub]
       simp -dsimp +decide (disch := omega) only [vz, vze, vq, ty, ↓reduceIte, Nat.reduceAdd, Nat.reduceLT, ci, vi, vbg, List.length_map, hml]
       exact ⟨⟨by omega, by omega, hnil⟩, by omega, k + 1, ⟨by omega, by omega⟩, by rw [show ((j : Int) - 1) = 255 - ((k + 1 : Nat) : Int) by omega], by rw [show 256 - (k + 1) = j by omega, mixZ_down1 (by omega) (by rw [hqb]; omega)]⟩
     . have hb1 : bitN R 255 = 0 := by rw [htv, if_neg ht]
       simp -dsimp +decide (disch := omega) only [vp0, ty, en, ↓reduceIte, ci, vbg, g1, hb1]
       refine (less02_ok hMx hy).det' ?_
       by_cases hge : y <= M
       . have hge2 : y <= 2 * R + bitN x j := by omega
         rw [if_pos hge2] at hsub hd1
         rw [show decide (M < y) = false by simp; omega]
         simp -dsimp +decide (disch := omega) only [vp0, ty, en, ↓reduceIte, vbg, g1, bb2]
         refine (sub02_ok hMx hy).det' ?_
         rw [hsub]
         simp -dsimp +decide (disch := omega) only [vz, vze, vq, ty, ↓reduceIte, Nat.reduceAdd, Nat.reduceLT, ci, vi, vbg, List.length_map, hml]
         exact ⟨⟨by omega, by omega, hnil⟩, by omega, k + 1, ⟨by omega, by omega⟩, by rw [show ((j : Int) - 1) = 255 - ((k + 1 : Nat) : Int) by omega], by rw [show 256 - (k + 1) = j by omega, mixZ_down1 (by omega) (by rw [hqb]; omega)]⟩
       . have hge2 : ¬ y <= 2 * R + bitN x j := by omega
         rw [if_neg hge2] at hsub hd1
         rw [show decide (M < y) = true by simp; omega, hsub]
         simp -dsimp +decide (disch := omega) only [vz, vze, vq, ↓reduceIte, Nat.reduceAdd, ci, vi, vbg, bb2]
         exact ⟨k + 1, ⟨by omega, by omega⟩, by rw [show ((j : Int) - 1) = 255 - ((k + 1 : Nat) : Int) by omega], by rw [show 256 - (k + 1) = j by omega, mixZ_down0 (by omega) (by rw [hqb]; omega)]⟩
   . have e : k = 256 := by omega
     subst e
     rw [Nat.sub_self, Nat.pow_zero, Nat.div_one, show mixZ 0 (x / y) 0 256 = bitsZ (x / y) 256 from rfl]
     simp -dsimp +decide (disch := omega) only [vz, vze, vp0, ↓reduceIte, Nat.reduceAdd, Int.reduceSub, ci]
     exact ⟨(), trivial⟩
 . rintro _ g tmp -
   refine SemA.draw (fun i => decide (i = T.length + 5)) [(0, true), (2, true), (1, false), (3, false), (4, false), (5, true)] mixed (by kernel_rfl) ?_
   simp -dsimp +decide (disch := omega) only [vp0, ty, en, ↓reduceIte, Nat.reduceAdd, vbg, keepO]
   refine (from02_ok (sl_bits (gn6 T _ _ _ _ _ _ _ [])) (by rw [bitsZ_len]; omega)).det' ?_
   rw [from_bits256, Nat.mod_eq_of_lt hq256]
   simp -dsimp +decide (disch := omega) only [vp0, ty, ↓reduceIte, Nat.reduceLT, vt, vbg, vres, vone]
   exact Vw.cut ⟨by rw [AV.wo, AV.woL_eq]; simp only [List.map_cons, List.map_nil, AV.wo, AV.woL_eq, Bg_wo], rfl, rfl⟩
structure W8 where
 (a b c d e f g h : UInt32)
def rnd (s : W8) (k w : UInt32) : W8 :=
 let one := s.h + (rotr s.e 6 ^^^ rotr s.e 11 ^^^ rotr s.e 25) + (s.g ^^^ s.e &&& (s.f ^^^ s.g)) + k + w
 let two := (rotr s.a 2 ^^^ rotr s.a 13 ^^^ rotr s.a 22) + (s.a &&& s.b ||| s.c &&& (s.a ||| s.b))
 ⟨one + two, s.a, s.b, s.c, s.d + one, s.e, s.f, s.g⟩
def rnds (ws : List UInt32) (s : W8) : Nat -> W8
 | 0 => s
 | t + 1 => rnd (rnds ws s t) tbl[t]! ws[t]!
def W8.l (s : W8) : List UInt32 := [s.a, s.b, s.c, s.d, s.e, s.f, s.g, s.h]
def W8.of (l : List UInt32) : W8 := ⟨l[0]!, l[1]!, l[2]!, l[3]!, l[4]!, l[5]!, l[6]!, l[7]!⟩
def piece (hl : List UInt32) (p : List UInt8) : List UInt32 := List.zipWith (· + ·) hl (rnds (sch p 64) (W8.of hl) 64).l
theorem step_get {α : Type} [Inhabited α] (z l : List α) (i : Nat) (hz : i < z.length) (hl : i < l.length) : (z.take i ++ l.drop i)[i]? = some l[i]! := by
 rw [List.getElem?_append_right (by simp; omega), List.length_take, Nat.min_eq_left (by omega), Nat.sub_self, List.getElem?_drop, Nat.add_zero, getElem!_pos l i hl, List.getElem?_eq_getElem hl]
theorem step_set {α : Type} [Inhabited α] (z l : List α) (i : Nat) (hz : i < z.length) (hl : i < l.length) (y : α) (hy : z[i]! = y) : (z.take i ++ l.drop i).set i y = z.take (i + 1) ++ l.drop (i + 1) := by
 subst hy
 rw [List.set_append, if_neg (by simp; omega), List.length_take, Nat.min_eq_left (by omega), Nat.sub_self, List.drop_eq_getElem_cons hl, List.set_cons_zero, getElem!_pos z i hz]
 have := List.take_succ_eq_append_getElem hz
 rw [this, List.append_assoc]
 rfl
theorem with_ok {T : Tbl} {i off : Nat} {E : TypeId} {cs : List AV} {p : List UInt8} {hl : List UInt32} (hT : T[i]? = some (.cells E cs)) (hp : p.length = 64) (hc : ∀ k, k < 64 -> cs[off + k]? = some (by8 p[k]!)) (hh : hl.length = 8) :
 CallA prog G 78 [.ag (hl.map w32), .ptr i off] T fun v T' es => v = .ag ((piece hl p).map w32) /\ T' = T /\ es = [] := by
 have hT' := get_old hT
 have hs := sch_len p 64
 have htb := tbl_len
 refine CallA.eV 108 func78 ntmps78 results78 ?_
 simp -dsimp +decide only [vp0, ty, ↓reduceIte, Nat.reduceSub, Nat.reduceAdd]
 refine SemA.draw (fun _ => true) [(0, true), (1, true), (2, true), (3, true), (4, true), (5, true), (6, true), (7, true), (8, true), (9, true), (10, true), (11, true), (12, true), (13, true), (14, true), (15, true), (16, true), (17, true), (18, true), (19, true), (20, true), (21, true), (22, true), (23, true)] mixed (by kernel_rfl) ?_
 simp -dsimp +decide (disch := omega) only [vq, ty, en, ↓reduceIte, Int.reduceToNat, getO_i]
 refine (schedule_ok (hT' _) hp hc).det ?_
 simp -dsimp +decide (disch := omega) only [vq, ty, ↓reduceIte, Nat.reduceAdd, G0]
 rw [wrA_all (by simp [sch_len])]
 refine ⟨by simp [sch_len], ?_⟩
 refine SemA.loopL (fun t : Nat => [(2, .ptr T.length 0), (4, .ptr (T.length + 1) 0), (5, w32 (rnds (sch p 64) (W8.of hl) t).a), (6, w32 (rnds (sch p 64) (W8.of hl) t).b), (7, w32 (rnds (sch p 64) (W8.of hl) t).c), (8, w32 (rnds (sch p 64) (W8.of hl) t).d), (9, w32 (rnds (sch p 64) (W8.of hl) t).e), (10, w32 (rnds (sch p 64) (W8.of hl) t).f), (11, w32 (rnds (sch p 64) (W8.of hl) t).g), (12, w32 (rnds (sch p 64) (W8.of hl) t).h), (13, .ptr (T.length + 2) 0), (38, .ag (tbl.map w32)), (39, wint t)])
  (fun _ => T ++ [.cells 124 (hl.map w32), .cells 124 ((List.replicate 8 (0 : UInt32)).map w32), .cells 196 ((sch p 64).map w32)]) (fun t => t <= 64) (fun t => 64 - t) 0 [] (by kernel_rfl) (by omega) ?_ ?_ ?_ ?_
 . simp -dsimp +decide only [vq, Nat.reduceAdd, ci]
   exact ⟨rfl, rfl, rfl, rfl, rfl, rfl, rfl, rfl, rfl⟩
 . rfl
 . simp
 rintro t g ht
 simp -dsimp +decide only [vq, ↓reduceIte, Nat.reduceAdd]
 refine CondP.dec (fun h => ?_) (fun h => ?_)
 . simp -dsimp +decide (disch := omega) only [vq, ty, ↓reduceIte, ci, getO_i]
   refine ⟨by omega, ?_⟩
   refine SemA.draw (fun _ => true) [(0, true), (1, true), (3, true), (6, true), (10, true), (11, true), (12, true), (13, true), (14, true), (15, true), (16, true), (18, true), (20, true), (21, true), (22, true), (2, false), (4, false), (5, true), (7, false), (8, true), (9, true), (17, true), (19, true), (23, true), (24, true)] mixed (by kernel_rfl) ?_
   simp -dsimp +decide (disch := omega) only [vr, ty, en, ↓reduceIte, ci, getO_i]
   refine ⟨by omega, ?_⟩
   refine (right_ok 6 (by omega) (by omega)).det ?_
   simp -dsimp +decide (disch := omega) only [vp0, en, ↓reduceIte]
   refine (right_ok 11 (by omega) (by omega)).det ?_
   simp -dsimp +decide (disch := omega) only [vp0, vu, en, ↓reduceIte]
   refine (right_ok 25 (by omega) (by omega)).det ?_
   simp -dsimp +decide (disch := omega) only [vp0, vu, en, ↓reduceIte]
   refine (right_ok 2 (by omega) (by omega)).det ?_
   simp -dsimp +decide (disch := omega) only [va, en, ↓reduceIte]
   refine (right_ok 13 (by omega) (by omega)).det ?_
   simp -dsimp +decide (disch := omega) only [vp0, vu, en, ↓reduceIte]
   refine (right_ok 22 (by omega) (by omega)).det ?_
   simp -dsimp +decide (disch := omega) only [vr, ↓reduceIte, Nat.reduceAdd, vi]
   exact ⟨t + 1, by omega, by omega, rfl, rfl, rfl, rfl, rfl, rfl, rfl, rfl, rfl⟩
 . have ht : t = 64 := by omega
   subst ht
   simp -dsimp +decide (disch := omega) only [vp0, ty, ↓reduceIte, Nat.reduceAdd, ci]
   obtain ⟨x, hx⟩ : ∃ x, x = (rnds (sch p 64) (W8.of hl) 64).l := ⟨_, rfl⟩
   have hxl : x.length = 8 := by rw [hx]; rfl
   obtain ⟨z, hz⟩ : ∃ z, z = List.zipWith (· + ·) hl x := ⟨_, rfl⟩
   have hzl : z.length = 8 := by rw [hz, List.length_zipWith, hh, hxl]; rfl
   refine SemA.loopL (fun i : Nat => [(2, .ptr T.length 0), (4, .ptr (T.length + 1) 0), (106, .ag (x.map w32)), (107, wint i)])
    (fun i => T ++ [.cells 124 ((z.take i ++ hl.drop i).map w32), .cells 124 ((List.replicate 8 (0 : UInt32)).map w32), .cells 196 ((sch p 64).map w32)]) (fun t => t <= 8) (fun t => 8 - t) 0 [] (by kernel_rfl) (by omega) ?_ ?_ ?_ ?_
   . simp -dsimp +decide only [vq, Nat.reduceAdd, ci]
     rw [hx]
     rfl
   . rfl
   . simp
   rintro i g ht
   simp -dsimp +decide only [vq, ↓reduceIte, Nat.reduceAdd]
   refine CondP.dec (fun h => ?_) (fun h => ?_)
   . have hzi : z[i]! = hl[i]! + x[i]! := by
      rw [hz, getElem!_pos _ i (by rw [<- hz]; omega), getElem!_pos hl i (by omega), getElem!_pos x i (by omega)]; simp
     simp -dsimp +decide (disch := omega) only [vr, ty, ↓reduceIte, Nat.reduceAdd, Nat.reduceLT, ci, vi, getO_i, step_get z hl i (by omega) (by omega), step_set z hl i (by omega) (by omega) _ hzi]
     exact ⟨by omega, by omega, by omega, by simp; omega, i + 1, by omega, by omega, rfl, rfl⟩
   . have ht : i = 8 := by omega
     subst ht
     simp -dsimp +decide (disch := omega) only [vq, ty, ↓reduceIte, ci]
     rw [show List.take 8 z ++ List.drop 8 hl = z by rw [List.take_of_length_le (by omega), List.drop_of_length_le (by omega), List.append_nil], List.drop_zero, List.take_of_length_le (show z.length <= 8 by omega), wrA_all (by simp [hzl])]
     refine ⟨by omega, ⟨by omega, by omega, by simp [hzl]⟩, by simp [hzl], Vw.cut ⟨?_, rfl, rfl⟩⟩
     rw [List.take_of_length_le (by simp [hzl])]
     simp -dsimp +decide only [va, vl]
     rw [piece, <- hx, <- hz]
end Go.Proofs.YtmcbdlefakjpoaaGreatDoor
namespace Go.Proofs.YtmcbdlefakjpoaaGreatDoor
open Go.E Go.Proofs.YtmcbdlefakjpoaaGreatDoor.Tryz Go.Proofs.Tryz
def init : List UInt32 := [1779033703, 3144134277, 1013904242, 2773480762, 1359893119, 2600822924, 528734635, 1541459225]
structure Sa where
 (h : List UInt32) (pc : List UInt8) (n : UInt64)
def Sa.ok (s : Sa) : Prop := s.h.length = 8 /\ s.pc.length = 64
def Sa.put (s : Sa) (x : UInt8) : Sa :=
 let pc := s.pc.set (s.n.toNat % 64) x
 ⟨if (s.n + 1).toNat % 64 = 0 then piece s.h pc else s.h, pc, s.n + 1⟩
def Sa.puts (s : Sa) (l : List UInt8) : Sa := l.foldl Sa.put s
def Sa.zero : Sa := ⟨init, List.replicate 64 0, 0⟩
def Sa.c (s : Sa) : List AV := .p (.bool true) :: (s.h.map w32 ++ (s.pc.map by8 ++ [w64 s.n]))
theorem start_ok {T : Tbl} : CallA prog G 77 [] T fun v T' es => v = .ag (init.map w32) /\ T' = T /\ es = [] := by
 refine CallA.eV 2 func77 ntmps77 results77 ?_
 simp -dsimp +decide only [vp0, ty, ↓reduceIte]
 rw [wrA_all (by simp)]
 exact Vw.cut ⟨rfl, rfl, rfl⟩
theorem begin_ok {T : Tbl} : CallA prog G 48 [] T fun v T' es => v = .ag Sa.zero.c /\ T' = T /\ es = [] := by
 refine CallA.eV 3 func48 ntmps48 results48 ?_
 simp -dsimp +decide only [vp0, ty, en, ↓reduceIte]
 refine start_ok.det ?_
 simp -dsimp +decide only [vp0, ty, ↓reduceIte]
 exact Vw.cut ⟨rfl, rfl, rfl⟩
theorem Sa.wo (s : Sa) (q : Nat -> Bool) : s.c.map (AV.wo q) = s.c := by
 rw [Sa.c, List.map_cons, List.map_append, List.map_append]
 simp -dsimp +decide only [va, vl]
theorem Sa.ones (s : Sa) : ones s.c = true := by
 have h1 : ∀ a b : List AV, E.ones (a ++ b) = (E.ones a && E.ones b) := fun a b => List.all_append
 rw [Sa.c]
 simp -dsimp +decide only [va, vl, h1]
def zst : List AV := .p (.bool false) :: ((List.replicate 8 (0 : UInt32)).map w32 ++ ((List.replicate 64 (0 : UInt8)).map by8 ++ [w64 0]))
section
variable {s : Sa} (hs : s.ok)
include hs
theorem Sa.len : s.c.length = 74 := by simp [Sa.c, hs.1, hs.2]
theorem Sa.get_n : s.c[73]? = some (w64 s.n) := by
 obtain ⟨h1, h2⟩ := hs
 rw [Sa.c, List.getElem?_cons_succ, List.getElem?_append_right (by simp; omega), List.getElem?_append_right (by simp; omega)]
 simp [h1, h2]
theorem Sa.set_n (n : UInt64) : s.c.set 73 (.p (.int .u64 (n.toNat : Int))) = (⟨s.h, s.pc, n⟩ : Sa).c := by
 obtain ⟨h1, h2⟩ := hs
 rw [Sa.c, List.set_cons_succ, List.set_append, if_neg (by simp; omega), List.set_append, if_neg (by simp; omega)]
 simp [h1, h2, Sa.c]; rfl
theorem Sa.wr_pc (r : Nat) (x : List UInt8) (h : r + x.length <= 64) : wrA s.c (9 + r) (x.map by8) = (⟨s.h, s.pc.take r ++ x ++ s.pc.drop (r + x.length), s.n⟩ : Sa).c := by
 have hl := Sa.len hs
 obtain ⟨h1, h2⟩ := hs
 rw [wrA_eq (by simp; omega), Sa.c, Sa.c, show 9 + r = (8 + r) + 1 by omega, List.take_succ_cons, show 8 + r + 1 + (x.map by8).length = (8 + (r + x.length)) + 1 by simp; omega, List.drop_succ_cons,
  List.take_append, List.take_append, List.drop_append, List.drop_append]
 simp only [List.length_map, h1, h2, List.map_append, List.map_take, List.map_drop]
 rw [List.take_of_length_le (by simp; omega), show 8 + r - 8 = r by omega, show r - 64 = 0 by omega, List.drop_of_length_le (by simp; omega), show 8 + (r + x.length) - 8 = r + x.length by omega, show r + x.length - 64 = 0 by omega]
 simp
theorem Sa.wr_h (h : List UInt32) (hh : h.length = 8) : wrA s.c 1 (h.map w32) = (⟨h, s.pc, s.n⟩ : Sa).c := by
 have hl := Sa.len hs
 obtain ⟨h1, h2⟩ := hs
 rw [wrA_eq (by simp; omega), Sa.c, Sa.c, List.take_succ_cons, List.take_zero, show 1 + (h.map w32).length = 8 + 1 by simp; omega, List.drop_succ_cons, List.drop_append_of_le_length (by simp; omega), List.drop_of_length_le (by simp; omega)]
 simp
theorem Sa.get_h : (s.c.drop 1).take 8 = s.h.map w32 := by
 obtain ⟨h1, h2⟩ := hs
 rw [Sa.c, List.drop_succ_cons, List.drop_zero, List.take_append_of_le_length (by simp; omega), List.take_of_length_le (by simp; omega)]
theorem Sa.get_hk (k : Nat) (hk : k < 8) : s.c[1 + k]? = some (.p (.int .u32 (s.h[k]!.toNat : Int))) := by
 obtain ⟨h1, h2⟩ := hs
 rw [Sa.c, show 1 + k = k + 1 by omega, List.getElem?_cons_succ, List.getElem?_append_left (by simp; omega)]
 simp [getElem!_pos s.h k (by omega), List.getElem?_eq_getElem (show k < s.h.length by omega), w32]
theorem Sa.get_pc (k : Nat) (hk : k < 64) : s.c[9 + k]? = some (by8 s.pc[k]!) := by
 obtain ⟨h1, h2⟩ := hs
 rw [Sa.c, show 9 + k = (8 + k) + 1 by omega, List.getElem?_cons_succ, List.getElem?_append_right (by simp; omega), List.getElem?_append_left (by simp; omega)]
 simp [h1, getElem!_pos s.pc k (by omega), List.getElem?_eq_getElem (show k < s.pc.length by omega)]
theorem Sa.put_ok (x : UInt8) : (s.put x).ok := by
 obtain ⟨h1, h2⟩ := hs
 refine ⟨?_, by simp [Sa.put, h2]⟩
 simp only [Sa.put]
 split
 . rw [piece, List.length_zipWith, h1]; rfl
 . exact h1
end
theorem Sa.puts_ok (l : List UInt8) : ∀ {s : Sa}, s.ok -> (s.puts l).ok := by
 induction l with
 | nil => exact fun h => h
 | cons x l ih => exact fun h => ih (Sa.put_ok h x)
theorem of_succ (n : UInt64) (k : Nat) : n + UInt64.ofInt ((k + 1 : Nat) : Int) = n + 1 + UInt64.ofInt (k : Int) := by
 rw [UInt64.add_assoc]
 congr 1
 rw [Int.natCast_succ, UInt64.ofInt_add, UInt64.add_comm]; rfl
theorem mod_succ (n : UInt64) : (n + 1).toNat % 64 = (n.toNat % 64 + 1) % 64 := by
 rw [UInt64.toNat_add]; simp
theorem absorb (x : List UInt8) : ∀ (s : Sa), s.n.toNat % 64 + x.length <= 64 -> 0 < x.length -> s.ok -> s.puts x = (let pc := s.pc.take (s.n.toNat % 64) ++ x ++ s.pc.drop (s.n.toNat % 64 + x.length)
 ⟨if (s.n + UInt64.ofInt (x.length : Int)).toNat % 64 = 0 then piece s.h pc else s.h, pc, s.n + UInt64.ofInt (x.length : Int)⟩) := by
 induction x with
 | nil => intro s _ h; simp at h
 | cons y x ih =>
   intro s h1 _ hs
   have hp := hs.2
   rw [List.length_cons] at h1 ⊢
   obtain ⟨r, hr⟩ : ∃ r, r = s.n.toNat % 64 := ⟨_, rfl⟩
   rw [<- hr] at h1 ⊢
   have hset : s.pc.set r y = s.pc.take r ++ y :: s.pc.drop (r + 1) := by
    rw [List.set_eq_take_append_cons_drop, if_pos (by omega)]
   show (s.put y).puts x = _
   by_cases hx : x = []
   . subst hx
     show s.put y = _
     simp only [Sa.put, <- hr, hset, List.length_nil, of_succ]
     rw [show UInt64.ofInt ((0 : Nat) : Int) = 0 from rfl, UInt64.add_zero]
     simp
   . have hx0 : 0 < x.length := List.length_pos_iff.2 hx
     have e := mod_succ s.n
     have hput : s.put y = ⟨s.h, s.pc.set r y, s.n + 1⟩ := by
      simp only [Sa.put, <- hr]; rw [if_neg (by omega)]
     rw [ih (s.put y) (by rw [hput]; show (s.n + 1).toNat % 64 + _ <= 64; omega) hx0 (Sa.put_ok hs y), hput]
     have e2 : (s.n + 1).toNat % 64 = r + 1 := by omega
     have e3 : (s.pc.set r y).take (r + 1) ++ x ++ (s.pc.set r y).drop (r + 1 + x.length) = s.pc.take r ++ y :: x ++ s.pc.drop (r + (x.length + 1)) := by
      have hA : (s.pc.take r).length = r := by simp; omega
      have hD : s.pc.drop (r + (x.length + 1)) = (s.pc.drop (r + 1)).drop x.length := by rw [List.drop_drop]; congr 1; omega
      rw [hset, hD]
      generalize s.pc.take r = A at hA
      generalize s.pc.drop (r + 1) = B
      rw [List.take_append, List.drop_append, hA, List.take_of_length_le (l := A) (by omega), List.drop_of_length_le (l := A) (by omega), show r + 1 - r = 1 by omega, show r + 1 + x.length - r = x.length + 1 by omega, List.take_succ_cons, List.drop_succ_cons, List.take_zero]
      simp
     simp only [e2, e3, of_succ]
theorem add_ok {T : Tbl} {a : AV} {bs : List UInt8} {s : Sa} (hs : s.ok) (hb : Bs T a bs) : CallA prog G 49 [.ag s.c, a] T fun v T' es => v = .ag (s.puts bs).c /\ T' = T /\ es = [] := by
 have hc0 : s.c[0]? = some (.p (.bool true)) := rfl
 refine CallA.eV 39 func49 ntmps49 results49 ?_
 simp -dsimp +decide only [vp0, ty, ↓reduceIte, Nat.reduceSub, Nat.reduceAdd]
 simp -dsimp +decide only [vp0, ↓reduceIte, hc0]
 refine SemA.loopL (fun x : AV × List UInt8 × Sa => [(1, x.1), (2, .ptr T.length 0), (4, .ptr (T.length + 1) 0)]) (fun x => T ++ [.cells 127 x.2.2.c, .cells 127 zst]) (fun x => Bs T x.1 x.2.1 /\ x.2.2.ok /\ x.2.2.puts x.2.1 = s.puts bs) (fun x => x.2.1.length) (a, bs, s) [] (by kernel_rfl) ⟨hb, hs, rfl⟩ (by (simp -dsimp +decide only [vp0, Nat.reduceAdd])) rfl (by simp) ?_
 obtain ⟨s₀, hs₀⟩ : ∃ s₀, s₀ = s := ⟨_, rfl⟩
 obtain ⟨b₀, hb₀⟩ : ∃ b₀, b₀ = bs := ⟨_, rfl⟩
 rw [<- hs₀, <- hb₀]
 clear hb hs hs₀ hb₀ hc0 s bs a
 rintro ⟨a, bs, s⟩ g ⟨hb, hs, hq⟩
 dsimp only at hb hs hq
 have hr := Sl.rules hb (by decide)
 have hn := Sa.get_n hs
 have hl := Sa.len hs
 simp -dsimp +decide only [vp0, ty, ↓reduceIte, Nat.reduceAdd, hr]
 refine CondP.dec (fun h => ?_) (fun h => ?_)
 . simp -dsimp +decide (disch := omega) only [vq, ty, ↓reduceIte, hr, hn, vt]
   obtain ⟨r, hr'⟩ : ∃ r, r = s.n.toNat % 64 := ⟨_, rfl⟩
   obtain ⟨m, hm⟩ : ∃ m, m = min bs.length (64 - r) := ⟨_, rfl⟩
   have hml : (bs.take m).length = m := by rw [List.length_take]; omega
   have hp := hs.2
   rw [<- hr', <- hm, Sa.wr_pc hs r (bs.take m) (by omega)]
   refine ⟨by omega, by omega, by omega, by omega, by omega, by omega, ?_⟩
   obtain ⟨s1, e1⟩ : ∃ s1 : Sa, s1 = ⟨s.h, s.pc.take r ++ bs.take m ++ s.pc.drop (r + (bs.take m).length), s.n⟩ := ⟨_, rfl⟩
   have hs1 : s1.ok := by rw [e1]; exact ⟨hs.1, by have := hs.2; simp; omega⟩
   rw [<- e1]
   have hn1 := Sa.get_n hs1
   have hw1 := Sa.set_n hs1
   have hl1 := Sa.len hs1
   obtain ⟨s2, e2⟩ : ∃ s2 : Sa, s2 = ⟨s1.h, s1.pc, s1.n + UInt64.ofInt (m : Int)⟩ := ⟨_, rfl⟩
   have hs2 : s2.ok := by rw [e2]; exact hs1
   have hn2 := Sa.get_n hs2
   have hl2 := Sa.len hs2
   have habs := absorb (bs.take m) s (by omega) (by omega) hs
   rw [<- hr', hml] at habs
   dsimp only at habs
   have fin : ∀ s3 : Sa, s3 = s.puts (bs.take m) -> ∃ s' : AV × List UInt8 × Sa, (Bs T s'.1 s'.2.1 /\ s'.2.2.ok /\ s'.2.2.puts s'.2.1 = s₀.puts b₀) /\ s'.2.1.length < bs.length /\ a.sub 1 m bs.length = s'.1 /\ T ++ [AObj.cells 127 s3.c, .cells 127 zst] = T ++ [AObj.cells 127 s'.2.2.c, .cells 127 zst] := by
    intro s3 h3
    have hb' := Bs.sub hb (show m <= bs.length by omega) (Nat.le_refl _)
    rw [List.take_of_length_le (by simp)] at hb'
    refine ⟨(_, bs.drop m, s3), ⟨hb', h3 ▸ Sa.puts_ok _ hs, ?_⟩, by simp; omega, rfl, rfl⟩
    rw [<- hq, h3, Sa.puts, Sa.puts, <- List.foldl_append, List.take_append_drop, Sa.puts]
   simp -dsimp +decide (disch := omega) only [vr, ty, ↓reduceIte, Nat.reduceAdd, Nat.reduceLT, hn1, hw1, vt, <- e2, hn2]
   refine ⟨by omega, CondP.dec (fun h2 => ?_) (fun h2 => ?_)⟩
   . simp -dsimp +decide (disch := omega) only [vp0, ty, en, ↓reduceIte, Nat.reduceAdd, Sa.get_h hs2]
     refine ⟨by omega, (with_ok (T := T ++ [AObj.cells 127 s2.c, AObj.cells 127 zst]) (i := T.length) (off := 9) (p := s2.pc) (hl := s2.h) (E := 127) (cs := s2.c) (by simp) hs2.2 (Sa.get_pc hs2) hs2.1).det ?_⟩
     simp -dsimp +decide (disch := omega) only [vq, ty, ↓reduceIte, Nat.reduceAdd, hl2]
     have hpl : (piece s2.h s2.pc).length = 8 := by rw [piece, List.length_zipWith, hs2.1]; rfl
     rw [Sa.wr_h hs2 _ hpl]
     refine ⟨by omega, fin ⟨piece s2.h s2.pc, s2.pc, s2.n⟩ (by rw [habs, if_pos (by rw [e2, e1] at h2; exact_mod_cast h2), e2, e1, hml])⟩ 
   . simp -dsimp +decide (disch := omega) only [vp0, Nat.reduceAdd]
     exact fin _ (by rw [habs, if_neg (by rw [e2, e1] at h2; exact_mod_cast h2), e2, e1, hml])
 . have hb0 : bs = [] := List.eq_nil_of_length_eq_zero (by omega)
   subst hb0
   simp -dsimp +decide (disch := omega) only [vp0, ty, ↓reduceIte, hl]
   have ht : s.c.take 74 = s.c := List.take_of_length_le (by omega)
   rw [ht, wrA_all (by rw [hl]; rfl), ht, hl]
   refine ⟨⟨rfl, by omega, by decide, Sa.ones s⟩, by omega, Vw.cut ⟨?_, rfl, rfl⟩⟩
   simp -dsimp +decide only [va, Sa.wo]
   rw [<- hq]; rfl
def dist (n : UInt64) : Nat := (120 - n.toNat % 64) % 64
def lens (n : UInt64) : List UInt8 := (List.range 8).map fun i => (u64_shr (n * 8) (56 - 8 * i)).toUInt8
def outs (h : List UInt32) : List UInt8 := (List.range 32).map fun i => (u32_shr h[i / 4]! (24 - 8 * (i % 4))).toUInt8
def Sa.padded (s : Sa) : Sa := (s.put 128).puts (List.replicate (dist (s.n + 1)) 0)
def Sa.fin (s : Sa) : List UInt8 := outs (s.padded.puts (lens s.n)).h
def zh : List AV := (List.replicate 32 (0 : UInt8)).map by8
theorem Sa.put_n (s : Sa) (x : UInt8) : (s.put x).n = s.n + 1 := rfl
theorem end_ok {T : Tbl} {s : Sa} (hs : s.ok) : CallA prog G 50 [.ag s.c] T fun v T' es => v = .ag (s.fin.map by8) /\ T' = T /\ es = [] := by
 refine CallA.wf fun wf => ?_
 have wT : ∀ k, T.map (AObj.wo (fun i => decide (T.length + k <= i))) = T := fun k => (wf _ fun i hi => by simp; omega).1
 have hn := Sa.get_n hs
 have hl := Sa.len hs
 have ht : ∀ s : Sa, s.ok -> s.c.take 74 = s.c := fun s h => List.take_of_length_le (by rw [Sa.len h]; omega)
 have hs1 := Sa.put_ok hs 128
 refine CallA.eV 54 func50 ntmps50 results50 ?_
 simp -dsimp +decide only [vp0, ty, ↓reduceIte, Nat.reduceSub]
 simp -dsimp +decide only [vr, ty, en, ↓reduceIte, Nat.reduceAdd, hn]
 refine ⟨by omega, ?_⟩
 rw [ht s hs]
 refine (add_ok hs (bs := [128]) (Bs.obj (T := T ++ [_, _, _]) (o := .buf 5 1 [by8 128]) (by simp; rfl) (by rfl))).det ?_
 have e1 : s.puts [128] = s.put 128 := rfl
 have hl1 := Sa.len hs1
 simp -dsimp +decide (disch := omega) only [vp0, ty, ↓reduceIte, Nat.reduceLT, e1, hl1, hl]
 rw [wrA_all (by rw [hl1, hl])]
 refine ⟨Sa.ones _, ?_⟩
 refine SemA.cut (T.length + 2) (by omega) ?_
 simp -dsimp +decide only [vp0, ↓reduceIte, vt, wT, Sa.wo]
 refine SemA.loopC (fun _ : Sa => [(1, .ptr T.length 0), (2, .ptr (T.length + 1) 0), (3, .p (.int .u64 (s.n * UInt64.ofInt 8).toNat))]) (fun s => T ++ [.cells 127 s.c, .cells 33 zh]) (fun x => x.ok /\ x.puts (List.replicate (dist x.n) 0) = s.padded) (fun x => dist x.n) (T.length + 2) (s.put 128) [] (by kernel_rfl) (by omega) ⟨hs1, rfl⟩ (by (simp -dsimp +decide only [vp0, Nat.reduceAdd])) rfl (by simp) ?_
 rintro x g ⟨hx, hq⟩
 have hnx := Sa.get_n hx
 have hlx := Sa.len hx
 simp -dsimp +decide only [vq, ty, ↓reduceIte, Nat.reduceAdd, hnx, vt]
 have hpx := Sa.put_ok hx 0
 have hlp := Sa.len hpx
 refine CondP.ndec (fun h => ?_) (fun h => ?_)
 . simp -dsimp +decide only [vp0, ty, en, ↓reduceIte, Nat.reduceAdd, vt]
   refine ⟨by omega, ?_⟩
   rw [ht x hx]
   refine (add_ok hx (bs := [0]) (Bs.obj (T := T ++ [_, _, _]) (o := .buf 5 1 [by8 0]) (by simp; rfl) (by rfl))).det ?_
   have e2 : x.puts [0] = x.put 0 := rfl
   simp -dsimp +decide (disch := omega) only [vp0, ty, ↓reduceIte, Nat.reduceAdd, Nat.reduceLT, e2, hlp, hlx, vt, wT, Sa.wo]
   rw [wrA_all (by rw [hlp, hlx])]
   have em := mod_succ x.n
   have ed : dist x.n = dist (x.n + 1) + 1 := by unfold dist; omega
   refine ⟨Sa.ones _, x.put 0, ⟨hpx, ?_⟩, ?_, ?_⟩
   . rw [<- hq, ed, List.replicate_succ]; rfl
   . rw [ed, Sa.put_n]; omega
   . rw [Sa.wo]; rfl
 . have hd : dist x.n = 0 := by unfold dist; omega
   have hxp : x = s.padded := by rw [<- hq, hd]; rfl
   simp -dsimp +decide only [vp0, ty, ↓reduceIte, Nat.reduceAdd]
   obtain ⟨L8, hL8⟩ : ∃ l, l = lens s.n := ⟨_, rfl⟩
   have hL8l : L8.length = 8 := by rw [hL8]; simp [lens]
   refine SemA.loopL (fun i : Nat => [(1, .ptr T.length 0), (2, .ptr (T.length + 1) 0), (3, .p (.int .u64 (s.n * UInt64.ofInt 8).toNat)), (4, .ptr (T.length + 2) 0), (21, wint i)])
    (fun i => T ++ [.cells 127 x.c, .cells 33 zh, .cells 177 ((L8.take i ++ (List.replicate 8 0).drop i).map by8)]) (fun i => i <= 8) (fun i => 8 - i) 0 [] (by kernel_rfl) (by omega) (by (simp -dsimp +decide only [vq, Nat.reduceAdd, ci])) rfl (by simp) ?_
   rintro i g hi
   simp -dsimp +decide only [vq, ↓reduceIte, Nat.reduceAdd]
   refine CondP.dec (fun h => ?_) (fun h => ?_)
   . simp -dsimp +decide (disch := omega) only [vr, ty, ↓reduceIte, Nat.reduceAdd, Nat.reduceLT, Int.reduceToNat, ci, vi]
     have hz : L8[i]! = (u64_shr (s.n * UInt64.ofInt 8) (56 - 8 * i)).toUInt8 := by
      rw [getElem!_pos L8 i (by omega)]; simp [hL8, lens]; rfl
     rw [step_set L8 (List.replicate 8 0) i (by omega) (by simp; omega) _ hz]
     exact ⟨by omega, by omega, by simp; omega, i + 1, by omega, by omega, rfl, rfl⟩
   . have hi : i = 8 := by omega
     subst hi
     simp -dsimp +decide (disch := omega) only [vp0, ↓reduceIte, ci]
     rw [List.take_of_length_le (show L8.length <= 8 by omega), show (List.replicate 8 (0 : UInt8)).drop 8 = [] from rfl, List.append_nil]
     refine SemA.draw (fun _ => true) [(0, true), (1, true), (2, false), (3, false)] mixed (by kernel_rfl) ?_
     simp -dsimp +decide (disch := omega) only [vp0, ty, en, ↓reduceIte, vt]
     refine ⟨by omega, ?_⟩
     rw [ht x hx]
     have hb8 : Bs (T ++ [AObj.cells 127 x.c, .cells 33 zh, .cells 177 (L8.map by8)]) (.sl (T.length + 2) 0 8) L8 := by
      have := Bs.obj (T := T ++ [AObj.cells 127 x.c, .cells 33 zh, .cells 177 (L8.map by8)]) (i := T.length + 2) (o := .cells 177 (L8.map by8)) (bs := L8) (by simp) rfl
      rwa [hL8l] at this
     refine (add_ok hx hb8).det ?_
     have hy := Sa.puts_ok L8 hx
     obtain ⟨y, ey⟩ : ∃ y, y = x.puts L8 := ⟨_, rfl⟩
     rw [<- ey] at hy ⊢
     have hly := Sa.len hy
     simp -dsimp +decide (disch := omega) only [vp0, ty, ↓reduceIte, Nat.reduceAdd, Nat.reduceLT, hly, hlx]
     rw [wrA_all (by rw [hly, hlx])]
     refine ⟨Sa.ones _, ?_⟩
     obtain ⟨O, hO⟩ : ∃ l, l = outs y.h := ⟨_, rfl⟩
     have hOl : O.length = 32 := by rw [hO]; simp [outs]
     refine SemA.loopL (fun i : Nat => [(1, .ptr T.length 0), (2, .ptr (T.length + 1) 0), (6, .ptr (T.length + 3) 0), (36, wint i)])
      (fun i => T ++ [.cells 127 y.c, .cells 33 zh, .cells 177 (L8.map by8), .cells 33 ((O.take i ++ (List.replicate 32 0).drop i).map by8)]) (fun i => i <= 32) (fun i => 32 - i) 0 [] (by kernel_rfl) (by omega) (by (simp -dsimp +decide only [vq, Nat.reduceAdd, ci])) rfl (by simp) ?_
     rintro i g hi
     simp -dsimp +decide only [vq, ↓reduceIte, Nat.reduceAdd]
     refine CondP.dec (fun h => ?_) (fun h => ?_)
     . have hyh := Sa.get_hk hy (i / 4) (by omega)
       have hz : O[i]! = (u32_shr y.h[i / 4]! (24 - 8 * (i % 4))).toUInt8 := by
        rw [getElem!_pos O i (by omega)]; simp [hO, outs]
       simp -dsimp +decide (disch := omega) only [vr, ty, ↓reduceIte, Nat.reduceAdd, Nat.reduceLT, Int.reduceToNat, ci, vi, vt, hyh, step_set O (List.replicate 32 0) i (by omega) (by simp; omega) _ hz]
       exact ⟨⟨by omega, by omega⟩, by omega, ⟨by omega, by omega⟩, by simp; omega, i + 1, by omega, by omega, rfl, rfl⟩
     . have hi : i = 32 := by omega
       subst hi
       rw [show List.take 32 O ++ List.drop 32 (List.replicate 32 0) = O by rw [List.take_of_length_le (by omega)]; simp]
       have hOt : O.take 32 = O := List.take_of_length_le (by omega)
       simp -dsimp +decide (disch := omega) only [vq, ty, ↓reduceIte, ci, hOt, List.drop_zero]
       rw [wrA_all (by simp [hOl, zh])]
       refine ⟨by omega, ⟨by omega, by omega, by simp [hOl, zh]⟩, by simp [hOl], Vw.cut ⟨?_, rfl, rfl⟩⟩
       simp -dsimp +decide only [va, vl, hOt]
       rw [hO, ey, hxp, hL8, Sa.fin]
def sha (m : List UInt8) : List UInt8 := (Sa.zero.puts m).fin
theorem zero_ok : Sa.zero.ok := ⟨rfl, rfl⟩
theorem outs_len (h : List UInt32) : (outs h).length = 32 := by simp [outs]
theorem sha_len (m : List UInt8) : (sha m).length = 32 := outs_len _
theorem sum_ok {T : Tbl} {a : AV} {bs : List UInt8} (hb : Bs T a bs) : CallA prog G 21 [a] T fun v T' es => v = .ag ((sha bs).map by8) /\ T' = T /\ es = [] := by
 refine CallA.eV 7 func21 ntmps21 results21 ?_
 simp -dsimp +decide only [vp0, ty, en, ↓reduceIte, Nat.reduceSub]
 refine begin_ok.det ?_
 simp -dsimp +decide only [va, en, ↓reduceIte]
 refine (add_ok zero_ok (hb.app _)).det ?_
 simp -dsimp +decide only [va, en, ↓reduceIte]
 refine (end_ok (Sa.puts_ok bs zero_ok)).det ?_
 simp -dsimp +decide only [vq, ty, ↓reduceIte, Nat.reduceAdd]
 have hf : ((Sa.zero.puts bs).fin).length = 32 := sha_len bs
 rw [wrA_all (by simp [hf])]
 refine ⟨by omega, by simp [hf], Vw.cut ⟨?_, rfl, rfl⟩⟩
 simp -dsimp +decide only [va, vl]
 rw [List.take_of_length_le (by omega), sha]
end Go.Proofs.YtmcbdlefakjpoaaGreatDoor
namespace Go.Proofs.YtmcbdlefakjpoaaGreatDoor
open Go.E Go.Proofs.YtmcbdlefakjpoaaGreatDoor.Tryz Go.Proofs.Tryz
def distn (n : Nat) : Nat := (120 - n % 64) % 64
def txt (m : List UInt8) : List UInt8 := m ++ 128 :: (List.replicate (distn (m.length + 1)) 0 ++ lens (UInt64.ofInt (m.length : Int)))
theorem txt_len (m : List UInt8) : (txt m).length % 64 = 0 := by
 simp [txt, lens, distn]; omega
theorem sh_num : ∀ j : Nat, j < 8 -> (UInt64.ofInt 8 * (UInt64.ofInt 7 - UInt64.ofInt (j : Int))).toNat = 56 - 8 * j := by decide +kernel
theorem take_next {α : Type} [Inhabited α] (l : List α) (k : Nat) (h : k < l.length) : l.take k ++ [l[k]!] = l.take (k + 1) := by
 rw [getElem!_pos l k h, List.take_succ_eq_append_getElem h]
theorem text_ok {T : Tbl} {a : AV} {bs : List UInt8} (hb : Bs T a bs) (hlen : bs.length <= 1099511627776) : CallA prog G 53 [a] T fun v T' es => v = .sl T.length 0 (txt bs).length /\ T' = T ++ [.buf 5 1 ((txt bs).map by8)] /\ es = [] := by
 have hr := Sl.rules hb (by decide)
 refine CallA.wfs fun wf => ?_
 have wt := wf.t
 have wa := wf.arg a (by simp)
 refine CallA.eV 37 func53 ntmps53 results53 ?_
 simp -dsimp +decide only [vp0, ty, ↓reduceIte, Nat.reduceSub]
 simp -dsimp +decide (disch := omega) only [vq, ty, ↓reduceIte, hr, vt, wt]
 refine ⟨by omega, by omega, ?_⟩
 refine SemA.cut (T.length + 1) (by omega) ?_
 simp -dsimp +decide only [vq, ↓reduceIte, vt, wt, wa]
 refine SemA.loopC (fun o : List UInt8 => [(0, a), (3, .sl T.length 0 o.length)]) (fun o => T ++ [.buf 5 1 (o.map by8)]) (fun o => o.length <= bs.length + 100 /\ o ++ List.replicate (distn o.length) 0 = bs ++ 128 :: List.replicate (distn (bs.length + 1)) 0) (fun o => distn o.length) (T.length + 1) (bs ++ [128]) [] (by kernel_rfl) (by omega) ⟨by simp, by simp⟩ (by (simp -dsimp +decide only [vp0, Nat.reduceAdd, List.length_append]); rfl) (by rw [List.map_append]; rfl) (by simp) ?_
 rintro o g ⟨hol, ho⟩
 simp -dsimp +decide only [vp0, ty, ↓reduceIte, Nat.reduceAdd, vt]
 refine CondP.ndec (fun h => ?_) (fun h => ?_)
 . simp -dsimp +decide (disch := omega) only [vq, ty, ↓reduceIte, Nat.reduceAdd, vt, wt, wa]
   have ed : distn o.length = distn (o.length + 1) + 1 := by unfold distn; omega
   refine ⟨by omega, o ++ [0], ⟨?_, ?_⟩, ?_, ?_, ?_⟩
   . have := congrArg List.length ho
     simp [distn] at this ⊢
     omega
   . rw [<- ho, ed, List.replicate_succ]; simp
   . simp; omega
   . simp
   . rw [List.map_append]; rfl
 . have hd : distn o.length = 0 := by unfold distn; omega
   rw [hd, List.replicate_zero, List.append_nil] at ho
   simp -dsimp +decide only [vp0, vu, ty, ↓reduceIte, hr]
   have hol2 : o.length <= bs.length + 65 := by
    have := congrArg List.length ho
    simp [distn] at this
    omega
   have hl8 : (lens (UInt64.ofInt (bs.length : Int))).length = 8 := by simp [lens]
   obtain ⟨L8, hL8⟩ : ∃ l, l = lens (UInt64.ofInt (bs.length : Int)) := ⟨_, rfl⟩
   rw [<- hL8] at hl8
   refine SemA.loopC (fun j : Nat => [(3, .sl T.length 0 (o.length + j)), (4, .p (.int .u64 ((UInt64.ofInt (bs.length : Int) * UInt64.ofInt 8).toNat : Int))), (5, wint (7 - (j : Int)))]) (fun j => T ++ [.buf 5 1 ((o ++ L8.take j).map by8)]) (fun j => j <= 8) (fun j => 8 - j) (T.length + 1) 0 [] (by kernel_rfl) (by omega) (by omega) (by (simp -dsimp +decide only [vq, Nat.reduceAdd, Int.reduceSub, ci])) (by (simp -dsimp +decide only [List.take_zero, List.append_nil])) (by simp) ?_
   rintro j g hj
   simp -dsimp +decide only [vq, ↓reduceIte, Nat.reduceAdd]
   refine CondP.dec (fun h => ?_) (fun h => ?_)
   . simp -dsimp +decide (disch := omega) only [vr, ty, ↓reduceIte, Nat.reduceAdd, vi, vt, wt]
     have hz : L8[j]! = (u64_shr (UInt64.ofInt (bs.length : Int) * UInt64.ofInt 8) (UInt64.ofInt 8 * (UInt64.ofInt 7 - UInt64.ofInt (j : Int))).toNat).toUInt8 := by
      rw [getElem!_pos L8 j (by omega), sh_num j (by omega)]; simp [hL8, lens]; rfl
     refine ⟨⟨by simp; omega, by omega, by omega⟩, j + 1, by omega, by omega, ⟨rfl, ?_⟩, ?_⟩
     . rw [show (7 : Int) - (j : Int) - 1 = 7 - ((j + 1 : Nat) : Int) by omega]
     . rw [<- hz, List.append_assoc, take_next L8 j (by omega)]
   . have hj : j = 8 := by omega
     subst hj
     simp -dsimp +decide only [vp0, ↓reduceIte, Int.reduceSub, ci]
     have e : o ++ L8.take 8 = txt bs := by
      rw [List.take_of_length_le (by omega), ho, hL8, txt]; simp
     rw [e]
     refine Vw.done ⟨?_, rfl, rfl⟩
     rw [<- e, List.length_append, List.take_of_length_le (by omega), hl8]
theorem words_be (p : List UInt8) (t : Nat) : be32 p t 4 = (u32_shl (p[4 * t]!).toUInt32 24 ||| u32_shl (p[4 * t + 1]!).toUInt32 16 ||| u32_shl (p[4 * t + 2]!).toUInt32 8 ||| (p[4 * t + 3]!).toUInt32) := by
 simp only [be32, Nat.add_zero]
 generalize (p[4 * t]!).toUInt32 = a
 generalize (p[4 * t + 1]!).toUInt32 = b
 generalize (p[4 * t + 2]!).toUInt32 = c
 generalize (p[4 * t + 3]!).toUInt32 = d
 apply UInt32.eq_of_toBitVec_eq
 simp [u32_shl]
 simp only [BitVec.shiftLeft_or_distrib, <- BitVec.shiftLeft_add]
theorem ch_eq (e f g : UInt32) : (g ^^^ e &&& (f ^^^ g)) = (e &&& f) ^^^ (~~~ e &&& g) := by
 apply UInt32.eq_of_toBitVec_eq
 ext i
 simp
 cases e.toBitVec[i] <;> cases f.toBitVec[i] <;> cases g.toBitVec[i] <;> rfl
theorem maj_eq (a b c : UInt32) : (a &&& b ||| c &&& (a ||| b)) = (a &&& b) ^^^ (a &&& c) ^^^ (b &&& c) := by
 apply UInt32.eq_of_toBitVec_eq
 ext i
 simp
 cases a.toBitVec[i] <;> cases b.toBitVec[i] <;> cases c.toBitVec[i] <;> rfl
theorem k_ok {T : Tbl} : CallA prog G 54 [] T fun v T' es => v = .sl T.length 0 64 /\ T' = T ++ [.buf 30 1 (tbl.map w32)] /\ es = [] := by
 refine CallA.eV 2 func54 ntmps54 results54 ?_
 simp -dsimp +decide only [vp0, ty, ↓reduceIte]
 exact Vw.done ⟨rfl, by rfl, rfl⟩
theorem sch_snoc_lo (p : List UInt8) (t : Nat) (h : t < 16) : sch p (t + 1) = sch p t ++ [be32 p t 4] := by
 rw [sch, nextW, sch_len, if_pos h]
theorem sch_snoc_hi (p : List UInt8) (t : Nat) (h : 16 <= t) : sch p (t + 1) = sch p t ++ [(rotr (sch p t)[t - 2]! 17 ^^^ rotr (sch p t)[t - 2]! 19 ^^^ u32_shr (sch p t)[t - 2]! 10) + (sch p t)[t - 7]! + (rotr (sch p t)[t - 15]! 7 ^^^ rotr (sch p t)[t - 15]! 18 ^^^ u32_shr (sch p t)[t - 15]! 3) + (sch p t)[t - 16]!] := by
 rw [sch, nextW, sch_len, if_neg (by omega)]
 simp only [sg0, sg1]
 congr 2
 ac_rfl
def wtb (T : Tbl) (p : List UInt8) : Nat -> Tbl
 | 0 => T
 | t + 1 => T ++ [.buf 30 1 [w32 (be32 p 0 4)], .buf 30 1 ((sch p (t + 1)).map w32)]
theorem words_ok {T : Tbl} {a : AV} {p : List UInt8} (hb : Bs T a p) (hp : p.length = 64) : CallA prog G 55 [a] T fun v T' es => v = .sl (T.length + 1) 0 64 /\ T' = T ++ [.buf 30 1 [w32 (be32 p 0 4)], .buf 30 1 ((sch p 64).map w32)] /\ es = [] := by
 have hr := Sl.rules hb (by decide)
 have hld := Sl.loads hb (P := prog) (t := 5) (by (simp -dsimp +decide only []))
 refine CallA.wfs fun wf => ?_
 have wt := wf.t
 have wa := wf.arg a (by simp)
 refine CallA.eV 99 func55 ntmps55 results55 ?_
 simp -dsimp +decide only [vp0, ↓reduceIte, Nat.reduceSub]
 refine SemA.loopC (fun t : Nat => [(0, a), (3, if t = 0 then .p (.slice none 0 0) else .sl (T.length + 1) 0 t), (4, wint t)]) (wtb T p) (fun t => t <= 16) (fun t => 16 - t) (T.length + 2) 0 [] (by kernel_rfl) (by omega) (by omega) (by (simp -dsimp +decide only [vq, ↓reduceIte, Nat.reduceAdd, ci])) rfl (by simp) ?_
 rintro t g ht
 simp -dsimp +decide only [vq, ↓reduceIte, Nat.reduceAdd]
 refine CondP.dec (fun h => ?_) (fun h => ?_)
 . refine SemA.drawE 35 (fun _ => true) [(0, true), (1, true), (2, true), (3, true), (4, true), (5, true), (6, true), (7, true), (8, true), (9, true), (10, true), (11, true), (12, true), (13, true), (14, true), (15, true), (16, true), (17, true), (18, true), (19, true), (20, true), (21, true), (22, true), (23, true), (24, true), (25, true), (26, true), (27, true), (28, true), (29, true), (30, true), (31, true), (32, true), (33, true), (34, false), (35, false), (36, true)] mixed (by kernel_rfl) ?_
   cases t with
   | zero =>
     simp -dsimp +decide (disch := omega) only [vr, ty, ↓reduceIte, Nat.reduceAdd, Nat.reduceMul, Int.reduceAdd, Int.reduceToNat, ci, vi, getO_i, vt, wt, wa, hr, hld, wtb]
     refine ⟨by omega, by omega, by omega, by omega, 1, by omega, by omega, ⟨rfl, rfl⟩, ?_⟩
     show _ = T ++ [.buf 30 1 [w32 (be32 p 0 4)], .buf 30 1 [w32 (be32 p 0 4)]]
     rw [words_be]
     rfl
   | succ t =>
     have hne : (t + 1 = 0) = False := by simp
     have hsl := sch_len p (t + 1)
     simp -dsimp +decide (disch := omega) only [vr, ty, ↓reduceIte, Nat.reduceAdd, Int.reduceToNat, vi, getO_i, vt, wt, wa, hr, hld, wtb, hsl, hne]
     rw [<- words_be]
     refine ⟨by omega, by omega, by omega, by omega, by omega, t + 2, by omega, by omega, ⟨rfl, ?_⟩, ?_⟩
     . rw [show ((t + 1 : Nat) : Int) + 1 = ((t + 2 : Nat) : Int) by omega]
     . show _ = T ++ [AObj.buf 30 1 [w32 (be32 p 0 4)], AObj.buf 30 1 ((sch p (t + 1 + 1)).map w32)]
       rw [sch_snoc_lo p (t + 1) (by omega)]; rfl
 . have ht : t = 16 := by omega
   subst ht
   simp -dsimp +decide only [vp0, ↓reduceIte, ci]
   refine SemA.loopC (fun t : Nat => [(3, .sl (T.length + 1) 0 t), (5, wint (t : Int))]) (fun t => T ++ [.buf 30 1 [w32 (be32 p 0 4)], .buf 30 1 ((sch p t).map w32)]) (fun t => 16 <= t /\ t <= 64) (fun t => 64 - t) (T.length + 2) 16 [] (by kernel_rfl) (by omega) ⟨by omega, by omega⟩ (by (simp -dsimp +decide only [vq, Nat.reduceAdd, ci])) rfl (by simp) ?_
   rintro t g ⟨ht1, ht⟩
   simp -dsimp +decide only [vq, ↓reduceIte, Nat.reduceAdd]
   have hsl := sch_len p t
   have hnil : sch p t ≠ [] := by intro e; rw [e] at hsl; simp at hsl; omega
   refine CondP.dec (fun h => ?_) (fun h => ?_)
   . simp -dsimp +decide (disch := omega) only [vq, ty, en, ↓reduceIte, Int.reduceToNat, vi, getO_i]
     refine ⟨⟨by omega, by omega, by simp [hnil]⟩, ⟨by omega, by omega, by simp [hnil]⟩, ?_⟩
     refine (rright_ok 7 (by omega) (by omega)).det ?_
     simp -dsimp +decide (disch := omega) only [va, en, ↓reduceIte]
     refine (rright_ok 18 (by omega) (by omega)).det ?_
     simp -dsimp +decide (disch := omega) only [vp0, vu, en, ↓reduceIte, Int.reduceToNat]
     refine (rright_ok 17 (by omega) (by omega)).det ?_
     simp -dsimp +decide (disch := omega) only [va, en, ↓reduceIte]
     refine (rright_ok 19 (by omega) (by omega)).det ?_
     simp -dsimp +decide (disch := omega) only [vp0, vu, ↓reduceIte, Int.reduceToNat]
     refine SemA.drawE 17 (fun _ => true) [(0, true), (1, true), (2, true), (3, true), (4, true), (5, true), (6, true), (7, true), (8, true), (9, true), (10, true), (11, true), (12, true), (13, true), (14, true), (15, true), (16, false), (17, false), (18, true)] mixed (by kernel_rfl) ?_
     simp -dsimp +decide (disch := omega) only [vr, ty, ↓reduceIte, Nat.reduceAdd, Int.reduceToNat, vi, getO_i, vt, wt]
     refine ⟨⟨by omega, by omega, by simp [hnil]⟩, ⟨by omega, by omega, by simp [hnil]⟩, ⟨by omega, by omega, by omega⟩, t + 1, ⟨by omega, by omega⟩, by omega, ⟨rfl, rfl⟩, ?_⟩
     rw [sch_snoc_hi p t (by omega)]
   . have ht : t = 64 := by omega
     subst ht
     simp -dsimp +decide only [vp0, ↓reduceIte, ci]
     exact Vw.done ⟨rfl, rfl, rfl⟩
def hsum (m : List UInt8) (at_ : Nat) : List UInt32 := (Sa.zero.puts ((txt m).take at_)).h
theorem puts_n (l : List UInt8) : ∀ s : Sa, (s.puts l).n.toNat % 64 = (s.n.toNat + l.length) % 64 := by
 induction l with
 | nil => intro s; simp [Sa.puts]
 | cons x l ih =>
   intro s
   show ((s.put x).puts l).n.toNat % 64 = _
   rw [ih, Sa.put_n, List.length_cons]
   have := mod_succ s.n
   omega
theorem hsum_next (m : List UInt8) (j : Nat) (h : 64 * j + 64 <= (txt m).length) : hsum m (64 * j + 64) = piece (hsum m (64 * j)) (((txt m).drop (64 * j)).take 64) := by
 have hok := Sa.puts_ok ((txt m).take (64 * j)) zero_ok
 have hn := puts_n ((txt m).take (64 * j)) Sa.zero
 have hpl : (((txt m).drop (64 * j)).take 64).length = 64 := by simp; omega
 rw [hsum, hsum, List.take_add, Sa.puts, List.foldl_append]
 show ((Sa.zero.puts ((txt m).take (64 * j))).puts _).h = _
 generalize Sa.zero.puts ((txt m).take (64 * j)) = s at hok hn
 have hn0 : s.n.toNat % 64 = 0 := by
  rw [hn, List.length_take, Nat.min_eq_left (by omega)]; show (0 + 64 * j) % 64 = 0; omega
 have hpc := hok.2
 rw [absorb _ s (by omega) (by omega) hok, hpl, hn0]
 have e : (s.n + UInt64.ofInt ((64 : Nat) : Int)).toNat % 64 = 0 := by
  rw [UInt64.toNat_add, show (UInt64.ofInt ((64 : Nat) : Int)).toNat = 64 from rfl]; omega
 simp only [e, if_true]
 rw [List.take_zero, List.drop_of_length_le (l := s.pc) (by omega)]; simp
theorem hsum_len (m : List UInt8) (k : Nat) : (hsum m k).length = 8 := (Sa.puts_ok _ zero_ok).1
theorem un_xor32 {P : Program} {x : UInt32} {KA : AV -> Prop} {KV : Value -> Prop} (h : KA (.p (.int .u32 ((~~~x).toNat : Int)))) : unV .xor (.int .u32 (x.toNat : Int)) (pureK P KA) KV := by
 refine ⟨.int .u32 ((~~~x).toNat : Int), fun w _ => ?_, h⟩
 have e : IntKind.u32.wrap ((BitVec.ofInt IntKind.u32.bits IntKind.u32.max ^^^ BitVec.ofInt IntKind.u32.bits (x.toNat : Int)).toNat : Int) = ((~~~x).toNat : Int) := by
  rw [Go.E.u32_wrap, Go.E.u32_xor, Go.E.u32_self]
  have : UInt32.ofInt IntKind.u32.max ^^^ x = ~~~x := by
   rw [show UInt32.ofInt IntKind.u32.max = ~~~(0 : UInt32) from rfl]
   apply UInt32.eq_of_toBitVec_eq
   ext i
   simp
  rw [this]
 show (pure (Value.int .u32 (IntKind.u32.wrap ((BitVec.ofInt IntKind.u32.bits IntKind.u32.max ^^^ BitVec.ofInt IntKind.u32.bits (x.toNat : Int)).toNat : Int))) : Sem Value).run P w = _
 rw [e]; rfl
theorem rnd_cells (s : W8) (k w : UInt32) : [AV.p (.int .u32 ((s.h + (rotr s.e 6 ^^^ rotr s.e 11 ^^^ rotr s.e 25) + (s.e &&& s.f ^^^ ~~~s.e &&& s.g) + k + w + ((rotr s.a 2 ^^^ rotr s.a 13 ^^^ rotr s.a 22) + (s.a &&& s.b ^^^ s.a &&& s.c ^^^ s.b &&& s.c))).toNat : Int)), AV.p (.int .u32 (s.a.toNat : Int)), AV.p (.int .u32 (s.b.toNat : Int)), AV.p (.int .u32 (s.c.toNat : Int)),
 AV.p (.int .u32 ((s.d + (s.h + (rotr s.e 6 ^^^ rotr s.e 11 ^^^ rotr s.e 25) + (s.e &&& s.f ^^^ ~~~s.e &&& s.g) + k + w)).toNat : Int)), AV.p (.int .u32 (s.e.toNat : Int)), AV.p (.int .u32 (s.f.toNat : Int)), AV.p (.int .u32 (s.g.toNat : Int))] = (rnd s k w).l.map w32 := by
 rw [<- ch_eq, <- maj_eq]
 rfl
theorem sh_num2 : ∀ r : Nat, r < 4 -> (UInt64.ofInt 24 - UInt64.ofInt 8 * UInt64.ofInt (r : Int)).toNat = 24 - 8 * r := by decide +kernel
theorem clean32 (l : List UInt32) : ∀ a ∈ l.map w32, a.Clean := by
 intro a ha; obtain ⟨x, _, rfl⟩ := List.mem_map.1 ha; exact .p _
theorem w8_of {l : List UInt32} (h : l.length = 8) : (W8.of l).l = l := by
 match l, h with
 | [a, b, c, d, e, f, g, i], _ => rfl
theorem W8.gl (s : W8) : s.l[0]! = s.a /\ s.l[1]! = s.b /\ s.l[2]! = s.c /\ s.l[3]! = s.d /\ s.l[4]! = s.e /\ s.l[5]! = s.f /\ s.l[6]! = s.g /\ s.l[7]! = s.h := ⟨rfl, rfl, rfl, rfl, rfl, rfl, rfl, rfl⟩
theorem rsum_ok {T : Tbl} {a : AV} {bs : List UInt8} (hb : Bs T a bs) (hlen : bs.length <= 1099511627776) : CallA prog G 26 [a] T fun v T' es => v = .ag ((outs (hsum bs (txt bs).length)).map by8) /\ T' = T /\ es = [] := by
 refine CallA.wfs fun wf => ?_
 have wt := wf.t
 refine CallA.eV 171 func26 ntmps26 results26 ?_
 simp -dsimp +decide only [vp0, ty, en, ↓reduceIte, Nat.reduceSub]
 refine (text_ok (hb.app _) hlen).mono ?_
 rintro v T' es ⟨rfl, rfl, rfl⟩
 simp -dsimp +decide only [vp0, en, ↓reduceIte, Nat.reduceAdd]
 refine k_ok.mono ?_
 rintro v T' es ⟨rfl, rfl, rfl⟩
 simp -dsimp +decide only [vp0, ↓reduceIte, Nat.reduceAdd]
 have htl := txt_len bs
 obtain ⟨X, hX⟩ : ∃ X, X = txt bs := ⟨_, rfl⟩
 rw [<- hX] at htl ⊢
 have htab : tbl.length = 64 := rfl
 have hXl : X.length <= 1099511627900 := by rw [hX]; simp [txt, lens, distn]; omega
 refine SemA.loopV (fun j : Nat => [(2, .ptr T.length 0), (3, .sl (T.length + 1) 0 8), (4, .sl (T.length + 2) 0 X.length), (5, .sl (T.length + 3) 0 64), (6, wint ((64 * j : Nat) : Int))])
  (fun j => T ++ [.cells 33 zh, .buf 30 1 ((hsum bs (64 * j)).map w32), .buf 5 1 (X.map by8), .buf 30 1 (tbl.map w32)]) (fun j => 64 * j <= X.length) (fun j => X.length - 64 * j) 0 [] (by kernel_rfl) (by omega) (by (simp -dsimp +decide only [vq, Nat.reduceAdd, Nat.reduceMul, ci])) rfl (by simp) ?_
 rintro j g hj
 simp -dsimp +decide only [vq, ty, ↓reduceIte, Nat.reduceAdd]
 refine CondP.dec (fun h => ?_) (fun h => ?_)
 . obtain ⟨p, hp⟩ : ∃ p, p = (X.drop (64 * j)).take 64 := ⟨_, rfl⟩
   have hpl : p.length = 64 := by rw [hp]; simp; omega
   have hsl := sch_len p 64
   obtain ⟨hs, hhs⟩ : ∃ hs, hs = hsum bs (64 * j) := ⟨_, rfl⟩
   have hhl : hs.length = 8 := by rw [hhs]; exact hsum_len _ _
   rw [<- hhs]
   simp -dsimp +decide (disch := omega) only [vp0, ty, en, ↓reduceIte, Int.reduceToNat, vi]
   rw [show 64 * j + 64 - 64 * j = 64 by omega]
   refine ⟨by omega, by omega, ⟨by omega, by omega⟩, ?_⟩
   have hbp : Bs (T ++ [AObj.cells 33 zh, .buf 30 1 (hs.map w32), .buf 5 1 (X.map by8), .buf 30 1 (tbl.map w32)]) (.sl (T.length + 2) (64 * j) 64) p := by
    have h1 := Bs.obj (T := T ++ [AObj.cells 33 zh, .buf 30 1 (hs.map w32), .buf 5 1 (X.map by8), .buf 30 1 (tbl.map w32)]) (i := T.length + 2) (o := .buf 5 1 (X.map by8)) (bs := X) (by simp) rfl
    have h2 := Bs.sub h1 (l := 64 * j) (m := 64 * j + 64) (by omega) (by omega)
    rw [show 64 * j + 64 - 64 * j = 64 by omega, <- hp] at h2
    simpa [AV.sub, show 64 * j + 64 - 64 * j = 64 by omega] using h2
   refine (words_ok hbp hpl).mono ?_
   rintro v T' es ⟨rfl, rfl, rfl⟩
   simp -dsimp +decide (disch := omega) only [vq, ty, ↓reduceIte, Nat.reduceAdd, vt, wt]
   refine ⟨by omega, ?_⟩
   have wp := wf.p
   refine SemA.pub (T.length + 6) (o := .buf 30 1 (hs.map w32)) (by simp [List.take_of_length_le (Nat.le_of_eq hhl)]) rfl (clean32 _) ?_
   simp -dsimp +decide only [va, vl, ↓reduceIte, vt, wp]
   refine SemA.cut (T.length + 6) (by omega) ?_
   simp -dsimp +decide only [vq, ↓reduceIte, vt, wt]
   have htk : List.take 8 hs = hs := List.take_of_length_le (by omega)
   refine SemA.loopV (fun t : Nat => [(2, .ptr T.length 0), (3, .sl (T.length + 1) 0 8), (4, .sl (T.length + 2) 0 X.length), (5, .sl (T.length + 3) 0 64), (6, wint ((64 * j : Nat) : Int)), (7, .sl (T.length + 5) 0 64), (8, .vs ((rnds (sch p 64) (W8.of hs) t).l.map w32) 8), (9, wint (t : Int))])
    (fun _ => T ++ [.cells 33 zh, .buf 30 1 (hs.map w32), .buf 5 1 (X.map by8), .buf 30 1 (tbl.map w32), .buf 30 1 [w32 (be32 p 0 4)], .buf 30 1 ((sch p 64).map w32)]) (fun t => t <= 64) (fun t => 64 - t) 0 [] (by kernel_rfl) (by omega) (by rw [rnds, w8_of hhl]; (simp -dsimp +decide only [vq, Nat.reduceAdd, ci])) rfl (by simp) ?_
   . rintro t g ht
     obtain ⟨s, es⟩ : ∃ s, s = rnds (sch p 64) (W8.of hs) t := ⟨_, rfl⟩
     have hl8 : s.l.length = 8 := rfl
     have gl := s.gl
     rw [<- es]
     simp -dsimp +decide only [vq, ↓reduceIte, Nat.reduceAdd]
     refine CondP.dec (fun h => ?_) (fun h => ?_)
     . have hne : (List.map w32 s.l ≠ []) = True := by simp [W8.l]
       have hwn : (List.map w32 (sch p 64) ≠ []) = True := by
        have : sch p 64 ≠ [] := by intro e; rw [e] at hsl; simp at hsl
        simp [this]
       simp -dsimp +decide (disch := omega) only [vq, ty, en, ↓reduceIte, Int.reduceToNat, getO_i, gl, hne]
       refine (rright_ok 6 (by omega) (by omega)).det ?_
       simp -dsimp +decide (disch := omega) only [va, en, ↓reduceIte]
       refine (rright_ok 11 (by omega) (by omega)).det ?_
       simp -dsimp +decide (disch := omega) only [vp0, vu, en, ↓reduceIte]
       refine (rright_ok 25 (by omega) (by omega)).det ?_
       simp -dsimp +decide (disch := omega) only [vp0, vu, ↓reduceIte]
       refine SemA.draw (fun _ => true) [(0, true), (1, true), (2, true), (3, true), (4, true), (5, true), (6, true), (7, true), (8, true), (9, true), (10, true), (11, true), (12, true), (13, true), (14, true), (15, true), (16, true), (17, true), (18, true), (19, true), (20, true), (21, true), (22, true), (23, true), (24, true), (25, true), (26, true), (27, true), (28, true)] mixed (by kernel_rfl) ?_
       simp -dsimp +decide (disch := omega) only [vr, ty, ↓reduceIte, Int.reduceToNat, getO_i, vt, gl, hne]
       refine un_xor32 ?_
       simp -dsimp +decide (disch := omega) only [vr, ty, en, ↓reduceIte, Int.reduceToNat, ci, getO_i, vt, gl, hne, hwn]
       refine ⟨by omega, by omega, ?_⟩
       refine (rright_ok 2 (by omega) (by omega)).det ?_
       simp -dsimp +decide (disch := omega) only [va, en, ↓reduceIte]
       refine (rright_ok 13 (by omega) (by omega)).det ?_
       simp -dsimp +decide (disch := omega) only [vp0, vu, en, ↓reduceIte]
       refine (rright_ok 22 (by omega) (by omega)).det ?_
       simp -dsimp +decide (disch := omega) only [vp0, vu, ↓reduceIte]
       refine SemA.draw (fun _ => true) [(0, true), (1, true), (2, true), (3, true), (4, true), (5, true), (6, true), (7, true), (8, true), (9, true), (10, true), (11, true), (12, true), (13, true), (14, true), (15, true), (16, true), (17, true), (18, true), (19, true), (20, true), (21, true)] mixed (by kernel_rfl) ?_
       simp -dsimp +decide (disch := omega) only [vr, ty, ↓reduceIte, Int.reduceToNat, getO_i, vt, gl, hne]
       refine SemA.draw (fun _ => true) [(0, true), (1, true), (2, true), (3, true), (4, true), (5, true), (6, true), (7, true), (8, true), (9, true), (10, true), (11, true), (12, true), (13, true), (14, true), (15, true), (16, true), (17, true), (18, true), (19, true), (20, true), (21, true), (22, false), (23, true)] mixed (by kernel_rfl) ?_
       have flat8 : ∀ x : AV, (List.replicate 8 [x]).flatten = [x, x, x, x, x, x, x, x] := fun _ => rfl
       simp -dsimp +decide (disch := omega) only [vr, ty, ↓reduceIte, Nat.reduceAdd, Int.reduceToNat, vi, getO_i, vt, gl, hne, flat8, List.set_cons_zero, List.set_cons_succ, List.length_cons, List.length_nil]
       refine ⟨t + 1, by omega, by omega, ?_⟩
       rw [rnd_cells, rnds, <- es]
       refine SeeL.pub (T.length + 6) (o := .buf 30 1 ((rnd s tbl[t]! (sch p 64)[t]!).l.map w32)) (cs := (rnd s tbl[t]! (sch p 64)[t]!).l.map w32) (by (simp -dsimp +decide only [va])) rfl (clean32 _) ?_
       simp -dsimp +decide only [va, vl, ↓reduceIte, vt, wp]
       refine SeeL.cut (T.length + 6) (by omega) ?_
       simp -dsimp +decide only [vq, ↓reduceIte, vt, wt]
       refine SeeL.done ⟨rfl, ?_, rfl, by simp⟩
       simp -dsimp +decide only [vp0, Nat.reduceAdd]
       rfl
     . have ht : t = 64 := by omega
       subst ht
       simp -dsimp +decide only [vp0, ↓reduceIte, ci]
       obtain ⟨z, hz⟩ : ∃ z, z = List.zipWith (· + ·) hs s.l := ⟨_, rfl⟩
       have hzl : z.length = 8 := by rw [hz, List.length_zipWith, hhl, hl8]; rfl
       have hzp : z = piece hs p := by rw [hz, piece, <- es]
       refine SemA.loopL (fun i : Nat => [(2, .ptr T.length 0), (3, .sl (T.length + 1) 0 8), (4, .sl (T.length + 2) 0 X.length), (5, .sl (T.length + 3) 0 64), (6, wint ((64 * j : Nat) : Int)), (8, .vs (s.l.map w32) 8), (16, wint (i : Int))])
        (fun i => T ++ [.cells 33 zh, .buf 30 1 ((z.take i ++ hs.drop i).map w32), .buf 5 1 (X.map by8), .buf 30 1 (tbl.map w32), .buf 30 1 [w32 (be32 p 0 4)], .buf 30 1 ((sch p 64).map w32)]) (fun i => i <= 8) (fun i => 8 - i) 0 [] (by kernel_rfl) (by omega) (by (simp -dsimp +decide only [vq, Nat.reduceAdd, ci])) rfl (by simp) ?_
       rintro i g hi
       simp -dsimp +decide only [vq, ↓reduceIte, Nat.reduceAdd]
       refine CondP.dec (fun h => ?_) (fun h => ?_)
       . have hzi : z[i]! = hs[i]! + s.l[i]! := by
          rw [hz, getElem!_pos _ i (by rw [<- hz]; omega), getElem!_pos hs i (by omega), getElem!_pos s.l i (by omega)]; simp
         refine SemA.draw (fun _ => true) [(0, true), (1, true), (2, true), (3, true), (4, true), (5, true), (6, true), (7, true), (8, true), (9, true), (10, true), (11, true), (12, false)] mixed (by kernel_rfl) ?_
         simp -dsimp +decide (disch := omega) only [vr, ty, ↓reduceIte, Nat.reduceAdd, Nat.reduceLT, ci, vi, getO_i, vt, step_get z hs i (by omega) (by omega), step_set z hs i (by omega) (by omega) _ hzi]
         have hle : (z.take i ++ hs.drop i).length = 8 := by simp; omega
         have hn1 : List.map w32 (z.take i ++ hs.drop i) ≠ [] := by
          intro e; have := congrArg List.length e; rw [List.length_map, hle] at this; simp at this
         exact ⟨⟨by omega, by omega, hn1⟩, ⟨by omega, by omega, by simp [W8.l]⟩, ⟨by omega, by omega, hn1⟩, by omega, i + 1, by omega, by omega, rfl, rfl⟩
       . have hi : i = 8 := by omega
         subst hi
         simp -dsimp +decide (disch := omega) only [vq, ↓reduceIte, ci, vi]
         refine ⟨j + 1, by omega, by omega, ?_⟩
         refine SeeL.cut (T.length + 4) (by omega) ?_
         simp -dsimp +decide only [vq, ↓reduceIte, vt, wt]
         have hnx := hsum_next bs j (by rw [<- hX]; omega)
         rw [<- hX, <- hp, <- hhs, <- hzp] at hnx
         refine SeeL.done ⟨rfl, ?_, ?_, by simp⟩
         . simp -dsimp +decide only [vp0, Nat.reduceAdd]
           rw [show 64 * (j + 1) = 64 * j + 64 by omega]; rfl
         . rw [show 64 * (j + 1) = 64 * j + 64 by omega, hnx, List.take_of_length_le (by omega), List.drop_of_length_le (by omega), List.append_nil]; rfl
 . have hj : 64 * j = X.length := by omega
   rw [hj]
   obtain ⟨O, hO⟩ : ∃ l, l = outs (hsum bs X.length) := ⟨_, rfl⟩
   obtain ⟨hs, hhs⟩ : ∃ hs, hs = hsum bs X.length := ⟨_, rfl⟩
   have hhl : hs.length = 8 := by rw [hhs]; exact hsum_len _ _
   rw [<- hhs] at hO ⊢
   have hOl : O.length = 32 := by rw [hO]; simp [outs]
   simp -dsimp +decide only [vp0, ty, ↓reduceIte, Nat.reduceAdd]
   refine SemA.loopL (fun i : Nat => [(2, .ptr T.length 0), (3, .sl (T.length + 1) 0 8), (17, .ptr (T.length + 4) 0), (18, wint i)])
    (fun i => T ++ [.cells 33 zh, .buf 30 1 (hs.map w32), .buf 5 1 (X.map by8), .buf 30 1 (tbl.map w32), .cells 33 ((O.take i ++ (List.replicate 32 0).drop i).map by8)]) (fun i => i <= 32) (fun i => 32 - i) 0 [] (by kernel_rfl) (by omega) (by (simp -dsimp +decide only [vq, Nat.reduceAdd, ci])) rfl (by simp) ?_
   rintro i g hi
   simp -dsimp +decide only [vq, ↓reduceIte, Nat.reduceAdd]
   refine CondP.dec (fun h => ?_) (fun h => ?_)
   . have hz : O[i]! = (u32_shr hs[i / 4]! (24 - 8 * (i % 4))).toUInt8 := by
      rw [getElem!_pos O i (by omega)]; simp [hO, outs]
     have hn1 : List.map w32 hs ≠ [] := by
      intro e; have := congrArg List.length e; rw [List.length_map, hhl] at this; simp at this
     simp -dsimp +decide (disch := omega) only [vr, ty, ↓reduceIte, Nat.reduceAdd, Nat.reduceLT, ci, vi, getO_i, vt, sh_num2 (i % 4) (by omega), step_set O (List.replicate 32 0) i (by omega) (by simp; omega) _ hz]
     exact ⟨⟨by omega, by omega, hn1⟩, by omega, ⟨by omega, by omega⟩, by simp; omega, i + 1, by omega, by omega, rfl, rfl⟩
   . have hi : i = 32 := by omega
     subst hi
     rw [show List.take 32 O ++ List.drop 32 (List.replicate 32 0) = O by rw [List.take_of_length_le (by omega)]; simp]
     have hOt : O.take 32 = O := List.take_of_length_le (by omega)
     simp -dsimp +decide (disch := omega) only [vq, ty, ↓reduceIte, ci, hOt, List.drop_zero]
     rw [wrA_all (by simp [hOl, zh])]
     refine ⟨by omega, ⟨by omega, by omega, by simp [hOl, zh]⟩, by simp [hOl], Vw.cut ⟨?_, rfl, rfl⟩⟩
     simp -dsimp +decide only [va, vl, hOt]
     rw [hO]
theorem sha_eq (m : List UInt8) : sha m = outs (hsum m (txt m).length) := by
 have hn := puts_n m Sa.zero
 have e1 : ∀ (l : List UInt8) (s : Sa), (s.puts l).n = s.n + UInt64.ofInt (l.length : Int) := by
  intro l
  induction l with
  | nil => intro s; show s.n = _; rw [show UInt64.ofInt (([] : List UInt8).length : Int) = 0 from rfl, UInt64.add_zero]
  | cons x l ih => intro s; show ((s.put x).puts l).n = _; rw [ih, List.length_cons, of_succ, Sa.put_n]
 have e2 : (Sa.zero.puts m).n = UInt64.ofInt (m.length : Int) := by rw [e1, Sa.zero, UInt64.zero_add]
 have e3 : dist ((Sa.zero.puts m).n + 1) = distn (m.length + 1) := by
  have h1 := mod_succ (Sa.zero.puts m).n
  have h2 : (Sa.zero.puts m).n.toNat % 64 = m.length % 64 := by rw [hn]; show (0 + m.length) % 64 = _; omega
  unfold dist distn
  omega
 rw [sha, Sa.fin, hsum, List.take_of_length_le (Nat.le_refl _), txt, Sa.padded, e3, e2]
 simp only [Sa.puts, List.foldl_append, List.foldl_cons]
theorem oright_ok {T : Tbl} {k : Int} : CallA prog G 63 [.p (.int .i64 k)] T fun v T' es => v = .p (.bool (decide (k = 1 ∨ k = 2 ∨ k = 4 ∨ k = 8))) /\ T' = T /\ es = [] := by
 refine CallA.eV 9 func63 ntmps63 results63 ?_
 simp -dsimp +decide only [vp0, ↓reduceIte, Nat.reduceSub]
 by_cases h1 : k = 1
 . subst h1
   simp -dsimp +decide only [vp0, ↓reduceIte]
   exact Vw.done ⟨by simp, rfl, rfl⟩
 by_cases h2 : k = 2
 . subst h2
   simp -dsimp +decide only [vp0, ↓reduceIte]
   exact Vw.done ⟨by simp, rfl, rfl⟩
 by_cases h4 : k = 4
 . subst h4
   simp -dsimp +decide only [vp0, ↓reduceIte]
   exact Vw.done ⟨by simp, rfl, rfl⟩
 by_cases h8 : k = 8
 . subst h8
   simp -dsimp +decide only [vp0, ↓reduceIte]
   exact Vw.done ⟨by simp, rfl, rfl⟩
 simp -dsimp +decide only [vp0, ↓reduceIte, eq_false h1, eq_false h2, eq_false h4, eq_false h8]
 exact Vw.done ⟨by simp [h1, h2, h4, h8], rfl, rfl⟩
def le (bs : List UInt8) (at_ : Nat) : Nat -> UInt64
 | 0 => 0
 | k + 1 => le bs at_ k ||| u64_shl (bs[at_ + k]!).toUInt64 (8 * k)
def okSize (n : Nat) : Prop := n = 1 ∨ n = 2 ∨ n = 4 ∨ n = 8
theorem take_ok {T : Tbl} {a : AV} {bs : List UInt8} {at_ size : Nat} (hb : Bs T a bs) (hlen : bs.length <= 1099511627776) (hat : at_ <= bs.length) (hs : okSize size) :
 CallA prog G 64 [a, .p (.int .i64 (at_ : Int)), .p (.int .i64 (size : Int))] T fun v T' es => v = (if at_ + size <= bs.length then .tu [.p (.int .u64 ((le bs at_ size).toNat : Int)), .p (.int .i64 ((at_ + size : Nat) : Int)), .p (.int .i64 0)] else .tu [.p (.int .u64 0), .p (.int .i64 0), .p (.int .i64 5)]) /\ T' = T /\ es = [] := by
 have hr := Sl.rules hb (by decide)
 have hs8 : size <= 8 := by unfold okSize at hs; omega
 refine CallA.eV 52 func64 ntmps64 results64 ?_
 simp -dsimp +decide only [vp0, en, ↓reduceIte, Nat.reduceSub, Nat.reduceAdd]
 refine oright_ok.det ?_
 have hs1 : ((size : Int) = 1 ∨ (size : Int) = 2 ∨ (size : Int) = 4 ∨ (size : Int) = 8) = True := by unfold okSize at hs; simp; omega
 have hlt : ((at_ : Int) < 0) = False := by simp
 have hgt : ((bs.length : Int) < (at_ : Int)) = False := by simp; omega
 have hsub : IntKind.i64.wrap ((bs.length : Int) - (at_ : Int)) = ((bs.length - at_ : Nat) : Int) := by rw [IntWalk.i64_in _ (by omega)]; omega
 simp -dsimp +decide only [vp0, ty, ↓reduceIte, hs1, hlt, hgt, hr, hsub]
 refine CondP.dec (fun h => ?_) (fun h => ?_)
 . have hif : (at_ + size <= bs.length) = False := by simp; omega
   simp -dsimp +decide only [va, ↓reduceIte]
   exact Vw.done ⟨by rw [if_neg (by omega)], rfl, rfl⟩
 have hadd : IntKind.i64.wrap ((at_ : Int) + (size : Int)) = ((at_ + size : Nat) : Int) := by rw [IntWalk.i64_in _ (by omega)]; omega
 have hb2 := Bs.sub hb (l := at_) (m := at_ + size) (by omega) (by omega)
 have hbl : ((bs.drop at_).take (at_ + size - at_)).length = size := by simp; omega
 obtain ⟨p, hp⟩ : ∃ p, p = (bs.drop at_).take (at_ + size - at_) := ⟨_, rfl⟩
 obtain ⟨a2, ha2⟩ : ∃ a2, a2 = a.sub 1 at_ (at_ + size) := ⟨_, rfl⟩
 rw [<- hp, <- ha2] at hb2
 rw [<- hp] at hbl
 have hr2 := Sl.rules hb2 (by decide)
 have hld := Sl.loads hb2 (P := prog) (t := 5) (by (simp -dsimp +decide only []))
 have hpk : ∀ k, k < size -> p[k]! = bs[at_ + k]! := by
  intro k hk
  rw [getElem!_pos p k (by omega), getElem!_pos bs (at_ + k) (by omega)]
  simp [hp]
 simp -dsimp +decide (disch := omega) only [vp0, ty, ↓reduceIte, hr, hadd, <- ha2, hr2, hbl]
 refine ⟨by omega, by omega, ⟨by omega, by omega⟩, ?_⟩
 refine SemA.loopL (fun j : Nat => [(1, .p (.int .i64 (at_ : Int))), (2, .p (.int .i64 (size : Int))), (6, .p (.int .u64 ((le bs at_ j).toNat : Int))), (33, a2), (34, wint (size : Int)), (35, wint (j : Int))]) (fun _ => T) (fun j => j <= size) (fun j => size - j) 0 [] (by kernel_rfl) (by omega) (by (simp -dsimp +decide only [vq, Nat.reduceAdd, ci]); rfl) rfl (by simp) ?_
 rintro j g hj
 simp -dsimp +decide only [vq, ↓reduceIte, Nat.reduceAdd]
 refine CondP.dec (fun h => ?_) (fun h => ?_)
 . simp -dsimp +decide (disch := omega) only [vr, ty, ↓reduceIte, Nat.reduceAdd, Int.reduceToNat, vi, getO_i, hr2, hld, hbl, hpk j (by omega)]
   exact ⟨⟨by omega, by omega⟩, by omega, j + 1, by omega, by omega, rfl, rfl⟩
 . have hj : j = size := by omega
   subst hj
   simp -dsimp +decide only [vp0, ↓reduceIte, hadd]
   refine Vw.done ⟨?_, rfl, rfl⟩
   rw [if_pos (by omega)]
def mulhi (x y : UInt64) : UInt64 :=
 let w := (u64_shr x 32) * (y &&& UInt64.ofInt 4294967295) + u64_shr ((x &&& UInt64.ofInt 4294967295) * (y &&& UInt64.ofInt 4294967295)) 32
 u64_shr x 32 * u64_shr y 32 + u64_shr w 32 + u64_shr ((w &&& UInt64.ofInt 4294967295) + (x &&& UInt64.ofInt 4294967295) * u64_shr y 32) 32
theorem mul64_ok {T : Tbl} {x y : UInt64} : CallA prog G 69 [.p (.int .u64 (x.toNat : Int)), .p (.int .u64 (y.toNat : Int))] T fun v T' es => v = .tu [.p (.int .u64 ((mulhi x y).toNat : Int)), .p (.int .u64 ((x * y).toNat : Int))] /\ T' = T /\ es = [] := by
 refine CallA.eV 51 func69 ntmps69 results69 ?_
 simp -dsimp +decide only [vp0, vu, ↓reduceIte, Nat.reduceSub, Nat.reduceAdd, Int.reduceToNat]
 exact Vw.done ⟨rfl, rfl, rfl⟩
def numS (id item : List UInt8) (n : UInt64) : UInt64 := mulhi (le (sha (id ++ item)) 0 8) (n * UInt64.ofInt 784931)
theorem bs64 {T : Tbl} {i : Nat} {l : List UInt8} (h : T[i]? = some (.buf 5 1 (l.map by8))) (hl : l.length = 64) : Bs T (.sl i 0 64) l := by
 have := Bs.obj (bs := l) h rfl
 rwa [hl] at this
theorem bs32v {T : Tbl} {l : List UInt8} (hl : l.length = 32) : Bs T (.vs (l.map by8) 32) l := by
 have := Bs.vs (T := T) l
 rwa [hl] at this
theorem clean8 (l : List UInt8) : ∀ a ∈ l.map by8, a.Clean := by
 intro a ha; obtain ⟨x, _, rfl⟩ := List.mem_map.1 ha; exact .p _
theorem number_ok {T : Tbl} {id item : List UInt8} {n : Nat} (hi : id.length = 32) (ht : item.length = 32) (hn : n <= 1099511627776) : CallA prog G 41 [.ag (id.map by8), .ag (item.map by8), .p (.int .i64 (n : Int))] T fun v T' es => v = .p (.int .u64 ((numS id item (UInt64.ofInt (n : Int))).toNat : Int)) /\ T' = T /\ es = [] := by
 refine CallA.wfs fun wf => ?_
 have wt := wf.t
 have wp := wf.p
 have hsl : (sha (id ++ item)).length = 32 := sha_len _
 refine CallA.eV 34 func41 ntmps41 results41 ?_
 simp -dsimp +decide only [vp0, ↓reduceIte, Nat.reduceSub, Nat.reduceAdd]
 refine SemA.drawT [(2, .p (.int .i64 (n : Int))), (7, .vp ((sha (id ++ item)).map by8) 0)] T [] 7 (fun i => decide (i < T.length + 2)) (.st 1 true (.st 3 true (.alt 0 (.alt 2 (.alt 4 (.alt 5 (.st 6 false (.st 7 false .nil)) 6 (.st 5 false (.st 7 false .nil))) 6 (.st 4 false (.st 5 false (.st 7 false .nil)))) 6 (.st 2 false (.st 4 false (.st 5 false (.st 7 false .nil))))) 6 (.st 0 false (.st 2 false (.st 4 false (.st 5 false (.st 7 false .nil)))))))) mixed (by kernel_rfl) ?_ ?_
 . have kk : (∀ k j : Nat, decide (T.length + k < T.length + j) = decide (k < j)) /\ (∀ j : Nat, decide (T.length < T.length + j) = decide (0 < j)) := ⟨fun k j => by simp, fun j => by simp⟩
   have t32 : ∀ l : List UInt8, l.length = 32 -> List.take 32 (List.drop 0 l) = l := fun l h => by rw [List.drop_zero, List.take_of_length_le (by omega)]
   simp -dsimp +decide (disch := omega) only [vq, ty, en, ↓reduceIte, Nat.reduceAdd, vp, vt, wt, kk, t32 id hi, t32 item ht]
   have h64 : (id ++ item).length = 64 := by simp; omega
   and_intros
   all_goals first
    | omega
    | (refine (sum_ok (bs := id ++ item) (bs64 (by (simp -dsimp +decide only [va])) h64)).det ?_
       (simp -dsimp +decide (disch := omega) only [vq, ty, ↓reduceIte, Nat.reduceAdd, vp, kk]))
   all_goals
    rw [wrA_all (by simp [hsl])]
    refine ⟨by omega, ?_⟩
    first
     | (refine SeeL.pub (T.length + 3) (o := .cells 33 ((sha (id ++ item)).map by8)) ?_ rfl (clean8 _) ?_
        focus ((simp -dsimp +decide only [va]); done))
     | (refine SeeL.pub (T.length + 2) (o := .cells 33 ((sha (id ++ item)).map by8)) ?_ rfl (clean8 _) ?_
        focus ((simp -dsimp +decide only [va]); done))
    simp -dsimp +decide only [va, vl, ↓reduceIte, vt, wp]
    refine SeeL.cut T.length (Nat.le_refl _) ?_
    simp -dsimp +decide only [va, vl, ↓reduceIte, vt, wt, List.take_left]
    refine SeeL.done ⟨rfl, ?_, rfl, by simp⟩
    simp -dsimp +decide only [vp0, Nat.reduceAdd]
 . intro g tmp
   simp -dsimp +decide only [vq, ty, en, ↓reduceIte, Nat.reduceAdd]
   rw [List.drop_zero, List.take_of_length_le (Nat.le_of_eq hsl)]
   refine ⟨by omega, ?_⟩
   refine (take_ok (at_ := 0) (size := 8) (bs32v hsl) (by omega) (by omega) (.inr (.inr (.inr rfl)))).det ?_
   rw [if_pos (by omega)]
   simp -dsimp +decide only [vp0, vu, ty, en, ↓reduceIte, ci]
   refine mul64_ok.det ?_
   simp -dsimp +decide only [va, ↓reduceIte]
   exact Vw.done ⟨rfl, rfl, rfl⟩
def twice (m : List UInt8) : List UInt8 := sha (sha m)
theorem twice_len (m : List UInt8) : (twice m).length = 32 := sha_len _
structure Hdr where
 v : UInt32
 prev : List UInt8
 root : List UInt8
 time : UInt32
 bits : UInt32
 nonce : UInt32
structure Hdr.Ok (h : Hdr) : Prop where
 p : h.prev.length = 32
 r : h.root.length = 32
def Hdr.cs (h : Hdr) : List AV := w32 h.v :: (h.prev.map by8 ++ (h.root.map by8 ++ [w32 h.time, w32 h.bits, w32 h.nonce]))
def lw4 (n : UInt32) : List UInt8 := [n.toUInt8, (u32_shr n 8).toUInt8, (u32_shr n 16).toUInt8, (u32_shr n 24).toUInt8]
def Hdr.bytes (h : Hdr) : List UInt8 := lw4 h.v ++ h.prev ++ h.root ++ lw4 h.time ++ lw4 h.bits ++ lw4 h.nonce
def Hdr.id (h : Hdr) : List UInt8 := twice h.bytes
theorem Hdr.id_len (h : Hdr) : h.id.length = 32 := twice_len _
theorem Hdr.bytes_len {h : Hdr} (ok : h.Ok) : h.bytes.length = 80 := by simp [Hdr.bytes, lw4, ok.p, ok.r]
theorem Hdr.cs_len {h : Hdr} (ok : h.Ok) : h.cs.length = 68 := by simp [Hdr.cs, ok.p, ok.r]
theorem Hdr.rules {h : Hdr} (ok : h.Ok) : h.cs.length = 68 /\ h.cs[0]? = some (w32 h.v) /\ List.take 32 (List.drop 1 h.cs) = h.prev.map by8 /\ List.take 32 (List.drop 33 h.cs) = h.root.map by8 /\
 h.cs[65]? = some (w32 h.time) /\ h.cs[66]? = some (w32 h.bits) /\ h.cs[67]? = some (w32 h.nonce) /\ List.take 68 (List.drop 0 h.cs) = h.cs /\ List.take 68 h.cs = h.cs /\ (∀ q, h.cs.map (AV.wo q) = h.cs) /\ (∀ i cs, h.cs.map (AV.pub i cs) = h.cs) /\ ones h.cs = true := by
 have hp : (h.prev.map by8).length = 32 := by simp [ok.p]
 have hr : (h.root.map by8).length = 32 := by simp [ok.r]
 have hl := Hdr.cs_len ok
 have hd33 : List.drop 33 h.cs = h.root.map by8 ++ [w32 h.time, w32 h.bits, w32 h.nonce] := by
  rw [Hdr.cs, show (33 : Nat) = 32 + 1 from rfl, List.drop_succ_cons, <- hp, List.drop_left]
 have hd65 : List.drop 65 h.cs = [w32 h.time, w32 h.bits, w32 h.nonce] := by
  rw [show (65 : Nat) = 33 + 32 from rfl, <- List.drop_drop, hd33, <- hr, List.drop_left]
 have hg : ∀ k, h.cs[65 + k]? = [w32 h.time, w32 h.bits, w32 h.nonce][k]? := fun k => by rw [<- List.getElem?_drop, hd65]
 refine ⟨hl, rfl, ?_, ?_, hg 0, hg 1, hg 2, by rw [List.drop_zero, List.take_of_length_le (by omega)], List.take_of_length_le (by omega), fun q => ?_, fun i cs => ?_, ?_⟩
 . rw [Hdr.cs, show (1 : Nat) = 0 + 1 from rfl, List.drop_succ_cons, List.drop_zero, <- hp, List.take_left]
 . rw [hd33, <- hr, List.take_left]
 . simp only [Hdr.cs, List.map_cons, List.map_append, List.map_map, List.map_nil, w32, by8, Function.comp_def, AV.wo]; rfl
 . simp only [Hdr.cs, List.map_cons, List.map_append, List.map_map, List.map_nil, w32, by8, Function.comp_def, AV.pub]; rfl
 . refine List.all_eq_true.2 fun a ha => ?_
   simp only [Hdr.cs, List.mem_cons, List.mem_append, List.mem_map, List.not_mem_nil, or_false] at ha
   rcases ha with rfl | ⟨_, _, rfl⟩ | ⟨_, _, rfl⟩ | rfl | rfl | rfl <;> rfl
theorem wb8 (q : Nat -> Bool) (y : List UInt8) : (List.map by8 y).map (AV.wo q) = List.map by8 y := by
 rw [List.map_map]
 refine List.map_congr_left fun x _ => ?_
 show AV.wo q (.p _) = _
 rw [AV.wo]; rfl
def z32 : List AV := (List.replicate 32 (0 : UInt8)).map by8
theorem z32_len : z32.length = 32 := rfl
theorem ez32 : [oB, oB, oB, oB, oB, oB, oB, oB, oB, oB, oB, oB, oB, oB, oB, oB, oB, oB, oB, oB, oB, oB, oB, oB, oB, oB, oB, oB, oB, oB, oB, oB] = z32 := rfl
theorem vh : (∀ x : List UInt8, x.length = 32 -> wrA z32 0 (x.map by8) = x.map by8) /\ (z32.length = 32) /\ (∀ x : List UInt8, x.length = 32 -> List.take 32 (List.map by8 x) = List.map by8 x) /\ (∀ x : List UInt8, x.length = 32 -> List.take 32 x = x) /\ (∀ (q : Nat -> Bool) (x : List UInt8), (List.map by8 x).map (AV.wo q) = List.map by8 x) /\ (∀ x : List UInt8, ones (List.map by8 x) = true) :=
 ⟨fun x h => wrA_all (by rw [List.length_map, h]; rfl), rfl, fun x h => List.take_of_length_le (by rw [List.length_map, h]; exact Nat.le_refl _), fun x h => List.take_of_length_le (by rw [h]; exact Nat.le_refl _), fun q x => wb8 q x, fun x => by
  refine List.all_eq_true.2 fun a ha => ?_
  obtain ⟨b, _, rfl⟩ := List.mem_map.1 ha
  rfl⟩
theorem rtwice_ok {T : Tbl} {a : AV} {bs : List UInt8} (hb : Bs T a bs) (hl : bs.length <= 1099511627776) : CallA prog G 32 [a] T fun v T' es => v = .ag ((twice bs).map by8) /\ T' = T /\ es = [] := by
 refine CallA.wfs fun wf => ?_
 refine CallA.eV 4 func32 ntmps32 results32 ?_
 simp -dsimp +decide only [vp0, ty, en, ↓reduceIte, Nat.reduceSub]
 refine (rsum_ok (hb.app _) hl).det' ?_
 rw [<- sha_eq]
 have h1 := sha_len bs
 have h2 : (twice bs).length = 32 := twice_len bs
 simp -dsimp +decide (disch := omega) only [vq, ty, en, ↓reduceIte, Nat.reduceLT, ez32, vh, h1]
 have hb2 : ∀ (a o : AObj) (l : Tbl), o.cs = some ((sha bs).map by8) -> Bs (T ++ a :: o :: l) (.sl (T.length + 1) 0 32) (sha bs) := fun a o l h => by
  have := Bs.obj (bs := sha bs) (gn1 T a o l) h
  rwa [h1] at this
 refine (rsum_ok (bs := sha bs) (hb2 _ _ _ rfl) (by omega)).det' ?_
 rw [<- sha_eq, show sha (sha bs) = twice bs from rfl]
 simp -dsimp +decide (disch := omega) only [vq, ty, ↓reduceIte, Nat.reduceLT, vh, h2, List.drop_zero]
 exact Vw.cut ⟨by rw [AV.wo, AV.woL_eq, wb8], rfl, rfl⟩
theorem twice_ok {T : Tbl} {a : AV} {bs : List UInt8} (hb : Bs T a bs) : CallA prog G 51 [a] T fun v T' es => v = .ag ((twice bs).map by8) /\ T' = T /\ es = [] := by
 refine CallA.wfs fun wf => ?_
 refine CallA.eV 4 func51 ntmps51 results51 ?_
 simp -dsimp +decide only [vp0, ty, en, ↓reduceIte, Nat.reduceSub]
 refine (sum_ok (hb.app _)).det' ?_
 have h1 := sha_len bs
 have h2 : (twice bs).length = 32 := twice_len bs
 simp -dsimp +decide (disch := omega) only [vq, ty, en, ↓reduceIte, Nat.reduceLT, ez32, vh, h1]
 have hb2 : ∀ (a o : AObj) (l : Tbl), o.cs = some ((sha bs).map by8) -> Bs (T ++ a :: o :: l) (.sl (T.length + 1) 0 32) (sha bs) := fun a o l h => by
  have := Bs.obj (bs := sha bs) (gn1 T a o l) h
  rwa [h1] at this
 refine (sum_ok (bs := sha bs) (hb2 _ _ _ rfl)).det' ?_
 rw [show sha (sha bs) = twice bs from rfl]
 simp -dsimp +decide (disch := omega) only [vq, ty, ↓reduceIte, Nat.reduceLT, vh, h2, List.drop_zero]
 exact Vw.cut ⟨by rw [AV.wo, AV.woL_eq, wb8], rfl, rfl⟩
theorem vrp : (∀ x : AV, (List.replicate 2 [x]).flatten = [x, x]) /\ (∀ x : AV, (List.replicate 3 [x]).flatten = [x, x, x]) /\ (∀ x : AV, (List.replicate 4 [x]).flatten = [x, x, x, x]) /\ (∀ x : AV, (List.replicate 5 [x]).flatten = [x, x, x, x, x]) /\ (∀ (x y : AV) (l : List AV), (x :: l).set 0 y = y :: l) /\ (∀ (x y : AV) (l : List AV) (n : Nat), (x :: l).set (n + 1) y = x :: l.set n y) /\
 (∀ (x y : AV) (l : List AV), (x :: l).set 1 y = x :: l.set 0 y) /\ (∀ (x y : AV) (l : List AV), (x :: l).set 2 y = x :: l.set 1 y) /\ (∀ (x y : AV) (l : List AV), (x :: l).set 3 y = x :: l.set 2 y) /\ (∀ (x y : AV) (l : List AV), (x :: l).set 4 y = x :: l.set 3 y) /\ (∀ (x : AV) (l : List AV), (x :: l).length = l.length + 1) /\ (([] : List AV).length = 0) :=
 ⟨fun _ => rfl, fun _ => rfl, fun _ => rfl, fun _ => rfl, fun _ _ _ => rfl, fun _ _ _ _ => rfl, fun _ _ _ => rfl, fun _ _ _ => rfl, fun _ _ _ => rfl, fun _ _ _ => rfl, fun _ _ => rfl, rfl⟩
theorem low_ok {T : Tbl} {n : UInt32} : CallA prog G 60 [w32 n] T fun v T' es => v = .sl T.length 0 4 /\ T' = T ++ [.buf 5 1 ((lw4 n).map by8)] /\ es = [] := by
 refine CallA.wfs fun wf => ?_
 refine CallA.eV 3 func60 ntmps60 results60 ?_
 simp -dsimp +decide only [vr, ty, ↓reduceIte, Nat.reduceSub, Nat.reduceAdd, Int.reduceToNat]
 simp -dsimp +decide (disch := omega) only [vp0, ty, ↓reduceIte, Nat.reduceAdd, vrp]
 exact Vw.done ⟨rfl, rfl, rfl⟩
theorem rputh_ok {T : Tbl} {h : Hdr} (ok : h.Ok) : CallA prog G 33 [.ag h.cs] T fun v T' es => v = .vs (h.bytes.map by8) 80 /\ T' = T /\ es = [] := by
 refine CallA.wfs fun wf => ?_
 have wt := wf.t
 have wp := wf.p
 have hr := Hdr.rules ok
 have hp := ok.p
 have hrt := ok.r
 refine CallA.eV 4 func33 ntmps33 results33 ?_
 simp -dsimp +decide only [vp0, ty, ↓reduceIte, Nat.reduceSub]
 simp -dsimp +decide (disch := omega) only [va, vl, en, ↓reduceIte, hr]
 refine low_ok.det' ?_
 have l4 : ∀ n, (lw4 n).length = 4 := fun _ => rfl
 have la : ∀ a b : List UInt8, (a ++ b).length = a.length + b.length := fun a b => List.length_append
 have t4 : ∀ n, List.take 4 (List.map by8 (lw4 n)) = List.map by8 (lw4 n) := fun _ => rfl
 simp -dsimp +decide (disch := omega) only [vq, ty, en, ↓reduceIte, Nat.reduceAdd, wt, hr, vh, hp, l4, la]
 refine low_ok.det' ?_
 simp -dsimp +decide (disch := omega) only [vq, ty, en, ↓reduceIte, Nat.reduceAdd, wt, hr, vh, hp, hrt, l4, la, t4, List.drop_zero]
 refine low_ok.det' ?_
 simp -dsimp +decide (disch := omega) only [vq, ty, en, ↓reduceIte, Nat.reduceAdd, wt, hr, vh, hp, hrt, l4, la, t4, List.drop_zero]
 refine low_ok.det' ?_
 simp -dsimp +decide (disch := omega) only [vq, ty, ↓reduceIte, Nat.reduceAdd, wt, hr, vh, hp, hrt, l4, la, t4, List.drop_zero]
 refine Vw.pub (T.length + 1) (o := .buf 5 1 (h.bytes.map by8)) (gn1 T _ _ _) rfl (clean8 _) ?_
 simp -dsimp +decide only [va, vl, ↓reduceIte, wp]
 exact Vw.cut ⟨rfl, rfl, rfl⟩
theorem rid_ok {T : Tbl} {h : Hdr} (ok : h.Ok) : CallA prog G 15 [.ag h.cs] T fun v T' es => v = .ag (h.id.map by8) /\ T' = T /\ es = [] := by
 refine CallA.wfs fun wf => ?_
 have hr := Hdr.rules ok
 have hl := Hdr.bytes_len ok
 have hi := h.id_len
 refine CallA.eV 3 func15 ntmps15 results15 ?_
 simp -dsimp +decide only [vp0, ty, en, ↓reduceIte, Nat.reduceSub]
 simp -dsimp +decide (disch := omega) only [vc, hr, ez32]
 refine (rputh_ok ok).det' ?_
 simp -dsimp +decide (disch := omega) only [va, en, ↓reduceIte, hr]
 rw [<- hl]
 refine (rtwice_ok (Bs.vs _) (by omega)).det' ?_
 rw [show twice h.bytes = h.id from rfl]
 simp -dsimp +decide (disch := omega) only [vq, ty, ↓reduceIte, Nat.reduceLT, vh, hi, List.drop_zero]
 exact Vw.cut ⟨by rw [AV.wo, AV.woL_eq, wb8], rfl, rfl⟩
theorem isLen_unique {x n m : Nat} (h : isLen x n) (h' : isLen x m) : n = m := by
 obtain ⟨h1, h2⟩ := h
 obtain ⟨h3, h4⟩ := h'
 rcases Nat.lt_trichotomy n m with hl | hl | hl
 . rcases h4 with rfl | h4
   . omega
   . have := Nat.pow_le_pow_right (n := 2) (by decide) (show n <= m - 1 by omega); omega
 . exact hl
 . rcases h2 with rfl | h2
   . omega
   . have := Nat.pow_le_pow_right (n := 2) (by decide) (show m <= n - 1 by omega); omega
def blen (x : Nat) : Nat := if x = 0 then 0 else Nat.log2 x + 1
theorem blen_is (x : Nat) : isLen x (blen x) := by
 unfold blen
 split
 . rename_i h; subst h; exact ⟨by simp, .inl rfl⟩
 . rename_i h
   exact ⟨Nat.lt_log2_self, .inr (by rw [Nat.add_sub_cancel]; exact Nat.log2_self_le h)⟩
theorem bits02_det {T : Tbl} {x : Nat} (hx : x < 2 ^ 256) : CallA prog G 96 [.ag (Bg x)] T fun v T' es => v = wint (blen x : Int) /\ T' = T /\ es = [] :=
 (bits02_ok hx).mono fun v T' es ⟨⟨n, h1, h2, _⟩, h3, h4⟩ => ⟨by rw [h1, isLen_unique h2 (blen_is x)], h3, h4⟩
theorem blen_le {x n : Nat} (h : x < 2 ^ n) : blen x <= n := by
 rcases Nat.lt_or_ge n (blen x) with hl | hl
 . rcases (blen_is x).2 with h0 | h0
   . omega
   . have := Nat.pow_le_pow_right (n := 2) (by decide) (show n <= blen x - 1 by omega); omega
 . exact hl
theorem blen_over {m s : Nat} : (256 < blen m + s /\ m ≠ 0) ↔ 2 ^ 256 <= m * 2 ^ s := by
 obtain ⟨h1, h2⟩ := blen_is m
 constructor
 . rintro ⟨h3, h4⟩
   rcases h2 with h2 | h2
   . rw [h2] at h1; omega
   . calc 2 ^ 256 <= 2 ^ (blen m - 1 + s) := Nat.pow_le_pow_right (by decide) (by
      have : blen m ≠ 0 := fun e => by rw [e] at h1; omega
      omega)
      _ = 2 ^ (blen m - 1) * 2 ^ s := Nat.pow_add ..
      _ <= m * 2 ^ s := Nat.mul_le_mul_right _ h2
 . intro h3
   have h4 : m ≠ 0 := fun e => by rw [e, Nat.zero_mul] at h3; simp at h3
   refine ⟨?_, h4⟩
   rcases Nat.lt_or_ge 256 (blen m + s) with hl | hl
   . exact hl
   . exfalso
     have : m * 2 ^ s < 2 ^ blen m * 2 ^ s := Nat.mul_lt_mul_of_pos_right h1 (Nat.two_pow_pos s)
     rw [<- Nat.pow_add] at this
     have := Nat.pow_le_pow_right (n := 2) (by decide) hl
     omega
def tgt (b : Nat) : Nat := if b / 2 ^ 24 < 3 then b % 2 ^ 23 / 2 ^ (8 * (3 - b / 2 ^ 24)) else b % 2 ^ 23 * 2 ^ (8 * (b / 2 ^ 24 - 3))
def ofT (b : Nat) : Option Nat := if tgt b = 0 ∨ 2 ^ 256 <= tgt b ∨ b / 2 ^ 23 % 2 = 1 then none else some (tgt b)
def ofV : Option Nat -> AV
 | none => .tu [.ag (Bg 0), .p (.bool false)]
 | some t => .tu [.ag (Bg t), .p (.bool true)]
theorem u32_hi (b : UInt32) : (u32_shr b 24).toNat = b.toNat / 2 ^ 24 := by
 rw [u32_shr, if_pos (by omega), UInt32.toNat_shiftRight]
 show b.toNat >>> 24 = _
 rw [Nat.shiftRight_eq_div_pow]
theorem u32_lo (b : UInt32) : (b &&& UInt32.ofInt 8388607).toNat = b.toNat % 2 ^ 23 := by
 rw [UInt32.toNat_and]
 show b.toNat &&& (2 ^ 23 - 1) = _
 rw [Nat.and_two_pow_sub_one_eq_mod]
theorem u32_sign (b : UInt32) : ((b &&& UInt32.ofInt 8388608).toNat = 0) = (b.toNat / 2 ^ 23 % 2 = 0) := by
 rw [UInt32.toNat_and]
 show (b.toNat &&& 2 ^ 23 = 0) = _
 have h : b.toNat &&& 2 ^ 23 = 2 ^ 23 * (b.toNat / 2 ^ 23 % 2) := by
  refine Nat.eq_of_testBit_eq fun i => ?_
  rw [Nat.testBit_and, Nat.testBit_two_pow, Nat.testBit_two_pow_mul]
  by_cases hi : 23 = i
  . subst hi
    simp [Nat.testBit_eq_decide_div_mod_eq]
  . by_cases h2 : 23 <= i
    . have : (b.toNat / 2 ^ 23 % 2).testBit (i - 23) = false := Nat.testBit_lt_two_pow (Nat.lt_of_lt_of_le (Nat.mod_lt _ (by decide)) (by
       calc 2 = 2 ^ 1 := rfl
        _ <= 2 ^ (i - 23) := Nat.pow_le_pow_right (by decide) (by omega)))
      simp [hi, this]
    . simp [hi, h2]
 rw [h]
 apply propext
 omega
theorem of03_ok {T : Tbl} {b : UInt32} : CallA prog G 75 [w32 b] T fun v T' es => v = ofV (ofT b.toNat) /\ T' = T /\ es = [] := by
 refine CallA.wfs fun wf => ?_
 have hb := b.toNat_lt
 refine CallA.eV 7 func75 ntmps75 results75 ?_
 simp -dsimp +decide only [vr, ty, en, ↓reduceIte, Nat.reduceSub, Int.reduceToNat]
 have ez : [oQ, oQ, oQ, oQ] = Bg 0 := rfl
 have hm : b.toNat % 2 ^ 23 < 2 ^ 23 := Nat.mod_lt _ (by decide)
 obtain ⟨s, hs⟩ : ∃ s, s = b.toNat / 2 ^ 24 := ⟨_, rfl⟩
 obtain ⟨m, hm2⟩ : ∃ m, m = b.toNat % 2 ^ 23 := ⟨_, rfl⟩
 have hs8 : s < 256 := by omega
 have e2 : (u32_shr b 24).toNat = s := by rw [u32_hi, hs]
 have e1 : (b &&& UInt32.ofInt 8388607).toUInt64.toNat = m := by rw [UInt32.toNat_toUInt64, u32_lo, hm2]
 have e3 := u32_sign b
 have hof : ofT b.toNat = if tgt b.toNat = 0 ∨ 2 ^ 256 <= tgt b.toNat ∨ b.toNat / 2 ^ 23 % 2 = 1 then none else some (tgt b.toNat) := rfl
 have htg : tgt b.toNat = if s < 3 then m / 2 ^ (8 * (3 - s)) else m * 2 ^ (8 * (s - 3)) := by rw [hs, hm2]; rfl
 rw [<- hm2] at hm
 simp -dsimp +decide (disch := omega) only [ez]
 refine of02_ok.det' ?_
 rw [e1]
 have hmx : m < 2 ^ 256 := by omega
 simp -dsimp +decide (disch := omega) only [vp0, ty, ↓reduceIte, Nat.reduceAdd, Nat.reduceLT, vi, ez, vbg]
 have fin : ∀ (t : Nat), t < 2 ^ 256 -> tgt b.toNat = t -> ofT b.toNat = if t = 0 ∨ ¬ (b &&& UInt32.ofInt 8388608).toNat = 0 then none else some t := by
  intro t ht h
  rw [hof, h]
  have hiff : (t = 0 ∨ 2 ^ 256 <= t ∨ b.toNat / 2 ^ 23 % 2 = 1) ↔ (t = 0 ∨ ¬ (b &&& UInt32.ofInt 8388608).toNat = 0) := by
   rw [e3]
   constructor
   . rintro (h | h | h)
     . exact .inl h
     . omega
     . exact .inr (by omega)
   . rintro (h | h)
     . exact .inl h
     . exact .inr (.inr (by omega))
  by_cases hc : t = 0 ∨ 2 ^ 256 <= t ∨ b.toNat / 2 ^ 23 % 2 = 1
  . rw [if_pos hc, if_pos (hiff.1 hc)]
  . rw [if_neg hc, if_neg (mt hiff.2 hc)]
 rw [e2]
 by_cases h3 : ((s : Int) < 3)
 . have hp : (8 : Int) * (3 - (s : Int)) = ((8 * (3 - s) : Nat) : Int) := by omega
   rw [if_pos (by omega)] at htg
   have htx : m / 2 ^ (8 * (3 - s)) < 2 ^ 256 := Nat.lt_of_le_of_lt (Nat.div_le_self _ _) hmx
   have hF := fin _ htx htg
   simp -dsimp +decide (disch := omega) only [vp0, ty, en, ↓reduceIte, vi, vbg, h3, hp]
   refine (down02_ok hmx (by omega)).det' ?_
   revert hF htx
   generalize m / 2 ^ (8 * (3 - s)) = t
   intro htx hF
   simp -dsimp +decide (disch := omega) only [vp0, ty, ↓reduceIte, Nat.reduceLT, ez, vbg, eqB htx (show 0 < 2 ^ 256 by decide)]
   rw [hF]
   by_cases t0 : t = 0
   . rw [if_pos (.inl t0)]
     have t0' : (t = 0) = True := by simp [t0]
     simp -dsimp +decide (disch := omega) only [vp0, ty, ↓reduceIte, ez, vbg, vres, vone, t0']
     exact Vw.cut ⟨by rw [AV.wo, AV.woL_eq]; simp only [ofV, List.map_cons, List.map_nil, AV.wo, AV.woL_eq, Bg_wo], rfl, rfl⟩
   . have t0' : (t = 0) = False := by simp [t0]
     by_cases hsg : (b &&& UInt32.ofInt 8388608).toNat = 0
     . rw [if_neg (by rw [not_or]; exact ⟨t0, fun h => h hsg⟩)]
       have hsI : (((b &&& UInt32.ofInt 8388608).toNat : Int) = 0) = True := eq_true (by omega)
       simp -dsimp +decide (disch := omega) only [vp0, vu, ty, ↓reduceIte, Nat.reduceLT, vbg, vres, vone, t0', hsI, bb2]
       exact Vw.cut ⟨by rw [AV.wo, AV.woL_eq]; simp only [ofV, List.map_cons, List.map_nil, AV.wo, AV.woL_eq, Bg_wo], rfl, rfl⟩
     . rw [if_pos (.inr hsg)]
       have hsI : (((b &&& UInt32.ofInt 8388608).toNat : Int) = 0) = False := eq_false (fun e => hsg (by omega))
       simp -dsimp +decide (disch := omega) only [vp0, vu, ty, ↓reduceIte, ez, vbg, vres, vone, t0', hsI, bb2]
       exact Vw.cut ⟨by rw [AV.wo, AV.woL_eq]; simp only [ofV, List.map_cons, List.map_nil, AV.wo, AV.woL_eq, Bg_wo], rfl, rfl⟩
 . have hp : (8 : Int) * ((s : Int) - 3) = ((8 * (s - 3) : Nat) : Int) := by omega
   have hk : 8 * (s - 3) <= 2024 := by omega
   rw [if_neg (by omega)] at htg
   have hov := blen_over (m := m) (s := 8 * (s - 3))
   have hbl := blen_le (n := 23) hm
   generalize 8 * (s - 3) = k at hp hk htg hov
   simp -dsimp +decide (disch := omega) only [vp0, ty, en, ↓reduceIte, vi, vbg, h3, hp]
   refine (up02_ok (n := k) hmx (by omega)).det' ?_
   simp -dsimp +decide (disch := omega) only [vp0, ty, en, ↓reduceIte, Nat.reduceLT, vbg]
   refine (bits02_det hmx).det' ?_
   have z256 : 0 < 2 ^ 256 := by decide
   by_cases ho : 2 ^ 256 <= m * 2 ^ k
   . obtain ⟨hb1, hb2⟩ := hov.2 ho
     have hb1' : ((256 : Int) < (blen m : Int) + (k : Int)) = True := eq_true (by omega)
     have hb2' : (m = 0) = False := eq_false hb2
     rw [hof, if_pos (.inr (.inl (by rw [htg]; exact ho)))]
     simp -dsimp +decide (disch := omega) only [vq, ty, ↓reduceIte, vi, ez, vbg, hp, neB hmx z256, hb1', hb2', bb2, vres, vone]
     exact Vw.cut ⟨by rw [AV.wo, AV.woL_eq]; simp only [ofV, List.map_cons, List.map_nil, AV.wo, AV.woL_eq, Bg_wo], rfl, rfl⟩
   . have htx : m * 2 ^ k < 2 ^ 256 := by omega
     have hF := fin _ htx htg
     rw [Nat.mod_eq_of_lt htx]
     by_cases hb1 : (256 : Int) < (blen m : Int) + (k : Int)
     . have m0 : m = 0 := Classical.byContradiction fun h => ho (hov.1 ⟨by omega, h⟩)
       have hb1' : ((256 : Int) < (blen m : Int) + (k : Int)) = True := eq_true hb1
       have hb2' : (m = 0) = True := eq_true m0
       rw [hF, if_pos (.inl (by rw [m0, Nat.zero_mul]))]
       have hz : (m * 2 ^ k = 0) = True := eq_true (by rw [m0, Nat.zero_mul])
       simp -dsimp +decide (disch := omega) only [vq, ty, ↓reduceIte, vi, ez, vbg, hp, neB hmx z256, eqB htx z256, hb1', hb2', hz, bb2, vres, vone]
       exact Vw.cut ⟨by rw [AV.wo, AV.woL_eq]; simp only [ofV, List.map_cons, List.map_nil, AV.wo, AV.woL_eq, Bg_wo], rfl, rfl⟩
     . have hb1' : ((256 : Int) < (blen m : Int) + (k : Int)) = False := eq_false hb1
       revert hF htx
       generalize m * 2 ^ k = t
       intro htx hF
       simp -dsimp +decide (disch := omega) only [vq, ty, ↓reduceIte, vi, ez, vbg, hp, hb1', eqB htx z256]
       rw [hF]
       by_cases t0 : t = 0
       . rw [if_pos (.inl t0)]
         have t0' : (t = 0) = True := by simp [t0]
         simp -dsimp +decide (disch := omega) only [vp0, ty, ↓reduceIte, ez, vbg, vres, vone, t0']
         exact Vw.cut ⟨by rw [AV.wo, AV.woL_eq]; simp only [ofV, List.map_cons, List.map_nil, AV.wo, AV.woL_eq, Bg_wo], rfl, rfl⟩
       . have t0' : (t = 0) = False := by simp [t0]
         by_cases hsg : (b &&& UInt32.ofInt 8388608).toNat = 0
         . rw [if_neg (by rw [not_or]; exact ⟨t0, fun h => h hsg⟩)]
           have hsI : (((b &&& UInt32.ofInt 8388608).toNat : Int) = 0) = True := eq_true (by omega)
           simp -dsimp +decide (disch := omega) only [vp0, vu, ty, ↓reduceIte, Nat.reduceLT, vbg, vres, vone, t0', hsI, bb2]
           exact Vw.cut ⟨by rw [AV.wo, AV.woL_eq]; simp only [ofV, List.map_cons, List.map_nil, AV.wo, AV.woL_eq, Bg_wo], rfl, rfl⟩
         . rw [if_pos (.inr hsg)]
           have hsI : (((b &&& UInt32.ofInt 8388608).toNat : Int) = 0) = False := eq_false (fun e => hsg (by omega))
           simp -dsimp +decide (disch := omega) only [vp0, vu, ty, ↓reduceIte, ez, vbg, vres, vone, t0', hsI, bb2]
           exact Vw.cut ⟨by rw [AV.wo, AV.woL_eq]; simp only [ofV, List.map_cons, List.map_nil, AV.wo, AV.woL_eq, Bg_wo], rfl, rfl⟩
def cmpP (t : Nat) : Nat := if (blen t + 7) / 8 < 3 then t * 2 ^ (8 * (3 - (blen t + 7) / 8)) else t / 2 ^ (8 * ((blen t + 7) / 8 - 3))
def cmpN (t : Nat) : Nat := if t = 0 then 0 else if 2 ^ 23 <= cmpP t then ((blen t + 7) / 8 + 1) * 2 ^ 24 + cmpP t / 2 ^ 8 else (blen t + 7) / 8 * 2 ^ 24 + cmpP t
theorem cmpP_lt (t : Nat) : cmpP t < 2 ^ 24 := by
 have h1 := (blen_is t).1
 have h2 : t < 2 ^ (8 * ((blen t + 7) / 8)) := Nat.lt_of_lt_of_le h1 (Nat.pow_le_pow_right (by decide) (by omega))
 unfold cmpP
 generalize (blen t + 7) / 8 = n at *
 split
 . rename_i h
   calc t * 2 ^ (8 * (3 - n)) < 2 ^ (8 * n) * 2 ^ (8 * (3 - n)) := Nat.mul_lt_mul_of_pos_right h2 (Nat.two_pow_pos _)
    _ = 2 ^ 24 := by rw [<- Nat.pow_add]; congr 1; omega
 . rename_i h
   rw [Nat.div_lt_iff_lt_mul (Nat.two_pow_pos _), <- Nat.pow_add, show 24 + 8 * (n - 3) = 8 * n by omega]
   exact h2
theorem limb0_nat {p : Nat} (h : p < 2 ^ 64) : (limb p 0).toNat = p := by rw [limb_nat, Nat.mul_zero, Nat.pow_zero, Nat.div_one, Nat.mod_eq_of_lt h]
theorem compact_or {n p : Nat} (hn : n <= 33) (hp : p < 2 ^ 24) : u32_shl (UInt32.ofInt (n : Int)) 24 ||| (limb p 0).toUInt32 = UInt32.ofNat (n * 2 ^ 24 + p) := by
 apply UInt32.toNat_inj.1
 have h1 : (UInt32.ofInt (n : Int)).toNat = n := by rw [UInt32.ofInt]; simp; omega
 rw [UInt32.toNat_or, u32_shl, if_pos (by omega), UInt32.toNat_shiftLeft, h1, UInt64.toNat_toUInt32, limb0_nat (by omega), UInt32.toNat_ofNat']
 show n <<< 24 % 2 ^ 32 ||| p % 2 ^ 32 = _
 rw [Nat.shiftLeft_eq, Nat.mod_eq_of_lt (a := n * 2 ^ 24) (by omega), Nat.mod_eq_of_lt (a := p) (by omega), Nat.mul_comm, <- Nat.two_pow_add_eq_or_of_lt hp]
 first | rfl | (rw [UInt32.toNat_ofNat', Nat.mod_eq_of_lt (a := 2 ^ 24 * n + p) (b := 2 ^ 32) (by omega)]) | (rw [Nat.mod_eq_of_lt (a := 2 ^ 24 * n + p) (b := 2 ^ 32) (by omega)])
theorem limb_32 {p : Nat} (hp : p < 2 ^ 24) : (limb p 0).toUInt32 = UInt32.ofInt (p : Int) := by
 apply UInt32.toNat_inj.1
 rw [UInt64.toNat_toUInt32, limb0_nat (by omega), UInt32.ofInt]; simp; omega
theorem compact_or' {n p : Nat} (hn : n <= 33) (hp : p < 2 ^ 24) : u32_shl (UInt32.ofInt (n : Int)) 24 ||| UInt32.ofInt (p : Int) = UInt32.ofNat (n * 2 ^ 24 + p) := by rw [<- limb_32 hp, compact_or hn hp]
theorem compact03_ok {T : Tbl} {t : Nat} (ht : t < 2 ^ 256) : CallA prog G 92 [.ag (Bg t)] T fun v T' es => v = w32 (UInt32.ofNat (cmpN t)) /\ T' = T /\ es = [] := by
 refine CallA.wfs fun wf => ?_
 have z256 : 0 < 2 ^ 256 := by decide
 have ez : [oQ, oQ, oQ, oQ] = Bg 0 := rfl
 refine CallA.eV 5 func92 ntmps92 results92 ?_
 simp -dsimp +decide only [vp0, ty, ↓reduceIte, Nat.reduceSub]
 by_cases t0 : t = 0
 . have t0' : (t = 0) = True := eq_true t0
   rw [cmpN, if_pos t0]
   simp -dsimp +decide (disch := omega) only [vp0, ↓reduceIte, ez, vbg, eqB ht z256, t0']
   exact Vw.cut ⟨rfl, rfl, rfl⟩
 have t0' : (t = 0) = False := eq_false t0
 rw [cmpN, if_neg t0]
 have hP := cmpP_lt t
 have hbl := blen_le ht
 have hcp : cmpP t = if (blen t + 7) / 8 < 3 then t * 2 ^ (8 * (3 - (blen t + 7) / 8)) else t / 2 ^ (8 * ((blen t + 7) / 8 - 3)) := rfl
 simp -dsimp +decide (disch := omega) only [vp0, ty, en, ↓reduceIte, ez, vbg, eqB ht z256, t0']
 refine (bits02_det ht).det' ?_
 have hq : ((blen t : Int) + 7).tdiv 8 = (((blen t + 7) / 8 : Nat) : Int) := by
  rw [Int.tdiv_eq_ediv_of_nonneg (by omega)]; omega
 obtain ⟨n, hn⟩ : ∃ n, n = (blen t + 7) / 8 := ⟨_, rfl⟩
 rw [<- hn] at hq hcp ⊢
 have hn32 : n <= 32 := by omega
 simp -dsimp +decide (disch := omega) only [vq, ty, ↓reduceIte, vi, ez, vbg, hq]
 have hg := Bg_get (cmpP t) (j := 0) (by omega)
 have hg2 := Bg_get (cmpP t / 2 ^ 8) (j := 0) (by omega)
 have hPx : cmpP t < 2 ^ 256 := by omega
 have hl0 := limb0_nat (p := cmpP t) (by omega)
 by_cases h3 : ((n : Int) < 3)
 . have hp : (8 : Int) * (3 - (n : Int)) = ((8 * (3 - n) : Nat) : Int) := by omega
   rw [if_pos (by omega)] at hcp
   simp -dsimp +decide (disch := omega) only [vp0, ty, en, ↓reduceIte, vi, vbg, h3, hp]
   refine (up02_ok ht (by omega)).det' ?_
   rw [<- hcp, Nat.mod_eq_of_lt hPx]
   revert hP hg hg2 hPx hl0
   generalize cmpP t = p
   intro hP hg hg2 hPx hl0
   simp -dsimp +decide (disch := omega) only [vp0, ty, ↓reduceIte, Nat.reduceLT, Int.reduceToNat, vbg, hg, hl0]
   refine CondP.dec (fun h => ?_) (fun h => ?_)
   . rw [if_pos (by omega)]
     simp -dsimp +decide (disch := omega) only [vp0, ty, en, ↓reduceIte, vbg]
     refine (down02_ok (n := 8) hPx (by omega)).det' ?_
     simp -dsimp +decide (disch := omega) only [vp0, vu, ty, ↓reduceIte, Nat.reduceLT, Int.reduceToNat, vi, vbg, hg2]
     rw [show UInt32.ofInt (n : Int) + UInt32.ofInt 1 = UInt32.ofInt ((n + 1 : Nat) : Int) by rw [<- UInt32.ofInt_add]; rfl, compact_or (by omega) (by omega)]
     exact Vw.cut ⟨rfl, rfl, rfl⟩
   . rw [if_neg (by omega)]
     simp -dsimp +decide (disch := omega) only [vp0, vu, ty, ↓reduceIte, Int.reduceToNat, vbg, hg, hl0]
     rw [compact_or' (by omega) hP]
     exact Vw.cut ⟨rfl, rfl, rfl⟩
 . have hp : (8 : Int) * ((n : Int) - 3) = ((8 * (n - 3) : Nat) : Int) := by omega
   rw [if_neg (by omega)] at hcp
   simp -dsimp +decide (disch := omega) only [vp0, ty, en, ↓reduceIte, vi, vbg, h3, hp]
   refine (down02_ok ht (by omega)).det' ?_
   rw [<- hcp]
   revert hP hg hg2 hPx hl0
   generalize cmpP t = p
   intro hP hg hg2 hPx hl0
   simp -dsimp +decide (disch := omega) only [vp0, ty, ↓reduceIte, Nat.reduceLT, Int.reduceToNat, vbg, hg, hl0]
   refine CondP.dec (fun h => ?_) (fun h => ?_)
   . rw [if_pos (by omega)]
     simp -dsimp +decide (disch := omega) only [vp0, ty, en, ↓reduceIte, vbg]
     refine (down02_ok (n := 8) hPx (by omega)).det' ?_
     simp -dsimp +decide (disch := omega) only [vp0, vu, ty, ↓reduceIte, Nat.reduceLT, Int.reduceToNat, vi, vbg, hg2]
     rw [show UInt32.ofInt (n : Int) + UInt32.ofInt 1 = UInt32.ofInt ((n + 1 : Nat) : Int) by rw [<- UInt32.ofInt_add]; rfl, compact_or (by omega) (by omega)]
     exact Vw.cut ⟨rfl, rfl, rfl⟩
   . rw [if_neg (by omega)]
     simp -dsimp +decide (disch := omega) only [vp0, vu, ty, ↓reduceIte, Int.reduceToNat, vbg, hg, hl0]
     rw [compact_or' (by omega) hP]
     exact Vw.cut ⟨rfl, rfl, rfl⟩
theorem meets03_ok {T : Tbl} {h : List UInt8} {t : Nat} (hh : h.length = 32) (ht : t < 2 ^ 256) : CallA prog G 76 [.ag (h.map by8), .ag (Bg t)] T fun v T' es => v = .p (.bool (decide (t ≠ 0 /\ hN h <= t))) /\ T' = T /\ es = [] := by
 refine CallA.wfs fun wf => ?_
 have z256 : 0 < 2 ^ 256 := by decide
 have hx : hN h < 2 ^ 256 := by have := hN_lt h; rwa [hh] at this
 have g0 := fun l => gn0 T (.cells 33 (h.map by8)) l
 have g1 := fun a l => gn1 T a (.cells 170 (Bg t)) l
 have ez : [oQ, oQ, oQ, oQ] = Bg 0 := rfl
 refine CallA.eV 5 func76 ntmps76 results76 ?_
 simp -dsimp +decide only [vp0, ↓reduceIte, Nat.reduceSub, Nat.reduceAdd]
 refine SemA.draw (fun _ => true) [(0, true), (1, false), (2, true), (3, true), (4, true), (5, true), (6, false), (7, false), (8, true), (9, true), (10, true)] mixed (by kernel_rfl) ?_
 by_cases t0 : t = 0
 . have t0' : (t = 0) = True := eq_true t0
   rw [show decide (t ≠ 0 /\ hN h <= t) = false by simp [t0]]
   simp -dsimp +decide (disch := omega) only [vp0, ty, ↓reduceIte, ez, vbg, neB ht z256, t0', g1]
   exact Vw.cut ⟨rfl, rfl, rfl⟩
 . have t0' : (t = 0) = False := eq_false t0
   simp -dsimp +decide (disch := omega) only [vq, ty, en, ↓reduceIte, ez, vbg, vh, hh, List.drop_zero, neB ht z256, t0', g0, g1]
   refine (ofhash02_ok hh).det' ?_
   simp -dsimp +decide (disch := omega) only [vp0, en, ↓reduceIte, vbg]
   refine (less02_ok ht hx).det' ?_
   rw [show decide (t ≠ 0 /\ hN h <= t) = !decide (t < hN h) by rw [<- decide_not, decide_eq_decide]; omega]
   simp -dsimp +decide (disch := omega) only [vp0, ↓reduceIte, vbg]
   exact Vw.cut ⟨rfl, rfl, rfl⟩
theorem muldiv (x n m : Nat) (h : 0 < m) : x * n / m = x / m * n + x % m * n / m := by
 have e : x * n = m * (x / m * n) + x % m * n := by
  conv => lhs; rw [<- Nat.div_add_mod x m]
  rw [Nat.add_mul, Nat.mul_assoc]
 rw [e, Nat.mul_add_div h]
theorem ofNat_zero {k : Nat} (h : k < 2 ^ 64) : ((UInt64.ofNat k).toNat : Int) = (k : Int) := by rw [UInt64.toNat_ofNat', Nat.mod_eq_of_lt h]
theorem part13_ok {T : Tbl} {x most : Nat} {n m : UInt64} (hx : x < 2 ^ 256) (hmost : most < 2 ^ 256) (hm : 0 < m.toNat) :
 CallA prog G 91 [.ag (Bg x), w64 n, w64 m, .ag (Bg most)] T fun v T' es => v = .ag (Bg (min (x * n.toNat / m.toNat) most)) /\ T' = T /\ es = [] := by
 refine CallA.wfs fun wf => ?_
 have ez : [oQ, oQ, oQ, oQ] = Bg 0 := rfl
 have em : [AV.p (Value.int IntKind.u64 ↑m.toNat), oQ, oQ, oQ] = Bg m.toNat := (bg_small m).symm
 have hml := m.toNat_lt
 have hnl := n.toNat_lt
 have hmx : m.toNat < 2 ^ 256 := by omega
 have hq : x / m.toNat < 2 ^ 256 := Nat.lt_of_le_of_lt (Nat.div_le_self _ _) hx
 have hrm : x % m.toNat < m.toNat := Nat.mod_lt _ hm
 have hr : x % m.toNat < 2 ^ 256 := by omega
 have hsum := muldiv x n.toNat m.toNat hm
 refine CallA.eV 22 func91 ntmps91 results91 ?_
 simp -dsimp +decide only [vq, ty, en, ↓reduceIte, Nat.reduceSub, Nat.reduceAdd, Nat.reduceLT]
 simp -dsimp +decide (disch := omega) only [ez, em, vbg]
 refine (div02_ok hx hmx hm).det' ?_
 revert hq hrm hr hsum
 generalize x / m.toNat = q
 generalize x % m.toNat = r
 intro hq hrm hr hsum
 simp -dsimp +decide (disch := omega) only [vp0, ty, en, ↓reduceIte, Nat.reduceAdd, Nat.reduceLT, ez, em, vbg]
 refine (mul02_ok hq).det' ?_
 have hqo : q * n.toNat / 2 ^ 256 < 2 ^ 64 := by
  rw [Nat.div_lt_iff_lt_mul (by decide)]
  calc q * n.toNat <= 2 ^ 256 * n.toNat := Nat.mul_le_mul_right _ (by omega)
   _ < 2 ^ 64 * 2 ^ 256 := by rw [Nat.mul_comm]; exact Nat.mul_lt_mul_of_pos_right hnl (by decide)
 simp -dsimp +decide (disch := omega) only [vq, ty, ↓reduceIte, Nat.reduceAdd, Nat.reduceLT, ez, vbg, ofNat_zero hqo]
 refine CondP.ndec (fun h => ?_) (fun h => ?_)
 . have hbig : 2 ^ 256 <= q * n.toNat := by
    have h1 : 1 <= q * n.toNat / 2 ^ 256 := by omega
    rw [Nat.le_div_iff_mul_le (by decide)] at h1
    omega
   rw [hsum, Nat.min_eq_right (Nat.le_trans (Nat.le_of_lt hmost) (Nat.le_trans hbig (Nat.le_add_right _ _)))]
   simp -dsimp +decide (disch := omega) only [vp0, ty, ↓reduceIte, Nat.reduceLT, vbg]
   exact Vw.cut ⟨by rw [AV.wo, AV.woL_eq, Bg_wo], rfl, rfl⟩
 . have hsm : q * n.toNat < 2 ^ 256 := by
    have h1 : q * n.toNat / 2 ^ 256 = 0 := by omega
    rw [Nat.div_eq_zero_iff] at h1
    omega
   rw [Nat.mod_eq_of_lt hsm]
   simp -dsimp +decide (disch := omega) only [vp0, ty, en, ↓reduceIte, vbg]
   refine (mul02_ok hr).det' ?_
   have hrn : r * n.toNat < 2 ^ 128 := by
    calc r * n.toNat <= 2 ^ 64 * n.toNat := Nat.mul_le_mul_right _ (by omega)
     _ < 2 ^ 64 * 2 ^ 64 := Nat.mul_lt_mul_of_pos_left hnl (by decide)
     _ = 2 ^ 128 := by decide
   rw [Nat.mod_eq_of_lt (a := r * n.toNat) (b := 2 ^ 256) (by omega)]
   simp -dsimp +decide (disch := omega) only [vq, ty, en, ↓reduceIte, Nat.reduceAdd, Nat.reduceLT, ez, vbg]
   refine (div02_ok (by omega) hmx hm).det' ?_
   have hc : r * n.toNat / m.toNat < 2 ^ 256 := Nat.lt_of_le_of_lt (Nat.div_le_self _ _) (by omega)
   revert hc hsum hsm
   generalize r * n.toNat / m.toNat = c
   generalize q * n.toNat = a
   intro hsum hsm hc
   rw [hsum]
   simp -dsimp +decide (disch := omega) only [vp0, ty, en, ↓reduceIte, Nat.reduceAdd, Nat.reduceLT, ez, vbg]
   refine (add02_ok hsm hc).det' ?_
   by_cases hov : 2 ^ 256 <= a + c
   . rw [show decide (2 ^ 256 <= a + c) = true from decide_eq_true hov, Nat.min_eq_right (by omega)]
     simp -dsimp +decide (disch := omega) only [vp0, ty, ↓reduceIte, Nat.reduceAdd, Nat.reduceLT, ez, vbg]
     exact Vw.cut ⟨by rw [AV.wo, AV.woL_eq, Bg_wo], rfl, rfl⟩
   . rw [show decide (2 ^ 256 <= a + c) = false from decide_eq_false hov, Nat.mod_eq_of_lt (by omega)]
     simp -dsimp +decide (disch := omega) only [vp0, ty, en, ↓reduceIte, Nat.reduceAdd, Nat.reduceLT, ez, vbg]
     refine (less02_ok hmost (by omega)).det' ?_
     by_cases hl : most < a + c
     . rw [show decide (most < a + c) = true from decide_eq_true hl, Nat.min_eq_right (by omega)]
       simp -dsimp +decide (disch := omega) only [vp0, ty, ↓reduceIte, Nat.reduceLT, vbg]
       exact Vw.cut ⟨by rw [AV.wo, AV.woL_eq, Bg_wo], rfl, rfl⟩
     . rw [show decide (most < a + c) = false from decide_eq_false hl, Nat.min_eq_left (by omega)]
       simp -dsimp +decide (disch := omega) only [vp0, ty, ↓reduceIte, Nat.reduceLT, vbg]
       exact Vw.cut ⟨by rw [AV.wo, AV.woL_eq, Bg_wo], rfl, rfl⟩
def lfh : List Lf := List.replicate 32 (.i .u8)
theorem kth : KT prog 33 lfh := ⟨(by kernel_rfl), (by kernel_rfl), (by kernel_rfl), (by kernel_rfl), Nat.le_of_ble_eq_true (by kernel_rfl), (by kernel_rfl)⟩
abbrev v8 (l : List UInt8) : List Value := l.map fun b => .int .u8 (b.toNat : Int)
theorem by8_p (l : List UInt8) : l.map by8 = (v8 l).map .p := by rw [v8, List.map_map]; rfl
theorem fith {l : List UInt8} (h : l.length = 32) : FitL lfh (v8 l) := by
 have := FitL.u8 l
 rwa [h] at this
theorem v8_inj {l m : List UInt8} : v8 l = v8 m ↔ l = m :=
 ⟨fun h => (List.map_inj_right (f := fun b : UInt8 => Value.int .u8 (b.toNat : Int)) (fun x y e => by simp at e; exact UInt8.toNat_inj.1 (by omega))).1 h, fun h => by rw [h]⟩
open Classical in
theorem neh {l m : List UInt8} (hl : l.length = 32) (hm : m.length = 32) (xo yo : Operand) (K : AV -> Prop) : binA prog .neq 33 (.ag (l.map by8)) (.ag (m.map by8)) xo yo K = K (.p (.bool (!decide (l = m)))) := by
 rw [by8_p, by8_p, KT.neA kth (fith hl) (fith hm)]
 congr 4
 rw [Bool.eq_iff_iff, decide_eq_true_iff, decide_eq_true_iff]; exact v8_inj
theorem Sl.fld {T : Tbl} {sz n : Nat} {a : AV} {cs : List AV} {K : AV -> Prop} (h : Sl T sz a cs n) (hn : 0 < n) (j k : Nat) : fldA (some k) (a.pl j) K = K (a.pl (j + k)) := by
 obtain ⟨hl, rfl | ⟨i, off, o, ds, rfl, g1, g2, g3, g4⟩ | ⟨rfl, rfl⟩⟩ := h
 . rfl
 . simp only [AV.pl, fldA, Nat.add_assoc]
 . omega
theorem flat_cell {α : Type} {f : α -> List AV} {sz : Nat} {xs : List α} (h : ∀ x ∈ xs, (f x).length = sz) {i j : Nat} {x : α} (hx : xs[i]? = some x) (hj : j < sz) : (xs.flatMap f)[i * sz + j]? = (f x)[j]? := by
 rw [<- List.getElem?_drop, <- List.getElem?_take_of_lt hj, flat_at h hx]
structure Pt where
 h : Int
 id : List UInt8
abbrev Pt.cs (x : Pt) : List AV := wint x.h :: x.id.map by8
structure Par where
 limit : UInt32
 interval : Int
 spacing : UInt32
 pa : AV
 pts : List Pt
 first : Hdr
def Par.cs (p : Par) : List AV := w32 p.limit :: wint p.interval :: w32 p.spacing :: p.pa :: p.first.cs
structure Par.Ok (p : Par) : Prop where
 f : p.first.Ok
 a : ∀ T, Es T 33 Pt.cs p.pa p.pts
 l : p.pts.length <= 1099511627776
 i : -9223372036854775808 <= p.interval /\ p.interval <= 9223372036854775807
 wo : ∀ q, p.pa.wo q = p.pa
 pub : ∀ i cs, p.pa.pub i cs = p.pa
 one : AV.one p.pa = true
 h : ∀ x ∈ p.pts, -9223372036854775808 <= x.h /\ x.h <= 9223372036854775807
theorem Par.Ok.id {p : Par} (ok : p.Ok) : ∀ x ∈ p.pts, x.id.length = 32 := fun x hx => by
 have := (ok.a []).wd x hx; simpa using this
theorem Par.rules {p : Par} (ok : p.Ok) : p.cs.length = 72 /\ p.cs[0]? = some (w32 p.limit) /\ p.cs[1]? = some (wint p.interval) /\ p.cs[2]? = some (w32 p.spacing) /\ p.cs[3]? = some p.pa /\ List.take 68 (List.drop 4 p.cs) = p.first.cs /\ p.cs[69]? = some (w32 p.first.time) /\ p.cs[70]? = some (w32 p.first.bits) /\
 List.take 72 (List.drop 0 p.cs) = p.cs /\ List.take 72 p.cs = p.cs /\ (∀ q, p.cs.map (AV.wo q) = p.cs) /\ (∀ i cs, p.cs.map (AV.pub i cs) = p.cs) /\ ones p.cs = true := by
 have hr := Hdr.rules ok.f
 have hl : p.cs.length = 72 := by simp [Par.cs, hr.1]
 have hd : List.drop 4 p.cs = p.first.cs := rfl
 have hg : ∀ k, p.cs[4 + k]? = p.first.cs[k]? := fun k => by rw [<- List.getElem?_drop, hd]
 refine ⟨hl, rfl, rfl, rfl, rfl, by rw [hd]; exact hr.2.2.2.2.2.2.2.2.1, by rw [show 69 = 4 + 65 from rfl, hg]; exact hr.2.2.2.2.1, by rw [show 70 = 4 + 66 from rfl, hg]; exact hr.2.2.2.2.2.1, by rw [List.drop_zero, List.take_of_length_le (by omega)], List.take_of_length_le (by omega), fun q => ?_, fun i cs => ?_, ?_⟩
 . simp only [Par.cs, List.map_cons, hr.2.2.2.2.2.2.2.2.2.1, ok.wo]
   simp only [w32, wint, AV.wo]
 . simp only [Par.cs, List.map_cons, hr.2.2.2.2.2.2.2.2.2.2.1, ok.pub]
   simp only [w32, wint, AV.pub]
 . have h1 : AV.one (w32 p.limit) = true := rfl
   have h2 : AV.one (wint p.interval) = true := rfl
   have h3 : AV.one (w32 p.spacing) = true := rfl
   have h4 : List.all p.first.cs AV.one = true := hr.2.2.2.2.2.2.2.2.2.2.2
   rw [ones, Par.cs, List.all_cons, List.all_cons, List.all_cons, List.all_cons, h1, h2, h3, ok.one, h4]; rfl
def z33 : List AV := wint 0 :: z32
theorem ez33 : [oI, oB, oB, oB, oB, oB, oB, oB, oB, oB, oB, oB, oB, oB, oB, oB, oB, oB, oB, oB, oB, oB, oB, oB, oB, oB, oB, oB, oB, oB, oB, oB, oB] = z33 := rfl
theorem Pt.rules {x : Pt} (h : x.id.length = 32) : (wrA z33 0 (wint x.h :: x.id.map by8) = wint x.h :: x.id.map by8) /\ (z33.length = 33) /\ ((wint x.h :: x.id.map by8).length = 33) /\ List.take 32 (List.drop 1 (wint x.h :: x.id.map by8)) = x.id.map by8 /\ ones (wint x.h :: x.id.map by8) = true := by
 have h2 : (wint x.h :: x.id.map by8).length = 33 := by simp [h]
 refine ⟨wrA_all (by rw [h2]; rfl), rfl, h2, ?_, ?_⟩
 . rw [show (1 : Nat) = 0 + 1 from rfl, List.drop_succ_cons, List.drop_zero, List.take_of_length_le (by simp [h])]
 . have := vh.2.2.2.2.2 x.id
   rw [ones] at this ⊢
   rw [List.all_cons, show AV.one (wint x.h) = true from rfl, Bool.true_and]; exact this
def ptOK (f : List UInt8) (pts : List Pt) (k : Nat) : Prop := ∀ x, pts[k]? = some x -> 0 <= x.h /\ (∀ y, 0 < k -> pts[k - 1]? = some y -> y.h < x.h) /\ (x.h = 0 -> x.id = f)
open Classical in
noncomputable def mayP (p : Par) : Bool := decide (∀ k, k < p.pts.length -> ptOK p.first.id p.pts k)
noncomputable def mayB (p : Par) : Bool := match ofT p.limit.toNat with
 | none => false
 | some t => decide (UInt32.ofNat (cmpN t) = p.limit) && decide (2 <= p.interval) && decide (p.interval <= 2016) && decide (1 <= p.spacing.toNat) && decide (p.spacing.toNat <= 3600) && decide (p.first.bits = p.limit) && mayP p
theorem ofT_lt {b t : Nat} (h : ofT b = some t) : t < 2 ^ 256 /\ t ≠ 0 := by
 unfold ofT at h
 split at h
 . cases h
 . rename_i hn
   cases h
   omega
theorem may13_ok {T : Tbl} {p : Par} (ok : p.Ok) : CallA prog G 90 [.ag p.cs] T fun v T' es => v = .p (.bool (mayB p)) /\ T' = T /\ es = [] := by
 refine CallA.wfs fun wf => ?_
 have wt := wf.t
 have hr := Par.rules ok
 have g0 := fun l => gn0 T (.cells 37 p.cs) l
 have ez : [oQ, oQ, oQ, oQ] = Bg 0 := rfl
 refine CallA.eV 7 func90 ntmps90 results90 ?_
 simp -dsimp +decide only [vp0, ty, ↓reduceIte, Nat.reduceSub]
 simp -dsimp +decide (disch := omega) only [va, vl, en, ↓reduceIte, hr]
 refine of03_ok.det' ?_
 cases ho : ofT p.limit.toNat with
 | none =>
   rw [show mayB p = false by rw [mayB, ho]]
   unfold ofV
   simp -dsimp +decide (disch := omega) only [vp0, ty, ↓reduceIte, ez, vbg]
   refine SemA.draw (fun i => true) [(0, true), (1, true), (2, true), (3, true), (5, true), (6, true), (4, false), (7, true), (8, true), (9, true), (10, true), (11, true), (12, true), (13, true), (14, true), (15, true), (16, true), (17, true), (18, true), (19, true), (20, true), (21, true), (22, true), (23, true), (24, true), (25, true), (26, true), (27, true), (28, true), (29, true), (30, true), (31, true), (32, true), (33, true), (34, true), (35, true), (36, true)] mixed (by kernel_rfl) ?_
   simp -dsimp +decide (disch := omega) only [vp0, ↓reduceIte, vbg, bb2]
   exact Vw.cut ⟨rfl, rfl, rfl⟩
 | some t =>
   obtain ⟨htx, ht0⟩ := ofT_lt ho
   rw [show mayB p = (decide (UInt32.ofNat (cmpN t) = p.limit) && decide (2 <= p.interval) && decide (p.interval <= 2016) && decide (1 <= p.spacing.toNat) && decide (p.spacing.toNat <= 3600) && decide (p.first.bits = p.limit) && mayP p) by rw [mayB, ho]]
   unfold ofV
   simp -dsimp +decide (disch := omega) only [vp0, ty, ↓reduceIte, Nat.reduceLT, ez, vbg]
   have g1 := fun a l => gn1 T a (.cells 170 (Bg t)) l
   refine SemA.draw (fun i => true) [(0, true), (1, true), (2, true), (3, true), (5, true), (6, true), (4, false), (7, true), (8, true), (9, true), (10, true), (11, true), (12, true), (13, true), (14, true), (15, true), (16, true), (17, true), (18, true), (19, true), (20, true), (21, true), (22, true), (23, true), (24, true), (25, true), (26, true), (27, true), (28, true), (29, true), (30, true), (31, true), (32, true), (33, true), (34, true), (35, true), (36, true)] mixed (by kernel_rfl) ?_
   simp -dsimp +decide (disch := omega) only [vq, ty, en, ↓reduceIte, hr, vbg, g0, g1, bb2]
   refine (compact03_ok htx).det' ?_
   simp -dsimp +decide (disch := omega) only [vq, ↓reduceIte, vbg]
   by_cases c1 : UInt32.ofNat (cmpN t) = p.limit
   rotate_left
   . have ic1 : (((UInt32.ofNat (cmpN t)).toNat : Int) = (p.limit.toNat : Int)) = False := eq_false fun e => c1 (UInt32.toNat_inj.1 (by omega))
     rw [show decide (UInt32.ofNat (cmpN t) = p.limit) = false from decide_eq_false c1]
     simp -dsimp +decide (disch := omega) only [vp0, ↓reduceIte, vbg, bb2, ic1]
     exact Vw.cut ⟨rfl, rfl, rfl⟩
   have ic1 : (((UInt32.ofNat (cmpN t)).toNat : Int) = (p.limit.toNat : Int)) = True := eq_true (by rw [c1])
   rw [show decide (UInt32.ofNat (cmpN t) = p.limit) = true from decide_eq_true c1]
   by_cases c2 : 2 <= p.interval
   rotate_left
   . have ic2 : (p.interval < 2) = True := eq_true (by omega)
     rw [show decide (2 <= p.interval) = false from decide_eq_false c2]
     simp -dsimp +decide (disch := omega) only [vq, ty, ↓reduceIte, hr, vbg, g0, bb2, ic1, ic2]
     exact Vw.cut ⟨rfl, rfl, rfl⟩
   have ic2 : (p.interval < 2) = False := eq_false (by omega)
   rw [show decide (2 <= p.interval) = true from decide_eq_true c2]
   by_cases c3 : p.interval <= 2016
   rotate_left
   . have ic3 : (2016 < p.interval) = True := eq_true (by omega)
     rw [show decide (p.interval <= 2016) = false from decide_eq_false c3]
     simp -dsimp +decide (disch := omega) only [vq, ty, ↓reduceIte, hr, vbg, g0, bb2, ic1, ic2, ic3]
     exact Vw.cut ⟨rfl, rfl, rfl⟩
   have ic3 : (2016 < p.interval) = False := eq_false (by omega)
   rw [show decide (p.interval <= 2016) = true from decide_eq_true c3]
   by_cases c4 : 1 <= p.spacing.toNat
   rotate_left
   . have ic4 : ((p.spacing.toNat : Int) < 1) = True := eq_true (by omega)
     rw [show decide (1 <= p.spacing.toNat) = false from decide_eq_false c4]
     simp -dsimp +decide (disch := omega) only [vq, ty, ↓reduceIte, hr, vbg, g0, bb2, ic1, ic2, ic3, ic4]
     exact Vw.cut ⟨rfl, rfl, rfl⟩
   have ic4 : ((p.spacing.toNat : Int) < 1) = False := eq_false (by omega)
   rw [show decide (1 <= p.spacing.toNat) = true from decide_eq_true c4]
   by_cases c5 : p.spacing.toNat <= 3600
   rotate_left
   . have ic5 : ((3600 : Int) < (p.spacing.toNat : Int)) = True := eq_true (by omega)
     rw [show decide (p.spacing.toNat <= 3600) = false from decide_eq_false c5]
     simp -dsimp +decide (disch := omega) only [vq, ty, ↓reduceIte, hr, vbg, g0, bb2, ic1, ic2, ic3, ic4, ic5]
     exact Vw.cut ⟨rfl, rfl, rfl⟩
   have ic5 : ((3600 : Int) < (p.spacing.toNat : Int)) = False := eq_false (by omega)
   rw [show decide (p.spacing.toNat <= 3600) = true from decide_eq_true c5]
   by_cases c6 : p.first.bits = p.limit
   rotate_left
   . have ic6 : ((p.first.bits.toNat : Int) = (p.limit.toNat : Int)) = False := eq_false fun e => c6 (UInt32.toNat_inj.1 (by omega))
     rw [show decide (p.first.bits = p.limit) = false from decide_eq_false c6]
     simp -dsimp +decide (disch := omega) only [vq, ty, ↓reduceIte, Nat.reduceAdd, hr, vbg, g0, bb2, ic1, ic2, ic3, ic4, ic5, ic6]
     exact Vw.cut ⟨rfl, rfl, rfl⟩
   have ic6 : ((p.first.bits.toNat : Int) = (p.limit.toNat : Int)) = True := eq_true (by rw [c6])
   rw [show decide (p.first.bits = p.limit) = true from decide_eq_true c6]
   simp -dsimp +decide (disch := omega) only [vq, ty, ↓reduceIte, Nat.reduceAdd, hr, vbg, g0, bb2, ic1, ic2, ic3, ic4, ic5, ic6]
   have hpl := ok.l
   have hb := ok.a T
   have hsr := Sl.rules hb.sl (by decide)
   have hld := hb.ld (P := prog) (t := 213) (by (simp -dsimp +decide only [])) (by (simp -dsimp +decide only [])) (by decide)
   have hl1 := Sl.loads hb.sl (P := prog) (t := 3) (by (simp -dsimp +decide only []))
   refine SemA.loopK (T.length + 2) (fun k : Nat => [(1, .ptr T.length 0), (5, wint (k : Int))]) (fun _ => T ++ [.cells 37 p.cs, .cells 170 (Bg t)]) (fun k => k <= p.pts.length /\ ∀ j, j < k -> ptOK p.first.id p.pts j) (fun k => p.pts.length - k) 0 [] 0 (fun _ : Unit => []) (fun _ => T ++ [.cells 37 p.cs, .cells 170 (Bg t)]) (fun _ => ∀ j, j < p.pts.length -> ptOK p.first.id p.pts j) (by omega) ⟨by omega, fun j hj => by omega⟩ (by (simp -dsimp +decide (disch := omega) only [vq, Nat.reduceAdd, ci]); first | rfl | done) rfl (by simp) ?_ ?_
   . rintro k g ⟨hk, hq⟩
     refine SemA.o ?_
     simp -dsimp +decide (disch := omega) only [vq, ty, ↓reduceIte, Nat.reduceAdd, hr, hsr, g0]
     refine CondP.dec (fun h => ?_) (fun h => ?_)
     . obtain ⟨x, hx⟩ : ∃ x, p.pts[k]? = some x := ⟨p.pts[k]'(by omega), by simp⟩
       have hx32 := ok.id x (List.mem_of_getElem? hx)
       have hxr := Pt.rules hx32
       have hx4 : List.take 32 (List.drop 1 (AV.p (Value.int IntKind.i64 x.h) :: x.id.map by8)) = x.id.map by8 := hxr.2.2.2.1
       have hxh := ok.h x (List.mem_of_getElem? hx)
       have hn : 0 < p.pts.length := by omega
       have hfd := fun j k (K : AV -> Prop) => Sl.fld (K := K) hb.sl hn j k
       have hid := p.first.id_len
       have no : ¬ ptOK p.first.id p.pts k -> mayP p = false := fun hn => by
        unfold mayP
        simp only [decide_eq_false_iff_not]
        exact fun h => hn (h k (by omega))
       have yes : ptOK p.first.id p.pts k -> ∀ j, j < k + 1 -> ptOK p.first.id p.pts j := fun h j hj => by
        rcases Nat.lt_or_eq_of_le (Nat.le_of_lt_succ hj) with h2 | rfl
        . exact hq j h2
        . exact h
       simp -dsimp +decide (disch := omega) only [vq, ty, ↓reduceIte, Nat.reduceAdd, Nat.reduceLT, hr, hsr, hld, hx, ez33, hxr, g0]
       refine ⟨⟨by omega, by omega⟩, ?_⟩
       by_cases d1 : x.h < 0
       . rw [no fun h => by have := (h x hx).1; omega]
         refine SemA.draw (fun i => true) [(0, true), (1, true), (2, true), (3, true), (4, true), (5, true), (6, true), (7, true), (8, true), (9, true), (10, true), (11, true), (12, true), (13, true), (14, true), (15, true), (16, true), (17, true), (18, true), (19, true), (20, true), (21, true), (22, true), (23, true), (24, true), (25, true), (26, true), (27, true), (28, false), (29, true), (30, true), (31, true)] mixed (by kernel_rfl) ?_
         simp -dsimp +decide (disch := omega) only [vp0, ty, ↓reduceIte, vt, d1]
         exact Vw.cut ⟨rfl, rfl, rfl⟩
       have i1 : (x.h < 0) = False := eq_false d1
       by_cases hk0 : k = 0
       . have i0 : ((0 : Int) < (k : Int)) = False := eq_false (by omega)
         refine SemA.draw (fun i => true) [(0, true), (1, true), (2, true), (3, true), (4, true), (5, true), (6, true), (7, true), (8, true), (9, true), (10, true), (11, true), (12, true), (13, true), (14, true), (15, true), (16, true), (17, true), (18, true), (19, true), (20, true), (21, true), (22, true), (23, true), (24, true), (25, true), (26, true), (27, true), (28, false), (29, true), (30, true), (31, true)] mixed (by kernel_rfl) ?_
         simp -dsimp +decide (disch := omega) only [vp0, ty, ↓reduceIte, vbg, i1, i0]
         have hp : (x.h = 0 -> x.id = p.first.id) -> ptOK p.first.id p.pts k := fun h z hz => by
          rw [hx] at hz; cases hz
          exact ⟨by omega, fun y h0 _ => by omega, h⟩
         by_cases d3 : x.h = 0
         . have i3 : (x.h = 0) = True := eq_true d3
           simp -dsimp +decide (disch := omega) only [vq, ty, en, ↓reduceIte, Nat.reduceAdd, hr, g0, vbg, i3]
           refine ⟨by omega, (rid_ok ok.f).det' ?_⟩
           by_cases d4 : x.id = p.first.id
           . have i4 : (x.id = p.first.id) = True := eq_true d4
             simp -dsimp +decide (disch := omega) only [vt2, vze, vq, ↓reduceIte, Nat.reduceAdd, vi, vt, hr, vbg, bb2, hx4, neh hx32 hid, i4, wt]
             exact ⟨k + 1, ⟨⟨by omega, yes (hp fun _ => d4)⟩, by omega⟩, rfl⟩
           . have i4 : (x.id = p.first.id) = False := eq_false d4
             rw [no fun h => d4 ((h x hx).2.2 d3)]
             simp -dsimp +decide (disch := omega) only [vp0, ↓reduceIte, vbg, bb2, hx4, neh hx32 hid, i4]
             exact Vw.cut ⟨rfl, rfl, rfl⟩
         . have i3 : (x.h = 0) = False := eq_false d3
           simp -dsimp +decide (disch := omega) only [vt2, vze, vq, ↓reduceIte, Nat.reduceAdd, vi, vt, hr, vbg, i3, wt]
           exact ⟨k + 1, ⟨⟨by omega, yes (hp fun h => absurd h d3)⟩, by omega⟩, rfl⟩
       . obtain ⟨y, hy⟩ : ∃ y, p.pts[k - 1]? = some y := ⟨p.pts[k - 1]'(by omega), by simp⟩
         have i0 : ((0 : Int) < (k : Int)) = True := eq_true (by omega)
         have hc : (k : Int) - 1 = ((k - 1 : Nat) : Int) := by omega
         have hcell : (p.pts.flatMap Pt.cs)[(k - 1) * 33]? = some (wint y.h) := by
          have := flat_cell (j := 0) hb.wd hy (by omega)
          simpa using this
         refine SemA.draw (fun i => true) [(0, true), (1, true), (2, true), (3, true), (4, true), (5, true), (6, true), (7, true), (8, true), (9, true), (10, true), (11, true), (12, true), (13, true), (14, true), (15, true), (16, true), (17, true), (18, true), (19, true), (20, true), (21, true), (22, true), (23, true), (24, true), (25, true), (26, true), (27, true), (28, false), (29, true), (30, true), (31, true)] mixed (by kernel_rfl) ?_
         simp -dsimp +decide (disch := omega) only [vq, ty, ↓reduceIte, vi, hr, hsr, hl1, g0, vbg, i1, i0, hc, hfd, hcell]
         refine ⟨⟨by omega, by omega⟩, ?_⟩
         by_cases d2 : x.h <= y.h
         . have i2 : (x.h <= y.h) = True := eq_true d2
           rw [no fun h => by have := (h x hx).2.1 y (by omega) hy; omega]
           simp -dsimp +decide (disch := omega) only [vp0, ↓reduceIte, vbg, i2]
           exact Vw.cut ⟨rfl, rfl, rfl⟩
         have i2 : (x.h <= y.h) = False := eq_false d2
         have hp : (x.h = 0 -> x.id = p.first.id) -> ptOK p.first.id p.pts k := fun h z hz => by
          rw [hx] at hz; cases hz
          exact ⟨by omega, fun y2 _ h2 => by rw [hy] at h2; cases h2; omega, h⟩
         by_cases d3 : x.h = 0
         . have i3 : (x.h = 0) = True := eq_true d3
           simp -dsimp +decide (disch := omega) only [vq, ty, en, ↓reduceIte, Nat.reduceAdd, hr, g0, vbg, i2, i3]
           refine ⟨by omega, (rid_ok ok.f).det' ?_⟩
           by_cases d4 : x.id = p.first.id
           . have i4 : (x.id = p.first.id) = True := eq_true d4
             simp -dsimp +decide (disch := omega) only [vt2, vze, vq, ↓reduceIte, Nat.reduceAdd, vi, vt, hr, vbg, bb2, hx4, neh hx32 hid, i4, wt]
             exact ⟨k + 1, ⟨⟨by omega, yes (hp fun _ => d4)⟩, by omega⟩, rfl⟩
           . have i4 : (x.id = p.first.id) = False := eq_false d4
             rw [no fun h => d4 ((h x hx).2.2 d3)]
             simp -dsimp +decide (disch := omega) only [vp0, ↓reduceIte, vbg, bb2, hx4, neh hx32 hid, i4]
             exact Vw.cut ⟨rfl, rfl, rfl⟩
         . have i3 : (x.h = 0) = False := eq_false d3
           simp -dsimp +decide (disch := omega) only [vt2, vze, vq, ty, ↓reduceIte, Nat.reduceAdd, vi, vt, hr, vbg, i2, i3, wt]
           exact ⟨k + 1, ⟨⟨by omega, yes (hp fun h => absurd h d3)⟩, by omega⟩, rfl⟩
     . have e : k = p.pts.length := by omega
       subst e
       simp -dsimp +decide (disch := omega) only [vt2, vze, vp0, ↓reduceIte, Nat.reduceAdd, vt, wt, hr, vbg]
       exact ⟨(), hq⟩
   . rintro _ g tmp hq
     rw [show mayP p = true by unfold mayP; simp only [decide_eq_true_eq]; exact hq]
     simp -dsimp +decide (disch := omega) only [vp0, ↓reduceIte, Nat.reduceAdd]
     exact Vw.cut ⟨rfl, rfl, rfl⟩
def z68 : List AV := w32 0 :: (z32 ++ (z32 ++ [w32 0, w32 0, w32 0]))
theorem ez68 : [oW, oB, oB, oB, oB, oB, oB, oB, oB, oB, oB, oB, oB, oB, oB, oB, oB, oB, oB, oB, oB, oB, oB, oB, oB, oB, oB, oB, oB, oB, oB, oB, oB, oB, oB, oB, oB, oB, oB, oB, oB, oB, oB, oB, oB, oB, oB, oB, oB, oB, oB, oB, oB, oB, oB, oB, oB, oB, oB, oB, oB, oB, oB, oB, oB, oW, oW, oW] = z68 := rfl
theorem vz68 : z68.length = 68 /\ (∀ h : Hdr, h.Ok -> wrA z68 0 h.cs = h.cs) := ⟨rfl, fun h ok => wrA_all (by rw [Hdr.cs_len ok]; rfl)⟩
theorem vmm (P : Program) (ts : Array TypeId) (ty : TypeId) (k k2 : IntKind) (x y : Int) (K : AV -> Prop) :
 (pureK P K (Builtin.max_ ts ty #[.int k x, .int k2 y]) = K (.p (.int k (max x y)))) /\ (pureK P K (Builtin.min_ ts ty #[.int k x, .int k2 y]) = K (.p (.int k (min x y)))) := by
 have h1 : max x y = if y > x then y else x := by split <;> omega
 have h2 : min x y = if y < x then y else x := by split <;> omega
 rw [h1, h2]
 exact ⟨pureK_det fun _ => rfl, pureK_det fun _ => rfl⟩
def ofN (b : UInt32) : Nat := (ofT b.toNat).getD 0
theorem ofV_n (b : UInt32) : ofV (ofT b.toNat) = .tu [.ag (Bg (ofN b)), .p (.bool (ofT b.toNat).isSome)] := by
 unfold ofN ofV
 cases ofT b.toNat <;> rfl
theorem ofN_lt (b : UInt32) : ofN b < 2 ^ 256 := by
 unfold ofN
 cases h : ofT b.toNat with
 | none => simp
 | some t => exact (ofT_lt h).1
theorem mayB_is {p : Par} (h : mayB p = true) : 2 <= p.interval /\ p.interval <= 2016 /\ 1 <= p.spacing.toNat /\ p.spacing.toNat <= 3600 /\ p.first.bits = p.limit /\ mayP p = true /\ UInt32.ofNat (cmpN (ofN p.limit)) = p.limit /\ ofT p.limit.toNat = some (ofN p.limit) := by
 unfold mayB at h
 unfold ofN
 cases ho : ofT p.limit.toNat with
 | none => rw [ho] at h; cases h
 | some t =>
   rw [ho] at h
   simp only [Bool.and_eq_true, decide_eq_true_eq] at h
   exact ⟨h.1.1.1.1.1.2, h.1.1.1.1.2, h.1.1.1.2, h.1.1.2, h.1.2, h.2, h.1.1.1.1.1.1, rfl⟩
def wantN (p : Par) : Nat := p.interval.toNat * p.spacing.toNat
def spanN (p : Par) (la fi : UInt32) : Nat := (min (max ((la.toNat : Int) - fi.toNat) ((wantN p / 4 : Nat) : Int)) ((4 * wantN p : Nat) : Int)).toNat
def turnB (p : Par) (la fi : Hdr) : UInt32 := UInt32.ofNat (cmpN (max 1 (min (ofN la.bits * spanN p la.time fi.time / wantN p) (ofN p.limit))))
noncomputable def bitsB (p : Par) (hs : List Hdr) : UInt32 := match hs.getLast? with
 | none => 0
 | some la => if mayB p = false then 0 else if hs.length % p.interval.toNat ≠ 0 then la.bits else
   match hs[hs.length - p.interval.toNat]? with
   | none => 0
   | some fi => turnB p la fi
theorem part13N {T : Tbl} {x most n m : Nat} (hx : x < 2 ^ 256) (hmost : most < 2 ^ 256) (hn : n < 2 ^ 64) (hm2 : m < 2 ^ 64) (hm : 0 < m) :
 CallA prog G 91 [.ag (Bg x), .p (.int .u64 (n : Int)), .p (.int .u64 (m : Int)), .ag (Bg most)] T fun v T' es => v = .ag (Bg (min (x * n / m) most)) /\ T' = T /\ es = [] := by
 have e : ∀ k, k < 2 ^ 64 -> (UInt64.ofNat k).toNat = k := fun k h => by rw [UInt64.toNat_ofNat', Nat.mod_eq_of_lt h]
 have := part13_ok (T := T) (n := UInt64.ofNat n) (m := UInt64.ofNat m) hx hmost (by rw [e m hm2]; exact hm)
 rw [w64, w64, e n hn, e m hm2] at this
 exact this
theorem bits13_ok {T : Tbl} {p : Par} (ok : p.Ok) {a : AV} {hs : List Hdr} (hb : Es T 68 Hdr.cs a hs) (hok : ∀ x ∈ hs, x.Ok) (hl : hs.length <= 1000000) : CallA prog G 74 [.ag p.cs, a] T fun v T' es => v = w32 (bitsB p hs) /\ T' = T /\ es = [] := by
 refine CallA.wfs fun wf => ?_
 have hr := Par.rules ok
 have hsr := Sl.rules hb.sl (by decide)
 have hld := hb.ld (P := prog) (t := 35) (by (simp -dsimp +decide only [])) (by (simp -dsimp +decide only [])) (by decide)
 have hl1 := Sl.loads hb.sl (P := prog) (t := 30) (by (simp -dsimp +decide only []))
 have g0 := fun l => gn0 T (.cells 37 p.cs) l
 have ez : [oQ, oQ, oQ, oQ] = Bg 0 := rfl
 refine CallA.eV 16 func74 ntmps74 results74 ?_
 simp -dsimp +decide only [vp0, ty, ↓reduceIte, Nat.reduceSub, Nat.reduceAdd]
 cases hn : hs.getLast? with
 | none =>
   rw [List.getLast?_eq_none_iff] at hn
   subst hn
   rw [show bitsB p [] = 0 from rfl]
   simp -dsimp +decide (disch := omega) only [vp0, ↓reduceIte, ci, hsr, List.length_nil]
   exact Vw.cut ⟨rfl, rfl, rfl⟩
 | some la =>
   have hlast : hs[hs.length - 1]? = some la := by rw [<- List.getLast?_eq_getElem?, hn]
   have hne : 0 < hs.length := by
    rcases hs with _ | ⟨x, l⟩
    . cases hn
    . exact Nat.succ_pos _
   have hla := hok la (List.mem_of_getElem? hlast)
   have hlr := Hdr.rules hla
   have hl0 : ((hs.length : Int) = 0) = False := eq_false (by omega)
   simp -dsimp +decide (disch := omega) only [vp0, ty, en, ↓reduceIte, hr, hsr, hl0, g0]
   refine (may13_ok ok).det' ?_
   cases hm : mayB p with
   | false =>
     rw [show bitsB p hs = 0 by unfold bitsB; rw [hn]; simp [hm]]
     simp -dsimp +decide (disch := omega) only [vp0, ↓reduceIte, bb2]
     exact Vw.cut ⟨rfl, rfl, rfl⟩
   | true =>
     obtain ⟨m1, m2, m3, m4, -, -, -, m5⟩ := mayB_is hm
     obtain ⟨iv, hiv⟩ := Int.eq_ofNat_of_zero_le (show 0 <= p.interval by omega)
     simp -dsimp +decide (disch := omega) only [vp0, ty, ↓reduceIte, Int.reduceToNat, vi, hsr, bb2]
     refine ⟨⟨by omega, by omega⟩, ?_⟩
     have hrem : (hs.length : Int).tmod (p.interval) = ((hs.length % iv : Nat) : Int) := by rw [hiv]; rfl
     simp -dsimp +decide (disch := omega) only [vq, ty, ↓reduceIte, Nat.reduceLT, hr, g0, hld, hlast, ez68, vz68, hlr, hrem]
     refine ⟨by omega, CondP.ndec (fun h => ?_) (fun h => ?_)⟩
     . rw [show bitsB p hs = la.bits by unfold bitsB; rw [hn]; simp only [hm]; rw [hiv, Int.toNat_natCast, if_neg (by decide), if_pos (by omega)]]
       simp -dsimp +decide (disch := omega) only [vq, ty, ↓reduceIte, hlr]
       exact Vw.cut ⟨rfl, rfl, rfl⟩
     have h0 : hs.length % iv = 0 := by omega
     have hle : iv <= hs.length := Nat.le_of_dvd hne (Nat.dvd_of_mod_eq_zero h0)
     obtain ⟨fi, hfi⟩ : ∃ fi, hs[hs.length - iv]? = some fi := ⟨hs[hs.length - iv]'(by omega), by simp⟩
     have hfo := hok fi (List.mem_of_getElem? hfi)
     rw [show bitsB p hs = turnB p la fi by unfold bitsB; rw [hn]; simp only [hm]; rw [hiv, Int.toNat_natCast, if_neg (by decide), if_neg (by omega), hfi]]
     have hsub : (hs.length : Int) - p.interval = ((hs.length - iv : Nat) : Int) := by omega
     have hmul : p.interval * (p.spacing.toNat : Int) = ((wantN p : Nat) : Int) := by unfold wantN; rw [hiv, Int.toNat_natCast]; rfl
     have hw : wantN p <= 2016 * 3600 := by unfold wantN; exact Nat.mul_le_mul (by omega) m4
     have hw2 : 2 <= wantN p := by unfold wantN; exact Nat.mul_le_mul (show 2 <= p.interval.toNat by omega) m3
     have hfd := fun j k (K : AV -> Prop) => Sl.fld (K := K) hb.sl hne j k
     have hcell : (hs.flatMap Hdr.cs)[(hs.length - iv) * 68 + 65]? = some (w32 fi.time) := by
      rw [flat_cell hb.wd hfi (by decide)]; exact (Hdr.rules hfo).2.2.2.2.1
     have g1 := fun a l => gn1 T a (.cells 35 la.cs) l
     have g2 := fun a b c l => gn2 T a b (.cells 170 c) l
     have t1 := la.time.toNat_lt
     have t2 := fi.time.toNat_lt
     simp -dsimp +decide (disch := omega) only [vq, ty, ↓reduceIte, vi, hr, g0, hmul]
     refine SemA.draw (fun i => true) [(0, true), (1, true), (2, true), (3, true), (4, true), (5, true), (6, true), (7, true), (8, true), (9, true), (10, true), (11, true), (12, true), (13, true)] mixed (by kernel_rfl) ?_
     simp -dsimp +decide (disch := omega) only [vq, ty, en, ↓reduceIte, vi, vt, hr, hsr, g0, g1, hl1, hlr, hsub, hfd, hcell, vmm]
     refine ⟨⟨by omega, by omega⟩, ?_⟩
     have hspan : min (max ((la.time.toNat : Int) - (fi.time.toNat : Int)) ((wantN p / 4 : Nat) : Int)) (4 * ((wantN p : Nat) : Int)) = ((spanN p la.time fi.time : Nat) : Int) := by unfold spanN; omega
     have hsl : spanN p la.time fi.time <= 4 * wantN p := by unfold spanN; omega
     rw [hspan]
     refine of03_ok.det' ?_
     rw [ofV_n]
     simp -dsimp +decide (disch := omega) only [vq, ty, en, ↓reduceIte, Nat.reduceAdd, Nat.reduceLT, g1, vbg, ez, hlr]
     refine of03_ok.det' ?_
     rw [ofV_n]
     have hu1 : (UInt64.ofInt ((spanN p la.time fi.time : Nat) : Int)).toNat = spanN p la.time fi.time := ofInt_lt (by omega)
     have hu2 : (UInt64.ofInt ((wantN p : Nat) : Int)).toNat = wantN p := ofInt_lt (by omega)
     simp -dsimp +decide (disch := omega) only [vp0, vu, ty, en, ↓reduceIte, Nat.reduceAdd, Nat.reduceLT, g2, vbg, ez, hu1, hu2]
     refine (part13N (ofN_lt _) (ofN_lt _) (by omega) (by omega) (by omega)).det' ?_
     have ht : min (ofN la.bits * spanN p la.time fi.time / wantN p) (ofN p.limit) < 2 ^ 256 := Nat.lt_of_le_of_lt (Nat.min_le_right _ _) (ofN_lt _)
     unfold turnB
     revert ht
     generalize min (ofN la.bits * spanN p la.time fi.time / wantN p) (ofN p.limit) = t
     intro ht
     simp -dsimp +decide (disch := omega) only [vp0, ty, ↓reduceIte, Nat.reduceAdd, Nat.reduceLT, vbg, ez, eqB ht (show 0 < 2 ^ 256 by decide)]
     refine CondP.dec (fun h => ?_) (fun h => ?_)
     . subst h
       simp -dsimp +decide (disch := omega) only [vp0, ty, en, ↓reduceIte, ez, vbg]
       refine (compact03_ok (show 1 < 2 ^ 256 by decide)).det' ?_
       simp -dsimp +decide (disch := omega) only [va, vl, ↓reduceIte]
       exact Vw.cut ⟨rfl, rfl, rfl⟩
     . simp -dsimp +decide (disch := omega) only [vp0, ty, en, ↓reduceIte, vbg]
       refine (compact03_ok ht).det' ?_
       rw [Nat.max_eq_right (by omega)]
       simp -dsimp +decide (disch := omega) only [va, vl, ↓reduceIte]
       exact Vw.cut ⟨rfl, rfl, rfl⟩
def sortU (l : List UInt32) : List UInt32 := l.mergeSort fun a b => decide (a <= b)
theorem sortU_is {s l : List UInt32} (hp : s.Perm l) (hs : s.Pairwise (· <= ·)) : s = sortU l := by
 refine List.Perm.eq_of_pairwise (le := (· <= ·)) (fun a b _ _ h1 h2 => UInt32.le_antisymm h1 h2) hs ?_ (hp.trans (List.mergeSort_perm l _).symm)
 have := List.pairwise_mergeSort (le := fun a b : UInt32 => decide (a <= b)) (fun a b c h1 h2 => by simp only [decide_eq_true_eq] at *; exact UInt32.le_trans h1 h2) (fun a b => by
  rcases UInt32.le_total a b with h | h
  . simp [h]
  . simp [h]) l
 exact this.imp fun h => by simpa using h
def lastT (hs : List Hdr) : List UInt32 := (hs.drop (hs.length - 11)).map Hdr.time
def medT (ts : List UInt32) : UInt32 := ((sortU ts)[ts.length / 2]?).getD 0
def medB (hs : List Hdr) : UInt32 := medT (lastT hs)
theorem ins_perm {x : UInt32} {s l : List UInt32} {j : Nat} (hp : s.Perm l) : (s.take j ++ x :: s.drop j).Perm (l ++ [x]) := by
 refine List.perm_middle.trans ?_
 rw [List.take_append_drop]
 exact (List.Perm.cons x hp).trans (List.perm_append_singleton x l).symm
theorem ins_sorted {x : UInt32} {s : List UInt32} {j : Nat} (hs : s.Pairwise (· <= ·)) (h1 : ∀ y, 0 < j -> s[j - 1]? = some y -> y <= x) (h2 : ∀ y ∈ s.drop j, x < y) (hj : j <= s.length) : (s.take j ++ x :: s.drop j).Pairwise (· <= ·) := by
 have e := List.take_append_drop j s
 rw [<- e, List.pairwise_append] at hs
 obtain ⟨p1, p2, p3⟩ := hs
 have hle : ∀ y ∈ s.take j, y <= x := fun y hy => by
  obtain ⟨i, hi, rfl⟩ := List.mem_iff_getElem.1 hy
  have hi2 : i < j /\ i < s.length := by rw [List.length_take] at hi; omega
  have hk : j - 1 < s.length := by omega
  have hz := h1 (s[j - 1]) (by omega) (by simp [hk])
  refine UInt32.le_trans ?_ hz
  rw [List.getElem_take]
  rcases Nat.lt_or_ge i (j - 1) with hl | hl
  . have hsw : s.Pairwise (· <= ·) := by rw [<- e, List.pairwise_append]; exact ⟨p1, p2, p3⟩
    exact List.pairwise_iff_getElem.1 hsw i (j - 1) hi2.2 hk hl
  . have : i = j - 1 := by omega
    subst this; exact UInt32.le_refl _
 rw [List.pairwise_append]
 refine ⟨p1, List.pairwise_cons.2 ⟨fun y hy => UInt32.le_of_lt (h2 y hy), p2⟩, fun y hy z hz => ?_⟩
 rcases List.mem_cons.1 hz with rfl | hz
 . exact hle y hy
 . exact p3 y hy z hz
theorem median13_ok {T : Tbl} {a : AV} {hs : List Hdr} (hb : Es T 68 Hdr.cs a hs) (hok : ∀ x ∈ hs, x.Ok) (hl : hs.length <= 1000000) : CallA prog G 47 [a] T fun v T' es => v = w32 (medB hs) /\ T' = T /\ es = [] := by
 refine CallA.wfs fun wf => ?_
 have wt := wf.t
 have wa := wf.arg a (by simp)
 have hsr := Sl.rules hb.sl (by decide)
 have hl1 := Sl.loads hb.sl (P := prog) (t := 30) (by (simp -dsimp +decide only []))
 obtain ⟨f, hf⟩ : ∃ f, f = hs.length - 11 := ⟨_, rfl⟩
 have hmx : max ((hs.length : Int) - 11) 0 = (f : Int) := by omega
 have hlast : lastT hs = (hs.drop f).map Hdr.time := by rw [lastT, hf]
 refine CallA.eV 6 func47 ntmps47 results47 ?_
 simp -dsimp +decide only [vp0, ty, ↓reduceIte, Nat.reduceSub]
 simp -dsimp +decide (disch := omega) only [vp0, ↓reduceIte, vi, hsr, vmm, hmx]
 refine SemA.adopt 3 30 1 (by decide) rfl ?_
 simp -dsimp +decide only [va]
 refine SemA.loopK (T.length + 1) (fun s : Nat × List UInt32 => [(0, a), (3, .sl T.length 0 s.1), (4, wint ((f + s.1 : Nat) : Int))]) (fun s => T ++ [.buf 30 1 (s.2.map w32)]) (fun s => f + s.1 <= hs.length /\ s.2.length = s.1 /\ s.2.Perm ((lastT hs).take s.1) /\ s.2.Pairwise (· <= ·)) (fun s => hs.length - s.1) (0, []) [] 0 (fun _ : Unit => [(3, .sl T.length 0 (lastT hs).length)]) (fun _ => T ++ [.buf 30 1 ((sortU (lastT hs)).map w32)]) (fun _ => True) (by omega) ⟨by dsimp only; omega, rfl, by simp, by simp⟩ (by (simp -dsimp +decide (disch := omega) only [vq, Nat.reduceAdd]); first | rfl | done) rfl (by simp) ?_ ?_
 . rintro ⟨k, s⟩ g ⟨hk, hsl, hp, hst⟩
   dsimp only at hk hsl hp hst
   refine SemA.o ?_
   simp -dsimp +decide (disch := omega) only [vq, ty, ↓reduceIte, Nat.reduceAdd, hsr]
   refine CondP.dec (fun h => ?_) (fun h => ?_)
   . obtain ⟨x, hx⟩ : ∃ x, hs[f + k]? = some x := ⟨hs[f + k]'(by omega), by simp⟩
     have hxo := hok x (List.mem_of_getElem? hx)
     have hne : 0 < hs.length := by omega
     have hfd := fun j k (K : AV -> Prop) => Sl.fld (K := K) hb.sl hne j k
     have hcell : (hs.flatMap Hdr.cs)[(f + k) * 68 + 65]? = some (w32 x.time) := by
      rw [flat_cell hb.wd hx (by decide)]; exact (Hdr.rules hxo).2.2.2.2.1
     simp -dsimp +decide (disch := omega) only [vq, ty, ↓reduceIte, vt, hsr, hl1, hfd, hcell]
     refine ⟨⟨by omega, by omega⟩, ⟨hsl, by omega, by omega⟩, ?_⟩
     refine SemA.cut (T.length + 1) (by omega) ?_
     simp -dsimp +decide (disch := omega) only [vq, ↓reduceIte, vt, wt, wa]
     refine SemA.loopK (T.length + 1) (fun q : Nat × UInt32 => [(0, a), (3, .sl T.length 0 (k + 1)), (4, wint ((f + k : Nat) : Int)), (5, wint (q.1 : Int))]) (fun q => T ++ [.buf 30 1 ((s.take q.1 ++ q.2 :: s.drop q.1).map w32)]) (fun q => q.1 <= k /\ ∀ y ∈ s.drop q.1, x.time < y) (fun q => q.1) (k, x.time) [] 2 (fun q : Nat × UInt32 => [(0, a), (3, .sl T.length 0 (k + 1)), (4, wint ((f + k : Nat) : Int)), (5, wint (q.1 : Int))]) (fun q => T ++ [.buf 30 1 ((s.take q.1 ++ q.2 :: s.drop q.1).map w32)]) (fun q => q.1 <= k /\ (∀ y ∈ s.drop q.1, x.time < y) /\ (∀ y, 0 < q.1 -> s[q.1 - 1]? = some y -> y <= x.time)) (by omega) ⟨by dsimp only; omega, by simp [<- hsl]⟩ (by (simp -dsimp +decide (disch := omega) only [vq, Nat.reduceAdd]); first | rfl | done) (by simp [<- hsl, w32]) (by simp) ?_ ?_
     . rintro ⟨j, c⟩ g ⟨hj, hgt⟩
       dsimp only at hj hgt
       have hlen : (s.take j ++ c :: s.drop j).length = k + 1 := by simp; omega
       refine SemA.o ?_
       by_cases h0 : j = 0
       . have i0 : ((0 : Int) < (j : Int)) = False := eq_false (by omega)
         refine SemA.draw (fun i => true) [(0, true), (1, true), (2, true), (3, true), (4, true), (5, true), (6, true), (7, true), (8, true), (9, true), (10, true), (11, true), (12, true), (13, true), (14, true)] mixed (by kernel_rfl) ?_
         simp -dsimp +decide (disch := omega) only [vt2, vze, vq, ↓reduceIte, Nat.reduceAdd, vt, i0]
         exact ⟨(j, c), ⟨hj, hgt, fun y hy => by omega⟩, ⟨wa.1 1, rfl⟩, by rw [wt.1 1]⟩
       . obtain ⟨y, hy⟩ : ∃ y, s[j - 1]? = some y := ⟨s[j - 1]'(by omega), by simp⟩
         have i0 : ((0 : Int) < (j : Int)) = True := eq_true (by omega)
         have hc : (j : Int) - 1 = ((j - 1 : Nat) : Int) := by omega
         have hyc : ((s.take j ++ c :: s.drop j).map w32)[j - 1]? = some (w32 y) := by
          rw [List.getElem?_map, List.getElem?_append_left (by simp; omega), List.getElem?_take_of_lt (by omega), hy]; rfl
         refine SemA.draw (fun i => true) [(0, true), (1, true), (2, true), (3, true), (4, true), (5, true), (6, true), (7, true), (8, true), (9, true), (10, true), (11, true), (12, true), (13, true), (14, true)] mixed (by kernel_rfl) ?_
         simp -dsimp +decide (disch := omega) only [vq, ty, ↓reduceIte, Nat.reduceAdd, vi, vt, hsr, i0, hc, hyc, hl1, hfd, hcell]
         have hnil : (s.take j ++ c :: s.drop j).map w32 ≠ [] := by simp
         refine ⟨⟨by omega, by omega, hnil⟩, ⟨by omega, by omega⟩, CondP.dec (fun h => ?_) (fun h => ?_)⟩
         . simp -dsimp +decide (disch := omega) only [vt2, vze, vq, ty, ↓reduceIte, Nat.reduceAdd, Nat.reduceLT, vi, vt, hc, hyc]
           have e2 : s.drop (j - 1) = y :: s.drop j := by
            have := List.drop_eq_getElem_cons (l := s) (i := j - 1) (by omega)
            rw [this, show j - 1 + 1 = j by omega]
            rw [List.getElem?_eq_getElem (by omega)] at hy
            rw [Option.some.inj hy]
           have e1 : s.take j = s.take (j - 1) ++ [y] := by
            have := List.take_add_one (l := s) (i := j - 1)
            rw [show j - 1 + 1 = j by omega, hy] at this
            exact this
           refine ⟨⟨by omega, by omega, hnil⟩, ⟨by omega, by omega, hnil⟩, by omega, (j - 1, y), ⟨⟨by dsimp only; omega, ?_⟩, by dsimp only; omega⟩, ⟨wa.1 1, rfl⟩, ?_⟩
           . dsimp only
             rw [e2]
             intro z hz
             rcases List.mem_cons.1 hz with rfl | hz
             . exact UInt32.lt_iff_toNat_lt.2 (by omega)
             . exact hgt z hz
           . dsimp only
             rw [wt.1 1, List.set_append_right _ _ (by simp; omega), show j - (s.take j).length = 0 by simp; omega, e2, e1, List.append_assoc]
             rfl
         . simp -dsimp +decide (disch := omega) only [vt2, vze, vq, ↓reduceIte, Nat.reduceAdd, vt]
           refine ⟨(j, c), ⟨hj, hgt, fun z _ hz => ?_⟩, ⟨wa.1 1, rfl⟩, by rw [wt.1 1]⟩
           rw [hy] at hz; cases hz
           exact UInt32.le_iff_toNat_le.2 (by omega)
     . rintro ⟨j, c⟩ g tmp ⟨hj, hgt, hle⟩
       dsimp only at hj hgt hle
       simp -dsimp +decide (disch := omega) only [vt2, vze, vq, ty, ↓reduceIte, Nat.reduceAdd, Nat.reduceLT, vi, vt, hsr, hl1, hfd, hcell]
       have hlen : (s.take j ++ c :: s.drop j).length = k + 1 := by simp; omega
       have hnil : (s.take j ++ c :: s.drop j).map w32 ≠ [] := by simp
       refine ⟨⟨by omega, by omega⟩, ⟨by omega, by omega, hnil⟩, by omega, (k + 1, s.take j ++ x.time :: s.drop j), ⟨⟨by dsimp only; omega, by simp; omega, ?_, ins_sorted hst hle hgt (by omega)⟩, by dsimp only; omega⟩, ⟨wa.1 1, rfl, rfl⟩, ?_⟩
       . dsimp only
         have hx2 : (lastT hs)[k]? = some x.time := by rw [hlast, List.getElem?_map, List.getElem?_drop, hx]; rfl
         rw [List.take_add_one, hx2]
         exact ins_perm hp
       . rw [wt.1 1, List.set_append_right _ _ (by simp; omega), show j - (s.take j).length = 0 by simp; omega]
         rfl
   . have e : f + k = hs.length := by omega
     have hkl : k = (lastT hs).length := by rw [hlast]; simp; omega
     subst hkl
     rw [List.take_length] at hp
     rw [sortU_is hp hst]
     simp -dsimp +decide (disch := omega) only [vt2, vze, vq, ↓reduceIte, Nat.reduceAdd, vt, wt]
     exact ⟨(), trivial⟩
 . rintro _ g tmp -
   have hsl : (sortU (lastT hs)).length = (lastT hs).length := List.length_mergeSort _
   have hll : (lastT hs).length <= 11 := by rw [lastT]; simp; omega
   simp -dsimp +decide (disch := omega) only [vp0, ty, ↓reduceIte, Nat.reduceAdd]
   refine CondP.dec (fun h => ?_) (fun h => ?_)
   . have h0 : lastT hs = [] := List.length_eq_zero_iff.1 (by omega)
     rw [show medB hs = 0 by rw [medB, h0]; simp [medT, sortU]]
     simp -dsimp +decide (disch := omega) only [va, ↓reduceIte]
     exact Vw.cut ⟨rfl, rfl, rfl⟩
   . obtain ⟨m, hm⟩ : ∃ m, (sortU (lastT hs))[(lastT hs).length / 2]? = some m := ⟨(sortU (lastT hs))[(lastT hs).length / 2]'(by omega), by simp⟩
     have hmc : ((sortU (lastT hs)).map w32)[(lastT hs).length / 2]? = some (w32 m) := by rw [List.getElem?_map, hm]; rfl
     have hq : ((lastT hs).length : Int).tdiv 2 = (((lastT hs).length / 2 : Nat) : Int) := rfl
     have hnil : (sortU (lastT hs)).map w32 ≠ [] := fun e => by rw [List.map_eq_nil_iff] at e; rw [e] at hsl; simp at hsl; omega
     rw [show medB hs = m by rw [medB, medT, hm]; rfl]
     simp -dsimp +decide (disch := omega) only [vq, ty, ↓reduceIte, vi, hq, hmc]
     refine ⟨⟨by omega, by omega, hnil⟩, ?_⟩
     exact Vw.cut ⟨rfl, rfl, rfl⟩
def h0b : List UInt8 := List.replicate 32 0
def easyP (i : Int) (s : UInt32) : Par := ⟨0x207fffff, i, s, .p (.slice none 0 0), [], ⟨1, h0b, h0b, 1000, 0x207fffff, 0⟩⟩
theorem easy_ok' {i : Int} {s : UInt32} (hi : -9223372036854775808 <= i /\ i <= 9223372036854775807) : (easyP i s).Ok where
 f := ⟨rfl, rfl⟩
 a := fun T => Es.nil
 l := Nat.zero_le _
 i := hi
 wo := fun q => by rw [easyP]; rfl
 pub := fun i cs => by rw [easyP]; rfl
 one := rfl
 h := by simp [easyP]
theorem easy13_ok {T : Tbl} {i : Int} {s : UInt32} (hi : -9223372036854775808 <= i /\ i <= 9223372036854775807) : CallA prog G 9 [wint i, w32 s] T fun v T' es => v = .ag (easyP i s).cs /\ T' = T /\ es = [] := by
 refine CallA.wfs fun wf => ?_
 refine CallA.eV 5 func9 ntmps9 results9 ?_
 simp -dsimp +decide only [vq, ty, ↓reduceIte, Nat.reduceSub, Nat.reduceAdd]
 and_intros
 all_goals first | rfl | exact Nat.le_of_ble_eq_true rfl | (exact Vw.cut ⟨rfl, rfl, rfl⟩)
theorem Hdr.wr {h : Hdr} (ok : h.Ok) : (∀ x : List UInt8, x.length = 32 -> wrA h.cs 1 (x.map by8) = Hdr.cs { h with prev := x }) /\ (∀ x : List UInt8, x.length = 32 -> wrA h.cs 33 (x.map by8) = Hdr.cs { h with root := x }) /\
 (∀ n : UInt32, h.cs.set 65 (.p (.int .u32 (n.toNat : Int))) = Hdr.cs { h with time := n }) /\ (∀ n : UInt32, h.cs.set 66 (.p (.int .u32 (n.toNat : Int))) = Hdr.cs { h with bits := n }) /\ (∀ n : UInt32, h.cs.set 67 (.p (.int .u32 (n.toNat : Int))) = Hdr.cs { h with nonce := n }) := by
 have hl := Hdr.cs_len ok
 have hp : (h.prev.map by8).length = 32 := by simp [ok.p]
 have hr : (h.root.map by8).length = 32 := by simp [ok.r]
 have e65 : ∀ (k : Nat) (v : AV), h.cs.set (65 + k) v = w32 h.v :: (h.prev.map by8 ++ (h.root.map by8 ++ [w32 h.time, w32 h.bits, w32 h.nonce].set k v)) := fun k v => by
  rw [Hdr.cs, show 65 + k = (32 + (32 + k)) + 1 by omega, List.set_cons_succ, List.set_append_right _ _ (by omega), List.set_append_right _ _ (by omega)]
  rw [hp, hr, show 32 + (32 + k) - 32 - 32 = k by omega]
 refine ⟨fun x hx => ?_, fun x hx => ?_, fun n => e65 0 _, fun n => e65 1 _, fun n => e65 2 _⟩
 . rw [wrA_eq (by simp [hx]; omega), Hdr.cs, List.length_map, hx, show List.drop (1 + 32) (w32 h.v :: (h.prev.map by8 ++ (h.root.map by8 ++ [w32 h.time, w32 h.bits, w32 h.nonce]))) = h.root.map by8 ++ [w32 h.time, w32 h.bits, w32 h.nonce] by
    rw [show 1 + 32 = 32 + 1 from rfl, List.drop_succ_cons, <- hp, List.drop_left]]
   rfl
 . rw [wrA_eq (by simp [hx]; omega), Hdr.cs, List.length_map, hx, show List.drop (33 + 32) (w32 h.v :: (h.prev.map by8 ++ (h.root.map by8 ++ [w32 h.time, w32 h.bits, w32 h.nonce]))) = [w32 h.time, w32 h.bits, w32 h.nonce] by
    rw [show 33 + 32 = (32 + 32) + 1 from rfl, List.drop_succ_cons, <- List.drop_drop, <- hp, List.drop_left, hp, <- hr, List.drop_left],
    show List.take 33 (w32 h.v :: (h.prev.map by8 ++ (h.root.map by8 ++ [w32 h.time, w32 h.bits, w32 h.nonce]))) = w32 h.v :: h.prev.map by8 by
    rw [show 33 = 32 + 1 from rfl, List.take_succ_cons, <- hp, List.take_left], List.cons_append, List.cons_append, List.append_assoc]
   rfl
theorem okZ (root : List UInt8) (v t b n : UInt32) (h : root.length = 32) : Hdr.Ok ⟨v, h0b, root, t, b, n⟩ := ⟨rfl, h⟩
theorem z68_set : z68.set 0 (AV.p (Value.int IntKind.u32 1)) = Hdr.cs ⟨1, h0b, h0b, 0, 0, 0⟩ := rfl
theorem wz68 (q : Nat -> Bool) : z68.map (AV.wo q) = z68 := by
 have := (Hdr.rules (okZ h0b 0 0 0 0 rfl)).2.2.2.2.2.2.2.2.2.1 q
 exact this
def meetsB (h : Hdr) (t : Nat) : Bool := decide (t ≠ 0 /\ hN h.id <= t)
def mineAt (h : Hdr) (t n : Nat) : Nat -> Hdr × Bool
 | 0 => (h, false)
 | k + 1 => if meetsB { h with nonce := UInt32.ofNat n } t then ({ h with nonce := UInt32.ofNat n }, true) else mineAt { h with nonce := UInt32.ofNat n } t (n + 1) k
noncomputable def mineB (p : Par) (hs : List Hdr) (time : UInt32) (root : List UInt8) (tries : UInt32) : Hdr × Bool := match hs.getLast? with
 | none => (⟨1, h0b, root, time, bitsB p hs, 0⟩, false)
 | some la => match ofT (bitsB p hs).toNat with
   | none => (⟨1, la.id, root, time, bitsB p hs, 0⟩, false)
   | some t => mineAt ⟨1, la.id, root, time, bitsB p hs, 0⟩ t 0 tries.toNat
theorem mine13_ok {T : Tbl} {p : Par} (ok : p.Ok) {a : AV} {hs : List Hdr} (hb : Es T 68 Hdr.cs a hs) (hok : ∀ x ∈ hs, x.Ok) (hl : hs.length <= 1000000) {time tries : UInt32} {root : List UInt8} (hrt : root.length = 32) :
 CallA prog G 46 [.ag p.cs, a, w32 time, .ag (root.map by8), w32 tries] T fun v T' es => v = .tu [.ag (mineB p hs time root tries).1.cs, .p (.bool (mineB p hs time root tries).2)] /\ T' = T /\ es = [] := by
 refine CallA.wfs fun wf => ?_
 have wt := wf.t
 have wa := wf.arg a (by simp)
 have hr := Par.rules ok
 have g0 := fun l => gn0 T (.cells 37 p.cs) l
 have g1 := fun a l => gn1 T a (.cells 33 (root.map by8)) l
 have g3 := fun a b c d l => gn3 T a b c (.cells 35 d) l
 refine CallA.eV 16 func46 ntmps46 results46 ?_
 simp -dsimp +decide only [vq, ty, ↓reduceIte, Nat.reduceSub, Nat.reduceAdd]
 refine SemA.drawT [(1, a), (4, w32 tries), (10, .ptr (T.length + 2) 0), (12, .ptr (T.length + 3) 0)] (T ++ [.cells 37 p.cs, .cells 33 (root.map by8), .cells 35 z68, .cells 35 (Hdr.cs ⟨1, h0b, root, time, bitsB p hs, 0⟩)]) [] 7 (fun i => decide (i < T.length + 3)) (.st 0 true (.st 1 true (.st 2 true (.st 3 true (.alt 4 (.alt 5 (.st 6 false (.st 7 false .nil)) 6 (.st 5 false (.st 7 false .nil))) 6 (.st 4 false (.st 5 false (.st 7 false .nil)))))))) mixed (by kernel_rfl) ?_ ?_
 . have kk : (∀ k j : Nat, decide (T.length + k < T.length + j) = decide (k < j)) /\ (∀ j : Nat, decide (T.length < T.length + j) = decide (0 < j)) := ⟨fun k j => by simp, fun j => by simp⟩
   have t32 : List.take 32 (List.drop 0 root) = root := by rw [List.drop_zero, List.take_of_length_le (by omega)]
   simp -dsimp +decide (disch := omega) only [vq, ty, en, ↓reduceIte, Nat.reduceAdd, vp, kk, hr, hrt, ez68, t32]
   refine ⟨(bits13_ok ok (hb.app _) hok hl).det' ?_, (bits13_ok ok (hb.app _) hok hl).det' ?_⟩
   all_goals
    have hw1 := (Hdr.wr (okZ h0b 1 0 0 0 rfl)).2.1 root hrt
    have hw2 := (Hdr.wr (okZ root 1 0 0 0 hrt)).2.2.1
    have hw3 := (Hdr.wr (okZ root 1 time 0 0 hrt)).2.2.2.1
    have hl1 := Hdr.cs_len (okZ root 1 0 0 0 hrt)
    have hl2 := Hdr.cs_len (okZ root 1 time 0 0 hrt)
    have hl3 := Hdr.cs_len (okZ root 1 time (bitsB p hs) 0 hrt)
    have hv := vz68.2 _ (okZ root 1 time (bitsB p hs) 0 hrt)
    simp -dsimp +decide (disch := omega) only [vq, ty, ↓reduceIte, Nat.reduceAdd, Nat.reduceLT, vp, kk, vz68, hrt, ez68, z68_set, hw1, hw2, hw3, hl1, hl2, hl3, hv]
    have hro := (Hdr.rules (okZ root 1 time (bitsB p hs) 0 hrt)).2.2.2.2.2.2.2.2.2.2.2
    and_intros
    all_goals first
     | exact hro
     | (refine SeeL.done ⟨rfl, ?_, rfl, by simp⟩
        (first | rfl | ((simp -dsimp +decide only [vp0, Nat.reduceAdd]); done)))
 . intro g tmp
   have hsr := Sl.rules hb.sl (by decide)
   have hld := hb.ld (P := prog) (t := 35) (by (simp -dsimp +decide only [])) (by (simp -dsimp +decide only [])) (by decide)
   cases hn : hs.getLast? with
   | none =>
     have hm : mineB p hs time root tries = (⟨1, h0b, root, time, bitsB p hs, 0⟩, false) := by unfold mineB; rw [hn]
     rw [hm]
     rw [List.getLast?_eq_none_iff] at hn
     subst hn
     have hlr := Hdr.rules (okZ root 1 time (bitsB p []) 0 hrt)
     have hv := vz68.2 _ (okZ root 1 time (bitsB p []) 0 hrt)
     have g2 := fun a b d l => gn2 T a b (.cells 35 d) l
     simp -dsimp +decide (disch := omega) only [vq, ty, ↓reduceIte, Nat.reduceAdd, Nat.reduceLT, ci, hsr, List.length_nil, g2, g3, hlr, hv, vz68, vres, vone]
     exact Vw.cut ⟨by rw [AV.wo, AV.woL_eq]; simp only [List.map_cons, List.map_nil, AV.wo, AV.woL_eq, hlr], rfl, rfl⟩
   | some la =>
     have hlast : hs[hs.length - 1]? = some la := by rw [<- List.getLast?_eq_getElem?, hn]
     have hne : 0 < hs.length := by
      rcases hs with _ | ⟨x, l⟩
      . cases hn
      . exact Nat.succ_pos _
     have hla := hok la (List.mem_of_getElem? hlast)
     have hlr := Hdr.rules hla
     have hl0 : ((hs.length : Int) = 0) = False := eq_false (by omega)
     have hid := la.id_len
     have hw := (Hdr.wr (okZ root 1 time (bitsB p hs) 0 hrt)).1 la.id hid
     have hl1 := Hdr.cs_len (okZ root 1 time (bitsB p hs) 0 hrt)
     simp -dsimp +decide (disch := omega) only [vq, ty, en, ↓reduceIte, Nat.reduceAdd, Int.reduceToNat, vi, hsr, hl0, hld, hlast]
     refine ⟨⟨by omega, by omega⟩, (rid_ok hla).det' ?_⟩
     have okh : Hdr.Ok ⟨1, la.id, root, time, bitsB p hs, 0⟩ := ⟨hid, hrt⟩
     have hhr := Hdr.rules okh
     simp -dsimp +decide (disch := omega) only [vq, ty, en, ↓reduceIte, Nat.reduceAdd, Nat.reduceLT, g3, hw, hl1, hhr, vh, hid]
     refine of03_ok.det' ?_
     rw [ofV_n]
     have hR : (if (ofT (bitsB p hs).toNat).isSome then mineAt ⟨1, la.id, root, time, bitsB p hs, 0⟩ (ofN (bitsB p hs)) 0 tries.toNat else (⟨1, la.id, root, time, bitsB p hs, 0⟩, false)) = mineB p hs time root tries := by
      unfold mineB ofN
      rw [hn]
      cases ofT (bitsB p hs).toNat <;> rfl
     have htl := ofN_lt (bitsB p hs)
     revert hR htl
     generalize (ofT (bitsB p hs).toNat).isSome = is
     generalize ofN (bitsB p hs) = t
     generalize mineB p hs time root tries = R
     intro hR htl
     have ez : [oQ, oQ, oQ, oQ] = Bg 0 := rfl
     simp -dsimp +decide (disch := omega) only [vp0, ty, ↓reduceIte, Nat.reduceAdd, Nat.reduceLT, ez, vbg]
     have htr := tries.toNat_lt
     refine SemA.loopK (T.length + 5) (fun s : Nat × Hdr => [(4, w32 tries), (10, .ptr (T.length + 2) 0), (12, .ptr (T.length + 3) 0), (13, .ptr (T.length + 4) 0), (14, .p (.bool is)), (15, .p (.int .u32 (s.1 : Int)))]) (fun s => T ++ [.cells 37 p.cs, .cells 33 (root.map by8), .cells 35 z68, .cells 35 s.2.cs, .cells 170 (Bg t)]) (fun s => s.1 <= tries.toNat /\ s.2.Ok /\ (if is then mineAt s.2 t s.1 (tries.toNat - s.1) else (s.2, false)) = R) (fun s => tries.toNat - s.1) (0, ⟨1, la.id, root, time, bitsB p hs, 0⟩) [] 0 (fun _ : Hdr => [(10, .ptr (T.length + 2) 0), (12, .ptr (T.length + 3) 0)]) (fun h => T ++ [.cells 37 p.cs, .cells 33 (root.map by8), .cells 35 z68, .cells 35 h.cs, .cells 170 (Bg t)]) (fun h => h.Ok /\ R = (h, false)) (by omega) ⟨by dsimp only; omega, okh, hR⟩ (by (simp -dsimp +decide (disch := omega) only [vq, Nat.reduceAdd, ci]); first | rfl | done) rfl (by simp) ?_ ?_
     . rintro ⟨n, h⟩ g ⟨hnt, hho, hres⟩
       dsimp only at hnt hho hres
       have hhr2 := Hdr.rules hho
       refine SemA.o ?_
       cases is with
       | false =>
         simp -dsimp +decide (disch := omega) only [vt2, vze, vq, ↓reduceIte, Nat.reduceAdd, vt, wt, hr, hhr2, vbg, vh, wz68]
         exact ⟨h, ⟨hho, by simpa using hres.symm⟩, rfl⟩
       | true =>
         simp -dsimp +decide (disch := omega) only [vq, ↓reduceIte, Nat.reduceAdd]
         refine CondP.dec (fun hlt => ?_) (fun hlt => ?_)
         . have hset : h.cs.set 67 (AV.p (.int .u32 (n : Int))) = Hdr.cs { h with nonce := UInt32.ofNat n } := by
            have := (Hdr.wr hho).2.2.2.2 (UInt32.ofNat n)
            rwa [UInt32.toNat_ofNat', Nat.mod_eq_of_lt (by omega)] at this
           have hk2 : Hdr.Ok { h with nonce := UInt32.ofNat n } := ⟨hho.p, hho.r⟩
           have hhr3 := Hdr.rules hk2
           have hl0' := Hdr.cs_len hho
           have hidl := Hdr.id_len { h with nonce := UInt32.ofNat n }
           have g4 := fun a b c d e l => gn4 T a b c d (.cells 170 e) l
           simp -dsimp +decide (disch := omega) only [vp0, ty, ↓reduceIte, Nat.reduceAdd, Nat.reduceLT, g3, hset, hl0']
           refine SemA.draw (fun i => true) [(0, true), (2, true), (1, false), (3, false)] mixed (by kernel_rfl) ?_
           simp -dsimp +decide (disch := omega) only [vp0, ty, en, ↓reduceIte, g3, g4, hhr3, vbg]
           refine (rid_ok hk2).det' ?_
           simp -dsimp +decide (disch := omega) only [vp0, en, ↓reduceIte, vbg]
           refine (meets03_ok hidl htl).det' ?_
           have hstep : mineAt h t n (tries.toNat - n) = if meetsB { h with nonce := UInt32.ofNat n } t then ({ h with nonce := UInt32.ofNat n }, true) else mineAt { h with nonce := UInt32.ofNat n } t (n + 1) (tries.toNat - (n + 1)) := by
            rw [show tries.toNat - n = tries.toNat - (n + 1) + 1 by omega, mineAt]
           rw [if_pos rfl, hstep] at hres
           have g2 := fun a b d l => gn2 T a b (.cells 35 d) l
           have hv := vz68.2 _ hk2
           by_cases hm : meetsB { h with nonce := UInt32.ofNat n } t = true
           . rw [show decide (t ≠ 0 /\ hN (Hdr.id { h with nonce := UInt32.ofNat n }) <= t) = true from hm]
             rw [if_pos hm] at hres
             simp -dsimp +decide (disch := omega) only [vp0, ty, ↓reduceIte, Nat.reduceLT, g2, g3, hhr3, vbg, hv, vz68, vres, vone]
             rw [<- hres]
             exact Vw.cut ⟨by rw [AV.wo, AV.woL_eq]; simp only [List.map_cons, List.map_nil, AV.wo, AV.woL_eq, hhr3], rfl, rfl⟩
           . have hm2 : meetsB { h with nonce := UInt32.ofNat n } t = false := by simpa using hm
             rw [show decide (t ≠ 0 /\ hN (Hdr.id { h with nonce := UInt32.ofNat n }) <= t) = false from hm2]
             rw [if_neg hm] at hres
             simp -dsimp +decide (disch := omega) only [vt2, vze, vr, ↓reduceIte, Nat.reduceAdd, vt, wt, hr, hhr3, vbg, vh, wz68]
             have hinc : (UInt32.ofInt (n : Int) + UInt32.ofInt 1).toNat = n + 1 := by
              have e1 : (UInt32.ofInt (n : Int)).toNat = n := by rw [UInt32.ofInt]; simp; omega
              rw [UInt32.toNat_add, e1, show (UInt32.ofInt 1).toNat = 1 from rfl, Nat.mod_eq_of_lt (by omega)]
             refine ⟨(n + 1, { h with nonce := UInt32.ofNat n }), ⟨⟨by dsimp only; omega, hk2, hres⟩, by dsimp only; omega⟩, ?_, rfl⟩
             rw [hinc]
         . simp -dsimp +decide (disch := omega) only [vt2, vze, vp0, ↓reduceIte, Nat.reduceAdd, vt, wt, hr, hhr2, vbg, vh, wz68]
           have : tries.toNat - n = 0 := by omega
           rw [if_pos rfl, this] at hres
           exact ⟨h, ⟨hho, hres.symm⟩, rfl⟩
     . rintro h g tmp ⟨hho, hres⟩
       have hhr2 := Hdr.rules hho
       have hv := vz68.2 _ hho
       have g2 := fun a b d l => gn2 T a b (.cells 35 d) l
       simp -dsimp +decide (disch := omega) only [vp0, ty, ↓reduceIte, Nat.reduceAdd, Nat.reduceLT, hhr2, g2, g3, hv, vz68, vres, vone]
       rw [hres]
       exact Vw.cut ⟨by rw [AV.wo, AV.woL_eq]; simp only [List.map_cons, List.map_nil, AV.wo, AV.woL_eq, hhr2], rfl, rfl⟩
end Go.Proofs.YtmcbdlefakjpoaaGreatDoor
