/-
  Part 5 of the proof: no statement of its own. No condition but those in each theorem.
-/
import Derived.Test.YtfpjalgfnjjcmaaGreatDoorQg4
import Derived.Lib.LazyBuf
set_option linter.unusedSimpArgs false
set_option linter.unusedVariables false
set_option linter.unusedSectionVars false
set_option maxRecDepth 8000
set_option maxHeartbeats 4000000
namespace Go.E
section
variable {P : Program} {G : Nat -> AV} {Z Z' Z0 : Heap} {ρ ρ' ρ0 : List BI} {T T' T0 : Tbl} {w w' w0 : World} {a b : AV} {u v : Value} {K : AV -> Tbl -> Eff -> Prop} {cs : List AV} {es E : Eff}
variable {N n m : Nat} {ro : Option Nat} {ds loc : List AV} {tmp : List (Nat × AV)} {Nk R : AKont} {X : Nat -> AKont}
inductive PU where
 | nil : PU
 | st : Nat -> Bool -> PU -> PU
 | alt : Nat -> PU -> Nat -> PU -> PU
 | al3 : Nat -> PU -> Nat -> PU -> Nat -> PU -> PU
def PU.len : PU -> Nat
 | .nil => 0
 | .st _ _ r => r.len + 1
 | .alt _ r _ _ => r.len + 1
 | .al3 _ r _ _ _ _ => r.len + 1
def PU.isNil : PU -> Bool
 | .nil => true
 | _ => false
def planOKU (ops : Array Oper) (cl : Nat) (o : Option Nat) : PU -> Array Bool -> Bool
 | .nil, listed => (Region.ready .any ops listed).isEmpty
 | .st i fl r, listed =>
   (if fl then (Region.ready .any ops listed).contains i && Region.free .any ops listed i && (cl != i && ((match ops[i]? with | none => false | some oi => pureOp oi.op) || blocks ops cl i listed))
    else Region.ready .any ops listed == [i] && (if r.isNil || some i == o then i == cl && decide (i < listed.size) else !(listed.getD cl false) && i != cl)) &&
   planOKU ops cl o r (listed.setIfInBounds i true)
 | .alt i r j s, listed => Region.ready .any ops listed == [i, j] && !(listed.getD cl false) && i != cl && j != cl && r.len == s.len && planOKU ops cl o r (listed.setIfInBounds i true) && planOKU ops cl o s (listed.setIfInBounds j true)
 | .al3 i r j s k t, listed => Region.ready .any ops listed == [i, j, k] && !(listed.getD cl false) && i != cl && j != cl && k != cl && r.len == s.len && r.len == t.len && planOKU ops cl o r (listed.setIfInBounds i true) && planOKU ops cl o s (listed.setIfInBounds j true) && planOKU ops cl o t (listed.setIfInBounds k true)
def planU (P : Program) (n : Nat) (base : Nat -> Value) (ops : List Oper) (cl : Option Nat) (I : World -> Prop) (ds : List Nat) : PU -> List Value -> List (Nat × Value) -> World -> (K : Kont) -> Prop
 | .nil, loc, tmp, w, K => K ds loc tmp w
 | .st i true r, loc, tmp, w, K => planO n base ops ops[i]? loc tmp
   (fun o => floatV P (ev n base loc tmp) o.op o.type I fun v => putK n o.dst v loc tmp fun loc tmp => planU P n base ops cl I ds r loc tmp w K)
   (fun o => putK n o.dst undef loc tmp fun loc tmp => planU P n base ops cl I ds r loc tmp w K)
 | .st i false r, loc, tmp, w, K => planO n base ops ops[i]? loc tmp
   (fun o => opV P (ev n base loc tmp) o.op o.type w fun v w' => putK n o.dst v loc tmp fun loc tmp => ∃ I', (r.isNil = false -> some i ≠ cl -> I' w' /\ ∀ w, I' w -> I w) /\ planU P n base ops cl I' ds r loc tmp w' K)
   (fun o => putK n o.dst undef loc tmp fun loc tmp => planU P n base ops cl I ds r loc tmp w K)
 | .alt i r j s, loc, tmp, w, K =>
   planO n base ops ops[i]? loc tmp
    (fun o => opV P (ev n base loc tmp) o.op o.type w fun v w' => putK n o.dst v loc tmp fun loc tmp => ∃ I', (I' w' /\ ∀ w, I' w -> I w) /\ planU P n base ops cl I' ds r loc tmp w' K)
    (fun o => putK n o.dst undef loc tmp fun loc tmp => planU P n base ops cl I ds r loc tmp w K) /\
   planO n base ops ops[j]? loc tmp
    (fun o => opV P (ev n base loc tmp) o.op o.type w fun v w' => putK n o.dst v loc tmp fun loc tmp => ∃ I', (I' w' /\ ∀ w, I' w -> I w) /\ planU P n base ops cl I' ds s loc tmp w' K)
    (fun o => putK n o.dst undef loc tmp fun loc tmp => planU P n base ops cl I ds s loc tmp w K)
 | .al3 i r j s k t, loc, tmp, w, K =>
   planO n base ops ops[i]? loc tmp
    (fun o => opV P (ev n base loc tmp) o.op o.type w fun v w' => putK n o.dst v loc tmp fun loc tmp => ∃ I', (I' w' /\ ∀ w, I' w -> I w) /\ planU P n base ops cl I' ds r loc tmp w' K)
    (fun o => putK n o.dst undef loc tmp fun loc tmp => planU P n base ops cl I ds r loc tmp w K) /\
   planO n base ops ops[j]? loc tmp
    (fun o => opV P (ev n base loc tmp) o.op o.type w fun v w' => putK n o.dst v loc tmp fun loc tmp => ∃ I', (I' w' /\ ∀ w, I' w -> I w) /\ planU P n base ops cl I' ds s loc tmp w' K)
    (fun o => putK n o.dst undef loc tmp fun loc tmp => planU P n base ops cl I ds s loc tmp w K) /\
   planO n base ops ops[k]? loc tmp
    (fun o => opV P (ev n base loc tmp) o.op o.type w fun v w' => putK n o.dst v loc tmp fun loc tmp => ∃ I', (I' w' /\ ∀ w, I' w -> I w) /\ planU P n base ops cl I' ds t loc tmp w' K)
    (fun o => putK n o.dst undef loc tmp fun loc tmp => planU P n base ops cl I ds t loc tmp w K)
theorem planU_any {Q : Exit -> Act -> World -> Prop} {n m cl : Nat} {oc : Option Nat} {base : Nat -> Value} {l : List Oper} {ds : List Nat} {K : Kont} (hsel : Region.noSelect l.toArray = true) (hdef : noDefer l.toArray = true) (hQ : ∀ c (a a' : Act) w, Q (.panic c) a w -> Q (.panic c) a' w) (hall : l.all (dstIn m) = true) :
 ∀ (pl : PU) (listed : Array Bool) (I : World -> Prop) (loc : List Value) (tmp : List (Nat × Value)) (w : World) (a : Act), planU P n base l oc I ds pl loc tmp w K -> planOKU l.toArray cl oc pl listed = true -> (listed.getD cl false = false -> I w) ->
  Agree n base loc tmp a -> a.tmps.size = m -> a.defers = ds.map markOf ->
  (∀ loc tmp w a, Agree n base loc tmp a -> a.tmps.size = m -> a.defers = ds.map markOf -> K ds loc tmp w -> Q .normal a w) -> AnyI ro P l.toArray Q cl I pl.len listed a w
 | .nil, listed, I, loc, tmp, w, a, h, hpl, hI, ha, hs, hd, hK => by
   simp only [planOKU, List.isEmpty_iff] at hpl
   exact ⟨hI, hpl, hK loc tmp w a ha hs hd h⟩
 | .st i fl r, listed, I, loc, tmp, w, a, h, hpl, hI, ha, hs, hd, hK => by
   rw [planOKU, Bool.and_eq_true] at hpl
   obtain ⟨hpl1, hpl2⟩ := hpl
   cases ho : l[i]? with
   | none => cases fl <;> (simp only [planU, ho, planO] at h)
   | some o =>
     have hoi : l.toArray[i]? = some o := by simpa using ho
     have hmem : o ∈ l := List.mem_of_getElem? ho
     have hd1 : dstIn m o = true := List.all_eq_true.1 hall o hmem
     have hdst : ∀ t, o.dst = some t -> t < a.tmps.size := by rw [hs]; exact dstIn_spec hd1
     have hnext : ∀ (I' : World -> Prop) v w', ((listed.setIfInBounds i true).getD cl false = false -> I' w') -> (putK n o.dst v loc tmp fun loc tmp => planU P n base l oc I' ds r loc tmp w' K) -> AnyI ro P l.toArray Q cl I' r.len (listed.setIfInBounds i true) (a.put o.dst v) w' := by
      intro I' v w' hI' hv
      obtain ⟨loc', tmp', ha', hv'⟩ := ha.put hdst v hv
      exact planU_any hsel hdef hQ hall r _ I' loc' tmp' w' _ hv' hpl2 hI' ha' (by cases o.dst <;> simp [Act.put, hs]) (by cases o.dst <;> simp [Act.put, hd]) hK
     cases fl with
     | true =>
       simp only [planU, ho, planO] at h
       rw [<- ha.ev] at h
       simp only [if_true, Bool.and_eq_true, List.contains_iff_mem, Bool.or_eq_true, Bool.not_eq_true', bne_iff_ne, ne_eq, hoi] at hpl1
       obtain ⟨⟨hp1, hp2⟩, hp4, hp3⟩ := hpl1
       have hnext' : ∀ v, (putK n o.dst v loc tmp fun loc tmp => planU P n base l oc I ds r loc tmp w K) -> AnyI ro P l.toArray Q cl I r.len (listed.setIfInBounds i true) (a.put o.dst v) w := fun v hk =>
        hnext I v w (fun hl => hI (by rw [getD_set_ne false (Ne.symm hp4)] at hl; exact hl)) hk
       rcases hp3 with hp3 | hp3
       . have hgive : ∃ v, GivesI P l.toArray (fun _ => True) o v a /\ putK n o.dst v loc tmp fun loc tmp => planU P n base l oc I ds r loc tmp w K := by
          rcases grdV_wanted h with ⟨hw, h⟩ | ⟨hw, h⟩
          . obtain ⟨v, hv, hk⟩ := floatV_run (floatV_pure hp3 h)
            exact ⟨v, .inl ⟨hw, hv⟩, hk⟩
          . exact ⟨undef, .inr ⟨hw, rfl⟩, h⟩
         obtain ⟨v, hg, hk⟩ := hgive
         exact AnyI_first2 [] (.inl fun _ => trivial) hp4 hoi (Region.noSelect_spec hsel) (noDefer_spec hdef) (fun c a w => hQ c _ _ w) r.len listed a w (fun j oj hj hne hun hno => Region.free_spec hoi hp2 j oj hj hne hun hno) (.inl fun _ => trivial) hp1 hg (hnext' v hk)
       . have hgive : ∃ v, GivesI P l.toArray I o v a /\ putK n o.dst v loc tmp fun loc tmp => planU P n base l oc I ds r loc tmp w K := by
          rcases grdV_wanted h with ⟨hw, h⟩ | ⟨hw, h⟩
          . obtain ⟨v, hv, hk⟩ := floatV_run h
            exact ⟨v, .inl ⟨hw, hv⟩, hk⟩
          . exact ⟨undef, .inr ⟨hw, rfl⟩, h⟩
         obtain ⟨v, hg, hk⟩ := hgive
         simp only [blocks, Bool.and_eq_true, Bool.or_eq_true, Bool.not_eq_true', List.contains_iff_mem, List.all_eq_true] at hp3
         obtain ⟨⟨⟨hb1, hb2⟩, hb3⟩, hb4⟩ := hp3
         refine AnyI_first2 (waitsFor l.toArray i) (.inr ⟨fun _ h => h, ?_, fun j hj oj hoj => ?_⟩) hp4 hoi (Region.noSelect_spec hsel) (noDefer_spec hdef) (fun c a w => hQ c _ _ w) r.len listed a w (fun j oj hj hne hun hno => Region.free_spec hoi hp2 j oj hj hne hun hno) (.inr ⟨hb3, hb4⟩) hp1 hg (hnext' v hk)
         . rcases hb2 with h | h
           . exact .inl h
           . right
             split at h
             . assumption
             . cases h
         . have := List.all_eq_true.1 hb1 j hj
           rw [hoj] at this
           obtain ⟨k, hk, hk'⟩ := Array.any_eq_true.1 this
           simp only [Bool.and_eq_true, Bool.or_eq_true, beq_iff_eq, List.contains_iff_mem] at hk'
           exact ⟨_, Array.getElem_mem hk, hk'⟩
     | false =>
       simp only [Bool.false_eq_true, if_false, beq_iff_eq, Bool.and_eq_true] at hpl1
       obtain ⟨hp1, hp2⟩ := hpl1
       refine ⟨hI, fun e => (by rw [e] at hp1; cases hp1), fun j hj => ?_⟩
       rw [hp1, List.mem_singleton] at hj
       subst hj
       unfold wpOpIn
       simp only [hoi]
       simp only [planU, ho, planO] at h
       rw [<- ha.ev] at h
       by_cases hcl : r.isNil = true ∨ some j = oc
       . have hcl' : (r.isNil || some j == oc) = true := by
          rcases hcl with h | h
          . simp [h]
          . simp [h]
         rw [hcl', if_pos rfl, Bool.and_eq_true, beq_iff_eq, decide_eq_true_eq] at hp2
         have hset : (listed.setIfInBounds j true).getD cl false = true := by
          rw [<- hp2.1]; simp [hp2.2]
         have hfin : ∀ (I' : World -> Prop) v w', (putK n o.dst v loc tmp fun loc tmp => planU P n base l oc I' ds r loc tmp w' K) -> AnyI ro P l.toArray Q cl I r.len (listed.setIfInBounds j true) (a.put o.dst v) w' := fun I' v w' hv =>
          (hnext I' v w' (fun hf => by rw [hset] at hf; cases hf) hv).listed _ _ _ _ hset
         rcases grdV_wanted h with ⟨hw, h⟩ | ⟨hw, h⟩
         . rw [if_pos hw]
           refine (opV_step h).wp fun v w' hv => ?_
           obtain ⟨loc', tmp', ha', I', hI', hv'⟩ := ha.put hdst v hv
           exact (planU_any hsel hdef hQ hall r _ I' loc' tmp' w' _ hv' hpl2 (fun hf => by rw [hset] at hf; cases hf) ha' (by cases o.dst <;> simp [Act.put, hs]) (by cases o.dst <;> simp [Act.put, hd]) hK).listed _ _ _ _ hset
         . rw [if_neg (by rw [hw]; simp)]
           exact ⟨fun f _ => fz_fn f, hfin I _ _ h⟩
       . have hcl' : (r.isNil || some j == oc) = false := by
          rw [not_or] at hcl
          simp [hcl.1, hcl.2]
         rw [hcl'] at hp2
         simp only [Bool.false_eq_true, if_false, Bool.and_eq_true, Bool.not_eq_true', bne_iff_ne, ne_eq] at hp2
         rw [not_or] at hcl
         have hfin : ∀ v w', (putK n o.dst v loc tmp fun loc tmp => ∃ I', (r.isNil = false -> some j ≠ oc -> I' w' /\ ∀ w, I' w -> I w) /\ planU P n base l oc I' ds r loc tmp w' K) -> AnyI ro P l.toArray Q cl I r.len (listed.setIfInBounds j true) (a.put o.dst v) w' := by
          intro v w' hv
          obtain ⟨loc', tmp', ha', I', hI', hv'⟩ := ha.put hdst v hv
          have hi' := hI' (by simpa using hcl.1) hcl.2
          exact (planU_any hsel hdef hQ hall r _ I' loc' tmp' w' (a.put o.dst v) hv' hpl2 (fun _ => hi'.1) ha' (by cases o.dst <;> simp [Act.put, hs]) (by cases o.dst <;> simp [Act.put, hd]) hK).mono hi'.2
         rcases grdV_wanted h with ⟨hw, h⟩ | ⟨hw, h⟩
         . rw [if_pos hw]
           exact (opV_step h).wp hfin
         . rw [if_neg (by rw [hw]; simp)]
           exact ⟨fun f _ => fz_fn f, hnext I _ _ (fun _ => hI hp2.1) h⟩
 | .alt i r j s, listed, I, loc, tmp, w, a, h, hpl, hI, ha, hs, hd, hK => by
   simp only [planOKU, Bool.and_eq_true, beq_iff_eq, Bool.not_eq_true', bne_iff_ne, ne_eq] at hpl
   obtain ⟨⟨⟨⟨⟨⟨hp1, hp2⟩, hp3⟩, hp4⟩, hp5⟩, hp6⟩, hp7⟩ := hpl
   obtain ⟨h1, h2⟩ := h
   refine ⟨hI, fun e => (by rw [e] at hp1; cases hp1), fun k hk => ?_⟩
   rw [hp1] at hk
   rcases List.mem_cons.1 hk with rfl | hk
   . exact stepT hall h1 ha hs hd (hI hp2) (fun I' loc tmp w a hf hi' ha hs hd => planU_any hsel hdef hQ hall r _ I' loc tmp w a hf hp6 (fun _ => hi') ha hs hd hK)
   . rw [List.mem_singleton] at hk
     subst hk
     have := stepT hall h2 ha hs hd (hI hp2) (fun I' loc tmp w a hf hi' ha hs hd => planU_any hsel hdef hQ hall s _ I' loc tmp w a hf hp7 (fun _ => hi') ha hs hd hK)
     rw [hp5]
     exact this
 | .al3 i r j s k2 t, listed, I, loc, tmp, w, a, h, hpl, hI, ha, hs, hd, hK => by
   simp only [planOKU, Bool.and_eq_true, beq_iff_eq, Bool.not_eq_true', bne_iff_ne, ne_eq] at hpl
   obtain ⟨⟨⟨⟨⟨⟨⟨⟨⟨hp1, hp2⟩, hp3⟩, hp4⟩, hp4'⟩, hp5⟩, hp5'⟩, hp6⟩, hp7⟩, hp8⟩ := hpl
   obtain ⟨h1, h2, h3⟩ := h
   refine ⟨hI, fun e => (by rw [e] at hp1; cases hp1), fun k hk => ?_⟩
   rw [hp1] at hk
   rcases List.mem_cons.1 hk with rfl | hk
   . exact stepT hall h1 ha hs hd (hI hp2) (fun I' loc tmp w a hf hi' ha hs hd => planU_any hsel hdef hQ hall r _ I' loc tmp w a hf hp6 (fun _ => hi') ha hs hd hK)
   . rcases List.mem_cons.1 hk with rfl | hk
     . have := stepT hall h2 ha hs hd (hI hp2) (fun I' loc tmp w a hf hi' ha hs hd => planU_any hsel hdef hQ hall s _ I' loc tmp w a hf hp7 (fun _ => hi') ha hs hd hK)
       rw [hp5]
       exact this
     . rw [List.mem_singleton] at hk
       subst hk
       have := stepT hall h3 ha hs hd (hI hp2) (fun I' loc tmp w a hf hi' ha hs hd => planU_any hsel hdef hQ hall t _ I' loc tmp w a hf hp8 (fun _ => hi') ha hs hd hK)
       rw [hp5']
       exact this
def planUA (P : Program) (G : Nat -> AV) (N n : Nat) (ops : List Oper) (cl : Option Nat) (keep : Nat -> Bool) : List AV -> PU -> List AV -> List (Nat × AV) -> Tbl -> Eff -> (K : AKont) -> Prop
 | ds, .nil, loc, tmp, T, E, K => K ds loc tmp T E
 | ds, .st i true r, loc, tmp, T, E, K => planOA ops ops[i]? (evA G n loc tmp)
  (fun o => rdF P (evA G n loc tmp) o.op o.type (keepT keep T) fun v => putA n o.dst v loc tmp fun loc tmp => planUA P G N n ops cl keep ds r loc tmp T E K)
  (fun o => putA n o.dst (.p undef) loc tmp fun loc tmp => planUA P G N n ops cl keep ds r loc tmp T E K)
 | ds, .st i false r, loc, tmp, T, E, K => planOA ops ops[i]? (evA G n loc tmp)
  (fun o => opA P G (evA G n loc tmp) o.op o.type T fun v T' es => putA n o.dst v (slots es loc) (slotsT es tmp) fun loc tmp => (keepOK keep es = true ∨ r.isNil = true ∨ some i = cl) /\ planUA P G N n ops cl keep (slots es ds) r loc tmp T' (recE N es E) K)
  (fun o => putA n o.dst (.p undef) loc tmp fun loc tmp => planUA P G N n ops cl keep ds r loc tmp T E K)
 | ds, .alt i r j s, loc, tmp, T, E, K => planOA ops ops[i]? (evA G n loc tmp)
  (fun o => opA P G (evA G n loc tmp) o.op o.type T fun v T' es => putA n o.dst v (slots es loc) (slotsT es tmp) fun loc tmp => (keepOK keep es = true) /\ planUA P G N n ops cl keep (slots es ds) r loc tmp T' (recE N es E) K)
  (fun o => putA n o.dst (.p undef) loc tmp fun loc tmp => planUA P G N n ops cl keep ds r loc tmp T E K) /\
   planOA ops ops[j]? (evA G n loc tmp)
    (fun o => opA P G (evA G n loc tmp) o.op o.type T fun v T' es => putA n o.dst v (slots es loc) (slotsT es tmp) fun loc tmp => (keepOK keep es = true) /\ planUA P G N n ops cl keep (slots es ds) s loc tmp T' (recE N es E) K)
    (fun o => putA n o.dst (.p undef) loc tmp fun loc tmp => planUA P G N n ops cl keep ds s loc tmp T E K)
 | ds, .al3 i r j s k t, loc, tmp, T, E, K => planOA ops ops[i]? (evA G n loc tmp)
  (fun o => opA P G (evA G n loc tmp) o.op o.type T fun v T' es => putA n o.dst v (slots es loc) (slotsT es tmp) fun loc tmp => (keepOK keep es = true) /\ planUA P G N n ops cl keep (slots es ds) r loc tmp T' (recE N es E) K)
  (fun o => putA n o.dst (.p undef) loc tmp fun loc tmp => planUA P G N n ops cl keep ds r loc tmp T E K) /\
   planOA ops ops[j]? (evA G n loc tmp)
    (fun o => opA P G (evA G n loc tmp) o.op o.type T fun v T' es => putA n o.dst v (slots es loc) (slotsT es tmp) fun loc tmp => (keepOK keep es = true) /\ planUA P G N n ops cl keep (slots es ds) s loc tmp T' (recE N es E) K)
    (fun o => putA n o.dst (.p undef) loc tmp fun loc tmp => planUA P G N n ops cl keep ds s loc tmp T E K) /\
   planOA ops ops[k]? (evA G n loc tmp)
    (fun o => opA P G (evA G n loc tmp) o.op o.type T fun v T' es => putA n o.dst v (slots es loc) (slotsT es tmp) fun loc tmp => (keepOK keep es = true) /\ planUA P G N n ops cl keep (slots es ds) t loc tmp T' (recE N es E) K)
    (fun o => putA n o.dst (.p undef) loc tmp fun loc tmp => planUA P G N n ops cl keep ds t loc tmp T E K)
theorem planUA_sound {n : Nat} {base : Nat -> Value} {ops : List Oper} {cl : Option Nat} {keep : Nat -> Bool} {K : AKont} : ∀ (pl : PU) (ds loc : List AV) (tmp : List (Nat × AV)) (dv : List Nat) (lv : List Value) (tv : List (Nat × Value)) (Z : Heap) (ρ : List BI) (T : Tbl) (w : World) (E : Eff),
 planUA P G ρ0.length n ops cl keep ds pl loc tmp T E K -> Frm G Z0 ρ0 T0 w0 Z ρ T w E -> At Z ρ ds loc tmp dv lv tv -> planU P n base ops cl (Agr Z ρ (keepT keep T) w) dv pl lv tv w (LK G Z0 ρ0 T0 w0 K)
 | .nil, ds, loc, tmp, dv, lv, tv, Z, ρ, T, w, E, h, hf, ha => ⟨Z, ρ, T, E, ds, loc, tmp, hf, ha.ds, ha.loc, ha.tmp, h⟩
 | .st i true r, ds, loc, tmp, dv, lv, tv, Z, ρ, T, w, E, h, hf, ha => by
   simp only [planUA, planOA] at h
   simp only [planU, planO]
   have he := evA_rel (n := n) (base := base) hf.g ha.loc ha.tmp
   cases ho : ops[i]? with
   | none => rw [ho] at h; exact h.elim
   | some o =>
     rw [ho] at h
     simp only at h ⊢
     refine grdA_sound h he (fun h => ?_) (fun h => ?_)
     . refine valV_mono (rdF_sound (hf.st.keepT keep) he h) (fun _ _ h => h) (fun s h => FloatP.mono h (fun _ h => h) ?_) ?_
       all_goals
        rintro v ⟨a, h1, h2⟩
        exact putA_sound h2 h1 ha fun loc tmp lv tv hk hat => planUA_sound r _ _ _ _ _ _ _ _ _ _ _ hk hf hat
     . exact putA_sound h (.p _) ha fun loc tmp lv tv hk hat => planUA_sound r _ _ _ _ _ _ _ _ _ _ _ hk hf hat
 | .st i false r, ds, loc, tmp, dv, lv, tv, Z, ρ, T, w, E, h, hf, ha => by
   simp only [planUA, planOA] at h
   simp only [planU, planO]
   have he := evA_rel (n := n) (base := base) hf.g ha.loc ha.tmp
   cases ho : ops[i]? with
   | none => rw [ho] at h; exact h.elim
   | some o =>
     rw [ho] at h
     simp only at h ⊢
     refine grdA_sound h he (fun h => ?_) (fun h => ?_)
     . refine opV_mono (opA_sound hf.g hf.st he h) fun v w' h2 => ?_
       obtain ⟨Z', ρ', T', es, a, k1, k2, k3, k4⟩ := h2
       refine putA_sound k4 k3 (ha.step k2) fun loc tmp lv tv hk hat => ⟨Agr Z' ρ' (keepT keep T') w', fun hr hc => ?_, planUA_sound r _ _ _ _ _ _ _ _ _ _ _ hk.2 (hf.step k1 k2) hat⟩
       exact ⟨agr_self (k1.keepT keep), agr_step k2 (hk.1.resolve_right (fun h => h.elim (fun h => by rw [hr] at h; cases h) hc))⟩
     . exact putA_sound h (.p _) ha fun loc tmp lv tv hk hat => planUA_sound r _ _ _ _ _ _ _ _ _ _ _ hk hf hat
 | .alt i r j s, ds, loc, tmp, dv, lv, tv, Z, ρ, T, w, E, h, hf, ha => by
   simp only [planUA, planOA] at h
   simp only [planU, planO]
   have he := evA_rel (n := n) (base := base) hf.g ha.loc ha.tmp
   refine ⟨?_, ?_⟩
   . have h := h.1
     cases ho : ops[i]? with
     | none => rw [ho] at h; exact h.elim
     | some o =>
       rw [ho] at h
       simp only at h ⊢
       refine grdA_sound h he (fun h => ?_) (fun h => ?_)
       . refine opV_mono (opA_sound hf.g hf.st he h) fun v w' h2 => ?_
         obtain ⟨Z', ρ', T', es, a, k1, k2, k3, k4⟩ := h2
         refine putA_sound k4 k3 (ha.step k2) fun loc tmp lv tv hk hat => ⟨Agr Z' ρ' (keepT keep T') w', ⟨agr_self (k1.keepT keep), agr_step k2 hk.1⟩, planUA_sound r _ _ _ _ _ _ _ _ _ _ _ hk.2 (hf.step k1 k2) hat⟩
       . exact putA_sound h (.p _) ha fun loc tmp lv tv hk hat => planUA_sound r _ _ _ _ _ _ _ _ _ _ _ hk hf hat
   . have h := h.2
     cases ho : ops[j]? with
     | none => rw [ho] at h; exact h.elim
     | some o =>
       rw [ho] at h
       simp only at h ⊢
       refine grdA_sound h he (fun h => ?_) (fun h => ?_)
       . refine opV_mono (opA_sound hf.g hf.st he h) fun v w' h2 => ?_
         obtain ⟨Z', ρ', T', es, a, k1, k2, k3, k4⟩ := h2
         refine putA_sound k4 k3 (ha.step k2) fun loc tmp lv tv hk hat => ⟨Agr Z' ρ' (keepT keep T') w', ⟨agr_self (k1.keepT keep), agr_step k2 hk.1⟩, planUA_sound s _ _ _ _ _ _ _ _ _ _ _ hk.2 (hf.step k1 k2) hat⟩
       . exact putA_sound h (.p _) ha fun loc tmp lv tv hk hat => planUA_sound s _ _ _ _ _ _ _ _ _ _ _ hk hf hat
 | .al3 i r j s k3 t, ds, loc, tmp, dv, lv, tv, Z, ρ, T, w, E, h, hf, ha => by
   simp only [planUA, planOA] at h
   simp only [planU, planO]
   have he := evA_rel (n := n) (base := base) hf.g ha.loc ha.tmp
   refine ⟨?_, ?_, ?_⟩
   . have h := h.1
     cases ho : ops[i]? with
     | none => rw [ho] at h; exact h.elim
     | some o =>
       rw [ho] at h
       simp only at h ⊢
       refine grdA_sound h he (fun h => ?_) (fun h => ?_)
       . refine opV_mono (opA_sound hf.g hf.st he h) fun v w' h2 => ?_
         obtain ⟨Z', ρ', T', es, a, k1, k2, k3, k4⟩ := h2
         refine putA_sound k4 k3 (ha.step k2) fun loc tmp lv tv hk hat => ⟨Agr Z' ρ' (keepT keep T') w', ⟨agr_self (k1.keepT keep), agr_step k2 hk.1⟩, planUA_sound r _ _ _ _ _ _ _ _ _ _ _ hk.2 (hf.step k1 k2) hat⟩
       . exact putA_sound h (.p _) ha fun loc tmp lv tv hk hat => planUA_sound r _ _ _ _ _ _ _ _ _ _ _ hk hf hat
   . have h := h.2.1
     cases ho : ops[j]? with
     | none => rw [ho] at h; exact h.elim
     | some o =>
       rw [ho] at h
       simp only at h ⊢
       refine grdA_sound h he (fun h => ?_) (fun h => ?_)
       . refine opV_mono (opA_sound hf.g hf.st he h) fun v w' h2 => ?_
         obtain ⟨Z', ρ', T', es, a, k1, k2, k3, k4⟩ := h2
         refine putA_sound k4 k3 (ha.step k2) fun loc tmp lv tv hk hat => ⟨Agr Z' ρ' (keepT keep T') w', ⟨agr_self (k1.keepT keep), agr_step k2 hk.1⟩, planUA_sound s _ _ _ _ _ _ _ _ _ _ _ hk.2 (hf.step k1 k2) hat⟩
       . exact putA_sound h (.p _) ha fun loc tmp lv tv hk hat => planUA_sound s _ _ _ _ _ _ _ _ _ _ _ hk hf hat
   . have h := h.2.2
     cases ho : ops[k3]? with
     | none => rw [ho] at h; exact h.elim
     | some o =>
       rw [ho] at h
       simp only at h ⊢
       refine grdA_sound h he (fun h => ?_) (fun h => ?_)
       . refine opV_mono (opA_sound hf.g hf.st he h) fun v w' h2 => ?_
         obtain ⟨Z', ρ', T', es, a, k1, k2, k3, k4⟩ := h2
         refine putA_sound k4 k3 (ha.step k2) fun loc tmp lv tv hk hat => ⟨Agr Z' ρ' (keepT keep T') w', ⟨agr_self (k1.keepT keep), agr_step k2 hk.1⟩, planUA_sound t _ _ _ _ _ _ _ _ _ _ _ hk.2 (hf.step k1 k2) hat⟩
       . exact putA_sound h (.p _) ha fun loc tmp lv tv hk hat => planUA_sound t _ _ _ _ _ _ _ _ _ _ _ hk hf hat
theorem SemA.drawU0 {id : Nat} {ops : Array Oper} (cl : Nat) (oc : Option Nat) (keep : Nat -> Bool) (pl : PU) (hm : P.follows .mixedOrders = true)
 (hok : (Region.noSelect ops && noDefer ops && ops.toList.all (dstIn m) && pl.len == ops.size && planOKU ops cl oc pl (Array.replicate ops.size false)) = true)
 (h : planUA P G N n ops.toList oc keep ds pl loc [] T E Nk) : SemA P G N ro n m (.region id ops true) ds loc tmp T E Nk X R := by
 simp only [Bool.and_eq_true, beq_iff_eq] at hok
 obtain ⟨⟨⟨⟨h1, h0⟩, h2⟩, h3⟩, h4⟩ := hok
 intro Z0 ρ0 T0 w0 Z ρ w dv lv tv hN hf ha
 refine SemV.cleared ?_
 intro a haa Qs hQs
 refine wpIn_mono (Q := fun e a w => ∃ dv lv tv, Fits' n m dv lv tv a /\ mkQ (LK G Z0 ρ0 T0 w0 Nk) (fun i => LK G Z0 ρ0 T0 w0 (X i)) (LK G Z0 ρ0 T0 w0 R) e dv lv tv w) ?_ (fun e a w ⟨ds, loc, tmp, hf, hq⟩ => hQs _ _ _ _ _ _ hf hq)
 have hdr : Alike { w with drawn := w.drawn + 1 } w := ⟨rfl, rfl, rfl⟩
 have hf' := hf.same hdr
 subst hN
 refine wpIn_region_any hm (AnyI.any (cl := cl) (I := Agr Z ρ (keepT keep T) { w with drawn := w.drawn + 1 }) _ _ _ _ ?_)
 have := planU_any (P := P) (cl := cl) (oc := oc) (ro := ro) (Q := fun e a w => ∃ dv lv tv, Fits' n m dv lv tv a /\ mkQ (LK G Z0 ρ0 T0 w0 Nk) (fun i => LK G Z0 ρ0 T0 w0 (X i)) (LK G Z0 ρ0 T0 w0 R) e dv lv tv w) (l := ops.toList) (K := LK G Z0 ρ0 T0 w0 Nk) (by simpa using h1) (by simpa using h0) (fun c a a' w ⟨ds, loc, tmp, _, hq⟩ => hq.elim) h2 pl
  (Array.replicate ops.size false) (Agr Z ρ (keepT keep T) { w with drawn := w.drawn + 1 }) lv [] { w with drawn := w.drawn + 1 } a (planUA_sound pl ds loc [] dv lv [] Z ρ T _ E h hf' ha.clear) (by simpa using h4) (fun _ => agr_self (hf'.st.keepT keep)) haa.clear haa.size haa.defers
  (fun loc tmp w a h1 h2 h3 hk => ⟨dv, loc, tmp, ⟨⟨_, h1⟩, h2, h3⟩, hk⟩)
 rw [h3] at this
 simpa using this
theorem SemA.drawU {id : Nat} {ops : Array Oper} (L : List (Nat × AV)) (Tb : Tbl) (Ei : Eff) (cl : Nat) (keep : Nat -> Bool) (pl : PU) (hm : P.follows .mixedOrders = true)
 (hok : (Region.noSelect ops && noDefer ops && ops.toList.all (dstIn m) && pl.len == ops.size && planOKU ops cl (some cl) pl (Array.replicate ops.size false)) = true)
 (h : planUA P G N n ops.toList (some cl) keep ds pl loc [] T E (fun ds' loc' _ T' E' => SeeL G N n ds' loc' T' E' ds L Tb Ei)) (next : ∀ g tmp, Nk ds (mkA g L 0 n) tmp Tb Ei) : SemA P G N ro n m (.region id ops true) ds loc tmp T E Nk X R := by
 have h0 := SemA.drawU0 (ro := ro) (X := X) (R := R) (tmp := tmp) (id := id) cl (some cl) keep pl hm hok h
 intro Z0 ρ0 T0 w0 Z ρ w dv lv tv hN hf ha
 refine (h0 Z0 ρ0 T0 w0 Z ρ w dv lv tv hN hf ha).mono fun e dv lv tv w hq => ?_
 cases e with
 | normal =>
   obtain ⟨Z1, ρ1, T1, E1, ds1, loc1, tmp1, g1, g2, g3, g4, hv⟩ := hq
   obtain ⟨Z2, ρ2, loc2, k1, k2, k3⟩ := hv Z0 ρ0 T0 w0 Z1 ρ1 w dv lv hN g1 ⟨g2, g3, .nil⟩
   obtain ⟨g, rfl⟩ := k3.elim
   exact ⟨Z2, ρ2, Tb, Ei, ds, _, _, k1, k2.ds, k2.loc, RelT.all tv, next g _⟩
 | exit i => exact hq
 | ret => exact hq
 | _ => exact hq.elim
theorem vpu :
 (∀ (P : Program) (G : Nat -> AV) (N n : Nat) (ops : List Oper) (cl : Option Nat) (keep : Nat -> Bool) (ds : List AV) (loc : List AV) (tmp : List (Nat × AV)) (T : Tbl) (E : Eff) (K : AKont), planUA P G N n ops cl keep ds .nil loc tmp T E K = K ds loc tmp T E) /\
 (∀ (P : Program) (G : Nat -> AV) (N n : Nat) (ops : List Oper) (cl : Option Nat) (keep : Nat -> Bool) (ds : List AV) (loc : List AV) (tmp : List (Nat × AV)) (T : Tbl) (E : Eff) (K : AKont) (i : Nat) (r : PU), planUA P G N n ops cl keep ds (.st i true r) loc tmp T E K = (planOA ops ops[i]? (evA G n loc tmp)
     (fun o => rdF P (evA G n loc tmp) o.op o.type (keepT keep T) fun v => putA n o.dst v loc tmp fun loc tmp => planUA P G N n ops cl keep ds r loc tmp T E K)
     (fun o => putA n o.dst (.p undef) loc tmp fun loc tmp => planUA P G N n ops cl keep ds r loc tmp T E K))) /\
 (∀ (P : Program) (G : Nat -> AV) (N n : Nat) (ops : List Oper) (cl : Option Nat) (keep : Nat -> Bool) (ds : List AV) (loc : List AV) (tmp : List (Nat × AV)) (T : Tbl) (E : Eff) (K : AKont) (i : Nat) (r : PU), planUA P G N n ops cl keep ds (.st i false r) loc tmp T E K = (planOA ops ops[i]? (evA G n loc tmp)
     (fun o => opA P G (evA G n loc tmp) o.op o.type T fun v T' es => putA n o.dst v (slots es loc) (slotsT es tmp) fun loc tmp => (keepOK keep es = true ∨ r.isNil = true ∨ some i = cl) /\ planUA P G N n ops cl keep (slots es ds) r loc tmp T' (recE N es E) K)
     (fun o => putA n o.dst (.p undef) loc tmp fun loc tmp => planUA P G N n ops cl keep ds r loc tmp T E K))) /\
 (∀ (P : Program) (G : Nat -> AV) (N n : Nat) (ops : List Oper) (cl : Option Nat) (keep : Nat -> Bool) (ds : List AV) (loc : List AV) (tmp : List (Nat × AV)) (T : Tbl) (E : Eff) (K : AKont) (i : Nat) (r : PU) (j : Nat) (s : PU), planUA P G N n ops cl keep ds (.alt i r j s) loc tmp T E K = (planOA ops ops[i]? (evA G n loc tmp)
     (fun o => opA P G (evA G n loc tmp) o.op o.type T fun v T' es => putA n o.dst v (slots es loc) (slotsT es tmp) fun loc tmp => (keepOK keep es = true) /\ planUA P G N n ops cl keep (slots es ds) r loc tmp T' (recE N es E) K)
     (fun o => putA n o.dst (.p undef) loc tmp fun loc tmp => planUA P G N n ops cl keep ds r loc tmp T E K) /\
  planOA ops ops[j]? (evA G n loc tmp)
   (fun o => opA P G (evA G n loc tmp) o.op o.type T fun v T' es => putA n o.dst v (slots es loc) (slotsT es tmp) fun loc tmp => (keepOK keep es = true) /\ planUA P G N n ops cl keep (slots es ds) s loc tmp T' (recE N es E) K)
   (fun o => putA n o.dst (.p undef) loc tmp fun loc tmp => planUA P G N n ops cl keep ds s loc tmp T E K))) /\
  (∀ (P : Program) (G : Nat -> AV) (N n : Nat) (ops : List Oper) (cl : Option Nat) (keep : Nat -> Bool) (ds : List AV) (loc : List AV) (tmp : List (Nat × AV)) (T : Tbl) (E : Eff) (K : AKont) (i : Nat) (r : PU) (j : Nat) (s : PU) (k : Nat) (t : PU), planUA P G N n ops cl keep ds (.al3 i r j s k t) loc tmp T E K = (planOA ops ops[i]? (evA G n loc tmp)
   (fun o => opA P G (evA G n loc tmp) o.op o.type T fun v T' es => putA n o.dst v (slots es loc) (slotsT es tmp) fun loc tmp => (keepOK keep es = true) /\ planUA P G N n ops cl keep (slots es ds) r loc tmp T' (recE N es E) K)
   (fun o => putA n o.dst (.p undef) loc tmp fun loc tmp => planUA P G N n ops cl keep ds r loc tmp T E K) /\
  planOA ops ops[j]? (evA G n loc tmp)
   (fun o => opA P G (evA G n loc tmp) o.op o.type T fun v T' es => putA n o.dst v (slots es loc) (slotsT es tmp) fun loc tmp => (keepOK keep es = true) /\ planUA P G N n ops cl keep (slots es ds) s loc tmp T' (recE N es E) K)
   (fun o => putA n o.dst (.p undef) loc tmp fun loc tmp => planUA P G N n ops cl keep ds s loc tmp T E K) /\
  planOA ops ops[k]? (evA G n loc tmp)
   (fun o => opA P G (evA G n loc tmp) o.op o.type T fun v T' es => putA n o.dst v (slots es loc) (slotsT es tmp) fun loc tmp => (keepOK keep es = true) /\ planUA P G N n ops cl keep (slots es ds) t loc tmp T' (recE N es E) K)
   (fun o => putA n o.dst (.p undef) loc tmp fun loc tmp => planUA P G N n ops cl keep ds t loc tmp T E K))) /\ (PU.nil.isNil = true) /\ (∀ i b r, (PU.st i b r).isNil = false) /\ (∀ i r j s, (PU.alt i r j s).isNil = false) /\ (∀ i r j s k t, (PU.al3 i r j s k t).isNil = false) :=
 ⟨fun _ _ _ _ _ _ _ _ _ _ _ _ _ => rfl, fun _ _ _ _ _ _ _ _ _ _ _ _ _ _ _ => rfl, fun _ _ _ _ _ _ _ _ _ _ _ _ _ _ _ => rfl, fun _ _ _ _ _ _ _ _ _ _ _ _ _ _ _ _ _ => rfl, fun _ _ _ _ _ _ _ _ _ _ _ _ _ _ _ _ _ _ _ => rfl, rfl, fun _ _ _ => rfl, fun _ _ _ _ => rfl, fun _ _ _ _ _ _ => rfl⟩
end
end Go.E
namespace Go.Proofs.YtfpjalgfnjjcmaaGreatDoor
open Go.E Go.Proofs.YtfpjalgfnjjcmaaGreatDoor.Tryz Go.Proofs.Tryz
theorem hdr_clean {h : Hdr} : ∀ a ∈ h.cs, a.Clean := by
 intro a ha
 simp only [Hdr.cs, List.mem_cons, List.mem_append, List.mem_map, List.not_mem_nil, or_false] at ha
 rcases ha with rfl | ⟨x, _, rfl⟩ | ⟨x, _, rfl⟩ | rfl | rfl | rfl <;> exact .p _
theorem hdrs_clean (l : List Hdr) : ∀ a ∈ l.flatMap Hdr.cs, a.Clean := by
 intro a ha; obtain ⟨x, _, hx⟩ := List.mem_flatMap.1 ha; exact hdr_clean a hx
theorem hdrs_wo (q : Nat -> Bool) {hs : List Hdr} (h : ∀ x ∈ hs, x.Ok) : List.map (AV.wo q) (hs.flatMap Hdr.cs) = hs.flatMap Hdr.cs := by
 rw [List.map_flatMap]
 simp only [List.flatMap]
 congr 1
 exact List.map_congr_left fun x hx => (Hdr.rules (h x hx)).2.2.2.2.2.2.2.2.2.1 q
theorem rep1 (l : List AV) : (List.replicate 1 l).flatten = l := by simp
theorem mineAt_ok (t : Nat) : ∀ (k n : Nat) (h : Hdr), h.Ok -> (mineAt h t n k).1.Ok
 | 0, _, _, hh => hh
 | k + 1, n, h, hh => by
   rw [mineAt]
   split
   . exact ⟨hh.p, hh.r⟩
   . exact mineAt_ok t k (n + 1) _ ⟨hh.p, hh.r⟩
theorem mineB_ok {p : Par} {hs : List Hdr} {time : UInt32} {root : List UInt8} {tries : UInt32} (hr : root.length = 32) : (mineB p hs time root tries).1.Ok := by
 unfold mineB
 cases hs.getLast? with
 | none => exact ⟨rfl, hr⟩
 | some la =>
   cases ofT (bitsB p hs).toNat with
   | none => exact ⟨la.id_len, hr⟩
   | some t => exact mineAt_ok _ _ _ _ ⟨la.id_len, hr⟩
theorem keep_frontN (T l : Tbl) (j : Nat) : ∃ l', keepT (fun i => decide (i < T.length + j)) (T ++ l) = T ++ l' := by
 refine ⟨(keepT (fun i => decide (i < T.length + j)) (T ++ l)).drop T.length, ?_⟩
 refine List.ext_getElem? fun k => ?_
 rw [keepT_get]
 by_cases hk : k < T.length
 . rw [List.getElem?_append_left hk, List.getElem?_append_left hk]
   have : keepO (fun i => decide (i < T.length + j)) k = id := by
    funext o; unfold keepO; simp only [decide_eq_true (show k < T.length + j by omega)]; rfl
   rw [this]; simp
 . rw [List.getElem?_append_right (l₁ := T) (by omega), List.getElem?_append_right (l₁ := T) (by omega), List.getElem?_drop, keepT_get, show T.length + (k - T.length) = k by omega, List.getElem?_append_right (by omega)]
def Good (p : Par) (hs : List Hdr) (h : Hdr) : Prop := prevB hs h = true /\ h.bits = bitsB p hs /\ workB h = true /\ (medB hs).toNat < h.time.toNat
theorem med_le {hs : List Hdr} {B : Nat} (h : ∀ x ∈ hs, x.time.toNat <= B) : (medB hs).toNat <= B := by
 unfold medB medT
 cases hx : (sortU (lastT hs))[(lastT hs).length / 2]? with
 | none => simp
 | some x =>
   have h1 : x ∈ sortU (lastT hs) := List.mem_of_getElem? hx
   rw [sortU, List.mem_mergeSort, lastT] at h1
   obtain ⟨y, hy, rfl⟩ := List.mem_map.1 h1
   exact h y (List.mem_of_mem_drop hy)
theorem right_good {p : Par} {hs : List Hdr} {h : Hdr} (hm : mayB p = true) (hg : Good p hs h) : rightE p hs h = if p.pts.any (ptB hs.length h.id) = true then 13 else 0 := by
 obtain ⟨h1, h2, h3, h4⟩ := hg
 rw [rightE, hm, h1, decide_eq_true h2, h3, decide_eq_true h4]
 unfold firstR
 cases p.pts.any (ptB hs.length h.id) <;> simp
theorem easy_may {i : Int} {s : UInt32} (h1 : 2 <= i) (h2 : i <= 2016) (h3 : 1 <= s.toNat) (h4 : s.toNat <= 3600) : mayB (easyP i s) = true := by
 have e : ofT (easyP i s).limit.toNat = some (0x7fffff * 2 ^ 232) := by
  show ofT 545259519 = _
  decide +kernel
 unfold mayB
 rw [e]
 simp only [Bool.and_eq_true, decide_eq_true_eq]
 refine ⟨⟨⟨⟨⟨⟨?_, h1⟩, h2⟩, h3⟩, h4⟩, rfl⟩, ?_⟩
 . show UInt32.ofNat (cmpN (0x7fffff * 2 ^ 232)) = 545259519
   decide +kernel
 . unfold mayP
   simp only [decide_eq_true_eq]
   intro k hk
   exact absurd hk (Nat.not_lt_zero k)
theorem hdrs_ones : ∀ {hs : List Hdr}, (∀ x ∈ hs, x.Ok) -> ones (hs.flatMap Hdr.cs) = true
 | [], _ => rfl
 | x :: l, h => by
   have h1 : ones x.cs = true := (Hdr.rules (h x (by simp))).2.2.2.2.2.2.2.2.2.2.2
   have h2 := hdrs_ones (hs := l) fun y hy => h y (by simp [hy])
   rw [ones] at h1 h2 ⊢
   rw [List.flatMap_cons, List.all_append, h1, h2]; rfl
theorem wrA_flat {α : Type} {f : α -> List AV} {sz : Nat} {xs : List α} (hw : ∀ x ∈ xs, (f x).length = sz) {n : Nat} {x y : α} (hx : xs[n]? = some x) {k : Nat} {c : List AV} (hk : k + c.length <= sz) (hy : wrA (f x) k c = f y) : wrA (xs.flatMap f) (n * sz + k) c = (xs.set n y).flatMap f := by
 have hn := (List.getElem?_eq_some_iff.1 hx).1
 have e : xs = xs.take n ++ x :: xs.drop (n + 1) := by
  have h1 := List.take_append_drop n xs
  rw [List.drop_eq_getElem_cons hn] at h1
  rw [List.getElem?_eq_getElem hn] at hx
  rw [Option.some.inj hx] at h1
  exact h1.symm
 have hl : ((xs.take n).flatMap f).length = n * sz := by
  rw [flat_len fun x hx => hw x (List.mem_of_mem_take hx), List.length_take, Nat.min_eq_left (by omega)]
 have hxl := hw x (List.mem_of_getElem? hx)
 have e2 : xs.flatMap f = (xs.take n).flatMap f ++ (f x ++ (xs.drop (n + 1)).flatMap f) := by
  conv => lhs; rw [e]
  rw [List.flatMap_append, List.flatMap_cons]
 have e3 : (xs.set n y).flatMap f = (xs.take n).flatMap f ++ (f y ++ (xs.drop (n + 1)).flatMap f) := by
  rw [List.set_eq_take_append_cons_drop, if_pos hn, List.flatMap_append, List.flatMap_cons]
 rw [e2, e3, <- hy, wrA_eq (by rw [List.length_append, List.length_append, hl, hxl]; omega), wrA_eq (by omega)]
 rw [List.take_append, List.take_of_length_le (by rw [hl]; omega), hl, show n * sz + k - n * sz = k by omega, List.take_append_of_le_length (by omega)]
 rw [show n * sz + k + c.length = n * sz + (k + c.length) by omega, <- hl, List.drop_length_add_append, List.drop_append_of_le_length (by omega)]
 simp only [List.append_assoc]
structure FW (V : Tbl) (s : Fst) : Prop where
 i : s.In V.length
 r : s.Ref V.length
 v : Vok V s.b
 o : s.oa = .sl s.b 0 s.bc.length
 k : ∀ e ∈ s.es, e.1.length = 32
 n : ∀ i x j, s.nd i = some x -> x.on = some j -> ∃ y, s.nd j = some y
 l : s.bc.length <= 1000000
theorem forks_ok {V : Tbl} {s : Fst} (h : FW V s) {x : Nd} (ht : s.nd s.top = some x) (hl : x.ht <= 1000000) :
 CallA prog G 40 [.ptr s.f 0] (FT V s) fun v T' es => v = wint ((s.bc.length : Int) - (x.ht : Int) - 1) /\ T' = FT V s /\ es = [] := by
 have hf := Fst.rules h.r.p
 have hi := h.i.rules
 have hn := h.i.nrules ht
 have hx := Nd.rules (h.r.h _ _ ht)
 have ho := h.o
 have hll := h.l
 refine CallA.eV 3 func40 ntmps40 results40 ?_
 simp -dsimp +decide only [vt2, v1q, ↓reduceIte, Nat.reduceSub, Nat.reduceAdd, Nat.reduceMul, Nat.reduceLT, Int.reduceAdd, Int.reduceSub, Int.reduceToNat, ci]
 refine SemA.draw (fun i => true) [(0, true), (1, true), (2, true), (3, true), (4, true), (5, true), (6, true), (7, true), (8, true), (9, true), (10, true), (11, true), (12, true), (13, true), (14, true)] mixed (by kernel_rfl) ?_
 simp -dsimp +decide (disch := omega) only [vt2, v1q, ↓reduceIte, Nat.reduceSub, Nat.reduceAdd, Nat.reduceMul, Nat.reduceLT, Int.reduceAdd, Int.reduceSub, Int.reduceToNat, v2q, vft, hf, hi, hn, hx, ho, kallT]
 exact Vw.done ⟨rfl, rfl, rfl⟩
theorem size_ok {V : Tbl} {s : Fst} (h : FW V s) {x : Nd} (ht : s.nd s.top = some x) (hl : x.ht <= 1000000) :
 CallA prog G 19 [.ptr s.f 0] (FT V s) fun v T' es => v = .tu [wint (s.bc.length : Int), wint ((s.bc.length : Int) - (x.ht : Int) - 1)] /\ T' = FT V s /\ es = [] := by
 have hf := Fst.rules h.r.p
 have hi := h.i.rules
 have ho := h.o
 have hll := h.l
 refine CallA.eV 4 func19 ntmps19 results19 ?_
 simp -dsimp +decide only [vt2, v1q, ↓reduceIte, Nat.reduceSub, Nat.reduceAdd, Nat.reduceMul, Nat.reduceLT, Int.reduceAdd, Int.reduceSub, Int.reduceToNat, ci]
 refine SemA.draw (fun i => true) [(0, true), (1, true), (2, true), (3, true), (4, true), (5, true), (6, false), (7, true), (8, true)] mixed (by kernel_rfl) ?_
 simp -dsimp +decide (disch := omega) only [vt2, v1q, ↓reduceIte, Nat.reduceSub, Nat.reduceAdd, Nat.reduceMul, Nat.reduceLT, Int.reduceAdd, Int.reduceSub, Int.reduceToNat, v2q, vft, hf, hi, ho, kallT]
 refine (forks_ok h ht hl).det' ?_
 simp -dsimp +decide (disch := omega) only [vt2, v1q, ↓reduceIte, Nat.reduceSub, Nat.reduceAdd, Nat.reduceMul, Nat.reduceLT, Int.reduceAdd, Int.reduceSub, Int.reduceToNat, v2q, vft, hf, hi, ho, kallT]
 exact Vw.done ⟨rfl, rfl, rfl⟩
theorem best_ok {V : Tbl} {s : Fst} (h : FW V s) {x : Nd} (ht : s.nd s.top = some x) :
 CallA prog G 16 [.ptr s.f 0] (FT V s) fun v T' es => v = .tu [.ag (x.h.id.map by8), wint (x.ht : Int)] /\ T' = FT V s /\ es = [] := by
 have hf := Fst.rules h.r.p
 have hi := h.i.rules
 have hn := h.i.nrules ht
 have hx := Nd.rules (h.r.h _ _ ht)
 have ho := h.o
 have wt := h.r.t' h.i h.v
 have hid := x.h.id_len
 refine CallA.eV 4 func16 ntmps16 results16 ?_
 simp -dsimp +decide only [vt2, v1q, ↓reduceIte, Nat.reduceSub, Nat.reduceAdd, Nat.reduceMul, Nat.reduceLT, Int.reduceAdd, Int.reduceSub, Int.reduceToNat, ci]
 refine SemA.draw (fun i => decide (i < V.length)) [(0, true), (1, true), (2, true), (3, true), (4, true), (5, true), (6, true), (7, true), (8, true), (9, true), (10, true), (11, true), (12, true), (13, true), (14, false), (15, true)] mixed (by kernel_rfl) ?_
 simp -dsimp +decide (disch := omega) only [vt2, v1q, ↓reduceIte, Nat.reduceSub, Nat.reduceAdd, Nat.reduceMul, Nat.reduceLT, Int.reduceAdd, Int.reduceSub, Int.reduceToNat, v2q, vft, hf, hi, hn, hx, ho, vkf, hid, ez32, vh, vres, vone, List.drop_zero, List.take_of_length_le]
 exact ⟨.inl (by simp), Vw.cut ⟨by simp only [AV.wo, AV.woL, AV.woL_eq, wb8, wint], rfl, rfl⟩⟩
theorem fwork_ok {V : Tbl} {s : Fst} (h : FW V s) {x : Nd} (ht : s.nd s.top = some x) :
 CallA prog G 17 [.ptr s.f 0] (FT V s) fun v T' es => v = .ag (Bg x.wk) /\ T' = FT V s /\ es = [] := by
 have hf := Fst.rules h.r.p
 have hi := h.i.rules
 have hn := h.i.nrules ht
 have hx := Nd.rules (h.r.h _ _ ht)
 have ho := h.o
 have wt := h.r.t' h.i h.v
 have ez : [oQ, oQ, oQ, oQ] = Bg 0 := rfl
 refine CallA.eV 3 func17 ntmps17 results17 ?_
 simp -dsimp +decide only [vt2, v1q, ↓reduceIte, Nat.reduceSub, Nat.reduceAdd, Nat.reduceMul, Nat.reduceLT, Int.reduceAdd, Int.reduceSub, Int.reduceToNat, ci]
 simp -dsimp +decide (disch := omega) only [vt2, v1q, ↓reduceIte, Nat.reduceSub, Nat.reduceAdd, Nat.reduceMul, Nat.reduceLT, Int.reduceAdd, Int.reduceSub, Int.reduceToNat, v2q, vft, hf, hi, hn, hx, ho, ez, vbg]
 exact Vw.cut ⟨by rw [AV.wo, AV.woL_eq, Bg_wo], rfl, rfl⟩
def Path (s : Fst) : List Nat -> Prop
 | [] => False
 | [i] => ∃ x, s.nd i = some x /\ x.on = none /\ x.ht = 0
 | i :: j :: r => (∃ x, s.nd i = some x /\ x.on = some j /\ x.ht = r.length + 1) /\ Path s (j :: r)
theorem Path.head {s : Fst} {i : Nat} {r : List Nat} (h : Path s (i :: r)) : ∃ x, s.nd i = some x /\ x.ht = r.length /\ x.on = r.head? := by
 cases r with
 | nil => obtain ⟨x, h1, h2, h3⟩ := h; exact ⟨x, h1, h3, h2⟩
 | cons j r => obtain ⟨⟨x, h1, h2, h3⟩, _⟩ := h; exact ⟨x, h1, h3, h2⟩
theorem Path.all {s : Fst} : ∀ {l : List Nat}, Path s l -> ∀ i ∈ l, ∃ x, s.nd i = some x
 | [], h, _, _ => h.elim
 | [i], ⟨x, h1, _⟩, j, hj => by rw [List.mem_singleton.1 hj]; exact ⟨x, h1⟩
 | i :: k :: r, ⟨⟨x, h1, _⟩, h2⟩, j, hj => by
   rcases List.mem_cons.1 hj with rfl | hj
   . exact ⟨x, h1⟩
   . exact Path.all h2 j hj
def Fst.hd (s : Fst) (i : Nat) : Hdr := match s.nd i with
 | some x => x.h
 | none => ⟨0, h0b, h0b, 0, 0, 0⟩
def hds (s : Fst) (l : List Nat) : List Hdr := (l.map s.hd).reverse
def zH : Hdr := ⟨0, h0b, h0b, 0, 0, 0⟩
theorem zH_ok : zH.Ok := ⟨rfl, rfl⟩
theorem zH_cs : zH.cs = z68 := rfl
theorem rep_zH (n : Nat) : (List.replicate n z68).flatten = (List.replicate n zH).flatMap Hdr.cs := by
 rw [List.flatMap, List.map_replicate, zH_cs]
theorem Fst.hd_ok {s : Fst} {n : Nat} (h : s.Ref n) (i : Nat) : (s.hd i).Ok := by
 unfold Fst.hd
 cases hi : s.nd i with
 | none => exact ⟨rfl, rfl⟩
 | some x => exact h.h i x hi
theorem Path.drop {s : Fst} : ∀ {l : List Nat} {k : Nat}, Path s l -> k < l.length -> Path s (l.drop k)
 | l, 0, h, _ => h
 | [i], k + 1, _, hk => by simp at hk
 | i :: j :: r, k + 1, h, hk => by
   rw [List.drop_succ_cons]
   exact Path.drop (l := j :: r) h.2 (by simpa using hk)
theorem hds_at {s : Fst} {l : List Nat} {k i : Nat} (hk : l[k]? = some i) : (hds s l)[l.length - 1 - k]? = some (s.hd i) := by
 have hl := (List.getElem?_eq_some_iff.1 hk).1
 rw [hds, List.getElem?_reverse (by rw [List.length_map]; omega), List.length_map, show l.length - 1 - (l.length - 1 - k) = k by omega, List.getElem?_map, hk]; rfl
theorem hds_len (s : Fst) (l : List Nat) : (hds s l).length = l.length := by rw [hds, List.length_reverse, List.length_map]
def inH (H : List Hdr) (k : Nat) : List Hdr := List.replicate (H.length - k) zH ++ H.drop (H.length - k)
theorem inH_len (H : List Hdr) {k : Nat} (hk : k <= H.length) : (inH H k).length = H.length := by rw [inH, List.length_append, List.length_replicate, List.length_drop]; omega
theorem inH_next {H : List Hdr} {k : Nat} {h : Hdr} (hk : k < H.length) (hh : H[H.length - 1 - k]? = some h) : (inH H k).set (H.length - 1 - k) h = inH H (k + 1) := by
 have e : H.length - k = (H.length - (k + 1)) + 1 := by omega
 rw [inH, inH, e, List.replicate_succ', List.append_assoc, show H.length - 1 - k = H.length - (k + 1) by omega] at *
 rw [List.set_append_right _ _ (by rw [List.length_replicate]; exact Nat.le_refl _), List.length_replicate, Nat.sub_self]
 obtain ⟨hl, rfl⟩ := List.getElem?_eq_some_iff.1 hh
 rw [List.drop_eq_getElem_cons hl]; rfl
theorem inH_ok {H : List Hdr} (h : ∀ x ∈ H, x.Ok) (k : Nat) : ∀ x ∈ inH H k, x.Ok := fun x hx => by
 rcases List.mem_append.1 hx with hx | hx
 . rw [List.eq_of_mem_replicate hx]; exact zH_ok
 . exact h x (List.mem_of_mem_drop hx)
theorem Fst.hd_at {s : Fst} {i : Nat} {x : Nd} (h : s.nd i = some x) : s.hd i = x.h := by rw [Fst.hd, h]
theorem hchain_ok {V : Tbl} {s : Fst} (h : FW V s) {i : Nat} {r : List Nat} (hp : Path s (i :: r)) (hl : r.length <= 100000) :
 CallA prog G 36 [.ptr i 0] (FT V s) fun v T' es => v = .vs ((hds s (i :: r)).flatMap Hdr.cs) (r.length + 1) /\ T' = FT V s /\ es = [] := by
 have hi := h.i.rules
 obtain ⟨x, hx1, hx2, hx3⟩ := hp.head
 have hn := h.i.nrules hx1
 have hx := Nd.rules (h.r.h _ _ hx1)
 have wt := h.r.t' h.i h.v
 obtain ⟨l, hll⟩ : ∃ l, l = i :: r := ⟨_, rfl⟩
 obtain ⟨H, hH⟩ : ∃ H, H = hds s l := ⟨_, rfl⟩
 obtain ⟨n, hn1⟩ : ∃ n, n = r.length + 1 := ⟨_, rfl⟩
 have hHl : H.length = n := by rw [hH, hds_len, hll, hn1]; rfl
 have hln : l.length = n := by rw [hll, hn1]; rfl
 have hHo : ∀ y ∈ H, y.Ok := fun y hy => by
  rw [hH, hds, List.mem_reverse, List.mem_map] at hy
  obtain ⟨j, _, rfl⟩ := hy
  exact Fst.hd_ok h.r j
 have hto : ((r.length : Int) + 1) = (n : Int) := by omega
 have e0 : (List.replicate n z68).flatten = (inH H 0).flatMap Hdr.cs := by rw [rep_zH, inH, Nat.sub_zero, hHl, List.drop_of_length_le (by omega), List.append_nil]
 rw [<- hll, <- hH, <- hn1]
 refine CallA.eV 4 func36 ntmps36 results36 ?_
 simp -dsimp +decide only [vt2, v1q, ↓reduceIte, Nat.reduceSub, Nat.reduceAdd, Nat.reduceMul, Nat.reduceLT, Int.reduceAdd, Int.reduceSub, Int.reduceToNat, ci]
 simp -dsimp +decide (disch := omega) only [vt2, v1q, ↓reduceIte, Nat.reduceSub, Nat.reduceAdd, Nat.reduceMul, Nat.reduceLT, Int.reduceAdd, Int.reduceSub, Int.reduceToNat, v2q, vft, hi, hn, hx, hx2, ez68, hto, Int.toNat_natCast, e0]
 refine ⟨⟨by omega, by omega, by omega, by omega⟩, ?_⟩
 refine SemA.loopK (V.length + 1) (fun k : Nat => [(0, ptrO (l.drop k).head?), (3, .sl V.length 0 n)]) (fun k => FT V s ++ [.buf 28 68 ((inH H k).flatMap Hdr.cs)]) (fun k => k <= n) (fun k => n - k) 0 [] 0 (fun _ : Unit => [(3, .sl V.length 0 n)]) (fun _ => FT V s ++ [.buf 28 68 (H.flatMap Hdr.cs)]) (fun _ => True) (by omega) (by omega) (by rw [hll]; exact ⟨rfl, rfl, rfl⟩) rfl (by simp) ?_ ?_
 . rintro k g hk
   refine SemA.o ?_
   by_cases hkn : k = n
   . have hd : l.drop k = [] := List.drop_of_length_le (by omega)
     rw [hd]
     have : inH H k = H := by rw [inH, hHl, hkn, Nat.sub_self]; rfl
     rw [this]
     simp -dsimp +decide (disch := omega) only [vt2, v1q, ↓reduceIte, Nat.reduceSub, Nat.reduceAdd, Nat.reduceMul, Nat.reduceLT, Int.reduceAdd, Int.reduceSub, Int.reduceToNat, v2q, vft, List.head?_nil, ptrO, wt, hdrs_wo _ hHo]
     exact ⟨(), trivial⟩
   . obtain ⟨j, q, hd⟩ : ∃ j q, l.drop k = j :: q := ⟨l[k], _, List.drop_eq_getElem_cons (by omega)⟩
     have hpj := (hll ▸ hp : Path s l).drop (k := k) (by omega)
     rw [hd] at hpj ⊢
     obtain ⟨y, hy1, hy2, hy3⟩ := hpj.head
     have hql : q.length = n - 1 - k := by
      have := congrArg List.length hd
      rw [List.length_drop, List.length_cons] at this; omega
     have hny := h.i.nrules hy1
     have hyo := h.r.h _ _ hy1
     have hyr := Nd.rules hyo
     have hhy := Hdr.rules hyo
     have ho := inH_ok hHo k
     have hw := fun x hx => Hdr.cs_len (ho x hx)
     have hlk : l[k]? = some j := by
      have := congrArg (fun z : List Nat => z[0]?) hd
      simpa using this
     have hat : H[H.length - 1 - k]? = some y.h := by
      have := hds_at (s := s) hlk
      rw [<- hH, hln, <- hHl, Fst.hd_at hy1] at this
      exact this
     obtain ⟨z, hz⟩ : ∃ z, (inH H k)[n - 1 - k]? = some z := ⟨(inH H k)[n - 1 - k]'(by rw [inH_len _ (by omega)]; omega), by simp⟩
     have hst : wrA ((inH H k).flatMap Hdr.cs) ((n - 1 - k) * 68) y.h.cs = (inH H (k + 1)).flatMap Hdr.cs := by
      have := wrA_flat (f := Hdr.cs) (k := 0) (c := y.h.cs) (y := y.h) hw hz (by rw [hhy.1]; decide) (wrA_all (by rw [hhy.1, hw z (List.mem_of_getElem? hz)]))
      rw [<- hHl, inH_next (by omega) hat] at this
      rw [<- hHl]; exact this
     have hfl : ((inH H k).flatMap Hdr.cs).length = n * 68 := by rw [flat_len hw, inH_len _ (by omega), hHl]
     simp -dsimp +decide (disch := omega) only [vt2, v1q, ↓reduceIte, Nat.reduceSub, Nat.reduceAdd, Nat.reduceMul, Nat.reduceLT, Int.reduceAdd, Int.reduceSub, Int.reduceToNat, v2q, vft, List.head?_cons, ptrO]
     refine SemA.draw (fun i => true) [(0, true), (1, true), (2, true), (3, true), (4, true), (5, true), (6, true), (7, true), (8, true), (9, true), (10, false)] mixed (by kernel_rfl) ?_
     have hdk : l.drop (k + 1) = q := by
      have := congrArg (List.drop 1) hd
      rwa [List.drop_drop, List.drop_succ_cons, List.drop_zero] at this
     have hpw : AV.wo (fun x => decide (V.length + 1 <= x)) (ptrO y.on) = ptrO (l.drop (k + 1)).head? := by
      rw [hdk, <- hy3]
      exact ptrO_wo _ _ fun i hi => decide_eq_false (by have := h.r.on _ _ _ hy1 hi; omega)
     have hne : (inH H k).flatMap Hdr.cs ≠ [] := fun e => by rw [e] at hfl; simp at hfl; omega
     simp -dsimp +decide (disch := omega) only [vt2, v1q, ↓reduceIte, Nat.reduceSub, Nat.reduceAdd, Nat.reduceMul, Nat.reduceLT, Int.reduceAdd, Int.reduceSub, Int.reduceToNat, v2q, vft, hny, hyr, hy2, hql, hst, wt, hdrs_wo _ (inH_ok hHo (k + 1)), hpw]
     exact ⟨⟨by omega, by omega, hne⟩, ⟨hhy.1.symm, by rw [hhy.1]; decide, by rw [hhy.1, hfl]; omega, hhy.2.2.2.2.2.2.2.2.2.2.2⟩, k + 1, ⟨by omega, by omega⟩, rfl, rfl⟩
 . rintro _ g tmp -
   simp -dsimp +decide (disch := omega) only [vt2, v1q, ↓reduceIte, Nat.reduceSub, Nat.reduceAdd, Nat.reduceMul, Nat.reduceLT, Int.reduceAdd, Int.reduceSub, Int.reduceToNat, v2q, vft]
   refine Vw.pub V.length (o := .buf 28 68 (H.flatMap Hdr.cs)) (vft.2.1 _ _ _ _) rfl (hdrs_clean _) ?_
   simp -dsimp +decide (disch := omega) only [vt2, v1q, ↓reduceIte, Nat.reduceSub, Nat.reduceAdd, Nat.reduceMul, Nat.reduceLT, Int.reduceAdd, Int.reduceSub, Int.reduceToNat, v2q, vft, wt]
   exact Vw.cut ⟨by rw [AV.wo], rfl, rfl⟩
theorem flat8 (l : List UInt8) : AV.flat (.ag (List.map by8 l)) = some (hv l) := by
 show (plains (List.map by8 l)).map (fun vs => Value.agg vs.toArray) = _
 rw [show plains (List.map by8 l) = some (l.map fun b => .int .u8 (b.toNat : Int)) from plains_map' _ _]; rfl
theorem hv_inj {l m : List UInt8} (h : hv l = hv m) : l = m := by
 simp only [hv, Value.agg.injEq] at h
 have h2 := congrArg Array.toList h
 simp only [List.toList_toArray] at h2
 exact (List.map_inj_right (fun a b e => UInt8.toNat_inj.1 (by simp at e; omega))).1 h2
theorem hv_fold (y : List UInt8) : Value.agg (List.map (fun x : UInt8 => Value.int .u8 (x.toNat : Int)) y).toArray = hv y := rfl
def Fst.look (s : Fst) (id : List UInt8) : Option Nat := (s.es.find? fun e => decide (e.1 = id)).map (·.2)
open Classical in
theorem mfind_ent (l : List (List UInt8 × Nat)) (id : List UInt8) : mfind (l.map ent) (hv id) = ((l.find? fun e => decide (e.1 = id)).map (·.2)).map fun i => .ptr i 0 := by
 unfold mfind
 induction l with
 | nil => rfl
 | cons a r ih =>
   rw [List.map_cons, List.find?_cons, List.find?_cons]
   by_cases h : a.1 = id
   . simp [ent, h]
   . have h2 : ¬ (ent a).1 = hv id := fun e => h (hv_inj e)
     simp only [h, h2, decide_false]
     exact ih
theorem mapKO_ent {l : List (List UInt8 × Nat)} {id : List UInt8} (h : ∀ e ∈ l, e.1.length = 32) (hi : id.length = 32) : mapKO prog 26 (l.map ent) (hv id) = True := by
 refine eq_true ⟨_, kth.kl, kth.ky (fith hi), fun e he => ?_⟩
 obtain ⟨x, hx, rfl⟩ := List.mem_map.1 he
 exact kth.ky (fith (h x hx))
theorem Fst.look_some {s : Fst} {id : List UInt8} {i : Nat} (h : s.look id = some i) : (id, i) ∈ s.es := by
 unfold Fst.look at h
 cases he : s.es.find? fun e => decide (e.1 = id) with
 | none => rw [he] at h; cases h
 | some e =>
   rw [he] at h
   have h1 := List.find?_some he
   have h2 := List.mem_of_find?_eq_some he
   simp only [Option.map_some, Option.some.injEq] at h
   simp only [decide_eq_true_eq] at h1
   subst h1; subst h
   exact h2
theorem fchain_ok {V : Tbl} {s : Fst} (h : FW V s) {r : List Nat} (hp : Path s (s.top :: r)) (hl : r.length <= 100000) :
 CallA prog G 15 [.ptr s.f 0] (FT V s) fun v T' es => v = .vs ((hds s (s.top :: r)).flatMap Hdr.cs) (r.length + 1) /\ T' = FT V s /\ es = [] := by
 have hf := Fst.rules h.r.p
 have hi := h.i.rules
 refine CallA.eV 3 func15 ntmps15 results15 ?_
 simp -dsimp +decide only [vt2, v1q, ↓reduceIte, Nat.reduceSub, Nat.reduceAdd, Nat.reduceMul, Nat.reduceLT, Int.reduceAdd, Int.reduceSub, Int.reduceToNat, ci]
 simp -dsimp +decide (disch := omega) only [vt2, v1q, ↓reduceIte, Nat.reduceSub, Nat.reduceAdd, Nat.reduceMul, Nat.reduceLT, Int.reduceAdd, Int.reduceSub, Int.reduceToNat, v2q, vft, hf, hi]
 refine (hchain_ok h hp hl).det' ?_
 simp -dsimp +decide (disch := omega) only [vt2, v1q, ↓reduceIte, Nat.reduceSub, Nat.reduceAdd, Nat.reduceMul, Nat.reduceLT, Int.reduceAdd, Int.reduceSub, Int.reduceToNat, v2q, vft, hf, hi]
 exact Vw.done ⟨rfl, rfl, rfl⟩
theorem find_ok' {V : Tbl} {s : Fst} (h : FW V s) {id : List UInt8} (hid : id.length = 32) (hn : ∀ i, s.look id = some i -> ∃ x, s.nd i = some x) :
 CallA prog G 20 [.ptr s.f 0, .ag (id.map by8)] (FT V s) fun v T' es => v = (match (s.look id).bind s.nd with
  | none => .tu [wint 0, .p (.bool false), .p (.bool false)]
  | some x => .tu [wint (x.ht : Int), .p (.bool x.best), .p (.bool true)]) /\ T' = FT V s /\ es = [] := by
 have hf := Fst.rules h.r.p
 have hi := h.i.rules
 have wt := h.r.t' h.i h.v
 have hko := mapKO_ent h.k hid
 have hmf : mfind (s.es.map ent) (hv id) = (s.look id).map fun i => .ptr i 0 := mfind_ent _ _
 have hfl := flat8 id
 have h32 : List.take 32 (List.drop 0 id) = id := by rw [List.drop_zero, List.take_of_length_le (by omega)]
 refine CallA.eV 8 func20 ntmps20 results20 ?_
 simp -dsimp +decide only [vt2, v1q, ↓reduceIte, Nat.reduceSub, Nat.reduceAdd, Nat.reduceMul, Nat.reduceLT, Int.reduceAdd, Int.reduceSub, Int.reduceToNat, ci]
 cases hlk : s.look id with
 | none =>
   rw [hlk] at hmf
   simp -dsimp +decide (disch := omega) only [vt2, v1q, ↓reduceIte, Nat.reduceSub, Nat.reduceAdd, Nat.reduceMul, Nat.reduceLT, Int.reduceAdd, Int.reduceSub, Int.reduceToNat, v2q, vft]
   refine SemA.draw (fun i => true) [(0, true), (1, true), (2, true), (3, true), (4, true), (5, true), (6, true), (7, true), (8, true), (9, true), (10, true)] mixed (by kernel_rfl) ?_
   simp -dsimp +decide (disch := omega) only [vt2, v1q, ↓reduceIte, Nat.reduceSub, Nat.reduceAdd, Nat.reduceMul, Nat.reduceLT, Int.reduceAdd, Int.reduceSub, Int.reduceToNat, v2q, vft, hf, hi, hko, hmf, hid, vh, hfl, h32, hv_fold, kallT, bb2, Option.map_none, Option.bind_none]
   exact Vw.cut ⟨rfl, rfl, rfl⟩
 | some i =>
   obtain ⟨x, hx1⟩ := hn i hlk
   have hn := h.i.nrules hx1
   have hx := Nd.rules (h.r.h _ _ hx1)
   rw [hlk] at hmf
   simp -dsimp +decide (disch := omega) only [vt2, v1q, ↓reduceIte, Nat.reduceSub, Nat.reduceAdd, Nat.reduceMul, Nat.reduceLT, Int.reduceAdd, Int.reduceSub, Int.reduceToNat, v2q, vft]
   refine SemA.draw (fun i => true) [(0, true), (1, true), (2, true), (3, true), (4, true), (5, true), (6, true), (7, true), (8, true), (9, true), (10, true)] mixed (by kernel_rfl) ?_
   simp -dsimp +decide (disch := omega) only [vt2, v1q, ↓reduceIte, Nat.reduceSub, Nat.reduceAdd, Nat.reduceMul, Nat.reduceLT, Int.reduceAdd, Int.reduceSub, Int.reduceToNat, v2q, vft, hf, hi, hn, hx, hko, hmf, hid, vh, hfl, h32, hv_fold, kallT, bb2, Option.map_some, Option.bind_some]
   refine SemA.draw (fun i => true) [(0, true), (1, true), (2, true), (3, true), (4, true), (5, true), (6, true)] mixed (by kernel_rfl) ?_
   simp -dsimp +decide (disch := omega) only [vt2, v1q, ↓reduceIte, Nat.reduceSub, Nat.reduceAdd, Nat.reduceMul, Nat.reduceLT, Int.reduceAdd, Int.reduceSub, Int.reduceToNat, v2q, vft, hf, hi, hn, hx, hko, hmf, hid, vh, hfl, h32, hv_fold, kallT, bb2, Option.map_some, Option.bind_some]
   refine SemA.draw (fun i => true) [(0, true), (1, true), (2, true), (3, true), (4, true), (5, true), (6, true), (7, true), (8, true), (9, true), (10, true)] mixed (by kernel_rfl) ?_
   simp -dsimp +decide (disch := omega) only [vt2, v1q, ↓reduceIte, Nat.reduceSub, Nat.reduceAdd, Nat.reduceMul, Nat.reduceLT, Int.reduceAdd, Int.reduceSub, Int.reduceToNat, v2q, vft, hf, hi, hn, hx, hko, hmf, hid, vh, hfl, h32, hv_fold, kallT, bb2, Option.map_some, Option.bind_some, hx1]
   rw [Option.bind_some, hx1]
   exact Vw.cut ⟨rfl, rfl, rfl⟩
def Fst.setB (s : Fst) (l : List Nat) (b : Bool) : Fst := { s with nd := fun j => if j ∈ l then (s.nd j).map fun x => { x with best := b } else s.nd j }
theorem Fst.setB_nil (s : Fst) (b : Bool) : s.setB [] b = s := by simp [Fst.setB]
theorem Fst.setB_some {s : Fst} {l : List Nat} {b : Bool} {i : Nat} {x : Nd} (h : s.nd i = some x) : (s.setB l b).nd i = some (if i ∈ l then { x with best := b } else x) := by
 simp only [Fst.setB]
 split <;> simp [h]
theorem Fst.setB_inv {s : Fst} {l : List Nat} {b : Bool} {i : Nat} {y : Nd} (h : (s.setB l b).nd i = some y) : ∃ x, s.nd i = some x /\ y = if i ∈ l then { x with best := b } else x := by
 cases hi : s.nd i with
 | none => simp [Fst.setB, hi] at h
 | some x => rw [Fst.setB_some hi] at h; exact ⟨x, rfl, (Option.some.inj h).symm⟩
theorem Fst.setB_none {s : Fst} {l : List Nat} {b : Bool} {i : Nat} (h : s.nd i = none) : (s.setB l b).nd i = none := by simp [Fst.setB, h]
theorem Fst.setB_next {s : Fst} {l : List Nat} {b : Bool} {i : Nat} {y : Nd} (h : (s.setB l b).nd i = some y) : (s.setB l b).setN i { y with best := b } = s.setB (l ++ [i]) b := by
 obtain ⟨x, hx, hy⟩ := Fst.setB_inv h
 have : ∀ j, (if j = i then some { y with best := b } else (s.setB l b).nd j) = (s.setB (l ++ [i]) b).nd j := by
  intro j
  by_cases hj : j = i
  . subst hj
    rw [if_pos rfl, Fst.setB_some hx, if_pos (by simp), hy]
    split <;> rfl
  . rw [if_neg hj]
    simp [Fst.setB, hj]
 show Fst.mk _ _ _ _ _ _ _ _ _ _ = _
 rw [funext this]; rfl
theorem Fst.setB_in {s : Fst} {n : Nat} (h : s.In n) (l : List Nat) (b : Bool) : (s.setB l b).In n :=
 ⟨h.f, h.m, h.b, h.fm, h.fb, h.mb, Fst.setB_none h.nf, Fst.setB_none h.nm, Fst.setB_none h.nb, fun i y hy => by obtain ⟨x, hx, _⟩ := Fst.setB_inv hy; exact h.nn i x hx⟩
theorem Fst.setB_ref {s : Fst} {n : Nat} (h : s.Ref n) (l : List Nat) (b : Bool) : (s.setB l b).Ref n :=
 ⟨h.p, fun i y hy => by obtain ⟨x, hx, rfl⟩ := Fst.setB_inv hy; split <;> exact h.h i x hx, h.o, h.t, h.e, h.b, fun i y j hy hj => by
  obtain ⟨x, hx, rfl⟩ := Fst.setB_inv hy
  refine h.on i x j hx ?_
  split at hj <;> exact hj⟩
theorem FW.setB {V : Tbl} {s : Fst} (h : FW V s) (l : List Nat) (b : Bool) : FW V (s.setB l b) := ⟨Fst.setB_in h.i l b, Fst.setB_ref h.r l b, h.v, h.o, h.k, fun i y j hy hj => (by
 obtain ⟨x, hx, rfl⟩ := Fst.setB_inv hy
 obtain ⟨z, hz⟩ := h.n i x j hx (by split at hj <;> exact hj)
 exact ⟨_, Fst.setB_some hz⟩), h.l⟩
theorem Path.setB {s : Fst} (k : List Nat) (b : Bool) : ∀ {l : List Nat}, Path s l -> Path (s.setB k b) l
 | [], h => h
 | [i], ⟨x, h1, h2, h3⟩ => ⟨_, Fst.setB_some h1, by split <;> exact h2, by split <;> exact h3⟩
 | i :: j :: r, ⟨⟨x, h1, h2, h3⟩, h4⟩ => ⟨⟨_, Fst.setB_some h1, by split <;> exact h2, by split <;> exact h3⟩, Path.setB k b h4⟩
theorem ptrO_s : (∀ i, ptrO (some i) = .ptr i 0) /\ ptrO none = .p (.pointer none) := ⟨fun _ => rfl, rfl⟩
def Fst.turn (s : Fst) (lt lx : List Nat) (i : Nat) : Fst := { (s.setB lt false).setB lx true with top := i }
theorem subE_rec1 {N i : Nat} {n : Nat} (hi : i < n) {E : Eff} (h : Go.E.subE E (EF n)) : Go.E.subE (rec1 N i false E) (EF n) := by
 intro x hx
 unfold rec1 at hx
 split at hx
 . rcases List.mem_cons.1 hx with rfl | hx
   . exact EF_mem.2 ⟨hi, rfl⟩
   . exact h x hx
 . exact h x hx
theorem turn_ok {V : Tbl} {s : Fst} (h : FW V s) {rt : List Nat} (ht : Path s (s.top :: rt)) {i : Nat} {rx : List Nat} (hp : Path s (i :: rx)) :
 CallA prog G 39 [.ptr s.f 0, .ptr i 0] (FT V s) fun v T' es => v = .tu [] /\ T' = FT V (s.turn (s.top :: rt) (i :: rx) i) /\ es = EF V.length := by
 have hf := Fst.rules h.r.p
 have hi := h.i.rules
 obtain ⟨lt, hlt⟩ : ∃ l, l = s.top :: rt := ⟨_, rfl⟩
 obtain ⟨lx, hlx⟩ : ∃ l, l = i :: rx := ⟨_, rfl⟩
 rw [<- hlt] at ht ⊢
 rw [<- hlx] at hp ⊢
 have hil : i < V.length := by
  obtain ⟨x, hx⟩ := hp.all i (by rw [hlx]; simp)
  exact h.i.nn i x hx
 have hfl := h.i.f
 have w1 : ∀ k, k < V.length -> (if decide (V.length <= k) = true then AV.any else AV.ptr k 0) = AV.ptr k 0 := fun k hk => if_neg (by simp; omega)
 refine CallA.eV 6 func39 ntmps39 results39 ?_
 simp -dsimp +decide only [vt2, v1q, ↓reduceIte, Nat.reduceSub, Nat.reduceAdd, Nat.reduceMul, Nat.reduceLT, Int.reduceAdd, Int.reduceSub, Int.reduceToNat, ci]
 simp -dsimp +decide (disch := omega) only [vt2, v1q, ↓reduceIte, Nat.reduceSub, Nat.reduceAdd, Nat.reduceMul, Nat.reduceLT, Int.reduceAdd, Int.reduceSub, Int.reduceToNat, v2q, vft, hf, hi]
 refine SemA.loopK V.length (fun j : Nat => [(0, .ptr s.f 0), (1, .ptr i 0), (4, ptrO (lt.drop j).head?)]) (fun j => FT V (s.setB (lt.take j) false)) (fun j => j <= lt.length) (fun j => lt.length - j) 0 (EF V.length) 0 (fun _ : Unit => [(0, .ptr s.f 0), (1, .ptr i 0)]) (fun _ => FT V (s.setB lt false)) (fun _ => True) (by omega) (by omega) (by rw [hlt]; exact ⟨rfl, rfl, rfl, rfl⟩) (by rw [List.take_zero, Fst.setB_nil]) (by simp) ?_ ?_
 . rintro j g hj
   refine SemA.o ?_
   have wt := (Fst.setB_ref h.r (lt.take j) false).t' (h.setB (lt.take j) false).i h.v
   by_cases hjn : j = lt.length
   . have hd : lt.drop j = [] := List.drop_of_length_le (by omega)
     rw [hd, hjn, List.take_length]
     rw [hjn, List.take_length] at wt
     simp -dsimp +decide (disch := omega) only [vt2, v1q, ↓reduceIte, Nat.reduceSub, Nat.reduceAdd, Nat.reduceMul, Nat.reduceLT, Int.reduceAdd, Int.reduceSub, Int.reduceToNat, v2q, vft, List.head?_nil, ptrO_s, wt]
     exact ⟨(), w1 _ hfl, w1 _ hil⟩
   . obtain ⟨k, q, hd⟩ : ∃ k q, lt.drop j = k :: q := ⟨lt[j], _, List.drop_eq_getElem_cons (by omega)⟩
     have hpj := ((ht.setB (lt.take j) false)).drop (k := j) (by omega)
     rw [hd] at hpj ⊢
     obtain ⟨y, hy1, hy2, hy3⟩ := hpj.head
     obtain ⟨y0, hkn, -⟩ := Fst.setB_inv hy1
     have hny := (h.setB (lt.take j) false).i.nrules hy1
     have hyr := Nd.rules ((h.setB (lt.take j) false).r.h _ _ hy1)
     have hnx := Fst.setB_next hy1
     have htk : lt.take j ++ [k] = lt.take (j + 1) := by
      have hk : lt[j]? = some k := by
       have := congrArg (fun z : List Nat => z[0]?) hd
       simpa using this
      rw [List.take_add_one, hk]; rfl
     rw [htk] at hnx
     have hF := h.setB (lt.take (j + 1)) false
     have hy1' : (s.setB (lt.take (j + 1)) false).nd k = some { y with best := false } := by rw [<- hnx]; simp [Fst.setN]
     have hny' := hF.i.nrules hy1'
     have hyr' := Nd.rules (hF.r.h _ _ hy1')
     have wt' := hF.r.t' hF.i h.v
     have hdk : lt.drop (j + 1) = q := by
      have := congrArg (List.drop 1) hd
      rwa [List.drop_drop, List.drop_succ_cons, List.drop_zero] at this
     have hpw : AV.wo (fun x => decide (V.length <= x)) (ptrO y.on) = ptrO (lt.drop (j + 1)).head? := by
      rw [hdk, <- hy3]
      exact ptrO_wo _ _ fun i hi => decide_eq_false (by have := hF.r.on _ _ _ hy1' hi; omega)
     simp -dsimp +decide (disch := omega) only [vt2, v1q, ↓reduceIte, Nat.reduceSub, Nat.reduceAdd, Nat.reduceMul, Nat.reduceLT, Int.reduceAdd, Int.reduceSub, Int.reduceToNat, v2q, vft, hny, hyr, List.head?_cons, ptrO_s, hnx, hny', hyr', hpw, wt']
     exact ⟨⟨j + 1, ⟨by omega, by omega⟩, ⟨w1 _ hfl, w1 _ hil, rfl⟩, rfl⟩, subE_rec1 (h.i.nn _ _ hkn) fun x hx => hx⟩
 . rintro _ g tmp -
   have h1 := h.setB lt false
   have hp1 := hp.setB lt false
   have hi1 := h1.i.rules
   simp -dsimp +decide (disch := omega) only [vt2, v1q, ↓reduceIte, Nat.reduceSub, Nat.reduceAdd, Nat.reduceMul, Nat.reduceLT, Int.reduceAdd, Int.reduceSub, Int.reduceToNat, v2q, vft]
   refine SemA.loopK V.length (fun j : Nat => [(0, .ptr s.f 0), (1, .ptr i 0), (5, ptrO (lx.drop j).head?)]) (fun j => FT V ((s.setB lt false).setB (lx.take j) true)) (fun j => j <= lx.length) (fun j => lx.length - j) 0 (EF V.length) 2 (fun _ : Unit => [(0, .ptr s.f 0), (1, .ptr i 0)]) (fun _ => FT V ((s.setB lt false).setB lx true)) (fun _ => True) (by omega) (by omega) (by rw [hlx]; exact ⟨rfl, rfl, rfl, rfl⟩) (by rw [List.take_zero, Fst.setB_nil]) (by simp) ?_ ?_
   . rintro j g hj
     refine SemA.o ?_
     have wt := (Fst.setB_ref h1.r (lx.take j) true).t' (h1.setB (lx.take j) true).i h.v
     by_cases hjn : j = lx.length
     . have hd : lx.drop j = [] := List.drop_of_length_le (by omega)
       rw [hd, hjn, List.take_length]
       rw [hjn, List.take_length] at wt
       simp -dsimp +decide (disch := omega) only [vt2, v1q, ↓reduceIte, Nat.reduceSub, Nat.reduceAdd, Nat.reduceMul, Nat.reduceLT, Int.reduceAdd, Int.reduceSub, Int.reduceToNat, v2q, vft, List.head?_nil, ptrO_s, wt]
       exact ⟨(), w1 _ hfl, w1 _ hil⟩
     . obtain ⟨k, q, hd⟩ : ∃ k q, lx.drop j = k :: q := ⟨lx[j], _, List.drop_eq_getElem_cons (by omega)⟩
       have hpj := ((hp1.setB (lx.take j) true)).drop (k := j) (by omega)
       rw [hd] at hpj ⊢
       obtain ⟨y, hy1, hy2, hy3⟩ := hpj.head
       obtain ⟨y0, hkn, -⟩ := Fst.setB_inv hy1
       have hny := (h1.setB (lx.take j) true).i.nrules hy1
       have hyr := Nd.rules ((h1.setB (lx.take j) true).r.h _ _ hy1)
       have hnx := Fst.setB_next hy1
       have htk : lx.take j ++ [k] = lx.take (j + 1) := by
        have hk : lx[j]? = some k := by
         have := congrArg (fun z : List Nat => z[0]?) hd
         simpa using this
        rw [List.take_add_one, hk]; rfl
       rw [htk] at hnx
       have hF := h1.setB (lx.take (j + 1)) true
       have hy1' : ((s.setB lt false).setB (lx.take (j + 1)) true).nd k = some { y with best := true } := by rw [<- hnx]; simp [Fst.setN]
       have hny' := hF.i.nrules hy1'
       have hyr' := Nd.rules (hF.r.h _ _ hy1')
       have wt' := hF.r.t' hF.i h.v
       have hdk : lx.drop (j + 1) = q := by
        have := congrArg (List.drop 1) hd
        rwa [List.drop_drop, List.drop_succ_cons, List.drop_zero] at this
       have hpw : AV.wo (fun x => decide (V.length <= x)) (ptrO y.on) = ptrO (lx.drop (j + 1)).head? := by
        rw [hdk, <- hy3]
        exact ptrO_wo _ _ fun i hi => decide_eq_false (by have := hF.r.on _ _ _ hy1' hi; omega)
       simp -dsimp +decide (disch := omega) only [vt2, v1q, ↓reduceIte, Nat.reduceSub, Nat.reduceAdd, Nat.reduceMul, Nat.reduceLT, Int.reduceAdd, Int.reduceSub, Int.reduceToNat, v2q, vft, hny, hyr, List.head?_cons, ptrO_s, hnx, hny', hyr', hpw, wt']
       exact ⟨⟨j + 1, ⟨by omega, by omega⟩, ⟨w1 _ hfl, w1 _ hil, rfl⟩, rfl⟩, subE_rec1 (h1.i.nn _ _ hkn) fun x hx => hx⟩
   . rintro _ g tmp -
     have h2 := h1.setB lx true
     have g2 : (FT V ((s.setB lt false).setB lx true))[s.f]? = some (.cells 79 ((s.setB lt false).setB lx true).cs) := h2.i.gf
     have hf2 := Fst.rules h2.r.p
     have g3 : (FT V ((s.setB lt false).setB lx true)).set s.f (.cells 79 (Fst.cs { (s.setB lt false).setB lx true with top := i })) = FT V (s.turn lt lx i) := h2.i.sf (s' := s.turn lt lx i) rfl rfl
     simp -dsimp +decide (disch := omega) only [vt2, v1q, ↓reduceIte, Nat.reduceSub, Nat.reduceAdd, Nat.reduceMul, Nat.reduceLT, Int.reduceAdd, Int.reduceSub, Int.reduceToNat, v2q, vft, g2, hf2, g3]
     refine Vw.eff (E' := EF V.length) (subE_rec1 hfl fun x hx => hx) (Vw.done ⟨rfl, rfl, rfl⟩)
theorem ptrs_at {l : List Nat} {k i : Nat} (h : l[k]? = some i) : (ptrs l)[k]? = some (.ptr i 0) := by rw [ptrs, List.getElem?_map, h]; rfl
theorem ptrs_len (l : List Nat) : (ptrs l).length = l.length := by simp [ptrs]
theorem ptrs_erase (l : List Nat) (k : Nat) : (ptrs l).eraseIdx k = ptrs (l.eraseIdx k) := by
 rw [List.eraseIdx_eq_take_drop_succ, List.eraseIdx_eq_take_drop_succ, ptrs, ptrs, List.map_append, List.map_take, List.map_drop]
theorem ptrs_ptr (l : List Nat) : ∀ a ∈ ptrs l, PtrA a := fun a ha => by
 obtain ⟨i, _, rfl⟩ := List.mem_map.1 ha; exact PtrA.ptr _ _
theorem findex_ok {V : Tbl} {s : Fst} (h : s.In V.length) {n k i : Nat} (hl : s.bc.length = n) (hn6 : n <= 1000000) (hn : ∀ j ∈ s.bc, ∃ x, s.nd j = some x) (hk : s.bc[k]? = some i) (hf : ∀ j, j < k -> s.bc[j]? ≠ some i) :
 CallA prog G 83 [.sl s.b 0 n, .ptr i 0] (FT V s) fun v T' es => v = wint (k : Int) /\ T' = FT V s /\ es = [] := by
 have hi := h.rules
 refine CallA.wfs fun wf => ?_
 have wt := wf.t
 rw [FT_len] at wt
 obtain ⟨x, hx⟩ := hn i (List.mem_of_getElem? hk)
 have hnx := h.nrules hx
 have hkl := (List.getElem?_eq_some_iff.1 hk).1
 have hil := h.nn i x hx
 have hbl := h.b
 have w1 : ∀ (k o : Nat), k < V.length -> (if decide (V.length <= k) = true then AV.any else AV.ptr k o) = AV.ptr k o := fun k o hk => if_neg (by simp; omega)
 have w2 : ∀ (k o n : Nat), k < V.length -> (if decide (V.length <= k) = true then AV.any else AV.sl k o n) = AV.sl k o n := fun k o n hk => if_neg (by simp; omega)
 have hne : ptrs s.bc ≠ [] := fun e => by have := ptrs_len s.bc; rw [e] at this; simp at this; omega
 refine CallA.eV 9 func83 ntmps83 results83 ?_
 simp -dsimp +decide only [vt2, v1q, ↓reduceIte, Nat.reduceSub, Nat.reduceAdd, Nat.reduceMul, Nat.reduceLT, Int.reduceAdd, Int.reduceSub, Int.reduceToNat, ci]
 simp -dsimp +decide (disch := omega) only [vt2, v1q, ↓reduceIte, Nat.reduceSub, Nat.reduceAdd, Nat.reduceMul, Nat.reduceLT, Int.reduceAdd, Int.reduceSub, Int.reduceToNat, v2q, vft, hi]
 refine SemA.loopK V.length (fun j : Nat => [(0, .sl s.b 0 n), (1, .ptr i 0), (7, wint (n : Int)), (8, wint (j : Int))]) (fun j => FT V s) (fun j => j <= k) (fun j => n - j) 0 [] 0 (fun _ : Unit => []) (fun _ => FT V s) (fun _ => False) (by omega) (by omega) ⟨rfl, rfl, rfl, rfl, rfl⟩ rfl (by simp) ?_ ?_
 . rintro j g hj
   refine SemA.o ?_
   obtain ⟨q, hq⟩ : ∃ q, s.bc[j]? = some q := ⟨s.bc[j]'(by omega), by simp⟩
   have hpq := ptrs_at hq
   obtain ⟨y, hy⟩ := hn q (List.mem_of_getElem? hq)
   have hny := h.nrules hy
   have i1 := eq_true (show (j : Int) < (n : Int) by omega)
   by_cases hjk : j = k
   . subst hjk
     rw [hk] at hq; cases hq
     simp -dsimp +decide (disch := omega) only [vt2, v1q, ↓reduceIte, Nat.reduceSub, Nat.reduceAdd, Nat.reduceMul, Nat.reduceLT, Int.reduceAdd, Int.reduceSub, Int.reduceToNat, v2q, vft, hi, hnx, hpq, i1, hne, ccO, bb2]
     exact ⟨⟨by omega, hne⟩, Vw.done ⟨rfl, rfl, rfl⟩⟩
   . have hiq : i ≠ q := fun e => hf j (by omega) (by rw [hq, e])
     have i2 : decide (i = q /\ True) = false := decide_eq_false fun e => hiq e.1
     simp -dsimp +decide (disch := omega) only [vt2, v1q, ↓reduceIte, Nat.reduceSub, Nat.reduceAdd, Nat.reduceMul, Nat.reduceLT, Int.reduceAdd, Int.reduceSub, Int.reduceToNat, v2q, vft, hi, hnx, hny, hpq, i1, hne, ccO, bb2, hiq, wt]
     exact ⟨⟨by omega, hne⟩, j + 1, ⟨by omega, by omega⟩, w2 _ _ _ hbl, w1 _ _ hil, rfl⟩
 . rintro _ g tmp hh
   exact hh.elim
open Classical in
theorem mdel_ent (l : List (List UInt8 × Nat)) (id : List UInt8) : mdel (l.map ent) (hv id) = (l.filter fun e => decide (e.1 ≠ id)).map ent := by
 unfold mdel
 rw [List.filter_map]
 congr 1
 refine List.filter_congr fun e _ => ?_
 show (!decide (hv e.1 = hv id)) = _
 by_cases h : e.1 = id
 . simp [h]
 . have h2 : ¬ hv e.1 = hv id := fun e => h (hv_inj e)
   simp [h, h2]
def Fst.drop (s : Fst) (k : Nat) (x : Nd) (p : Nat) (y : Nd) : Fst := { s.setN p { y with kids := y.kids - 1 } with es := s.es.filter fun e => decide (e.1 ≠ x.h.id), bc := s.bc.eraseIdx k, oa := .sl s.b 0 (s.bc.length - 1) }
theorem drop_ok {V : Tbl} {s : Fst} (h : FW V s) (hn : ∀ j ∈ s.bc, ∃ x, s.nd j = some x) {k i p : Nat} {x y : Nd} (hx : s.nd i = some x) (hp : x.on = some p) (hip : i ≠ p) (hy : s.nd p = some y) (hy1 : 1 <= y.kids) (hyk : y.kids <= 1000000) (hk : s.bc[k]? = some i) (hf : ∀ j, j < k -> s.bc[j]? ≠ some i) :
 CallA prog G 42 [.ptr s.f 0, .ptr i 0] (FT V s) fun v T' es => v = .tu [] /\ T' = FT V (s.drop k x p y) /\ es = EF V.length := by
 have hfc := Fst.rules h.r.p
 have hi := h.i.rules
 have hnx := h.i.nrules hx
 have hny := h.i.nrules hy
 have hxr := Nd.rules (h.r.h _ _ hx)
 have hyr := Nd.rules (h.r.h _ _ hy)
 obtain ⟨y', hy'⟩ : ∃ y' : Nd, y' = { y with kids := y.kids - 1 } := ⟨_, rfl⟩
 have hkid : ((y.kids : Int) - 1) = ((y.kids - 1 : Nat) : Int) := by omega
 have h1 : (s.setN p y').In V.length := h.i.setN hy y'
 have hx1 : (s.setN p y').nd i = some x := by simp [Fst.setN, hip, hx]
 have hi1 := h1.rules
 have hnx1 := h1.nrules hx1
 obtain ⟨s2, hs2⟩ : ∃ s2 : Fst, s2 = { s.setN p y' with es := s.es.filter fun e => decide (e.1 ≠ x.h.id) } := ⟨_, rfl⟩
 have h2 : s2.In V.length := by rw [hs2]; exact h1.put _ _ _ _ _ _
 have e2b : s2.b = s.b := by rw [hs2]; rfl
 have e2f : s2.f = s.f := by rw [hs2]; rfl
 have e2c : s2.bc = s.bc := by rw [hs2]; rfl
 have hn2 : ∀ j ∈ s2.bc, ∃ x, s2.nd j = some x := fun j hj => by
  rw [e2c] at hj
  obtain ⟨z, hz⟩ := hn j hj
  by_cases hjp : j = p
  . exact ⟨y', by rw [hs2]; simp [Fst.setN, hjp]⟩
  . exact ⟨z, by rw [hs2]; simp [Fst.setN, hjp, hz]⟩
 refine CallA.eV 5 func42 ntmps42 results42 ?_
 simp -dsimp +decide only [vt2, v1q, ↓reduceIte, Nat.reduceSub, Nat.reduceAdd, Nat.reduceMul, Nat.reduceLT, Int.reduceAdd, Int.reduceSub, Int.reduceToNat, ci]
 simp -dsimp +decide (disch := omega) only [vt2, v1q, ↓reduceIte, Nat.reduceSub, Nat.reduceAdd, Nat.reduceMul, Nat.reduceLT, Int.reduceAdd, Int.reduceSub, Int.reduceToNat, v2q, vft, hi, hfc, hnx, hny, hxr, hyr, hp, ptrO_s, hkid, <- hy']
 have g1m : (FT V (s.setN p y'))[s.m]? = some (.map (s.es.map ent)) := h1.gm
 have g1f : (FT V (s.setN p y'))[s.f]? = some (.cells 79 s.cs) := h1.gf
 have g1s : (FT V (s.setN p y')).set s.m (.map ((s.es.filter fun e => decide (e.1 ≠ x.h.id)).map ent)) = FT V s2 := by rw [hs2]; exact h1.sm _
 have hko := mapKO_ent h.k x.h.id_len
 have hfl := flat8 x.h.id
 have h32 : List.take 32 (List.drop 0 x.h.id) = x.h.id := by rw [List.drop_zero, List.take_of_length_le (by rw [x.h.id_len]; exact Nat.le_refl _)]
 have g2f : (FT V s2)[s.f]? = some (.cells 79 s.cs) := by rw [<- e2f, h2.gf, hs2]; rfl
 have hfi := findex_ok h2 (n := s.bc.length) (k := k) (i := i) (by rw [e2c]) h.l hn2 (by rw [e2c]; exact hk) (by rw [e2c]; exact hf)
 rw [e2b] at hfi
 refine SemA.draw (fun i => true) [(0, true), (1, true), (2, true), (3, true), (4, true), (5, true), (6, true), (7, true), (8, false)] mixed (by kernel_rfl) ?_
 simp -dsimp +decide (disch := omega) only [vt2, v1q, ↓reduceIte, Nat.reduceSub, Nat.reduceAdd, Nat.reduceMul, Nat.reduceLT, Int.reduceAdd, Int.reduceSub, Int.reduceToNat, v2q, vft, g1m, g1f, g1s, hfc, hnx1, hxr, hko, hfl, h32, hv_fold, mdel_ent, kallT, g2f, h.o]
 refine hfi.det' ?_
 have hkl := (List.getElem?_eq_some_iff.1 hk).1
 have g2b : (FT V s2)[s.b]? = some (.buf 72 1 (ptrs s.bc)) := by rw [<- e2b, h2.gb, hs2]; rfl
 have hdl := delete_ok g2b (ptrs_ptr _) (n := s.bc.length) (k := k) (by rw [ptrs_len]) hkl
 obtain ⟨s3, hs3⟩ : ∃ s3 : Fst, s3 = { s2 with bc := s.bc.eraseIdx k } := ⟨_, rfl⟩
 have g3 : (FT V s2).set s.b (.buf 72 1 ((ptrs s.bc).eraseIdx k)) = FT V s3 := by rw [ptrs_erase, <- e2b, hs3]; exact h2.sb _
 rw [g3] at hdl
 have h3 : s3.In V.length := by rw [hs3]; exact h2.put _ _ _ _ _ _
 have g3f : (FT V s3)[s.f]? = some (.cells 79 s.cs) := by
  have := h3.gf
  rw [show s3.f = s.f by rw [hs3]; exact e2f] at this
  rw [this, hs3, hs2]; rfl
 have g3s : (FT V s3).set s.f (.cells 79 (Fst.cs { s with oa := .sl s.b 0 (s.bc.length - 1) })) = FT V (s.drop k x p y) := by
  have := h3.sf (s' := s.drop k x p y) (by rw [hs3, hs2, hy']; rfl) rfl
  rw [show s3.f = s.f by rw [hs3]; exact e2f] at this
  exact this
 have hk1 : (k : Int) + 1 = ((k + 1 : Nat) : Int) := by omega
 have hll := h.l
 have hk2 : IntKind.i64.wrap ((k + 1 : Nat) : Int) = ((k + 1 : Nat) : Int) := IntWalk.i64_in _ (by omega)
 simp -dsimp +decide (disch := omega) only [vt2, v1q, ↓reduceIte, Nat.reduceSub, Nat.reduceAdd, Nat.reduceMul, Nat.reduceLT, Int.reduceAdd, Int.reduceSub, Int.reduceToNat, v2q, vft, g2f, hfc, h.o, hk1, hk2]
 refine hdl.det' ?_
 simp -dsimp +decide (disch := omega) only [vt2, v1q, ↓reduceIte, Nat.reduceSub, Nat.reduceAdd, Nat.reduceMul, Nat.reduceLT, Int.reduceAdd, Int.reduceSub, Int.reduceToNat, v2q, vft, g3f, hfc, g3s]
 exact Vw.eff (E' := EF V.length) (subE_rec1 h.i.f (subE_rec1 h.i.b (subE_rec1 h.i.m (subE_rec1 (h.i.nn _ _ hy) fun x hx => by cases hx)))) (Vw.done ⟨rfl, rfl, rfl⟩)
def Fst.leaf (s : Fst) (i : Nat) : Bool := match s.nd i with
 | some x => !x.best && decide (x.kids = 0)
 | none => false
theorem leaves_ok {V : Tbl} {s : Fst} (l : Tbl) (hf : s.f < V.length) :
 CallA prog G 41 [.ptr s.f 0] (FT V s ++ l) fun v T' es => v = .fn 82 [.ptr (V.length + l.length) 0] /\ T' = FT V s ++ l ++ [.cells 32 [.ptr s.f 0]] /\ es = [] := by
 refine CallA.wfs fun wf => ?_
 have hl : (FT V s ++ l).length = V.length + l.length := by rw [List.length_append, FT_len]
 refine CallA.eV 3 func41 ntmps41 results41 ?_
 simp -dsimp +decide only [v1q, ↓reduceIte, Nat.reduceSub, Nat.reduceAdd, Nat.reduceMul, Nat.reduceLT, Int.reduceAdd, Int.reduceSub, Int.reduceToNat, ci]
 exact Vw.done ⟨by rw [FT_len], List.append_assoc _ _ _ ▸ rfl, rfl⟩
def One (Gd : Tbl -> Prop) (J : List Nat -> Tbl -> Prop) : Prop := ∀ pre T, J pre T -> pre = [] /\ Gd T
theorem liter_ok {V : Tbl} {s : Fst} (h : s.In V.length) {n j i : Nat} (ho : s.oa = .sl s.b 0 n) (hp : s.p.Ok) (hl : s.bc.length = n) (hn6 : n <= 1000000) (hn : ∀ j ∈ s.bc, ∃ x, s.nd j = some x /\ x.h.Ok /\ x.kids <= 1000000) :
 Iter (One fun T => ∃ l, T = FT V s ++ l /\ T[j]? = some (.cells 32 [.ptr s.f 0])) prog G 82 [.ptr j 0] (fun i => [.ptr i 0]) (s.bc.filter s.leaf) i := by
 intro J Jx Ei T hC hEi hJ hy
 obtain ⟨-, l, rfl, hgj⟩ := hC _ _ hJ
 have hi := h.rules
 have hfc := Fst.rules hp
 refine CallA.wfs fun wf => ?_
 have wt := wf.t
 have hsm := slots_map Ei
 have hs1 := slot1_eq Ei
 have hsi := hs1.2.2.2.2.1 i hEi
 have hne : n ≠ 0 -> ptrs s.bc ≠ [] := fun h0 e => by have := ptrs_len s.bc; rw [e] at this; simp at this; omega
 refine CallA.eV 11 func82 ntmps82 results82 ?_
 simp -dsimp +decide only [v1q, ↓reduceIte, Nat.reduceSub, Nat.reduceAdd, Nat.reduceMul, Nat.reduceLT, Int.reduceAdd, Int.reduceSub, Int.reduceToNat, ci]
 simp -dsimp +decide (disch := omega) only [v1q, ↓reduceIte, Nat.reduceSub, Nat.reduceAdd, Nat.reduceMul, Nat.reduceLT, Int.reduceAdd, Int.reduceSub, Int.reduceToNat, v2q, vft, hgj, hi, hfc, ho]
 refine SemA.loopE (fun k : Nat => [(0, .yl i), (8, .sl s.b 0 n), (9, wint (n : Int)), (10, wint (k : Int))]) (fun k => FT V s ++ l) (fun k => k <= n /\ (s.bc.take k).filter s.leaf = []) (fun k => n - k) 0 Ei 0 (fun _ : Unit => []) (fun _ => FT V s ++ l) (fun _ => s.bc.filter s.leaf = []) ⟨by omega, rfl⟩ ⟨rfl, rfl, rfl, rfl, rfl⟩ rfl (by simp) ?_ ?_
 . rintro k g ⟨hk, hkf⟩
   refine SemA.o ?_
   by_cases hkn : k = n
   . have i1 := eq_false (show ¬ (k : Int) < (n : Int) by omega)
     simp -dsimp +decide (disch := omega) only [v1q, ↓reduceIte, Nat.reduceSub, Nat.reduceAdd, Nat.reduceMul, Nat.reduceLT, Int.reduceAdd, Int.reduceSub, Int.reduceToNat, v4q, i1]
     rw [hkn, List.take_of_length_le (by omega)] at hkf
     exact ⟨(), hkf⟩
   . have i1 := eq_true (show (k : Int) < (n : Int) by omega)
     obtain ⟨q, hq⟩ : ∃ q, s.bc[k]? = some q := ⟨s.bc[k]'(by omega), by simp⟩
     obtain ⟨y, hy1, hyo, hyk⟩ := hn q (List.mem_of_getElem? hq)
     have hpq := ptrs_at hq
     have hny := h.nrules hy1
     have hyr := Nd.rules hyo
     have hne' := hne (by omega)
     have htk : s.bc.take (k + 1) = s.bc.take k ++ [q] := by rw [List.take_add_one, hq]; rfl
     have hlf : s.leaf q = (!y.best && decide (y.kids = 0)) := by rw [Fst.leaf, hy1]
     have hfq : (s.bc.take (k + 1)).filter s.leaf = if s.leaf q = true then [q] else [] := by rw [htk, List.filter_append, hkf, List.nil_append, List.filter_cons]; rfl
     have hkz : decide ((y.kids : Int) = 0) = decide (y.kids = 0) := decide_eq_decide.2 (by omega)
     cases c : s.leaf q with
     | false =>
       rw [c] at hfq hlf
       rw [if_neg (by decide)] at hfq
       cases hb : y.best with
       | true =>
         simp -dsimp +decide (disch := omega) only [v1q, ↓reduceIte, Nat.reduceSub, Nat.reduceAdd, Nat.reduceMul, Nat.reduceLT, Int.reduceAdd, Int.reduceSub, Int.reduceToNat, v4q, hi, hpq, hny, hyr, i1, hb, bb2]
         exact ⟨⟨by omega, hne'⟩, k + 1, ⟨⟨by omega, hfq⟩, by omega⟩, rfl⟩
       | false =>
         have hb2 : decide (y.kids = 0) = false := by rw [hb] at hlf; exact hlf.symm
         simp -dsimp +decide (disch := omega) only [v1q, ↓reduceIte, Nat.reduceSub, Nat.reduceAdd, Nat.reduceMul, Nat.reduceLT, Int.reduceAdd, Int.reduceSub, Int.reduceToNat, v4q, hi, hpq, hny, hyr, i1, hb, hb2, hkz, bb2]
         exact ⟨⟨by omega, hne'⟩, k + 1, ⟨⟨by omega, hfq⟩, by omega⟩, rfl⟩
     | true =>
       rw [c] at hfq hlf
       rw [if_pos rfl] at hfq
       have hb1 : y.best = false := by cases hb : y.best with | false => rfl | true => rw [hb] at hlf; cases hlf
       have hb2 : decide (y.kids = 0) = true := by rw [hb1] at hlf; exact hlf.symm
       have hpre : [] ++ [q] <+: s.bc.filter s.leaf := by
        rw [List.nil_append, <- hfq]
        exact ⟨(s.bc.drop (k + 1)).filter s.leaf, by rw [<- List.filter_append, List.take_append_drop]⟩
       simp -dsimp +decide (disch := omega) only [v1q, ↓reduceIte, Nat.reduceSub, Nat.reduceAdd, Nat.reduceMul, Nat.reduceLT, Int.reduceAdd, Int.reduceSub, Int.reduceToNat, v4q, hi, hpq, hny, hyr, i1, hb1, hb2, hkz, bb2]
       refine ⟨⟨by omega, hne'⟩, (hy [] q _ hpre hJ).mono ?_⟩
       rintro v T3 E3 ⟨rfl, ⟨rfl, hJ3⟩ | ⟨rfl, hJ3⟩⟩
       . have := (hC _ _ hJ3).1
         simp at this
       . simp -dsimp +decide (disch := omega) only [v1q, ↓reduceIte, Nat.reduceSub, Nat.reduceAdd, Nat.reduceMul, Nat.reduceLT, Int.reduceAdd, Int.reduceSub, Int.reduceToNat, v4q, hsm, hs1, hsi, subE_rec, bb2]
         exact Vw.done ⟨fun y hy => (recE_mem.1 hy).elim (fun h => h.1) fun h => h, .inr ⟨_, hpre, hJ3⟩⟩
 . rintro _ g tmp hh
   simp -dsimp +decide (disch := omega) only [v1q, ↓reduceIte, Nat.reduceSub, Nat.reduceAdd, Nat.reduceMul, Nat.reduceLT, Int.reduceAdd, Int.reduceSub, Int.reduceToNat, v4q]
   exact Vw.done ⟨fun y hy => hy, .inl (by rw [hh]; exact hJ)⟩
theorem padd_ok {T : Tbl} {x y : Nat} (hx : x < 2 ^ 256) (hy : y < 2 ^ 256) : CallA prog G 37 [.ag (Bg x), .ag (Bg y)] T fun v T' es => v = .tu [.ag (Bg ((x + y) % 2 ^ 256)), .p (.bool (decide (2 ^ 256 <= x + y)))] /\ T' = T /\ es = [] := by
 refine CallA.wfs fun wf => ?_
 have wt := wf.t
 have ez : [oQ, oQ, oQ, oQ] = Bg 0 := rfl
 have eadd : entered prog 80 = false := (by kernel_rfl)
 refine CallA.eV 11 func37 ntmps37 results37 ?_
 simp -dsimp +decide only [v1q, ↓reduceIte, Nat.reduceSub, Nat.reduceAdd, Nat.reduceMul, Nat.reduceLT, Int.reduceAdd, Int.reduceSub, Int.reduceToNat, ci]
 simp -dsimp +decide (disch := omega) only [v1q, ↓reduceIte, Nat.reduceSub, Nat.reduceAdd, Nat.reduceMul, Nat.reduceLT, Int.reduceAdd, Int.reduceSub, Int.reduceToNat, v2q, ez, vbg]
 refine SemA.loopE (fun s : Nat × Nat × UInt64 => [(2, .ptr T.length 0), (4, .ptr (T.length + 2) 0), (6, w64 s.2.2), (9, .ag (Bg y)), (10, wint (s.1 : Int))]) (fun s => T ++ [.cells 47 (Bg s.2.1), .cells 47 (Bg y), .cells 47 (Bg 0)]) (fun s => s.1 <= 4 /\ s.2.1 < 2 ^ 256 /\ s.2.2.toNat <= 1 /\ s.2.1 / 2 ^ (64 * s.1) = x / 2 ^ (64 * s.1) /\ x % 2 ^ (64 * s.1) + y % 2 ^ (64 * s.1) = s.2.1 % 2 ^ (64 * s.1) + 2 ^ (64 * s.1) * s.2.2.toNat) (fun s => 4 - s.1) (0, x, 0) [] 0 (fun c : UInt64 => [(2, .ptr T.length 0), (4, .ptr (T.length + 2) 0), (6, w64 c)]) (fun _ => T ++ [.cells 47 (Bg ((x + y) % 2 ^ 256)), .cells 47 (Bg y), .cells 47 (Bg 0)]) (fun c => c.toNat = if 2 ^ 256 <= x + y then 1 else 0) ⟨by simp, hx, by simp, rfl, by simp [Nat.mod_one]⟩ (by (simp -dsimp +decide (disch := omega) only [v1q, ↓reduceIte, Nat.reduceSub, Nat.reduceAdd, Nat.reduceMul, Nat.reduceLT, Int.reduceAdd, Int.reduceSub, Int.reduceToNat, v4q]); first | rfl | done) rfl (by simp) ?_ ?_
 . rintro ⟨k, w, c⟩ g ⟨hk, hw, hc, h1, h2⟩
   dsimp only at hk hw hc h1 h2
   refine SemA.o ?_
   simp -dsimp +decide (disch := omega) only [v1q, ↓reduceIte, Nat.reduceSub, Nat.reduceAdd, Nat.reduceMul, Nat.reduceLT, Int.reduceAdd, Int.reduceSub, Int.reduceToNat, v4q]
   refine CondP.dec (fun h => ?_) (fun h => ?_)
   . have hk4 : k < 4 := by omega
     have hgy := Bg_get y hk4
     have hgw := Bg_get w hk4
     have g0 := fun l => gn0 T (.cells 47 (Bg w)) l
     simp -dsimp +decide (disch := omega) only [v1q, ↓reduceIte, Nat.reduceSub, Nat.reduceAdd, Nat.reduceMul, Nat.reduceLT, Int.reduceAdd, Int.reduceSub, Int.reduceToNat, v2q, vbg, g0, hgy, hgw, Bg_len, eadd]
     refine ⟨⟨by omega, by omega⟩, ⟨by omega, by omega⟩, addX hc ?_⟩
     have ly : (limb y k).toNat < 2 ^ 64 := UInt64.toNat_lt _
     have lx : (limb w k).toNat < 2 ^ 64 := UInt64.toNat_lt _
     obtain ⟨r, hr⟩ : ∃ r, r = ((limb w k).toNat + (limb y k).toNat + c.toNat) % 2 ^ 64 := ⟨_, rfl⟩
     obtain ⟨d, hd⟩ : ∃ d, d = ((limb w k).toNat + (limb y k).toNat + c.toNat) / 2 ^ 64 := ⟨_, rfl⟩
     have hrl : r < 2 ^ 64 := by omega
     have hdl : d <= 1 := by rw [hd]; omega
     rw [<- hr, <- hd]
     obtain ⟨w', hw', hs, g1, g2, g3⟩ := Bg_put hw hk4 hrl
     have hs2 := hs (UInt64.ofNat r) (by rw [UInt64.toNat_ofNat', Nat.mod_eq_of_lt hrl])
     have hd2 : (UInt64.ofNat d).toNat = d := by rw [UInt64.toNat_ofNat', Nat.mod_eq_of_lt (by omega)]
     simp -dsimp +decide (disch := omega) only [v1q, ↓reduceIte, Nat.reduceSub, Nat.reduceAdd, Nat.reduceMul, Nat.reduceLT, Int.reduceAdd, Int.reduceSub, Int.reduceToNat, v2q, vbg, g0, hs2, Bg_len]
     refine ⟨⟨by omega, by omega⟩, by omega, (k + 1, w', UInt64.ofNat d), ⟨⟨by dsimp only; omega, hw', by dsimp only; omega, ?_, ?_⟩, by dsimp only; omega⟩, ⟨rfl, rfl⟩, rfl⟩
     . dsimp only
       rw [g3]
       have := div_next w k
       have := div_next x k
       omega
     . dsimp only
       have hx2 := mod_next x k
       have hy2 := mod_next y k
       have hw2 := mod_next w' k
       have e1 : x / 2 ^ (64 * k) % 2 ^ 64 = w / 2 ^ (64 * k) % 2 ^ 64 := by rw [h1]
       rw [limb_nat] at hr hd lx ly
       rw [limb_nat] at hr hd
       rw [hx2, hy2, hw2, g1, g2, e1, hd2]
       have e2 : w / 2 ^ (64 * k) % 2 ^ 64 + (y / 2 ^ (64 * k) % 2 ^ 64 + c.toNat) = r + 2 ^ 64 * d := by omega
       have e3 : 2 ^ (64 * (k + 1)) * d = 2 ^ (64 * k) * (2 ^ 64 * d) := by rw [Nat.mul_add, Nat.mul_one, Nat.pow_add, Nat.mul_assoc]
       have e4 : 2 ^ (64 * k) * (w / 2 ^ (64 * k) % 2 ^ 64 + (y / 2 ^ (64 * k) % 2 ^ 64 + c.toNat)) = 2 ^ (64 * k) * (r + 2 ^ 64 * d) := by rw [e2]
       rw [Nat.mul_add, Nat.mul_add, Nat.mul_add] at e4
       rw [e3]
       omega
   . have e : k = 4 := by omega
     subst e
     simp -dsimp +decide (disch := omega) only [v1q, ↓reduceIte, Nat.reduceSub, Nat.reduceAdd, Nat.reduceMul, Nat.reduceLT, Int.reduceAdd, Int.reduceSub, Int.reduceToNat, v2q, vbg]
     simp only [Nat.reduceMul] at h1 h2
     refine ⟨c, ?_, rfl, ?_⟩
     . split <;> omega
     . have : w = (x + y) % 2 ^ 256 := by omega
       rw [this]
 . rintro c g tmp hc
   have hb : (!decide ((c.toNat : Int) = 0)) = decide (2 ^ 256 <= x + y) := by
    by_cases h : 2 ^ 256 <= x + y
    . rw [if_pos h] at hc; rw [hc]; simp [h]
    . rw [if_neg h] at hc; rw [hc]; simp [h]
   simp -dsimp +decide (disch := omega) only [v1q, ↓reduceIte, Nat.reduceSub, Nat.reduceAdd, Nat.reduceMul, Nat.reduceLT, Int.reduceAdd, Int.reduceSub, Int.reduceToNat, v2q, vbg, vres, vone, hb]
   exact Vw.cut ⟨by rw [AV.wo, AV.woL_eq]; simp only [List.map_cons, List.map_nil, AV.wo, AV.woL_eq, Bg_wo], rfl, rfl⟩
theorem Bg_inc {z : Nat} (h : z + 1 < 2 ^ 256) (he : z % 2 = 0) : (Bg z).set 0 (.p (.int .u64 ((limb z 0 + UInt64.ofInt 1).toNat : Int))) = Bg (z + 1) := by
 refine Bg_set (by decide) (UInt64.toNat_inj.1 ?_) fun i hi hn => UInt64.toNat_inj.1 ?_
 . rw [UInt64.toNat_add, limb_nat, limb_nat, show (UInt64.ofInt 1).toNat = 1 from rfl]; simp only [Nat.mul_zero, Nat.pow_zero, Nat.div_one]; omega
 . rw [limb_nat, limb_nat]
   match i, hi with
   | 0, _ => exact absurd rfl hn
   | 1, _ => simp only [Nat.mul_one]; omega
   | 2, _ => simp only [Nat.reduceMul]; omega
   | 3, _ => simp only [Nat.reduceMul]; omega
theorem pup_neg {T : Tbl} {x : Nat} {n : Int} (hn : n <= 0) : CallA prog G 98 [.ag (Bg x), wint n] T fun v T' es => v = .ag (Bg x) /\ T' = T /\ es = [] := by
 refine CallA.wfs fun wf => ?_
 have wt := wf.t
 have i1 := eq_true hn
 have ez : [oQ, oQ, oQ, oQ] = Bg 0 := rfl
 refine CallA.eV 6 func98 ntmps98 results98 ?_
 simp -dsimp +decide only [v1q, ↓reduceIte, Nat.reduceSub, Nat.reduceAdd, Nat.reduceMul, Nat.reduceLT, Int.reduceAdd, Int.reduceSub, Int.reduceToNat, ci]
 simp -dsimp +decide (disch := omega) only [v1q, ↓reduceIte, Nat.reduceSub, Nat.reduceAdd, Nat.reduceMul, Nat.reduceLT, Int.reduceAdd, Int.reduceSub, Int.reduceToNat, v2q, ez, vbg, i1]
 exact Vw.cut ⟨by rw [AV.wo, AV.woL_eq, Bg_wo], rfl, rfl⟩
theorem blen_lt (x : Nat) : x < 2 ^ blen x := (blen_is x).1
theorem blen_ge {x : Nat} (h : x ≠ 0) : 2 ^ (blen x - 1) <= x := by
 unfold blen
 rw [if_neg h, Nat.add_sub_cancel]
 exact Nat.log2_self_le h
theorem halfdiv (x M : Nat) (hM : 0 < M) : x / M = 2 * (x / (2 * M)) + (if M <= x % (2 * M) then 1 else 0) /\ x % M = x % (2 * M) - (if M <= x % (2 * M) then M else 0) := by
 have h1 := Nat.div_add_mod x (2 * M)
 have h2 := Nat.mod_lt x (show 0 < 2 * M by omega)
 generalize x / (2 * M) = q at *
 generalize x % (2 * M) = r at *
 subst h1
 split
 . rename_i h
   have e : 2 * M * q + r = (r - M) + M * (2 * q + 1) := by rw [Nat.mul_add, Nat.mul_one, Nat.mul_comm 2 M, Nat.mul_assoc]; omega
   rw [e, Nat.add_mul_div_left _ _ hM, Nat.add_mul_mod_self_left, Nat.div_eq_of_lt (by omega), Nat.mod_eq_of_lt (by omega)]
   omega
 . rename_i h
   have e : 2 * M * q + r = r + M * (2 * q) := by rw [Nat.mul_comm 2 M, Nat.mul_assoc]; omega
   rw [e, Nat.add_mul_div_left _ _ hM, Nat.add_mul_mod_self_left, Nat.div_eq_of_lt (by omega), Nat.mod_eq_of_lt (by omega)]
   omega
def dq (x y N k : Nat) : Nat := x / (y * 2 ^ (N + 1 - k))
def dr (x y N k : Nat) : Nat := x % (y * 2 ^ (N + 1 - k))
def dp (y N k : Nat) : Nat := y * 2 ^ (N + 1 - k) / 2
theorem pdiv_ok {T : Tbl} {x y : Nat} (hx : x < 2 ^ 256) (hy : y < 2 ^ 256) (h0 : 0 < y) : CallA prog G 102 [.ag (Bg x), .ag (Bg y)] T fun v T' es => v = .tu [.ag (Bg (x / y)), .ag (Bg (x % y)), .p (.int .i64 0)] /\ T' = T /\ es = [] := by
 refine CallA.wfs fun wf => ?_
 have wt := wf.t
 have ez : [oQ, oQ, oQ, oQ] = Bg 0 := rfl
 have hne : (y = 0) = False := by simp; omega
 have hbx : blen x <= 256 := blen_le hx
 have hby : blen y <= 256 := blen_le hy
 have g0 := fun l => gn0 T (.cells 47 (Bg x)) l
 have g1 := fun a l => gn1 T a (.cells 47 (Bg y)) l
 obtain ⟨n, hn⟩ : ∃ n : Int, n = (blen x : Int) - (blen y : Int) := ⟨_, rfl⟩
 have hnw : IntKind.i64.wrap n = n := IntWalk.i64_in _ (by omega)
 refine CallA.eV 27 func102 ntmps102 results102 ?_
 simp -dsimp +decide only [vt2, v1q, ↓reduceIte, Nat.reduceSub, Nat.reduceAdd, Nat.reduceMul, Nat.reduceLT, Int.reduceAdd, Int.reduceSub, Int.reduceToNat, ci]
 simp -dsimp +decide (disch := omega) only [vt2, v1q, ↓reduceIte, Nat.reduceSub, Nat.reduceAdd, Nat.reduceMul, Nat.reduceLT, Int.reduceAdd, Int.reduceSub, Int.reduceToNat, v2q, vbg, ez, eqB hy (show 0 < 2 ^ 256 by decide), hne, g0, g1]
 refine SemA.draw (fun i => true) [(0, true), (2, true), (1, false), (3, false), (4, true), (5, true)] mixed (by kernel_rfl) ?_
 simp -dsimp +decide (disch := omega) only [vt2, v1q, ↓reduceIte, Nat.reduceSub, Nat.reduceAdd, Nat.reduceMul, Nat.reduceLT, Int.reduceAdd, Int.reduceSub, Int.reduceToNat, v2q, vbg, g0, g1, kallT]
 refine (pbits_ok hx).det' ?_
 simp -dsimp +decide (disch := omega) only [vt2, v1q, ↓reduceIte, Nat.reduceSub, Nat.reduceAdd, Nat.reduceMul, Nat.reduceLT, Int.reduceAdd, Int.reduceSub, Int.reduceToNat, v2q, vbg, g0, g1, kallT]
 refine (pbits_ok hy).det' ?_
 simp -dsimp +decide (disch := omega) only [vt2, v1q, ↓reduceIte, Nat.reduceSub, Nat.reduceAdd, Nat.reduceMul, Nat.reduceLT, Int.reduceAdd, Int.reduceSub, Int.reduceToNat, v2q, vbg, g0, g1, kallT, <- hn, hnw]
 by_cases hneg : n < 0
 . have hxy : x < y := by
    have h1 := blen_lt x
    have h2 := blen_ge (x := y) (by omega)
    exact Nat.lt_of_lt_of_le h1 (Nat.le_trans (Nat.pow_le_pow_right (by decide) (by omega)) h2)
   refine (pup_neg (by omega)).det' ?_
   have hn1w : IntKind.i64.wrap (n + 1) = n + 1 := IntWalk.i64_in _ (by omega)
   have i1 := eq_false (show ¬ (0 : Int) < n + 1 by omega)
   simp -dsimp +decide (disch := omega) only [vt2, v1q, ↓reduceIte, Nat.reduceSub, Nat.reduceAdd, Nat.reduceMul, Nat.reduceLT, Int.reduceAdd, Int.reduceSub, Int.reduceToNat, v2q, vbg, g0, g1, kallT, hn1w]
   refine SemA.loopK (T.length + 5) (fun _ : Unit => [(2, .ptr T.length 0), (4, .ptr (T.length + 2) 0), (5, .ptr (T.length + 3) 0), (25, wint (n + 1)), (26, wint 0)]) (fun _ => T ++ [.cells 47 (Bg x), .cells 47 (Bg y), .cells 47 (Bg 0), .cells 47 (Bg 0), .cells 47 (Bg y)]) (fun _ => True) (fun _ => 0) () [] 0 (fun _ : Unit => [(2, .ptr T.length 0), (4, .ptr (T.length + 2) 0), (5, .ptr (T.length + 3) 0)]) (fun _ => T ++ [.cells 47 (Bg x), .cells 47 (Bg y), .cells 47 (Bg 0), .cells 47 (Bg 0), .cells 47 (Bg y)]) (fun _ => True) (by omega) trivial (by (simp -dsimp +decide (disch := omega) only [vt2, v1q, ↓reduceIte, Nat.reduceSub, Nat.reduceAdd, Nat.reduceMul, Nat.reduceLT, Int.reduceAdd, Int.reduceSub, Int.reduceToNat, v4q]); first | rfl | exact ⟨rfl, rfl, rfl, rfl, rfl, rfl⟩ | done) rfl (by simp) ?_ ?_
   . rintro _ g -
     refine SemA.o ?_
     simp -dsimp +decide (disch := omega) only [vt2, v1q, ↓reduceIte, Nat.reduceSub, Nat.reduceAdd, Nat.reduceMul, Nat.reduceLT, Int.reduceAdd, Int.reduceSub, Int.reduceToNat, v2q, i1, wt, vbg, ez]
     exact ⟨(), trivial⟩
   . rintro _ g tmp -
     simp -dsimp +decide (disch := omega) only [vt2, v1q, ↓reduceIte, Nat.reduceSub, Nat.reduceAdd, Nat.reduceMul, Nat.reduceLT, Int.reduceAdd, Int.reduceSub, Int.reduceToNat, v2q, vbg]
     refine SemA.draw (fun i => decide (i < T.length + 2)) [(1, true), (0, false), (2, false), (3, false), (4, true)] mixed (by kernel_rfl) ?_
     simp -dsimp +decide (disch := omega) only [vt2, v1q, ↓reduceIte, Nat.reduceSub, Nat.reduceAdd, Nat.reduceMul, Nat.reduceLT, Int.reduceAdd, Int.reduceSub, Int.reduceToNat, v2q, vbg, vres, vone, keep_app]
     exact ⟨.inl (by simp), .inl (by simp), Vw.cut ⟨by simp only [AV.wo, AV.woL, AV.woL_eq, Bg_wo, Nat.div_eq_of_lt hxy, Nat.mod_eq_of_lt hxy], rfl, rfl⟩⟩
 obtain ⟨N, rfl⟩ : ∃ N : Nat, n = (N : Int) := ⟨n.toNat, by omega⟩
 have hN : blen x = N + blen y := by omega
 have hpN : y * 2 ^ N < 2 ^ 256 := by
  have h1 := Nat.mul_lt_mul_of_pos_right (blen_lt y) (Nat.two_pow_pos N)
  rw [<- Nat.pow_add] at h1
  exact Nat.lt_of_lt_of_le h1 (Nat.pow_le_pow_right (by decide) (by omega))
 have hx0 : x < y * 2 ^ (N + 1) := by
  have h1 := blen_lt x
  have h2 := Nat.mul_le_mul_right (2 ^ (N + 1)) (blen_ge (x := y) (by omega))
  rw [<- Nat.pow_add] at h2
  have hy1 : 1 <= blen y := by
   have := blen_lt y
   rcases Nat.eq_zero_or_pos (blen y) with h | h
   . rw [h] at this; omega
   . exact h
  exact Nat.lt_of_lt_of_le h1 (Nat.le_trans (Nat.pow_le_pow_right (by decide) (by omega)) h2)
 refine (pup_ok hy (by omega)).det' ?_
 have hn1w : IntKind.i64.wrap ((N : Int) + 1) = (N : Int) + 1 := IntWalk.i64_in _ (by omega)
 rw [Nat.mod_eq_of_lt hpN]
 simp -dsimp +decide (disch := omega) only [vt2, v1q, ↓reduceIte, Nat.reduceSub, Nat.reduceAdd, Nat.reduceMul, Nat.reduceLT, Int.reduceAdd, Int.reduceSub, Int.reduceToNat, v2q, vbg, g0, g1, kallT, hn1w]
 refine SemA.loopK (T.length + 5) (fun k : Nat => [(2, .ptr T.length 0), (4, .ptr (T.length + 2) 0), (5, .ptr (T.length + 3) 0), (8, .ptr (T.length + 4) 0), (25, wint ((N : Int) + 1)), (26, wint (k : Int))]) (fun k => T ++ [.cells 47 (Bg (dr x y N k)), .cells 47 (Bg y), .cells 47 (Bg (dq x y N k)), .cells 47 (Bg 0), .cells 47 (Bg (dp y N k))]) (fun k => k <= N + 1) (fun k => N + 1 - k) 0 [] 0 (fun _ : Unit => [(2, .ptr T.length 0), (4, .ptr (T.length + 2) 0), (5, .ptr (T.length + 3) 0)]) (fun _ => T ++ [.cells 47 (Bg (x % y)), .cells 47 (Bg y), .cells 47 (Bg (x / y)), .cells 47 (Bg 0), .cells 47 (Bg (dp y N (N + 1)))]) (fun _ => True) (by omega) (by omega) (by (simp -dsimp +decide (disch := omega) only [vt2, v1q, ↓reduceIte, Nat.reduceSub, Nat.reduceAdd, Nat.reduceMul, Nat.reduceLT, Int.reduceAdd, Int.reduceSub, Int.reduceToNat, v4q]); first | rfl | exact ⟨rfl, rfl, rfl, rfl, rfl, rfl, rfl⟩ | done) ?_ (by simp) ?_ ?_
 . rw [ez, wrA_all (by rw [Bg_len, Bg_len]), dr, dq, dp, Nat.sub_zero, Nat.mod_eq_of_lt hx0, Nat.div_eq_of_lt hx0, Nat.pow_succ, <- Nat.mul_assoc, Nat.mul_div_cancel _ (by decide)]
 . rintro k g hk
   refine SemA.o ?_
   by_cases hkn : k = N + 1
   . have i1 := eq_false (show ¬ (k : Int) < (N : Int) + 1 by omega)
     have e1 : dr x y N k = x % y := by rw [dr, hkn, Nat.sub_self, Nat.pow_zero, Nat.mul_one]
     have e2 : dq x y N k = x / y := by rw [dq, hkn, Nat.sub_self, Nat.pow_zero, Nat.mul_one]
     rw [e1, e2, hkn]
     rw [hkn] at i1
     simp -dsimp +decide (disch := omega) only [vt2, v1q, ↓reduceIte, Nat.reduceSub, Nat.reduceAdd, Nat.reduceMul, Nat.reduceLT, Int.reduceAdd, Int.reduceSub, Int.reduceToNat, v2q, i1, wt, vbg, ez]
     exact ⟨(), trivial⟩
   . have i1 := eq_true (show (k : Int) < (N : Int) + 1 by omega)
     obtain ⟨M, hM⟩ : ∃ M, M = y * 2 ^ (N - k) := ⟨_, rfl⟩
     have hM0 : 0 < M := by rw [hM]; exact Nat.mul_pos h0 (Nat.two_pow_pos _)
     have hM2 : y * 2 ^ (N + 1 - k) = 2 * M := by rw [hM, show N + 1 - k = N - k + 1 by omega, Nat.pow_succ]; rw [<- Nat.mul_assoc, Nat.mul_comm]
     have hMl : M < 2 ^ 256 := Nat.lt_of_le_of_lt (by rw [hM]; exact Nat.mul_le_mul_left _ (Nat.pow_le_pow_right (by decide) (by omega))) hpN
     obtain ⟨d1, d2⟩ := halfdiv x M hM0
     have er : dr x y N k = x % (2 * M) := by rw [dr, hM2]
     have eq : dq x y N k = x / (2 * M) := by rw [dq, hM2]
     have ep : dp y N k = M := by rw [dp, hM2, Nat.mul_div_cancel_left _ (by decide)]
     have er' : dr x y N (k + 1) = x % M := by rw [dr, show N + 1 - (k + 1) = N - k by omega, <- hM]
     have eq' : dq x y N (k + 1) = x / M := by rw [dq, show N + 1 - (k + 1) = N - k by omega, <- hM]
     have ep' : dp y N (k + 1) = M / 2 ^ 1 := by rw [dp, show N + 1 - (k + 1) = N - k by omega, <- hM]
     obtain ⟨R, hR⟩ : ∃ R, R = x % (2 * M) := ⟨_, rfl⟩
     obtain ⟨Q, hQ⟩ : ∃ Q, Q = x / (2 * M) := ⟨_, rfl⟩
     have hRl : R < 2 ^ 256 := Nat.lt_of_le_of_lt (by rw [hR]; exact Nat.mod_le _ _) hx
     have hQl : Q < 2 ^ 256 := Nat.lt_of_le_of_lt (by rw [hQ]; exact Nat.div_le_self _ _) hx
     have hxM : x / M < 2 ^ 256 := Nat.lt_of_le_of_lt (Nat.div_le_self _ _) hx
     rw [er, eq, ep, <- hR, <- hQ]
     rw [<- hR, <- hQ] at d1
     rw [<- hR] at d2
     have hk1w : IntKind.i64.wrap ((k : Int) + 1) = ((k + 1 : Nat) : Int) := IntWalk.i64_in _ (by omega)
     have hQ2 : Q * 2 ^ 1 % 2 ^ 256 = 2 * Q := by
      rw [Nat.pow_one, Nat.mul_comm, Nat.mod_eq_of_lt]
      split at d1 <;> omega
     simp -dsimp +decide (disch := omega) only [vt2, v1q, ↓reduceIte, Nat.reduceSub, Nat.reduceAdd, Nat.reduceMul, Nat.reduceLT, Int.reduceAdd, Int.reduceSub, Int.reduceToNat, v2q, i1, wt, vbg, ez]
     have hup := fun (T : Tbl) => pup_ok (T := T) hQl (n := 1) (by omega)
     rw [hQ2] at hup
     refine (hup _).det' ?_
     simp -dsimp +decide (disch := omega) only [vt2, v1q, ↓reduceIte, Nat.reduceSub, Nat.reduceAdd, Nat.reduceMul, Nat.reduceLT, Int.reduceAdd, Int.reduceSub, Int.reduceToNat, v2q, i1, wt, vbg, ez]
     refine (psub_ok hRl hMl).det' ?_
     by_cases hc : R < M
     . rw [if_neg (by omega)] at d1 d2
       have i2 := decide_eq_true hc
       simp -dsimp +decide (disch := omega) only [vt2, v1q, ↓reduceIte, Nat.reduceSub, Nat.reduceAdd, Nat.reduceMul, Nat.reduceLT, Int.reduceAdd, Int.reduceSub, Int.reduceToNat, v2q, i2, wt, vbg, ez, bb2]
       refine (pdown_ok hMl (n := 1) (by omega)).det' ?_
       simp -dsimp +decide (disch := omega) only [vt2, v1q, ↓reduceIte, Nat.reduceSub, Nat.reduceAdd, Nat.reduceMul, Nat.reduceLT, Int.reduceAdd, Int.reduceSub, Int.reduceToNat, v2q, i2, wt, vbg, ez, bb2, hk1w]
       exact ⟨k + 1, ⟨by omega, by omega⟩, rfl, by simp only [er', eq', ep', d1, d2, Nat.add_zero, Nat.sub_zero]⟩
     . rw [if_pos (by omega)] at d1 d2
       have i2 := decide_eq_false hc
       have hs : (R + 2 ^ 256 - M) % 2 ^ 256 = R - M := by
        rw [show R + 2 ^ 256 - M = R - M + 2 ^ 256 by omega, Nat.add_mod_right, Nat.mod_eq_of_lt (by omega)]
       have hinc := Bg_inc (z := 2 * Q) (by omega) (by omega)
       have hg := Bg_get (2 * Q) (j := 0) (by decide)
       rw [hs]
       simp -dsimp +decide (disch := omega) only [vt2, v1q, ↓reduceIte, Nat.reduceSub, Nat.reduceAdd, Nat.reduceMul, Nat.reduceLT, Int.reduceAdd, Int.reduceSub, Int.reduceToNat, v2q, i2, wt, vbg, ez, bb2, hg, hinc]
       refine (pdown_ok hMl (n := 1) (by omega)).det' ?_
       simp -dsimp +decide (disch := omega) only [vt2, v1q, ↓reduceIte, Nat.reduceSub, Nat.reduceAdd, Nat.reduceMul, Nat.reduceLT, Int.reduceAdd, Int.reduceSub, Int.reduceToNat, v2q, i2, wt, vbg, ez, bb2, hk1w]
       exact ⟨k + 1, ⟨by omega, by omega⟩, rfl, by simp only [er', eq', ep', d1, d2, Nat.add_zero, Nat.sub_zero]⟩
 . rintro _ g tmp -
   simp -dsimp +decide (disch := omega) only [vt2, v1q, ↓reduceIte, Nat.reduceSub, Nat.reduceAdd, Nat.reduceMul, Nat.reduceLT, Int.reduceAdd, Int.reduceSub, Int.reduceToNat, v2q, vbg]
   refine SemA.draw (fun i => decide (i < T.length + 2)) [(1, true), (0, false), (2, false), (3, false), (4, true)] mixed (by kernel_rfl) ?_
   simp -dsimp +decide (disch := omega) only [vt2, v1q, ↓reduceIte, Nat.reduceSub, Nat.reduceAdd, Nat.reduceMul, Nat.reduceLT, Int.reduceAdd, Int.reduceSub, Int.reduceToNat, v2q, vbg, vres, vone, keep_app]
   exact ⟨.inl (by simp), .inl (by simp), Vw.cut ⟨by simp only [AV.wo, AV.woL, AV.woL_eq, Bg_wo], rfl, rfl⟩⟩
def wkT (t : Nat) : Nat := if t = 0 then 2 ^ 256 - 1 else if t + 1 = 2 ^ 256 then 1 else 2 ^ 256 / (t + 1)
theorem wkT_lt (t : Nat) : wkT t < 2 ^ 256 := by
 unfold wkT
 split
 . decide
 . split
   . decide
   . exact Nat.div_lt_self (by decide) (by omega)
theorem wk_div {d : Nat} (h : 0 < d) (hd : d <= 2 ^ 256) : (2 ^ 256 - d) / d + 1 = 2 ^ 256 / d := by
 conv => rhs; rw [show (2 : Nat) ^ 256 = 2 ^ 256 - d + d by omega]
 rw [Nat.add_div_right _ h]
theorem un_xor64 {P : Program} {x : UInt64} {KA : AV -> Prop} {KV : Value -> Prop} (h : KA (.p (.int .u64 ((~~~x).toNat : Int)))) : unV .xor (.int .u64 (x.toNat : Int)) (pureK P KA) KV := by
 refine ⟨.int .u64 ((~~~x).toNat : Int), fun w _ => ?_, h⟩
 have e : IntKind.u64.wrap ((BitVec.ofInt IntKind.u64.bits IntKind.u64.max ^^^ BitVec.ofInt IntKind.u64.bits (x.toNat : Int)).toNat : Int) = ((~~~x).toNat : Int) := by
  rw [Go.E.u64_wrap, Go.E.u64_xor, Go.E.u64_self]
  have : UInt64.ofInt IntKind.u64.max ^^^ x = ~~~x := by
   rw [show UInt64.ofInt IntKind.u64.max = ~~~(0 : UInt64) from rfl]
   apply UInt64.eq_of_toBitVec_eq
   ext i
   simp
  rw [this]
 show (pure (Value.int .u64 (IntKind.u64.wrap ((BitVec.ofInt IntKind.u64.bits IntKind.u64.max ^^^ BitVec.ofInt IntKind.u64.bits (x.toNat : Int)).toNat : Int))) : Sem Value).run P w = _
 rw [e]; rfl
theorem work03_ok {T : Tbl} {t : Nat} (ht : t < 2 ^ 256) : CallA prog G 48 [.ag (Bg t)] T fun v T' es => v = .ag (Bg (wkT t)) /\ T' = T /\ es = [] := by
 refine CallA.wfs fun wf => ?_
 have wt := wf.t
 have ez : [oQ, oQ, oQ, oQ] = Bg 0 := rfl
 have e1 : (UInt64.ofInt 1).toNat = 1 := rfl
 have o1 : (1 : Nat) < 2 ^ 256 := by decide
 have o0 : (0 : Nat) < 2 ^ 256 := by decide
 have g2 := fun a b l => gn2 T a b (.cells 47 (Bg 0)) l
 refine CallA.eV 16 func48 ntmps48 results48 ?_
 simp -dsimp +decide only [vt2, v1q, ↓reduceIte, Nat.reduceSub, Nat.reduceAdd, Nat.reduceMul, Nat.reduceLT, Int.reduceAdd, Int.reduceSub, Int.reduceToNat, ci]
 simp -dsimp +decide (disch := omega) only [vt2, v1q, ↓reduceIte, Nat.reduceSub, Nat.reduceAdd, Nat.reduceMul, Nat.reduceLT, Int.reduceAdd, Int.reduceSub, Int.reduceToNat, v2q, ez, vbg]
 refine (of02_ok (n := 1)).det' ?_
 rw [show (1 : UInt64).toNat = 1 from rfl]
 by_cases c0 : t = 0
 . have i0 := eq_true c0
   simp -dsimp +decide (disch := omega) only [vt2, v1q, ↓reduceIte, Nat.reduceSub, Nat.reduceAdd, Nat.reduceMul, Nat.reduceLT, Int.reduceAdd, Int.reduceSub, Int.reduceToNat, v2q, ez, vbg, eqB ht o0, i0]
   refine (sub02_ok o0 o1).det' ?_
   simp -dsimp +decide (disch := omega) only [vt2, v1q, ↓reduceIte, Nat.reduceSub, Nat.reduceAdd, Nat.reduceMul, Nat.reduceLT, Int.reduceAdd, Int.reduceSub, Int.reduceToNat, v2q, ez, vbg, i0]
   exact Vw.cut ⟨by rw [AV.wo, AV.woL_eq, Bg_wo, wkT, if_pos c0], rfl, rfl⟩
 have i0 := eq_false c0
 simp -dsimp +decide (disch := omega) only [vt2, v1q, ↓reduceIte, Nat.reduceSub, Nat.reduceAdd, Nat.reduceMul, Nat.reduceLT, Int.reduceAdd, Int.reduceSub, Int.reduceToNat, v2q, ez, vbg, eqB ht o0, i0]
 refine (add02_ok ht o1).det' ?_
 by_cases c1 : 2 ^ 256 <= t + 1
 . have i1 := decide_eq_true c1
   simp -dsimp +decide (disch := omega) only [vt2, v1q, ↓reduceIte, Nat.reduceSub, Nat.reduceAdd, Nat.reduceMul, Nat.reduceLT, Int.reduceAdd, Int.reduceSub, Int.reduceToNat, v2q, ez, vbg, i1]
   exact Vw.cut ⟨by rw [AV.wo, AV.woL_eq, Bg_wo, wkT, if_neg c0, if_pos (by omega)], rfl, rfl⟩
 have i1 := decide_eq_false c1
 obtain ⟨d, hd⟩ : ∃ d, d = t + 1 := ⟨_, rfl⟩
 have hd2 : (t + 1) % 2 ^ 256 = d := by rw [hd, Nat.mod_eq_of_lt (by omega)]
 have hdl : d < 2 ^ 256 := by omega
 rw [hd2]
 simp -dsimp +decide (disch := omega) only [vt2, v1q, ↓reduceIte, Nat.reduceSub, Nat.reduceAdd, Nat.reduceMul, Nat.reduceLT, Int.reduceAdd, Int.reduceSub, Int.reduceToNat, v2q, ez, vbg, i1]
 refine (sub02_ok o0 hdl).det' ?_
 have hs : (0 + 2 ^ 256 - d) % 2 ^ 256 = 2 ^ 256 - d := by rw [Nat.zero_add, Nat.mod_eq_of_lt (by omega)]
 rw [hs]
 simp -dsimp +decide (disch := omega) only [vt2, v1q, ↓reduceIte, Nat.reduceSub, Nat.reduceAdd, Nat.reduceMul, Nat.reduceLT, Int.reduceAdd, Int.reduceSub, Int.reduceToNat, v2q, ez, vbg]
 refine (div02_ok (show 2 ^ 256 - d < 2 ^ 256 by omega) hdl (by omega)).det' ?_
 simp -dsimp +decide (disch := omega) only [vt2, v1q, ↓reduceIte, Nat.reduceSub, Nat.reduceAdd, Nat.reduceMul, Nat.reduceLT, Int.reduceAdd, Int.reduceSub, Int.reduceToNat, v2q, ez, vbg]
 have hq : (2 ^ 256 - d) / d < 2 ^ 256 := Nat.lt_of_le_of_lt (Nat.div_le_self _ _) (by omega)
 refine (add02_ok hq o1).det' ?_
 have hw : ((2 ^ 256 - d) / d + 1) % 2 ^ 256 = wkT t := by
  have := wkT_lt t
  rw [wk_div (by omega) (by omega)]
  unfold wkT at this ⊢
  rw [if_neg c0, if_neg (by omega)] at this ⊢
  rw [hd, Nat.mod_eq_of_lt this]
 rw [hw]
 simp -dsimp +decide (disch := omega) only [vt2, v1q, ↓reduceIte, Nat.reduceSub, Nat.reduceAdd, Nat.reduceMul, Nat.reduceLT, Int.reduceAdd, Int.reduceSub, Int.reduceToNat, v2q, ez, vbg]
 exact Vw.cut ⟨by rw [AV.wo, AV.woL_eq, Bg_wo], rfl, rfl⟩
theorem ptwork_ok {T : Tbl} {t : Nat} (ht : t < 2 ^ 256) : CallA prog G 64 [.ag (Bg t)] T fun v T' es => v = .ag (Bg (wkT t)) /\ T' = T /\ es = [] := by
 refine CallA.wfs fun wf => ?_
 have wt := wf.t
 have ez : [oQ, oQ, oQ, oQ] = Bg 0 := rfl
 have o1 : (1 : Nat) < 2 ^ 256 := by decide
 have o0 : (0 : Nat) < 2 ^ 256 := by decide
 obtain ⟨d, hd⟩ : ∃ d, d = (t + 1) % 2 ^ 256 := ⟨_, rfl⟩
 have hdl : d < 2 ^ 256 := by omega
 refine CallA.eV 34 func64 ntmps64 results64 ?_
 simp -dsimp +decide only [vt2, v1q, ↓reduceIte, Nat.reduceSub, Nat.reduceAdd, Nat.reduceMul, Nat.reduceLT, Int.reduceAdd, Int.reduceSub, Int.reduceToNat, ci]
 simp -dsimp +decide (disch := omega) only [vt2, v1q, ↓reduceIte, Nat.reduceSub, Nat.reduceAdd, Nat.reduceMul, Nat.reduceLT, Int.reduceAdd, Int.reduceSub, Int.reduceToNat, v2q, ez, vbg]
 refine (pof_ok (n := 1)).det' ?_
 rw [show (1 : UInt64).toNat = 1 from rfl]
 simp -dsimp +decide (disch := omega) only [vt2, v1q, ↓reduceIte, Nat.reduceSub, Nat.reduceAdd, Nat.reduceMul, Nat.reduceLT, Int.reduceAdd, Int.reduceSub, Int.reduceToNat, v2q, ez, vbg]
 refine (padd_ok ht o1).det' ?_
 rw [<- hd]
 by_cases c1 : 2 ^ 256 <= t + 1
 . have i1 := decide_eq_true c1
   simp -dsimp +decide (disch := omega) only [vt2, v1q, ↓reduceIte, Nat.reduceSub, Nat.reduceAdd, Nat.reduceMul, Nat.reduceLT, Int.reduceAdd, Int.reduceSub, Int.reduceToNat, v2q, ez, vbg, i1]
   exact Vw.cut ⟨by rw [AV.wo, AV.woL_eq, Bg_wo, wkT, if_neg (by omega), if_pos (by omega)], rfl, rfl⟩
 have i1 := decide_eq_false c1
 have hd1 : d = t + 1 := by rw [hd, Nat.mod_eq_of_lt (by omega)]
 by_cases c0 : t = 0
 . have i0 := eq_true c0
   simp -dsimp +decide (disch := omega) only [vt2, v1q, ↓reduceIte, Nat.reduceSub, Nat.reduceAdd, Nat.reduceMul, Nat.reduceLT, Int.reduceAdd, Int.reduceSub, Int.reduceToNat, v2q, ez, vbg, i1, eqB ht o0, i0]
   refine (psub_ok ht o1).det' ?_
   simp -dsimp +decide (disch := omega) only [vt2, v1q, ↓reduceIte, Nat.reduceSub, Nat.reduceAdd, Nat.reduceMul, Nat.reduceLT, Int.reduceAdd, Int.reduceSub, Int.reduceToNat, v2q, ez, vbg, i0]
   exact Vw.cut ⟨by rw [AV.wo, AV.woL_eq, Bg_wo, wkT, if_pos c0, c0], rfl, rfl⟩
 have i0 := eq_false c0
 simp -dsimp +decide (disch := omega) only [vt2, v1q, ↓reduceIte, Nat.reduceSub, Nat.reduceAdd, Nat.reduceMul, Nat.reduceLT, Int.reduceAdd, Int.reduceSub, Int.reduceToNat, v2q, ez, vbg, i1, eqB ht o0, i0]
 refine SemA.loopK (T.length + 4) (fun s : Nat × Nat => [(1, .ptr T.length 0), (2, .ptr (T.length + 1) 0), (3, .ptr (T.length + 2) 0), (4, .ptr (T.length + 3) 0), (33, wint (s.1 : Int))]) (fun s => T ++ [.cells 47 (Bg s.2), .cells 47 (Bg 0), .cells 47 (Bg 1), .cells 47 (Bg d)]) (fun s => s.1 <= 4 /\ s.2 < 2 ^ 256 /\ s.2 / 2 ^ (64 * s.1) = t / 2 ^ (64 * s.1) /\ s.2 % 2 ^ (64 * s.1) + t % 2 ^ (64 * s.1) + 1 = 2 ^ (64 * s.1)) (fun s => 4 - s.1) (0, t) [] 1 (fun _ : Unit => [(1, .ptr T.length 0), (2, .ptr (T.length + 1) 0), (3, .ptr (T.length + 2) 0), (4, .ptr (T.length + 3) 0)]) (fun _ => T ++ [.cells 47 (Bg (2 ^ 256 - d)), .cells 47 (Bg 0), .cells 47 (Bg 1), .cells 47 (Bg d)]) (fun _ => True) (by omega) ⟨by simp, ht, rfl, by simp [Nat.mod_one]⟩ (by (simp -dsimp +decide (disch := omega) only [vt2, v1q, ↓reduceIte, Nat.reduceSub, Nat.reduceAdd, Nat.reduceMul, Nat.reduceLT, Int.reduceAdd, Int.reduceSub, Int.reduceToNat, v4q]); first | rfl | exact ⟨rfl, rfl, rfl, rfl, rfl, rfl⟩ | done) rfl (by simp) ?_ ?_
 . rintro ⟨k, w⟩ g ⟨hk, hw, h1, h2⟩
   dsimp only at hk hw h1 h2
   refine SemA.o ?_
   simp -dsimp +decide (disch := omega) only [vt2, v1q, ↓reduceIte, Nat.reduceSub, Nat.reduceAdd, Nat.reduceMul, Nat.reduceLT, Int.reduceAdd, Int.reduceSub, Int.reduceToNat, v4q]
   refine CondP.dec (fun h => ?_) (fun h => ?_)
   . have hk4 : k < 4 := by omega
     have hgw := Bg_get w hk4
     have g0 := fun l => gn0 T (.cells 47 (Bg w)) l
     have lw' : (limb w k).toNat < 2 ^ 64 := UInt64.toNat_lt _
     have hnot : (~~~(limb w k)).toNat = 2 ^ 64 - 1 - (limb w k).toNat := UInt64.toNat_not _
     obtain ⟨w', hw', hs, g1, g2, g3⟩ := Bg_put (r := 2 ^ 64 - 1 - (limb w k).toNat) hw hk4 (by omega)
     have hs2 := hs (~~~(limb w k)) hnot
     simp -dsimp +decide (disch := omega) only [vt2, v1q, ↓reduceIte, Nat.reduceSub, Nat.reduceAdd, Nat.reduceMul, Nat.reduceLT, Int.reduceAdd, Int.reduceSub, Int.reduceToNat, v2q, vbg, g0, hgw, Bg_len]
     refine ⟨⟨by omega, by omega⟩, un_xor64 ?_⟩
     simp -dsimp +decide (disch := omega) only [vt2, v1q, ↓reduceIte, Nat.reduceSub, Nat.reduceAdd, Nat.reduceMul, Nat.reduceLT, Int.reduceAdd, Int.reduceSub, Int.reduceToNat, v2q, vbg, g0, hgw, Bg_len, hs2, wt]
     refine ⟨⟨by omega, by omega⟩, by omega, (k + 1, w'), ⟨⟨by dsimp only; omega, hw', ?_, ?_⟩, by dsimp only; omega⟩, rfl, rfl⟩
     . dsimp only
       rw [g3]
       have := div_next w k
       have := div_next t k
       omega
     . dsimp only
       have hx2 := mod_next t k
       have hw2 := mod_next w' k
       have e1 : t / 2 ^ (64 * k) % 2 ^ 64 = w / 2 ^ (64 * k) % 2 ^ 64 := by rw [h1]
       rw [limb_nat] at g2 lw'
       rw [hx2, hw2, g1, g2, e1]
       obtain ⟨L, hL⟩ : ∃ L, L = w / 2 ^ (64 * k) % 2 ^ 64 := ⟨_, rfl⟩
       rw [<- hL] at lw' ⊢
       have e4 : 2 ^ (64 * k) * (2 ^ 64 - 1 - L) + 2 ^ (64 * k) * L + 2 ^ (64 * k) = 2 ^ (64 * (k + 1)) := by
        rw [<- Nat.mul_add, show 2 ^ 64 - 1 - L + L = 2 ^ 64 - 1 by omega, Nat.mul_add 64, Nat.mul_one, Nat.pow_add]
        generalize 2 ^ (64 * k) = A
        omega
       omega
   . have e : k = 4 := by omega
     subst e
     simp only [Nat.reduceMul] at h1 h2
     have : w = 2 ^ 256 - d := by omega
     simp -dsimp +decide (disch := omega) only [vt2, v1q, ↓reduceIte, Nat.reduceSub, Nat.reduceAdd, Nat.reduceMul, Nat.reduceLT, Int.reduceAdd, Int.reduceSub, Int.reduceToNat, v2q, vbg, wt, this]
     exact ⟨(), trivial⟩
 . rintro _ g tmp -
   simp -dsimp +decide (disch := omega) only [vt2, v1q, ↓reduceIte, Nat.reduceSub, Nat.reduceAdd, Nat.reduceMul, Nat.reduceLT, Int.reduceAdd, Int.reduceSub, Int.reduceToNat, v2q, vbg]
   refine (pdiv_ok (show 2 ^ 256 - d < 2 ^ 256 by omega) hdl (by omega)).det' ?_
   have hq : (2 ^ 256 - d) / d < 2 ^ 256 := Nat.lt_of_le_of_lt (Nat.div_le_self _ _) (by omega)
   simp -dsimp +decide (disch := omega) only [vt2, v1q, ↓reduceIte, Nat.reduceSub, Nat.reduceAdd, Nat.reduceMul, Nat.reduceLT, Int.reduceAdd, Int.reduceSub, Int.reduceToNat, v2q, vbg, ez]
   refine (padd_ok hq o1).det' ?_
   have hw : ((2 ^ 256 - d) / d + 1) % 2 ^ 256 = wkT t := by
    have := wkT_lt t
    rw [wk_div (by omega) (by omega)]
    unfold wkT at this ⊢
    rw [if_neg c0, if_neg (by omega)] at this ⊢
    rw [hd1, Nat.mod_eq_of_lt this]
   rw [hw]
   simp -dsimp +decide (disch := omega) only [vt2, v1q, ↓reduceIte, Nat.reduceSub, Nat.reduceAdd, Nat.reduceMul, Nat.reduceLT, Int.reduceAdd, Int.reduceSub, Int.reduceToNat, v2q, vbg, ez]
   exact Vw.cut ⟨by rw [AV.wo, AV.woL_eq, Bg_wo], rfl, rfl⟩
def wkH (h : Hdr) : Nat := wkT (ofN h.bits)
def sumH (l : List Hdr) : Nat := l.foldl (fun s h => (s + wkH h) % 2 ^ 256) 0
theorem wkH_lt (h : Hdr) : wkH h < 2 ^ 256 := wkT_lt _
theorem sumH_snoc (l : List Hdr) (h : Hdr) : sumH (l ++ [h]) = (sumH l + wkH h) % 2 ^ 256 := by rw [sumH, List.foldl_append]; rfl
theorem sumH_lt : ∀ l : List Hdr, sumH l < 2 ^ 256 := by
 intro l
 rcases List.eq_nil_or_concat l with rfl | ⟨m, h, rfl⟩
 . decide
 . rw [List.concat_eq_append, sumH_snoc]; exact Nat.mod_lt _ (by decide)
theorem ofV_eq (o : Option Nat) : ofV o = .tu [.ag (Bg (o.getD 0)), .p (.bool o.isSome)] := by cases o <;> rfl
theorem hwork_ok {T : Tbl} {h : Hdr} (ok : h.Ok) : CallA prog G 29 [.ag h.cs] T fun v T' es => v = .ag (Bg (wkH h)) /\ T' = T /\ es = [] := by
 refine CallA.wfs fun wf => ?_
 have wt := wf.t
 have hr := Hdr.rules ok
 have ez : [oQ, oQ, oQ, oQ] = Bg 0 := rfl
 refine CallA.eV 5 func29 ntmps29 results29 ?_
 simp -dsimp +decide only [vt2, v1q, ↓reduceIte, Nat.reduceSub, Nat.reduceAdd, Nat.reduceMul, Nat.reduceLT, Int.reduceAdd, Int.reduceSub, Int.reduceToNat, ci]
 simp -dsimp +decide (disch := omega) only [vt2, v1q, ↓reduceIte, Nat.reduceSub, Nat.reduceAdd, Nat.reduceMul, Nat.reduceLT, Int.reduceAdd, Int.reduceSub, Int.reduceToNat, v2q, ez, vbg, hr]
 refine pof03_ok.det' ?_
 rw [ofV_eq]
 show _
 simp -dsimp +decide (disch := omega) only [vt2, v1q, ↓reduceIte, Nat.reduceSub, Nat.reduceAdd, Nat.reduceMul, Nat.reduceLT, Int.reduceAdd, Int.reduceSub, Int.reduceToNat, v2q, ez, vbg, hr]
 refine (ptwork_ok (ofN_lt _)).det' ?_
 simp -dsimp +decide (disch := omega) only [vt2, v1q, ↓reduceIte, Nat.reduceSub, Nat.reduceAdd, Nat.reduceMul, Nat.reduceLT, Int.reduceAdd, Int.reduceSub, Int.reduceToNat, v2q, ez, vbg, hr]
 exact Vw.cut ⟨by rw [AV.wo, AV.woL_eq, Bg_wo]; rfl, rfl, rfl⟩
def Fst.onOf (s : Fst) (i : Nat) : Option Nat := (s.nd i).bind Nd.on
def Fst.cnt (s : Fst) (i : Nat) : Nat := (s.bc.filter fun k => decide (s.onOf k = some i)).length
structure Fst.G (s : Fst) : Prop where
 n : s.bc.Nodup
 e : s.es = s.bc.map fun i => ((s.hd i).id, i)
 x : ∀ i ∈ s.bc, ∃ x, s.nd i = some x
 u : (s.bc.map fun i => (s.hd i).id).Nodup
 p : ∀ i ∈ s.bc, ∃ r, Path s (i :: r) /\ ∀ j ∈ i :: r, j ∈ s.bc
 r : ∃ r0, s.bc.head? = some r0 /\ ∀ i ∈ s.bc, s.onOf i = none ↔ i = r0
 k : ∀ i x j, s.nd i = some x -> i ∈ s.bc -> x.on = some j -> x.h.prev = (s.hd j).id
 w : ∀ i x r, s.nd i = some x -> Path s (i :: r) -> i ∈ s.bc -> x.wk = sumH (hds s (i :: r))
 c : ∀ i x, s.nd i = some x -> i ∈ s.bc -> x.kids = s.cnt i
 t : s.top ∈ s.bc
 b : ∀ i x r, s.nd i = some x -> i ∈ s.bc -> Path s (s.top :: r) -> (x.best = true ↔ i ∈ s.top :: r)
theorem Path.uniq {s : Fst} : ∀ {i : Nat} {r r' : List Nat}, Path s (i :: r) -> Path s (i :: r') -> r = r'
 | i, [], [], _, _ => rfl
 | i, [], j :: r', ⟨x, h1, h2, h3⟩, ⟨⟨y, g1, g2, g3⟩, _⟩ => by rw [h1] at g1; cases g1; rw [h2] at g2; cases g2
 | i, j :: r, [], ⟨⟨y, g1, g2, g3⟩, _⟩, ⟨x, h1, h2, h3⟩ => by rw [h1] at g1; cases g1; rw [h2] at g2; cases g2
 | i, j :: r, j' :: r', ⟨⟨x, h1, h2, h3⟩, h4⟩, ⟨⟨y, g1, g2, g3⟩, g4⟩ => by
   rw [h1] at g1; cases g1; rw [h2] at g2; cases g2
   rw [Path.uniq h4 g4]
theorem Path.nodup {s : Fst} : ∀ {l : List Nat}, Path s l -> l.Nodup /\ ∀ i ∈ l, ∃ x, s.nd i = some x /\ x.ht < l.length
 | [], h => h.elim
 | [i], ⟨x, h1, h2, h3⟩ => ⟨by simp, fun j hj => by rw [List.mem_singleton.1 hj]; exact ⟨x, h1, by rw [h3]; simp⟩⟩
 | i :: j :: r, ⟨⟨x, h1, h2, h3⟩, h4⟩ => by
   obtain ⟨g1, g2⟩ := Path.nodup h4
   refine ⟨List.nodup_cons.2 ⟨fun hi => ?_, g1⟩, fun k hk => ?_⟩
   . obtain ⟨y, hy, hl⟩ := g2 i hi
     rw [h1] at hy; cases hy
     simp only [List.length_cons] at hl; omega
   . rcases List.mem_cons.1 hk with rfl | hk
     . exact ⟨x, h1, by rw [h3]; simp⟩
     . obtain ⟨y, hy, hl⟩ := g2 k hk
       exact ⟨y, hy, by simp only [List.length_cons] at hl ⊢; omega⟩
theorem nodup_len : ∀ {l m : List Nat}, l.Nodup -> (∀ i ∈ l, i ∈ m) -> l.length <= m.length
 | [], _, _, _ => Nat.zero_le _
 | a :: l, m, h, hs => by
   have ha := hs a (by simp)
   obtain ⟨h1, h2⟩ := List.nodup_cons.1 h
   have := nodup_len (l := l) (m := m.erase a) h2 fun i hi => (List.mem_erase_of_ne (fun e => h1 (by rw [<- e]; exact hi))).2 (hs i (by simp [hi]))
   rw [List.length_erase_of_mem ha] at this
   have := List.length_pos_of_mem ha
   rw [List.length_cons]; omega
theorem Path.len {s : Fst} {l : List Nat} (h : Path s l) (hs : ∀ i ∈ l, i ∈ s.bc) : l.length <= s.bc.length := nodup_len h.nodup.1 hs
theorem Path.mem {s : Fst} : ∀ {l : List Nat}, Path s l -> ∀ j ∈ l, ∃ r, Path s (j :: r) /\ (j :: r) <:+ l
 | [], h, _, _ => h.elim
 | [i], h, j, hj => by rw [List.mem_singleton.1 hj]; exact ⟨[], h, List.suffix_refl _⟩
 | i :: k :: r, h, j, hj => by
   rcases List.mem_cons.1 hj with rfl | hj
   . exact ⟨_, h, List.suffix_refl _⟩
   . obtain ⟨q, h1, h2⟩ := Path.mem h.2 j hj
     exact ⟨q, h1, h2.trans (List.suffix_cons _ _)⟩
theorem Fst.In.new {s : Fst} {n : Nat} (h : s.In n) (x : Nd) : (s.setN n x).In (n + 1) := by
 have hf := h.f
 have hm := h.m
 have hb := h.b
 refine ⟨by show s.f < _; omega, by show s.m < _; omega, by show s.b < _; omega, h.fm, h.fb, h.mb, ?_, ?_, ?_, fun j z hj => ?_⟩
 . show (if s.f = n then _ else _) = _; rw [if_neg (by omega)]; exact h.nf
 . show (if s.m = n then _ else _) = _; rw [if_neg (by omega)]; exact h.nm
 . show (if s.b = n then _ else _) = _; rw [if_neg (by omega)]; exact h.nb
 . have hj' : (if j = n then some x else s.nd j) = some z := hj
   split at hj'
   . omega
   . have := h.nn j z hj'; omega
end Go.Proofs.YtfpjalgfnjjcmaaGreatDoor
namespace Go.Proofs.YtfpjalgfnjjcmaaGreatDoor
open Go.E Go.Proofs.YtfpjalgfnjjcmaaGreatDoor.Tryz Go.Proofs.Tryz
def Fst.newN (hd : Hdr) (p : Nat) (y : Nd) : Nd := ⟨hd, some p, y.ht + 1, (y.wk + wkH hd) % 2 ^ 256, 0, false⟩
def Fst.addN (s : Fst) (hd : Hdr) (i p : Nat) (y : Nd) : Fst :=
 { (s.setN p { y with kids := y.kids + 1 }).setN i (Fst.newN hd p y) with es := s.es ++ [(hd.id, i)], bc := s.bc ++ [i], oa := .sl s.b 0 (s.bc.length + 1) }
inductive Drops : Fst -> List (List UInt8) -> Fst -> Prop
 | done {s : Fst} {x : Nd} : s.nd s.top = some x -> s.bc.length <= x.ht + 1 + s.room -> Drops s [] s
 | step {s s' : Fst} {x y z : Nd} {k i p : Nat} {l : List (List UInt8)} : s.nd s.top = some z -> z.ht + 1 + s.room < s.bc.length -> s.bc[k]? = some i -> (∀ (j q : Nat), j < k -> s.bc[j]? = some q -> s.leaf q = false) -> s.leaf i = true -> s.nd i = some x -> x.on = some p -> s.nd p = some y ->
  Drops (s.drop k x p y) l s' -> Drops s (x.h.id :: l) s'
inductive AddR (n : Nat) (s : Fst) (hd : Hdr) : Fst -> Nat -> List (List UInt8) -> Int -> Prop
 | known {i : Nat} {x : Nd} : s.look hd.id = some i -> s.nd i = some x -> AddR n s hd s x.ht [] 0
 | none : s.look hd.id = none -> s.look hd.prev = none -> AddR n s hd s 0 [] 9
 | wrong {p : Nat} {r : List Nat} : s.look hd.id = none -> s.look hd.prev = some p -> Path s (p :: r) -> rightE s.p (hds s (p :: r)) hd ≠ 0 -> AddR n s hd s 0 [] (rightE s.p (hds s (p :: r)) hd)
 | right {p i : Nat} {r rt : List Nat} {y z : Nd} {s2 s' : Fst} {l : List (List UInt8)} : s.look hd.id = none -> s.look hd.prev = some p -> Path s (p :: r) -> rightE s.p (hds s (p :: r)) hd = 0 -> s.nd p = some y -> (∀ j x, s.nd j = some x -> j < i) -> n <= i -> s.nd s.top = some z -> Path s (s.top :: rt) ->
  s2 = (if z.wk < (y.wk + wkH hd) % 2 ^ 256 then (s.addN hd i p y).turn (s.top :: rt) (i :: p :: r) i else s.addN hd i p y) -> Drops s2 l s' -> AddR n s hd s' (y.ht + 1) l 0
theorem Fst.G.look_none {s : Fst} (g : s.G) {id : List UInt8} (h : s.look id = none) : ∀ i ∈ s.bc, (s.hd i).id ≠ id := by
 intro i hi e
 unfold Fst.look at h
 rw [Option.map_eq_none_iff, List.find?_eq_none, g.e] at h
 have := h ((s.hd i).id, i) (List.mem_map.2 ⟨i, hi, rfl⟩)
 simp [e] at this
theorem Fst.G.look {s : Fst} (g : s.G) {id : List UInt8} {i : Nat} (h : s.look id = some i) : i ∈ s.bc /\ (s.hd i).id = id := by
 have := Fst.look_some h
 rw [g.e, List.mem_map] at this
 obtain ⟨j, hj, e⟩ := this
 simp only [Prod.mk.injEq] at e
 obtain ⟨e1, rfl⟩ := e
 exact ⟨hj, e1⟩
def Nd.core (x : Nd) : Hdr × Option Nat × Nat × Nat := (x.h, x.on, x.ht, x.wk)
def Sim (s s' : Fst) (D : Nat -> Prop) : Prop := ∀ j, D j -> (s'.nd j).map Nd.core = (s.nd j).map Nd.core
section
variable {s s' : Fst} {D : Nat -> Prop}
theorem Sim.get (h : Sim s s' D) {j : Nat} (hj : D j) {x : Nd} (hx : s.nd j = some x) : ∃ y, s'.nd j = some y /\ y.h = x.h /\ y.on = x.on /\ y.ht = x.ht /\ y.wk = x.wk := by
 have := h j hj
 rw [hx] at this
 cases hy : s'.nd j with
 | none => rw [hy] at this; cases this
 | some y =>
   rw [hy] at this
   simp only [Option.map_some, Nd.core, Option.some.injEq, Prod.mk.injEq] at this
   exact ⟨y, rfl, this.1, this.2.1, this.2.2.1, this.2.2.2⟩
theorem Sim.symm (h : Sim s s' D) : Sim s' s D := fun j hj => (h j hj).symm
theorem Sim.hd (h : Sim s s' D) {j : Nat} (hj : D j) : s'.hd j = s.hd j := by
 cases hx : s.nd j with
 | none =>
   have := h j hj
   rw [hx] at this
   have hn : s'.nd j = none := by cases hy : s'.nd j with | none => rfl | some y => rw [hy] at this; cases this
   rw [Fst.hd, Fst.hd, hx, hn]
 | some x =>
   obtain ⟨y, h1, h2, _⟩ := h.get hj hx
   rw [Fst.hd_at h1, Fst.hd_at hx, h2]
theorem Sim.on (h : Sim s s' D) {j : Nat} (hj : D j) : s'.onOf j = s.onOf j := by
 cases hx : s.nd j with
 | none =>
   have := h j hj
   rw [hx] at this
   have hn : s'.nd j = none := by cases hy : s'.nd j with | none => rfl | some y => rw [hy] at this; cases this
   rw [Fst.onOf, Fst.onOf, hx, hn]
 | some x =>
   obtain ⟨y, h1, _, h2, _⟩ := h.get hj hx
   rw [Fst.onOf, Fst.onOf, h1, hx]; exact h2
theorem Sim.hds (h : Sim s s' D) {l : List Nat} (hl : ∀ j ∈ l, D j) : hds s' l = hds s l := by
 rw [Proofs.YtfpjalgfnjjcmaaGreatDoor.hds, Proofs.YtfpjalgfnjjcmaaGreatDoor.hds, List.map_congr_left fun j hj => h.hd (hl j hj)]
theorem Path.sim (h : Sim s s' D) : ∀ {l : List Nat}, Path s l -> (∀ j ∈ l, D j) -> Path s' l
 | [], hp, _ => hp
 | [i], ⟨x, h1, h2, h3⟩, hd => by
   obtain ⟨y, q1, q2, q3, q4, q5⟩ := h.get (hd i (by simp)) h1
   exact ⟨y, q1, q3.trans h2, q4.trans h3⟩
 | i :: j :: r, ⟨⟨x, h1, h2, h3⟩, h4⟩, hd => by
   obtain ⟨y, q1, q2, q3, q4, q5⟩ := h.get (hd i (by simp)) h1
   exact ⟨⟨y, q1, q3.trans h2, q4.trans h3⟩, Path.sim h h4 fun j hj => hd j (by simp [hj])⟩
end
theorem Fst.onOf_at {s : Fst} {i : Nat} {x : Nd} (h : s.nd i = some x) : s.onOf i = x.on := by rw [Fst.onOf, h]; rfl
theorem Fst.G.on_mem {s : Fst} (g : s.G) {i j : Nat} (hi : i ∈ s.bc) (h : s.onOf i = some j) : j ∈ s.bc /\ ∃ r, Path s (i :: j :: r) := by
 obtain ⟨r, h1, h2⟩ := g.p i hi
 obtain ⟨x, q1, q2, q3⟩ := h1.head
 rw [Fst.onOf_at q1, q3] at h
 cases r with
 | nil => cases h
 | cons k r =>
   simp only [List.head?_cons, Option.some.injEq] at h
   subst h
   exact ⟨h2 _ (by simp), r, h1⟩
theorem Path.on {s : Fst} : ∀ {i : Nat} {r : List Nat}, Path s (i :: r) -> ∀ j ∈ r, ∃ k ∈ i :: r, s.onOf k = some j
 | i, [], _, j, hj => by cases hj
 | i, k :: r, h, j, hj => by
   rcases List.mem_cons.1 hj with rfl | hj
   . obtain ⟨x, h1, h2, h3⟩ := h.1
     exact ⟨i, by simp, by rw [Fst.onOf_at h1, h2]⟩
   . obtain ⟨q, h1, h2⟩ := Path.on h.2 j hj
     exact ⟨q, by simp [h1], h2⟩
theorem Path.last {s : Fst} : ∀ {l : List Nat}, Path s l -> ∃ i ∈ l, s.onOf i = none
 | [], h => h.elim
 | [i], ⟨x, h1, h2, _⟩ => ⟨i, by simp, by rw [Fst.onOf_at h1, h2]⟩
 | i :: j :: r, h => by
   obtain ⟨k, h1, h2⟩ := Path.last h.2
   exact ⟨k, by simp [h1], h2⟩
theorem addN_nd {s : Fst} {hd : Hdr} {i p : Nat} {y : Nd} (j : Nat) : (s.addN hd i p y).nd j = if j = i then some (Fst.newN hd p y) else if j = p then some { y with kids := y.kids + 1 } else s.nd j := rfl
theorem addN_sim {s : Fst} {hd : Hdr} {i p : Nat} {y : Nd} (hy : s.nd p = some y) : Sim s (s.addN hd i p y) (fun j => j ≠ i) := fun j hj => by
 rw [addN_nd, if_neg hj]
 by_cases hp : j = p
 . rw [if_pos hp, hp, hy]; rfl
 . rw [if_neg hp]
theorem Fst.node_ne {s : Fst} {i j : Nat} {x : Nd} (hi : s.nd i = none) (hj : s.nd j = some x) : j ≠ i := fun e => by rw [e, hi] at hj; cases hj
theorem Path.addO {s : Fst} {hd : Hdr} {i p : Nat} {l : List Nat} {y : Nd} (hy : s.nd p = some y) (hi : s.nd i = none) (h : Path s l) : Path (s.addN hd i p y) l :=
 h.sim (addN_sim hy) fun j hj => by obtain ⟨x, hx⟩ := h.all j hj; exact Fst.node_ne hi hx
theorem Path.addN {s : Fst} {hd : Hdr} {i p : Nat} {r : List Nat} {y : Nd} (hy : s.nd p = some y) (hi : s.nd i = none) (h : Path s (p :: r)) : Path (s.addN hd i p y) (i :: p :: r) := by
 refine ⟨⟨Fst.newN hd p y, by rw [addN_nd, if_pos rfl], rfl, ?_⟩, h.addO hy hi⟩
 obtain ⟨x, h1, h2, h3⟩ := h.head
 rw [hy] at h1; cases h1
 show y.ht + 1 = _
 rw [h2]
theorem Fst.G.addN {s : Fst} (g : s.G) {hd : Hdr} {i p : Nat} {y : Nd} (hl : s.look hd.id = none) (hp : s.look hd.prev = some p) (hy : s.nd p = some y) (hi : s.nd i = none) : (s.addN hd i p y).G := by
 obtain ⟨hpb, hpi⟩ := g.look hp
 have hib : i ∉ s.bc := fun h => by obtain ⟨x, hx⟩ := g.x i h; rw [hi] at hx; cases hx
 have hne : ∀ j ∈ s.bc, j ≠ i := fun j hj e => hib (e ▸ hj)
 have hpne := hne p hpb
 have sim := addN_sim (hd := hd) (i := i) hy
 have hsi : (s.addN hd i p y).nd i = some (Fst.newN hd p y) := by rw [addN_nd, if_pos rfl]
 have hbc : (s.addN hd i p y).bc = s.bc ++ [i] := rfl
 have hhi : (s.addN hd i p y).hd i = hd := by rw [Fst.hd_at hsi]; rfl
 have hoi : (s.addN hd i p y).onOf i = some p := by rw [Fst.onOf_at hsi]; rfl
 obtain ⟨rp, hrp, hrpb⟩ := g.p p hpb
 have old : ∀ j x, (s.addN hd i p y).nd j = some x -> j ∈ s.bc -> ∃ x0, s.nd j = some x0 /\ x.h = x0.h /\ x.on = x0.on /\ x.ht = x0.ht /\ x.wk = x0.wk /\ x.best = x0.best /\ x.kids = x0.kids + (if j = p then 1 else 0) := by
  intro j x hx hj
  rw [addN_nd, if_neg (hne j hj)] at hx
  by_cases hjp : j = p
  . rw [if_pos hjp] at hx; cases hx
    exact ⟨y, hjp ▸ hy, rfl, rfl, rfl, rfl, rfl, by rw [if_pos hjp]⟩
  . rw [if_neg hjp] at hx
    exact ⟨x, hx, rfl, rfl, rfl, rfl, rfl, by rw [if_neg hjp]; rfl⟩
 have hpath : ∀ j ∈ s.bc, ∀ r, Path (s.addN hd i p y) (j :: r) -> Path s (j :: r) /\ ∀ k ∈ j :: r, k ∈ s.bc := by
  intro j hj r hr
  obtain ⟨r0, h1, h2⟩ := g.p j hj
  have := Path.uniq hr (h1.addO hy hi)
  subst this
  exact ⟨h1, h2⟩
 refine ⟨?_, ?_, ?_, ?_, ?_, ?_, ?_, ?_, ?_, ?_, ?_⟩
 . rw [hbc]
   exact List.nodup_append.2 ⟨g.n, by simp, fun a ha b hb => by rw [List.mem_singleton.1 hb]; exact hne a ha⟩
 . show s.es ++ [(hd.id, i)] = (s.bc ++ [i]).map _
   rw [List.map_append, g.e, List.map_congr_left (g := fun j => (((s.addN hd i p y).hd j).id, j)) fun j hj => by rw [sim.hd (hne j hj)]]
   rw [List.map_cons, List.map_nil, hhi]
 . intro j hj
   rw [hbc] at hj
   rcases List.mem_append.1 hj with hj | hj
   . obtain ⟨x, hx⟩ := g.x j hj
     obtain ⟨y', h1, _⟩ := sim.get (hne j hj) hx
     exact ⟨y', h1⟩
   . rw [List.mem_singleton.1 hj]; exact ⟨_, hsi⟩
 . rw [hbc, List.map_append, List.map_congr_left (g := fun j => (s.hd j).id) fun j hj => by rw [sim.hd (hne j hj)]]
   refine List.nodup_append.2 ⟨g.u, by simp, fun a ha b hb => ?_⟩
   obtain ⟨j, hj, rfl⟩ := List.mem_map.1 ha
   rw [List.map_cons, List.map_nil, List.mem_singleton, hhi] at hb
   rw [hb]
   exact g.look_none hl j hj
 . intro j hj
   rw [hbc] at hj
   rcases List.mem_append.1 hj with hj | hj
   . obtain ⟨r, h1, h2⟩ := g.p j hj
     exact ⟨r, h1.addO hy hi, fun k hk => by rw [hbc]; exact List.mem_append_left _ (h2 k hk)⟩
   . rw [List.mem_singleton.1 hj]
     refine ⟨p :: rp, hrp.addN hy hi, fun k hk => ?_⟩
     rw [hbc]
     rcases List.mem_cons.1 hk with rfl | hk
     . simp
     . exact List.mem_append_left _ (hrpb k hk)
 . obtain ⟨r0, h1, h2⟩ := g.r
   have hr0 : r0 ∈ s.bc := List.mem_of_head? h1
   refine ⟨r0, by rw [hbc, List.head?_append, h1]; rfl, fun j hj => ?_⟩
   rw [hbc] at hj
   rcases List.mem_append.1 hj with hj | hj
   . rw [sim.on (hne j hj)]; exact h2 j hj
   . rw [List.mem_singleton.1 hj, hoi]
     exact ⟨fun e => (by cases e), fun e => absurd e.symm (hne r0 hr0)⟩
 . intro j x q hx hj hq
   rw [hbc] at hj
   rcases List.mem_append.1 hj with hj | hj
   . obtain ⟨x0, h1, h2, h3, _⟩ := old j x hx hj
     rw [h3] at hq
     have hqb := (g.on_mem hj (by rw [Fst.onOf_at h1, hq])).1
     rw [h2, sim.hd (hne q hqb)]
     exact g.k j x0 q h1 hj hq
   . rw [List.mem_singleton.1 hj, hsi] at hx
     cases hx; cases hq
     rw [sim.hd hpne]; exact hpi.symm
 . intro j x r hx hr hj
   rw [hbc] at hj
   rcases List.mem_append.1 hj with hj | hj
   . obtain ⟨x0, h1, h2, h3, h4, h5, _⟩ := old j x hx hj
     obtain ⟨q1, q2⟩ := hpath j hj r hr
     rw [h5, g.w j x0 r h1 q1 hj, sim.hds fun k hk => hne k (q2 k hk)]
   . have e := List.mem_singleton.1 hj
     subst e
     rw [hsi] at hx; cases hx
     have := Path.uniq hr (hrp.addN hy hi)
     subst this
     show (y.wk + wkH hd) % 2 ^ 256 = _
     have e2 : hds (s.addN hd j p y) (j :: p :: rp) = hds (s.addN hd j p y) (p :: rp) ++ [hd] := by
      rw [hds, List.map_cons, List.reverse_cons, hhi]; rfl
     rw [e2, sim.hds fun k hk => hne k (hrpb k hk), sumH_snoc, g.w p y rp hy hrp hpb]
 . intro j x hx hj
   have hcnt : ∀ j, j ∈ s.bc -> (s.addN hd i p y).cnt j = s.cnt j + (if j = p then 1 else 0) := fun j hj => by
    rw [Fst.cnt, Fst.cnt, hbc, List.filter_append, List.length_append, List.filter_congr (q := fun k => decide (s.onOf k = some j)) fun k hk => by rw [sim.on (hne k hk)]]
    congr 1
    rw [List.filter_cons, hoi]
    by_cases hjp : j = p
    . rw [if_pos hjp, hjp]; simp
    . rw [if_neg hjp]
      have : ¬ p = j := fun e => hjp e.symm
      simp [this]
   rw [hbc] at hj
   rcases List.mem_append.1 hj with hj | hj
   . obtain ⟨x0, h1, _, _, _, _, _, h7⟩ := old j x hx hj
     rw [h7, hcnt j hj, g.c j x0 h1 hj]
   . have e := List.mem_singleton.1 hj
     subst e
     rw [hsi] at hx; cases hx
     show 0 = _
     rw [Fst.cnt, hbc, List.filter_append, List.length_append]
     have e1 : (s.bc.filter fun k => decide ((s.addN hd j p y).onOf k = some j)) = [] := by
      rw [List.filter_eq_nil_iff]
      intro k hk
      rw [sim.on (hne k hk)]
      simp only [decide_eq_true_eq]
      intro e
      exact hib (g.on_mem hk e).1
     rw [e1, List.filter_cons, hoi]
     simp [hpne]
 . rw [hbc]; exact List.mem_append_left _ g.t
 . intro j x r hx hj hr
   obtain ⟨q1, q2⟩ := hpath s.top g.t r hr
   rw [hbc] at hj
   rcases List.mem_append.1 hj with hj | hj
   . obtain ⟨x0, h1, _, _, _, _, h6, _⟩ := old j x hx hj
     rw [h6]; exact g.b j x0 r h1 hj q1
   . have e := List.mem_singleton.1 hj
     subst e
     rw [hsi] at hx; cases hx
     exact ⟨fun e => (by cases e), fun h => absurd (q2 j h) hib⟩
theorem FW.addN {V : Tbl} {s : Fst} (h : FW V s) (g : s.G) {hd : Hdr} (ok : hd.Ok) {p : Nat} {y : Nd} (hy : s.nd p = some y) (hlen : s.bc.length <= 100000) : FW (V ++ [.gone]) (s.addN hd V.length p y) := by
 have hl : (V ++ [AObj.gone]).length = V.length + 1 := by rw [List.length_append]; rfl
 have h1 : (s.setN p { y with kids := y.kids + 1 }).In V.length := h.i.setN hy _
 have h2 := (h1.new (Fst.newN hd p y)).put s.p s.room (.sl s.b 0 (s.bc.length + 1)) s.top (s.es ++ [(hd.id, V.length)]) (s.bc ++ [V.length])
 have hb := h.i.b
 have hpn := h.i.nn p y hy
 have nd : ∀ j x, (s.addN hd V.length p y).nd j = some x -> (j = V.length /\ x = Fst.newN hd p y) ∨ ∃ x0, s.nd j = some x0 /\ x.h = x0.h /\ x.on = x0.on := by
  intro j x hx
  rw [addN_nd] at hx
  split at hx
  . rename_i e; cases hx; exact .inl ⟨e, rfl⟩
  . split at hx
    . rename_i e; cases hx; exact .inr ⟨y, e ▸ hy, rfl, rfl⟩
    . exact .inr ⟨x, hx, rfl, rfl⟩
 have has : ∀ j, (∃ x, s.nd j = some x) -> ∃ x, (s.addN hd V.length p y).nd j = some x := by
  rintro j ⟨x, hx⟩
  rw [addN_nd]
  split
  . exact ⟨_, rfl⟩
  . split
    . exact ⟨_, rfl⟩
    . exact ⟨x, hx⟩
 refine ⟨by rw [hl]; exact h2, ⟨h.r.p, fun j x hx => ?_, fun q hq => ?_, ?_, fun x hx => ?_, fun j hj => ?_, fun j x k hx hk => ?_⟩, ⟨fun q hq => ?_, ?_⟩, ?_, fun e he => ?_, fun j x k hx hk => ?_, ?_⟩
 . rcases nd j x hx with ⟨_, rfl⟩ | ⟨x0, q1, q2, _⟩
   . exact ok
   . rw [q2]; exact h.r.h j x0 q1
 . show AV.wo q (.sl s.b 0 (s.bc.length + 1)) = _
   rw [AV.wo, hq s.b (by omega)]; rfl
 . rw [hl]; have := h.r.t; show s.top < _; omega
 . rw [hl]
   rcases List.mem_append.1 hx with hx | hx
   . have := h.r.e x hx; omega
   . rw [List.mem_singleton.1 hx]; show V.length < _; omega
 . rw [hl]
   rcases List.mem_append.1 hj with hj | hj
   . have := h.r.b j hj; omega
   . rw [List.mem_singleton.1 hj]; omega
 . rw [hl]
   rcases nd j x hx with ⟨_, rfl⟩ | ⟨x0, q1, _, q3⟩
   . cases hk; omega
   . rw [q3] at hk
     have := h.r.on j x0 k q1 hk; omega
 . rw [hl] at hq
   rw [List.map_append, h.v.wo q fun i hi => hq i (by omega)]; rfl
 . show (V ++ [AObj.gone]).map (AObj.wo (· == s.b)) = _
   rw [List.map_append, h.v.b]; rfl
 . show AV.sl s.b 0 (s.bc.length + 1) = .sl s.b 0 (s.bc ++ [V.length]).length
   rw [List.length_append]; rfl
 . rcases List.mem_append.1 he with he | he
   . exact h.k e he
   . rw [List.mem_singleton.1 he]; exact hd.id_len
 . rcases nd j x hx with ⟨_, rfl⟩ | ⟨x0, q1, _, q3⟩
   . cases hk; exact has p ⟨y, hy⟩
   . rw [q3] at hk
     exact has k (h.n j x0 k q1 hk)
 . show (s.bc ++ [V.length]).length <= _
   rw [List.length_append]; simp; omega
theorem setB_sim (s : Fst) (l : List Nat) (b : Bool) : Sim s (s.setB l b) (fun _ => True) := fun j _ => by
 cases hx : s.nd j with
 | none => rw [Fst.setB_none hx]
 | some x => rw [Fst.setB_some hx]; split <;> rfl
theorem Sim.trans {s s' s'' : Fst} {D : Nat -> Prop} (h : Sim s s' D) (h' : Sim s' s'' D) : Sim s s'' D := fun j hj => (h' j hj).trans (h j hj)
theorem turn_sim (s : Fst) (lt lx : List Nat) (i : Nat) : Sim s (s.turn lt lx i) (fun _ => True) := (setB_sim s lt false).trans (setB_sim _ lx true)
theorem turn_nd {s : Fst} {lt lx : List Nat} {i j : Nat} {x : Nd} (h : (s.turn lt lx i).nd j = some x) : ∃ x0, s.nd j = some x0 /\ x.h = x0.h /\ x.on = x0.on /\ x.ht = x0.ht /\ x.wk = x0.wk /\ x.kids = x0.kids /\ x.best = (if j ∈ lx then true else if j ∈ lt then false else x0.best) := by
 obtain ⟨x1, h1, rfl⟩ := Fst.setB_inv (s := s.setB lt false) h
 obtain ⟨x0, h0, rfl⟩ := Fst.setB_inv h1
 refine ⟨x0, h0, ?_⟩
 by_cases c1 : j ∈ lx <;> by_cases c2 : j ∈ lt <;> simp [c1, c2]
theorem Fst.G.sim {s s' : Fst} (g : s.G) (sim : Sim s s' (fun _ => True)) (hb : s'.bc = s.bc) (he : s'.es = s.es) (hkids : ∀ j x, s'.nd j = some x -> j ∈ s.bc -> ∃ x0, s.nd j = some x0 /\ x.kids = x0.kids) (ht : s'.top ∈ s.bc)
 (hbest : ∀ j x r, s'.nd j = some x -> j ∈ s.bc -> Path s (s'.top :: r) -> (x.best = true ↔ j ∈ s'.top :: r)) : s'.G := by
 have hD : ∀ (l : List Nat) (j : Nat), j ∈ l -> True := fun _ _ _ => trivial
 have hp : ∀ {l}, Path s' l -> Path s l := fun h => h.sim sim.symm fun _ _ => trivial
 refine ⟨by rw [hb]; exact g.n, ?_, fun j hj => ?_, ?_, fun j hj => ?_, ?_, fun j x q hx hj hq => ?_, fun j x r hx hr hj => ?_, fun j x hx hj => ?_, by rw [hb]; exact ht, fun j x r hx hj hr => ?_⟩
 . rw [hb, he, g.e]
   exact List.map_congr_left fun j _ => by rw [sim.hd trivial]
 . rw [hb] at hj
   obtain ⟨x, hx⟩ := g.x j hj
   obtain ⟨y, h1, _⟩ := sim.get trivial hx
   exact ⟨y, h1⟩
 . rw [hb, List.map_congr_left (g := fun i => (s.hd i).id) fun j _ => by rw [sim.hd trivial]]
   exact g.u
 . rw [hb] at hj ⊢
   obtain ⟨r, h1, h2⟩ := g.p j hj
   exact ⟨r, h1.sim sim fun _ _ => trivial, h2⟩
 . obtain ⟨r0, h1, h2⟩ := g.r
   refine ⟨r0, by rw [hb]; exact h1, fun j hj => ?_⟩
   rw [hb] at hj
   rw [sim.on trivial]; exact h2 j hj
 . rw [hb] at hj
   obtain ⟨x0, h1, h2, h3, _⟩ := sim.symm.get trivial hx
   rw [<- h2, sim.hd trivial]
   exact g.k j x0 q h1 hj (h3.trans hq)
 . rw [hb] at hj
   obtain ⟨x0, h1, _, _, _, h5⟩ := sim.symm.get trivial hx
   rw [<- h5, g.w j x0 r h1 (hp hr) hj, sim.hds fun _ _ => trivial]
 . rw [hb] at hj
   obtain ⟨x0, h1, h2⟩ := hkids j x hx hj
   rw [h2, g.c j x0 h1 hj, Fst.cnt, Fst.cnt, hb]
   congr 1
   exact List.filter_congr fun k _ => by rw [sim.on trivial]
 . rw [hb] at hj
   exact hbest j x r hx hj (hp hr)
theorem Fst.G.turn {s : Fst} (g : s.G) {i : Nat} {rt rx : List Nat} (ht : Path s (s.top :: rt)) (hx : Path s (i :: rx)) (hi : i ∈ s.bc) : (s.turn (s.top :: rt) (i :: rx) i).G := by
 refine g.sim (turn_sim _ _ _ _) rfl rfl (fun j x hj _ => ?_) hi fun j x r hj hjb hr => ?_
 . obtain ⟨x0, h1, _, _, _, _, h6, _⟩ := turn_nd hj
   exact ⟨x0, h1, h6⟩
 . have : r = rx := Path.uniq hr hx
   subst this
   obtain ⟨x0, h1, _, _, _, _, _, h7⟩ := turn_nd hj
   rw [h7]
   show _ ↔ j ∈ i :: r
   by_cases c1 : j ∈ i :: r
   . rw [if_pos c1]; exact ⟨fun _ => c1, fun _ => rfl⟩
   . rw [if_neg c1]
     refine ⟨fun h => ?_, fun h => absurd h c1⟩
     by_cases c2 : j ∈ s.top :: rt
     . rw [if_pos c2] at h; cases h
     . rw [if_neg c2] at h
       exact absurd ((g.b j x0 rt h1 hjb ht).1 h) c2
theorem FW.turn {V : Tbl} {s : Fst} (h : FW V s) {i : Nat} {lt lx : List Nat} (hi : i < V.length) : FW V (s.turn lt lx i) := by
 have h2 := (h.setB lt false).setB lx true
 exact ⟨h2.i.put _ _ _ i _ _, ⟨h2.r.p, h2.r.h, h2.r.o, hi, h2.r.e, h2.r.b, h2.r.on⟩, h2.v, h2.o, h2.k, h2.n, h2.l⟩
theorem drop_nd {s : Fst} {k p : Nat} {x y : Nd} (j : Nat) : (s.drop k x p y).nd j = if j = p then some { y with kids := y.kids - 1 } else s.nd j := rfl
theorem drop_sim {s : Fst} {k p : Nat} {x y : Nd} (hy : s.nd p = some y) : Sim s (s.drop k x p y) (fun _ => True) := fun j _ => by
 rw [drop_nd]
 by_cases hp : j = p
 . rw [if_pos hp, hp, hy]; rfl
 . rw [if_neg hp]
theorem Fst.leaf_at {s : Fst} {i : Nat} {x : Nd} (hx : s.nd i = some x) (hl : s.leaf i = true) : x.best = false /\ x.kids = 0 := by
 rw [Fst.leaf, hx] at hl
 simp only [Bool.and_eq_true, Bool.not_eq_true', decide_eq_true_eq] at hl
 exact hl
theorem erase_filter {l : List Nat} (hn : l.Nodup) {k i : Nat} (hk : l[k]? = some i) : l.eraseIdx k = l.filter fun j => decide (j ≠ i) := by
 induction l generalizing k with
 | nil => simp at hk
 | cons a r ih =>
   obtain ⟨h1, h2⟩ := List.nodup_cons.1 hn
   cases k with
   | zero =>
     simp only [List.getElem?_cons_zero, Option.some.injEq] at hk
     subst hk
     rw [List.eraseIdx_cons_zero, List.filter_cons, if_neg (by simp)]
     refine (List.filter_eq_self.2 fun j hj => ?_).symm
     have : j ≠ a := fun e => h1 (e ▸ hj)
     simpa using this
   | succ k =>
     simp only [List.getElem?_cons_succ] at hk
     have hai : a ≠ i := fun e => h1 (e ▸ List.mem_of_getElem? hk)
     rw [List.eraseIdx_cons_succ, List.filter_cons, if_pos (by simpa using hai), ih h2 hk]
theorem erase_ents {l : List Nat} (f : Nat -> List UInt8) (hu : (l.map f).Nodup) {k i : Nat} (hk : l[k]? = some i) : (l.map fun j => (f j, j)).filter (fun e => decide (e.1 ≠ f i)) = (l.filter fun j => decide (j ≠ i)).map fun j => (f j, j) := by
 rw [List.filter_map]
 congr 1
 refine List.filter_congr fun j hj => ?_
 show decide (f j ≠ f i) = decide (j ≠ i)
 refine decide_eq_decide.2 ⟨fun h e => h (by rw [e]), fun h e => h ?_⟩
 obtain ⟨a, ha⟩ := List.mem_iff_getElem?.1 hj
 have h1 : (l.map f)[a]? = some (f j) := by rw [List.getElem?_map, ha]; rfl
 have h2 : (l.map f)[k]? = some (f j) := by rw [List.getElem?_map, hk, e]; rfl
 have hak := (List.getElem?_inj (List.getElem?_eq_some_iff.1 h1).1 hu).1 (h1.trans h2.symm)
 rw [hak, hk] at ha
 exact (Option.some.inj ha).symm
theorem Fst.G.drop {s : Fst} (g : s.G) {k i p : Nat} {x y : Nd} (hk : s.bc[k]? = some i) (hx : s.nd i = some x) (hl : s.leaf i = true) (hp : x.on = some p) (hy : s.nd p = some y) : (s.drop k x p y).G := by
 obtain ⟨hx1, hx2⟩ := Fst.leaf_at hx hl
 have hib : i ∈ s.bc := List.mem_of_getElem? hk
 have sim := drop_sim (k := k) (x := x) hy
 have hbc : (s.drop k x p y).bc = s.bc.filter fun j => decide (j ≠ i) := erase_filter g.n hk
 have mem : ∀ j, j ∈ (s.drop k x p y).bc ↔ j ∈ s.bc /\ j ≠ i := fun j => by rw [hbc, List.mem_filter, decide_eq_true_eq]
 have hoi : s.onOf i = some p := by rw [Fst.onOf_at hx, hp]
 have hno : ∀ j ∈ s.bc, s.onOf j ≠ some i := fun j hj e => by
  have h1 := g.c i x hx hib
  rw [hx2] at h1
  have : j ∈ s.bc.filter fun k => decide (s.onOf k = some i) := List.mem_filter.2 ⟨hj, by simpa using e⟩
  rw [List.eq_nil_of_length_eq_zero h1.symm] at this
  cases this
 have hpm : ∀ j ∈ s.bc, j ≠ i -> ∀ r, Path s (j :: r) -> (∀ q ∈ j :: r, q ∈ s.bc) -> ∀ q ∈ j :: r, q ∈ s.bc /\ q ≠ i := by
  intro j hj hji r hr hrb q hq
  refine ⟨hrb q hq, fun e => ?_⟩
  subst e
  rcases List.mem_cons.1 hq with e | hq
  . exact hji e.symm
  . obtain ⟨q', h1, h2⟩ := Path.on hr q hq
    exact hno q' (hrb q' h1) h2
 have hpath : ∀ {l}, Path (s.drop k x p y) l -> Path s l := fun h => h.sim sim.symm fun _ _ => trivial
 have old : ∀ j z, (s.drop k x p y).nd j = some z -> ∃ z0, s.nd j = some z0 /\ z.h = z0.h /\ z.on = z0.on /\ z.wk = z0.wk /\ z.best = z0.best /\ z.kids = z0.kids - (if j = p then 1 else 0) := by
  intro j z hz
  rw [drop_nd] at hz
  by_cases hjp : j = p
  . rw [if_pos hjp] at hz; cases hz
    exact ⟨y, hjp ▸ hy, rfl, rfl, rfl, rfl, by rw [if_pos hjp]⟩
  . rw [if_neg hjp] at hz
    exact ⟨z, hz, rfl, rfl, rfl, rfl, by rw [if_neg hjp]; rfl⟩
 refine ⟨?_, ?_, fun j hj => ?_, ?_, fun j hj => ?_, ?_, fun j z q hz hj hq => ?_, fun j z r hz hr hj => ?_, fun j z hz hj => ?_, ?_, fun j z r hz hj hr => ?_⟩
 . rw [hbc]; exact g.n.filter _
 . have e1 : (s.drop k x p y).es = s.es.filter fun e => decide (e.1 ≠ (s.hd i).id) := by rw [Fst.hd_at hx]; rfl
   rw [e1, hbc, g.e, erase_ents (fun j => (s.hd j).id) g.u hk]
   exact List.map_congr_left fun j _ => by rw [sim.hd trivial]
 . obtain ⟨z, hz⟩ := g.x j ((mem j).1 hj).1
   obtain ⟨w, h1, _⟩ := sim.get trivial hz
   exact ⟨w, h1⟩
 . rw [List.map_congr_left (g := fun j => (s.hd j).id) fun j _ => by rw [sim.hd trivial], hbc]
   exact g.u.sublist (List.Sublist.map _ List.filter_sublist)
 . obtain ⟨h1, h2⟩ := (mem j).1 hj
   obtain ⟨r, h3, h4⟩ := g.p j h1
   exact ⟨r, h3.sim sim fun _ _ => trivial, fun q hq => (mem q).2 (hpm j h1 h2 r h3 h4 q hq)⟩
 . obtain ⟨r0, h1, h2⟩ := g.r
   have h0 : r0 ∈ s.bc := List.mem_of_head? h1
   have hri : r0 ≠ i := fun e => by
    have := (h2 r0 h0).2 rfl
    rw [e, hoi] at this; cases this
   refine ⟨r0, ?_, fun j hj => ?_⟩
   . rw [hbc]
     cases hb : s.bc with
     | nil => rw [hb] at h1; cases h1
     | cons a l =>
       rw [hb] at h1
       simp only [List.head?_cons, Option.some.injEq] at h1
       subst h1
       rw [List.filter_cons, if_pos (by simpa using hri)]; rfl
   . rw [sim.on trivial]; exact h2 j ((mem j).1 hj).1
 . obtain ⟨z0, h1, h2, h3, _⟩ := old j z hz
   rw [h2, sim.hd trivial]
   exact g.k j z0 q h1 ((mem j).1 hj).1 (h3 ▸ hq)
 . obtain ⟨z0, h1, _, _, h4, _⟩ := old j z hz
   rw [h4, g.w j z0 r h1 (hpath hr) ((mem j).1 hj).1, sim.hds fun _ _ => trivial]
 . obtain ⟨z0, h1, _, _, _, _, h6⟩ := old j z hz
   have e0 : (s.drop k x p y).cnt j = (s.bc.filter fun a => decide (s.onOf a = some j) && decide (a ≠ i)).length := by
    rw [Fst.cnt, hbc, List.filter_filter]
    congr 1
    exact List.filter_congr fun a _ => by rw [sim.on trivial]
   rw [h6, g.c j z0 h1 ((mem j).1 hj).1, e0, Fst.cnt]
   have e1 : ∀ l : List Nat, l.Nodup -> i ∈ l -> (l.filter fun a => decide (s.onOf a = some j) && decide (a ≠ i)).length = (l.filter fun a => decide (s.onOf a = some j)).length - (if j = p then 1 else 0) := by
    intro l
    induction l with
    | nil => intro _ h; cases h
    | cons a l ih =>
      intro hn hm
      obtain ⟨n1, n2⟩ := List.nodup_cons.1 hn
      by_cases hai : a = i
      . subst hai
        have e2 : (l.filter fun b => decide (s.onOf b = some j) && decide (b ≠ a)) = l.filter fun b => decide (s.onOf b = some j) :=
         List.filter_congr fun b hb => by
          have : b ≠ a := fun e => n1 (e ▸ hb)
          simp [this]
        rw [List.filter_cons, if_neg (by simp), e2, List.filter_cons, hoi]
        by_cases hjp : j = p
        . subst hjp; simp
        . have : ¬ p = j := fun e => hjp e.symm
          simp [this, hjp]
      . have hm' : i ∈ l := by
         rcases List.mem_cons.1 hm with e | h
         . exact absurd e.symm hai
         . exact h
        have hrec := ih n2 hm'
        rw [List.filter_cons, List.filter_cons]
        by_cases hc : s.onOf a = some j
        . rw [if_pos (by simp [hc, hai]), if_pos (by simp [hc]), List.length_cons, List.length_cons, hrec]
          by_cases hjp : j = p
          . have : i ∈ l.filter fun a => decide (s.onOf a = some j) := List.mem_filter.2 ⟨hm', by rw [hjp]; simpa using hoi⟩
            have := List.length_pos_of_mem this
            rw [if_pos hjp]; omega
          . rw [if_neg hjp]; omega
        . rw [if_neg (by simp [hc]), if_neg (by simp [hc])]; exact hrec
   exact (e1 s.bc g.n hib).symm
 . refine (mem _).2 ⟨g.t, fun e => ?_⟩
   obtain ⟨rt, h1, _⟩ := g.p _ g.t
   have := (g.b i x rt hx hib h1).2 (by rw [<- e]; show s.top ∈ _; simp)
   rw [hx1] at this; cases this
 . obtain ⟨z0, h1, _, _, _, h5, _⟩ := old j z hz
   rw [h5]; exact g.b j z0 r h1 ((mem j).1 hj).1 (hpath hr)
theorem FW.drop {V : Tbl} {s : Fst} (h : FW V s) (g : s.G) {k i p : Nat} {x y : Nd} (hk : s.bc[k]? = some i) (hy : s.nd p = some y) : FW V (s.drop k x p y) := by
 have hb := h.i.b
 have h1 : (s.setN p { y with kids := y.kids - 1 }).In V.length := h.i.setN hy _
 have nd : ∀ j z, (s.drop k x p y).nd j = some z -> ∃ z0, s.nd j = some z0 /\ z.h = z0.h /\ z.on = z0.on := by
  intro j z hz
  rw [drop_nd] at hz
  split at hz
  . rename_i e; cases hz; exact ⟨y, e ▸ hy, rfl, rfl⟩
  . exact ⟨z, hz, rfl, rfl⟩
 refine ⟨h1.put _ _ _ _ _ _, ⟨h.r.p, fun j z hz => ?_, fun q hq => ?_, h.r.t, fun e he => h.r.e e (List.mem_filter.1 he).1, fun j hj => h.r.b j (List.mem_of_mem_eraseIdx hj), fun j z q hz hq => ?_⟩, h.v, ?_, fun e he => h.k e (List.mem_filter.1 he).1, fun j z q hz hq => ?_, ?_⟩
 . obtain ⟨z0, q1, q2, _⟩ := nd j z hz
   rw [q2]; exact h.r.h j z0 q1
 . show AV.wo q (.sl s.b 0 (s.bc.length - 1)) = _
   rw [AV.wo, hq s.b (by omega)]; rfl
 . obtain ⟨z0, q1, _, q3⟩ := nd j z hz
   exact h.r.on j z0 q q1 (q3 ▸ hq)
 . show AV.sl s.b 0 (s.bc.length - 1) = .sl s.b 0 (s.bc.eraseIdx k).length
   rw [List.length_eraseIdx, if_pos (List.getElem?_eq_some_iff.1 hk).1]
 . obtain ⟨z0, q1, _, q3⟩ := nd j z hz
   obtain ⟨w, hw⟩ := h.n j z0 q q1 (q3 ▸ hq)
   rw [drop_nd]
   split
   . exact ⟨_, rfl⟩
   . exact ⟨w, hw⟩
 . show (s.bc.eraseIdx k).length <= _
   have := h.l
   rw [List.length_eraseIdx]; split <;> omega
theorem top_leaf {s : Fst} (g : s.G) {rt : List Nat} (ht : Path s (s.top :: rt)) : ∀ (n : Nat) (i : Nat) (x : Nd), i ∈ s.bc -> s.nd i = some x -> i ∉ s.top :: rt -> s.bc.length <= x.ht + n -> ∃ j ∈ s.bc, s.leaf j = true
 | 0, i, x, hi, hx, hn, hl => by
   obtain ⟨r, h1, h2⟩ := g.p i hi
   obtain ⟨z, q1, q2, _⟩ := h1.head
   rw [hx] at q1; cases q1
   have := h1.len h2
   rw [List.length_cons] at this; omega
 | n + 1, i, x, hi, hx, hn, hl => by
   by_cases hk : x.kids = 0
   . refine ⟨i, hi, ?_⟩
     rw [Fst.leaf, hx]
     have hb : x.best = false := by
      cases hb : x.best with
      | false => rfl
      | true => exact absurd ((g.b i x rt hx hi ht).1 hb) hn
     simp [hb, hk]
   . have hc := g.c i x hx hi
     obtain ⟨j, hj⟩ : ∃ j, j ∈ s.bc.filter fun k => decide (s.onOf k = some i) := by
      cases hf : s.bc.filter fun k => decide (s.onOf k = some i) with
      | nil => rw [Fst.cnt, hf] at hc; exact absurd hc hk
      | cons a l => exact ⟨a, by simp⟩
     obtain ⟨hjb, hjo⟩ := List.mem_filter.1 hj
     simp only [decide_eq_true_eq] at hjo
     obtain ⟨_, r, hjr⟩ := g.on_mem hjb hjo
     obtain ⟨z, q1, q2, q3⟩ := hjr.head
     obtain ⟨z', q1', q2', _⟩ := hjr.2.head
     rw [hx] at q1'; cases q1'
     refine top_leaf g ht n j z hjb q1 (fun hm => hn ?_) (by rw [List.length_cons] at q2; omega)
     obtain ⟨r', m1, m2⟩ := ht.mem j hm
     have := Path.uniq m1 hjr
     subst this
     exact m2.subset (by simp)
theorem Fst.G.leaf {s : Fst} (g : s.G) {z : Nd} (hz : s.nd s.top = some z) (h : z.ht + 1 < s.bc.length) : ∃ k i x p y, s.bc[k]? = some i /\ (∀ (j q : Nat), j < k -> s.bc[j]? = some q -> s.leaf q = false) /\ s.leaf i = true /\ s.nd i = some x /\ x.on = some p /\ s.nd p = some y /\ i ≠ p /\ 1 <= y.kids := by
 obtain ⟨rt, ht, htb⟩ := g.p _ g.t
 obtain ⟨z', q1, q2, _⟩ := ht.head
 rw [hz] at q1; cases q1
 obtain ⟨i, hi, hin⟩ : ∃ i ∈ s.bc, i ∉ s.top :: rt := by
  refine Classical.byContradiction fun hno => ?_
  have : ∀ i ∈ s.bc, i ∈ s.top :: rt := fun i hi => Classical.byContradiction fun hn => hno ⟨i, hi, hn⟩
  have := nodup_len g.n this
  rw [List.length_cons] at this; omega
 obtain ⟨x, hx⟩ := g.x i hi
 obtain ⟨j, hj, hjl⟩ := top_leaf g ht s.bc.length i x hi hx hin (by omega)
 obtain ⟨k, hk⟩ : ∃ k, s.bc.findIdx? s.leaf = some k := by
  cases hf : s.bc.findIdx? s.leaf with
  | some k => exact ⟨k, rfl⟩
  | none =>
    rw [List.findIdx?_eq_none_iff] at hf
    have := hf j hj
    rw [hjl] at this; cases this
 obtain ⟨hkl, h1, h2⟩ := List.findIdx?_eq_some_iff_getElem.1 hk
 obtain ⟨x', hx'⟩ := g.x (s.bc[k]) (List.getElem_mem hkl)
 have hb := (Fst.leaf_at hx' h1).1
 have hnt : s.bc[k] ∉ s.top :: rt := fun hm => by
  have := (g.b _ x' rt hx' (List.getElem_mem hkl) ht).2 hm
  rw [hb] at this; cases this
 obtain ⟨r0, hr0, hr1⟩ := g.r
 have hon : s.onOf s.bc[k] ≠ none := fun e => by
  have e1 := (hr1 _ (List.getElem_mem hkl)).1 e
  obtain ⟨q, m1, m2⟩ := ht.last
  have e2 := (hr1 q (htb q m1)).1 m2
  exact hnt (by rw [e1, <- e2]; exact m1)
 obtain ⟨p, hp⟩ := Option.ne_none_iff_exists'.1 hon
 have hp' : x'.on = some p := by rw [Fst.onOf_at hx'] at hp; exact hp
 obtain ⟨hpb, r, hpr⟩ := g.on_mem (List.getElem_mem hkl) hp
 obtain ⟨y, hy⟩ := g.x p hpb
 refine ⟨k, s.bc[k], x', p, y, by simp [hkl], fun j q hj hq => ?_, h1, hx', hp', hy, fun e => ?_, ?_⟩
 . have hjl := (List.getElem?_eq_some_iff.1 hq)
   have := h2 j hj
   rw [<- hjl.2]
   simpa using this
 . have := hpr.nodup.1
   rw [List.nodup_cons] at this
   exact this.1 (by rw [e]; simp)
 . rw [g.c p y hy hpb]
   exact List.length_pos_of_mem (List.mem_filter.2 ⟨List.getElem_mem hkl, by simpa using hp⟩)
end Go.Proofs.YtfpjalgfnjjcmaaGreatDoor
namespace Go.E
section
variable {P : Program} {G : Nat -> AV} {Z Z' Z0 : Heap} {ρ ρ' ρ0 : List BI} {T T' T0 : Tbl} {w w' w0 : World} {a b : AV} {u v : Value} {K : AV -> Tbl -> Eff -> Prop} {cs : List AV} {es E : Eff}
variable {N n m : Nat} {ro : Option Nat} {ds loc : List AV} {tmp : List (Nat × AV)} {Nk R : AKont} {X : Nat -> AKont}
def CtD {σ : Type} (N n : Nat) (k : σ -> Nat) (D : σ -> List AV) (L : σ -> List (Nat × AV)) (Tb : σ -> Tbl) (Q : σ -> Prop) (Ei : Eff) : AKont := fun ds' loc' _ T' E' =>
 ∃ s, Q s /\ N <= k s /\ ds'.map (AV.wo (k s <= ·)) = D s /\ Lc n (L s) (loc'.map (AV.wo (k s <= ·))) /\ (T'.take (k s)).map (AObj.wo (k s <= ·)) = Tb s /\ subE E' Ei
section
variable {σ τ : Type} {k : σ -> Nat} {D : σ -> List AV} {L : σ -> List (Nat × AV)} {Tb : σ -> Tbl} {Q : σ -> Prop} {Ei : Eff}
theorem CtD.elim {dv : List Nat} {lv : List Value} {tv : List (Nat × Value)} (h : LK G Z0 ρ0 T0 w0 (CtD ρ0.length n k D L Tb Q Ei) dv lv tv w) :
 ∃ s loc Z ρ, Q s /\ Lc n (L s) loc /\ Frm G Z0 ρ0 T0 w0 Z ρ (Tb s) w Ei /\ At Z ρ (D s) loc (tv.map fun p => (p.1, AV.p p.2)) dv lv tv := by
 obtain ⟨Z, ρ, T, E, ds, loc, tmp, hf, h1, h2, h3, s, hs, hk, hd, hl, ht, hE⟩ := h
 have hc := (hf.more hE).cut (k s) hk
 have hw := (hf.st.cut (k s)).2
 rw [ht] at hc
 exact ⟨s, _, Z, _, hs, hl, hc, ⟨hd ▸ h1.wo hw, h2.wo hw, RelT.all tv⟩⟩
theorem SemA.loopD {c : Code} (k : σ -> Nat) (D : σ -> List AV) (L : σ -> List (Nat × AV)) (Tb : σ -> Tbl) (Q : σ -> Prop) (μ : σ -> Nat) (s0 : σ) (Ei : Eff) (xi : Nat) (ke : τ -> Nat) (De : τ -> List AV) (Le : τ -> List (Nat × AV)) (Te : τ -> Tbl) (Qe : τ -> Prop) (hQ : Q s0) (hD : ds = D s0) (hL : Lc n (L s0) loc) (hT : T = Tb s0) (hE : ∀ x ∈ E, x ∈ Ei)
 (round : ∀ s g, Q s -> SemA P G N ro n m c (D s) (mkA g (L s) 0 n) [] (Tb s) Ei (CtD N n k D L Tb (fun s' => Q s' /\ μ s' < μ s) Ei) (fun j => if j = xi then CtD N n ke De Le Te Qe Ei else X j) R)
 (exit : ∀ s g tmp, Qe s -> X xi (De s) (mkA g (Le s) 0 n) tmp (Te s) Ei) : SemA P G N ro n m (.loop c) ds loc [] T E Nk X R := by
 intro Z0 ρ0 T0 w0 Z ρ w dv lv tv hN hf ha a haa Qs hQs
 subst hN
 refine wpIn_loop_ghost (fun k a w => ∃ (Z : Heap) (ρ : List BI) (s : σ) (loc : List AV) (dv : List Nat) (lv : List Value) (tv : List (Nat × Value)), Fits' n m dv lv tv a /\ Frm G Z0 ρ0 T0 w0 Z ρ (Tb s) w Ei /\ At Z ρ (D s) loc [] dv lv [] /\ (Q s /\ Lc n (L s) loc) /\ μ s = k)
  (μ s0) ⟨Z, ρ, s0, loc, dv, lv, tv, haa, hT ▸ hf.more hE, hD ▸ ha.clear, ⟨hQ, hL⟩, rfl⟩ ?_
 rintro k' a w ⟨Z, ρ, s, loc, dv, lv, tv, haa, hf, hat, ⟨hI, hL⟩, rfl⟩
 obtain ⟨g, rfl⟩ := hL.elim
 have hr := round s g hI Z0 ρ0 T0 w0 Z ρ w dv lv [] rfl hf hat
 refine hr a haa.cleared _ fun e dv' lv' tv' w' a' haa' hq => ?_
 cases e with
 | normal =>
   obtain ⟨s', loc', Z', ρ', ⟨h1, h2⟩, hl', h3, h4⟩ := CtD.elim hq
   exact ⟨_, h2, Z', ρ', s', _, dv', lv', tv', haa', h3, ⟨h4.ds, h4.loc, .nil⟩, ⟨h1, hl'⟩, rfl⟩
 | exit i =>
   simp only [mkQ] at hq
   split at hq
   . rename_i hi; subst hi
     obtain ⟨s', loc', Z', ρ', h1, hl', h3, h4⟩ := CtD.elim hq
     obtain ⟨g', rfl⟩ := hl'.elim
     exact hQs (.exit _) _ _ _ _ _ haa' ⟨Z', ρ', _, _, _, _, _, h3, h4.ds, h4.loc, h4.tmp, exit s' g' _ h1⟩
   . exact hQs (.exit i) _ _ _ _ _ haa' hq
 | ret => exact hQs .ret _ _ _ _ _ haa' hq
 | _ => exact hq.elim
end
theorem Vw.keep {v : AV} (keep : Nat -> Bool) (hk : ∀ i, i < T0.length -> keep i = true) (h : Vw G T0 K v (keepT keep T) E) : Vw G T0 K v T E := by
 intro Z0 ρ0 w0 Z ρ w x hs hf hr
 refine h Z0 ρ0 w0 Z ρ w x hs ⟨hf.g, hf.st.keepT keep, ⟨hf.ext.le, hf.ext.place, fun i y o b h1 h2 h3 h4 h5 => ?_⟩⟩ hr
 obtain ⟨g1, o', g2, g3⟩ := hf.ext.same i y o b h1 h2 h3 h4 h5
 have hi : i < T0.length := by rw [<- hs.len]; exact (List.getElem?_eq_some_iff.1 h3).1
 exact ⟨g1, o', by rw [keepT_get, g2]; simp only [Option.map_some, keepO, hk i hi], g3⟩
def retM (N : Nat) (P : Program) (rs : List ResultVar) (K : AV -> Tbl -> Eff -> Prop) : AKont := fun ds loc _ T E => match ds with
 | [] => resA P rs loc T fun v => K v T E
 | ds => ∃ n0, N <= n0 /\ (∀ a ∈ ds, ∃ i, a = .ptr i 0 /\ n0 <= i /\ T[i]? = some (.raw (.deferred (some [])))) /\ ds.Nodup /\ ∀ T', T'.length = T.length -> T'.take n0 = T.take n0 -> resA P rs loc T' fun v => K v T' E
theorem retMs_sound {fn : Func} (hn : rsLt n fn.results.toList = true) {n0 : Nat} (h0 : ρ0.length <= n0) : ∀ (ds : List AV) {Z : Heap} {ρ : List BI} {T : Tbl} {w : World} {dv : List Nat} {lv : List Value}, Frm G Z0 ρ0 T0 w0 Z ρ T w E -> RelL Z ρ ds (dv.map fun b => .pointer (some ⟨b, 0, none⟩)) -> RelL Z ρ loc lv ->
 (∀ a ∈ ds, ∃ i, a = .ptr i 0 /\ n0 <= i /\ T[i]? = some (.raw (.deferred (some [])))) -> ds.Nodup -> (∀ T', T'.length = T.length -> T'.take n0 = T.take n0 -> resA P fn.results.toList loc T' fun v => K v T' E) ->
 ResP P fn n (Post Z0 ρ0 T0 w0 K) dv lv w
 | [], Z, ρ, T, w, dv, lv, hf, hd, hl, hm, hnd, h => by
   have hdv : dv = [] := by have := hd.unnil; simpa using this
   subst hdv
   exact resA_sound hf hl hn (h T rfl rfl)
 | d :: ds, Z, ρ, T, w, dv, lv, hf, hd, hl, hm, hnd, h => by
   obtain ⟨i, rfl, hi0, hT⟩ := hm d (by simp)
   obtain ⟨v, us, hv, hr, hrs⟩ := hd.uncons
   obtain ⟨b, dv', rfl, rfl, rfl⟩ : ∃ b dv', dv = b :: dv' /\ v = .pointer (some ⟨b, 0, none⟩) /\ us = dv'.map fun b => .pointer (some ⟨b, 0, none⟩) := by
    cases dv with
    | nil => cases hv
    | cons b r => simp at hv; exact ⟨b, r, rfl, hv.1.symm, hv.2.symm⟩
   cases hr with
   | @ptr _ _ _ _ x hx hb =>
   obtain ⟨b', g1, g2⟩ := hf.st.obj _ _ _ hT hx
   rw [hb] at g1; cases g1
   have hb' : b < w.heap.size := (Array.getElem?_eq_some_iff.1 g2).1
   refine ⟨_, run_takeDeferred g2, ?_⟩
   obtain ⟨k1, k2⟩ := hf.st.write (w' := w.putObj b (.deferred none)) hT hx rfl (.raw (.deferred none)) rfl (fun k hk => World.putObj_heap_other fun e => hk (by rw [e]; exact hb)) ⟨rfl, rfl⟩ ⟨b, hb, World.putObj_heap_same hb'⟩
   have hf' := hf.step k1 k2
   have hE : Frm G Z0 ρ0 T0 w0 Z ρ (T.set i (.raw (.deferred none))) (w.putObj b (.deferred none)) E := ⟨hf'.g, hf'.st, hf'.ext.more fun x hx hl => by
    rcases recE_mem.1 hx with ⟨h1, _⟩ | h1
    . simp at h1; rw [h1] at hl; simp only at hl; omega
    . exact h1⟩
   obtain ⟨hnd1, hnd2⟩ := List.nodup_cons.1 hnd
   refine retMs_sound hn h0 ds hE hrs hl (fun a ha => ?_) hnd2 fun T' h1 h2 => h T' (by rw [h1, List.length_set]) (by rw [h2, List.take_set_of_le hi0])
   obtain ⟨j, rfl, hj0, hj⟩ := hm a (by simp [ha])
   exact ⟨j, rfl, hj0, by rw [List.getElem?_set_ne (fun e => hnd1 (by rw [e]; exact ha))]; exact hj⟩
theorem retM_sound {fn : Func} (hf : Frm G Z0 ρ0 T0 w0 Z ρ T w E) {dv : List Nat} {lv : List Value} (hd : RelL Z ρ ds (dv.map fun b => .pointer (some ⟨b, 0, none⟩))) (hl : RelL Z ρ loc lv) (hn : rsLt n fn.results.toList = true) (h : retM ρ0.length P fn.results.toList K ds loc tmp T E) :
 ResP P fn n (Post Z0 ρ0 T0 w0 K) dv lv w := by
 unfold retM at h
 split at h
 . have hdv : dv = [] := by have := hd.unnil; simpa using this
   subst hdv
   exact resA_sound hf hl hn h
 . obtain ⟨n0, h0, h1, h2, h3⟩ := h
   exact retMs_sound hn h0 _ hf hd hl h1 h2 h3
theorem vrm (N : Nat) (P : Program) (rs : List ResultVar) (K : AV -> Tbl -> Eff -> Prop) (loc : List AV) (tmp : List (Nat × AV)) (T : Tbl) (E : Eff) : retM N P rs K [] loc tmp T E = resA P rs loc T fun v => K v T E := rfl
theorem retM.of {N : Nat} {rs : List ResultVar} (n0 : Nat) (h0 : N <= n0) (h1 : ∀ a ∈ ds, ∃ i, a = .ptr i 0 /\ n0 <= i /\ T[i]? = some (.raw (.deferred (some [])))) (h2 : ds.Nodup) (h3 : ∀ T', T'.length = T.length -> T'.take n0 = T.take n0 -> resA P rs loc T' fun v => K v T' E) : retM N P rs K ds loc tmp T E := by
 cases ds with
 | nil => exact h3 T rfl rfl
 | cons d r => exact ⟨n0, h0, h1, h2, h3⟩
theorem CallA.enterM {f : FuncId} {fn : Func} {c : Code} {args : List AV} {m : Nat} {rs : List ResultVar} (n : Nat) (hf : P.funcs[f]? = some fn) (hm : fn.ntmps = m) (hrs : fn.results.toList = rs) (hb : fn.body = some c) (hn : (args.length <= n /\ n <= m)) (hr : rsLt n rs = true)
 (h : SemA P G T.length none n m c [] (args ++ List.replicate (n - args.length) (.p undef)) [] T [] (retM T.length P rs (Vw G T K)) (fun _ _ _ _ _ _ => False) (retM T.length P rs (Vw G T K))) : CallA P G f args T K := by
 subst hm; subst hrs
 have this : CallA P G f args T (Vw G T K) := by
  intro Z ρ w vs hG hs ha
  have hl := ha.1
  refine Ret.enterS n hf hb ⟨by simp; omega, hn.2⟩ ?_
  have hsem := h Z ρ T w Z ρ w [] (vs ++ List.replicate (n - vs.length) undef) [] hs.len ⟨hG, hs, Ext.refl rfl⟩ ⟨.nil, ha.append (by rw [hl]; have := RelL.ps (Z := Z) (ρ := ρ) (List.replicate (n - vs.length) undef); rwa [List.map_replicate] at this), .nil⟩
  have e : (vs.toArray.toList ++ List.replicate (n - vs.toArray.size) undef) = vs ++ List.replicate (n - vs.length) undef := by simp
  rw [e]
  refine hsem.mono fun e dv lv tv w' hq => ?_
  cases e with
  | normal => obtain ⟨Z', ρ', T', E', ds', loc', tmp', g1, g2, g3, g4, g5⟩ := hq; exact retM_sound g1 g2 g3 hr (by rw [hs.len]; exact g5)
  | ret => obtain ⟨Z', ρ', T', E', ds', loc', tmp', g1, g2, g3, g4, g5⟩ := hq; exact retM_sound g1 g2 g3 hr (by rw [hs.len]; exact g5)
  | exit i => obtain ⟨Z', ρ', T', E', ds', loc', tmp', g1, g2, g3, g4, g5⟩ := hq; exact g5.elim
  | _ => exact hq.elim
 intro Z ρ w vs hG hs ha
 refine (this Z ρ w vs hG hs ha).mono fun x w' ⟨Z', ρ', T', es, a, h1, h2, h3, h4⟩ => ?_
 exact h4 Z ρ w Z' ρ' w' x hs ⟨hG.mono h2.le, h1, h2⟩ h3
end
end Go.E
namespace Go.Proofs.YtfpjalgfnjjcmaaGreatDoor
open Go.E Go.Proofs.YtfpjalgfnjjcmaaGreatDoor.Tryz Go.Proofs.Tryz
theorem FT_tail {V : Tbl} {s : Fst} (h : s.In V.length) (l : Tbl) : FT V s ++ l = FT (V ++ l) s := by
 refine List.ext_getElem? fun i => ?_
 rw [FT_at]
 by_cases hi : i < V.length
 . rw [List.getElem?_append_left (by rw [FT_len]; exact hi), FT_at, List.getElem?_append_left hi]
 . rw [List.getElem?_append_right (by rw [FT_len]; omega), FT_len, List.getElem?_append_right (by omega)]
   have hf := h.f
   have hm := h.m
   have hb := h.b
   have hn : s.nd i = none := by
    cases hx : s.nd i with
    | none => rfl
    | some x => have := h.nn i x hx; omega
   cases l[i - V.length]? with
   | none => rfl
   | some o => simp only [Option.map_some, Fst.ob, hn]; rw [if_neg (by omega), if_neg (by omega), if_neg (by omega)]
theorem FT_new {V : Tbl} {s : Fst} (h : s.In V.length) (x : Nd) (l : Tbl) : FT V s ++ (.cells 75 x.cs :: l) = FT (V ++ [.gone]) (s.setN V.length x) ++ l := by
 have hf := h.f
 have hm := h.m
 have hb := h.b
 refine List.ext_getElem? fun i => ?_
 by_cases hi : i < V.length
 . rw [List.getElem?_append_left (by rw [FT_len]; exact hi), List.getElem?_append_left (by rw [FT_len, List.length_append]; simp; omega), FT_at, FT_at, List.getElem?_append_left hi]
   have : i ≠ V.length := by omega
   congr 1
   funext o
   show s.ob i o = (s.setN V.length x).ob i o
   simp only [Fst.ob, Fst.setN, Fst.cs, this, if_false]
 . by_cases hi2 : i = V.length
   . subst hi2
     rw [List.getElem?_append_right (by rw [FT_len]; exact Nat.le_refl _), FT_len, Nat.sub_self, List.getElem?_append_left (by rw [FT_len, List.length_append]; simp), FT_at, List.getElem?_append_right (Nat.le_refl _), Nat.sub_self]
     simp only [List.getElem?_cons_zero, Option.map_some, Fst.ob, Fst.setN, if_true]
     rw [if_neg (by omega), if_neg (by omega), if_neg (by omega)]
   . rw [List.getElem?_append_right (by rw [FT_len]; omega), List.getElem?_append_right (by rw [FT_len, List.length_append]; simp; omega), FT_len, FT_len, List.length_append, show i - V.length = (i - (V.length + 1)) + 1 by omega, List.getElem?_cons_succ]; rfl
structure Tl (n b : Nat) (l : Tbl) : Prop where
 wo : ∀ q : Nat -> Bool, (∀ i, i < n + l.length -> q i = false) -> l.map (AObj.wo q) = l
 b : l.map (AObj.wo (· == b)) = l
theorem Vok.app {V : Tbl} {b : Nat} (h : Vok V b) {l : Tbl} (hl : Tl V.length b l) : Vok (V ++ l) b :=
 ⟨fun q hq => by
  rw [List.length_append] at hq
  rw [List.map_append, h.wo q fun i hi => hq i (by omega), hl.wo q hq], by rw [List.map_append, h.b, hl.b]⟩
theorem Fst.Ref.mono {s : Fst} {n m : Nat} (h : s.Ref n) (hm : n <= m) : s.Ref m :=
 ⟨h.p, h.h, fun q hq => h.o q fun i hi => hq i (by omega), by have := h.t; omega, fun x hx => by have := h.e x hx; omega, fun i hi => by have := h.b i hi; omega, fun i x j hi hj => by have := h.on i x j hi hj; omega⟩
theorem FW.app {V : Tbl} {s : Fst} (h : FW V s) {l : Tbl} (hl : Tl V.length s.b l) : FW (V ++ l) s :=
 ⟨h.i.mono (by simp), h.r.mono (by simp), h.v.app hl, h.o, h.k, h.n, h.l⟩
def FE (n b : Nat) : Eff := (b, true) :: EF n
theorem FE_mem {n b i : Nat} {t : Bool} : (i, t) ∈ FE n b ↔ (i = b /\ t = true) ∨ (i < n /\ t = false) := by
 simp only [FE, List.mem_cons, Prod.mk.injEq, EF_mem]
structure IdL (a : AV) (l : List (List UInt8)) : Prop where
 es : ∀ T, Es T 32 (fun x => x.map by8) a l
 l : ∀ x ∈ l, x.length = 32
 wo : ∀ q, a.wo q = a
 pub : ∀ i cs, a.pub i cs = a
theorem IdL.nil : IdL (.p (.slice none 0 0)) [] := ⟨fun _ => Es.nil, by simp, fun _ => by rw [AV.wo], fun _ _ => by rw [AV.pub]⟩
theorem IdL.vs {l : List (List UInt8)} (h : ∀ x ∈ l, x.length = 32) : IdL (.vs (l.flatMap fun x => x.map by8) l.length) l :=
 ⟨fun _ => Es.vs fun x hx => by rw [List.length_map, h x hx], h, fun _ => by rw [AV.wo], fun _ _ => by rw [AV.pub]⟩
open Classical in
theorem mset_new {es : List (Value × AV)} {k : Value} (h : mfind es k = none) (a x : AV) : mset (mset es k a) k x = es ++ [(k, x)] := by
 have h0 : mset es k a = es ++ [(k, a)] := by unfold mset; rw [h]
 have hne : ∀ e ∈ es, ¬ e.1 = k := by
  unfold mfind at h
  rw [Option.map_eq_none_iff, List.find?_eq_none] at h
  intro e he
  simpa using h e he
 have h1 : mfind (es ++ [(k, a)]) k = some a := by
  unfold mfind at h ⊢
  rw [Option.map_eq_none_iff] at h
  rw [List.find?_append, h]
  simp
 rw [h0]
 unfold mset
 rw [h1]
 simp only [List.map_append, List.map_cons, List.map_nil, if_true]
 congr 1
 refine (List.map_congr_left fun e he => ?_).trans (List.map_id es)
 rw [if_neg (hne e he)]; rfl
def bN (h i t : List AV) : List AV := h ++ (i ++ t)
def tzN : List AV := [.p (.pointer none), wint 0, .p (.int .u64 0), .p (.int .u64 0), .p (.int .u64 0), .p (.int .u64 0), wint 0, .p (.bool false)]
theorem ezN : [oW, oB, oB, oB, oB, oB, oB, oB, oB, oB, oB, oB, oB, oB, oB, oB, oB, oB, oB, oB, oB, oB, oB, oB, oB, oB, oB, oB, oB, oB, oB, oB, oB, oB, oB, oB, oB, oB, oB, oB, oB, oB, oB, oB, oB, oB, oB, oB, oB, oB, oB, oB, oB, oB, oB, oB, oB, oB, oB, oB, oB, oB, oB, oB, oB, oW, oW, oW, oB, oB, oB, oB, oB, oB, oB, oB, oB, oB, oB, oB, oB, oB, oB, oB, oB, oB, oB, oB, oB, oB, oB, oB, oB, oB, oB, oB, oB, oB, oB, oB, AV.p (Value.pointer none), oI, oQ, oQ, oQ, oQ, oI, AV.p (Value.bool false)] = bN z68 z32 tzN := rfl
theorem bN_rules : (bN z68 z32 tzN).length = 108 /\ (∀ h : Hdr, h.Ok -> wrA (bN z68 z32 tzN) 0 h.cs = bN h.cs z32 tzN) /\ (∀ h : Hdr, h.Ok -> (bN h.cs z32 tzN).length = 108) /\
 (∀ h : Hdr, h.Ok -> ∀ l : List UInt8, l.length = 32 -> wrA (bN h.cs z32 tzN) 68 (l.map by8) = bN h.cs (l.map by8) tzN) /\ (∀ h : Hdr, h.Ok -> ∀ l : List UInt8, l.length = 32 -> ∀ t, t.length = 8 -> (bN h.cs (l.map by8) t).length = 108) /\
 (∀ h : Hdr, h.Ok -> ∀ l : List UInt8, l.length = 32 -> ∀ t a, (bN h.cs (l.map by8) t).set 100 a = bN h.cs (l.map by8) (t.set 0 a)) /\ (∀ h : Hdr, h.Ok -> ∀ l : List UInt8, l.length = 32 -> ∀ t a, (bN h.cs (l.map by8) t).set 101 a = bN h.cs (l.map by8) (t.set 1 a)) := by
 refine ⟨rfl, fun h ok => ?_, fun h ok => ?_, fun h ok l hl => ?_, fun h ok l hl t ht => ?_, fun h ok l hl t a => ?_, fun h ok l hl t a => ?_⟩
 . have h1 := Hdr.cs_len ok
   rw [wrA_eq (by rw [h1]; decide), h1]; rfl
 . have h1 := Hdr.cs_len ok
   rw [bN, List.length_append, h1]; rfl
 . have h1 := Hdr.cs_len ok
   have h2 : (l.map by8).length = 32 := by simp [hl]
   have h3 : (bN h.cs z32 tzN).length = 108 := by rw [bN, List.length_append, h1]; rfl
   rw [wrA_eq (by rw [h2, h3]; decide), h2, bN, bN, <- h1, List.take_left, show h.cs.length + 32 = h.cs.length + 32 from rfl, List.append_assoc]
   congr 1
   rw [<- List.drop_drop, List.drop_left]; rfl
 . have h1 := Hdr.cs_len ok
   rw [bN, List.length_append, List.length_append, h1, List.length_map, hl, ht]
 . have h1 := Hdr.cs_len ok
   rw [bN, List.set_append_right _ _ (by omega), List.set_append_right _ _ (by rw [List.length_map]; omega), h1, List.length_map, hl]; rfl
 . have h1 := Hdr.cs_len ok
   rw [bN, List.set_append_right _ _ (by omega), List.set_append_right _ _ (by rw [List.length_map]; omega), h1, List.length_map, hl]; rfl
def AddK (V : Tbl) (s : Fst) (hd : Hdr) (v : AV) (T' : Tbl) (es : Eff) : Prop :=
 ∃ s' ht gone e l a, AddR V.length s hd s' ht gone e /\ s'.G /\ IdL a gone /\ FW (V ++ l) s' /\ (∃ k, l = List.replicate k .gone) /\ s'.b = s.b /\ s'.f = s.f /\ v = .tu [wint (ht : Int), a, .p (.int .i64 e)] /\ T' = FT (V ++ l) s' /\ es = FE V.length s.b
structure AddM (V : Tbl) (s : Fst) (hd : Hdr) (s7 : Fst) (ht : Nat) : Prop where
 g : s7.G
 w : FW (V ++ [.gone]) s7
 f : s7.f = s.f
 b : s7.b = s.b
 r : s7.room = s.room
 x : ∃ x, s7.nd V.length = some x /\ x.ht = ht
 l : s7.bc.length <= s.bc.length + 1
 k : ∀ l s', Drops s7 l s' -> AddR V.length s hd s' ht l 0
def box4 (s : Fst) (hd : Hdr) (a : AV) : Tbl := [AObj.cells 32 [AV.ptr s.f 0], AObj.cells 28 hd.cs, AObj.cells 40 [a], AObj.cells 26 (List.map by8 hd.id)]
def bx5 (s : Fst) (hd : Hdr) (n : Nat) (gs : List (List UInt8)) (M : Tbl) : Tbl := AObj.cells 32 [AV.ptr s.f 0] :: AObj.cells 28 hd.cs :: AObj.cells 40 [AV.sl (n + 4) 0 gs.length] :: AObj.cells 26 (List.map by8 hd.id) :: AObj.buf 26 32 (gs.flatMap fun x => x.map by8) :: M
def mks (s : Fst) : Nat -> Tbl
 | 0 => []
 | k + 1 => mks s k ++ [AObj.cells 32 [AV.ptr s.f 0], .raw (.deferred (some []))]
def dsM (n : Nat) : Nat -> List AV
 | 0 => []
 | k + 1 => .ptr (n + (2 * k + 6)) 0 :: dsM n k
theorem mks_len (s : Fst) : ∀ k, (mks s k).length = 2 * k
 | 0 => rfl
 | k + 1 => by rw [mks, List.length_append, mks_len s k]; simp; omega
theorem mks_wo {s : Fst} {q : Nat -> Bool} (h : q s.f = false) : ∀ k, (mks s k).map (AObj.wo q) = mks s k
 | 0 => rfl
 | k + 1 => by
   rw [mks, List.map_append, mks_wo h k]
   simp only [List.map_cons, List.map_nil, AObj.wo, AV.wo, h, Bool.false_eq_true, if_false]
theorem dsM_wo (n : Nat) {q : Nat -> Bool} : ∀ k, (∀ j, j < k -> q (n + (2 * j + 6)) = false) -> (dsM n k).map (AV.wo q) = dsM n k
 | 0, _ => rfl
 | k + 1, h => by
   rw [dsM, List.map_cons, dsM_wo n k fun i hi => h i (by omega), AV.wo, h k (by omega)]; rfl
theorem dsM_mem {n : Nat} : ∀ {k : Nat} {a : AV}, a ∈ dsM n k -> ∃ j, j < k /\ a = .ptr (n + (2 * j + 6)) 0
 | k + 1, a, h => by
   rcases List.mem_cons.1 h with rfl | h
   . exact ⟨k, by omega, rfl⟩
   . obtain ⟨j, hj, e⟩ := dsM_mem h
     exact ⟨j, by omega, e⟩
theorem dsM_nodup (n : Nat) : ∀ k, (dsM n k).Nodup
 | 0 => List.nodup_nil
 | k + 1 => List.nodup_cons.2 ⟨fun h => by
   obtain ⟨j, hj, e⟩ := dsM_mem h
   simp only [AV.ptr.injEq, and_true] at e; omega, dsM_nodup n k⟩
theorem mks_get (s : Fst) : ∀ {k j : Nat}, j < k -> (mks s k)[2 * j + 1]? = some (.raw (.deferred (some [])))
 | k + 1, j, h => by
   rw [mks]
   by_cases hj : j = k
   . rw [hj, List.getElem?_append_right (by rw [mks_len]; omega), mks_len, show 2 * k + 1 - 2 * k = 1 by omega]; rfl
   . rw [List.getElem?_append_left (by rw [mks_len]; omega)]
     exact mks_get s (by omega)
theorem ids_wo (q : Nat -> Bool) (gs : List (List UInt8)) : (gs.flatMap fun x => x.map by8).map (AV.wo q) = gs.flatMap fun x => x.map by8 := by
 rw [List.map_flatMap]; congr 1; funext x; exact wb8 q x
theorem bx5_len (s : Fst) (hd : Hdr) (n : Nat) (gs : List (List UInt8)) (k : Nat) : (bx5 s hd n gs (mks s k)).length = 2 * k + 5 := by rw [bx5]; simp [mks_len]
theorem bx5_tl {n : Nat} {s : Fst} {hd : Hdr} (ok : hd.Ok) (h1 : s.f < n) (h2 : s.b < n) (h3 : s.f ≠ s.b) (gs : List (List UInt8)) (k : Nat) : Tl n s.b (bx5 s hd n gs (mks s k)) := by
 have hhw := (Hdr.rules ok).2.2.2.2.2.2.2.2.2.1
 refine ⟨fun q hq => ?_, ?_⟩
 . have q1 := hq s.f (by omega)
   have q2 := hq (n + 4) (by rw [bx5]; simp)
   simp only [bx5, List.map_cons, AObj.wo, AV.wo, hhw, wb8, ids_wo, q1, q2, mks_wo q1 k, List.map_nil, Bool.false_eq_true, if_false]
 . have q2 : (n + 4 == s.b) = false := by simp; omega
   have bf : (s.f == s.b) = false := by simpa using h3
   simp only [bx5, List.map_cons, AObj.wo, AV.wo, hhw, wb8, ids_wo, bf, q2, mks_wo (q := (· == s.b)) bf k, List.map_nil, Bool.false_eq_true, if_false]
structure AddL (V : Tbl) (s : Fst) (hd : Hdr) (ht : Nat) (s8 : Fst) (gs : List (List UInt8)) : Prop where
 g : s8.G
 w : FW (V ++ [.gone]) s8
 f : s8.f = s.f
 b : s8.b = s.b
 r : s8.room = s.room
 x : ∃ x, s8.nd V.length = some x /\ x.ht = ht
 l : s8.bc.length + gs.length <= s.bc.length + 1
 i : ∀ x ∈ gs, x.length = 32
 k : ∀ l s', Drops s8 l s' -> AddR V.length s hd s' ht (gs ++ l) 0
theorem AddM.first {V : Tbl} {s s7 : Fst} {hd : Hdr} {ht : Nat} (h : AddM V s hd s7 ht) : AddL V s hd ht s7 [] := ⟨h.g, h.w, h.f, h.b, h.r, h.x, by have := h.l; simp; omega, by simp, h.k⟩
theorem AddK.same {V : Tbl} {s : Fst} {hd : Hdr} (h : FW V s) (g : s.G) {ht : Nat} {e : Int} (hr : AddR V.length s hd s ht [] e) {l : Tbl} {a b c : AV} (ha : a = wint (ht : Int)) (hb : b = .p (.slice none 0 0)) (hc : c = .p (.int .i64 e)) (hl : ∀ T : Tbl, T = FT V s ++ l -> (FT V s).length = V.length) : Vw G (FT V s) (AddK V s hd) (.tu [a, b, c]) (FT V s ++ l) [] := by
 subst ha; subst hb; subst hc
 refine Vw.eff (E' := FE V.length s.b) (by simp) (Vw.cut ?_)
 refine ⟨s, ht, [], e, [], .p (.slice none 0 0), hr, g, IdL.nil, by rw [List.append_nil]; exact h, ⟨0, rfl⟩, rfl, rfl, ?_, by rw [List.append_nil], rfl⟩
 simp only [AV.wo, AV.woL, wint]
theorem fadd_ok {V : Tbl} {s : Fst} (h : FW V s) (g : s.G) {hd : Hdr} (ok : hd.Ok) (hroom : 1 <= s.room) (hlen : s.bc.length <= 50000) :
 CallA prog G 11 [.ptr s.f 0, .ag hd.cs] (FT V s) (AddK V s hd) := by
 have hf := Fst.rules h.r.p
 have hi := h.i.rules
 have wt := h.r.t' h.i h.v
 have hr := Hdr.rules ok
 have hko := mapKO_ent h.k hd.id_len
 have hko2 := mapKO_ent h.k ok.p
 have hmf : mfind (s.es.map ent) (hv hd.id) = (s.look hd.id).map fun i => .ptr i 0 := mfind_ent _ _
 have hmf2 : mfind (s.es.map ent) (hv hd.prev) = (s.look hd.prev).map fun i => .ptr i 0 := mfind_ent _ _
 have hfl := flat8 hd.id
 have hfl2 := flat8 hd.prev
 have h32 : List.take 32 (List.drop 0 hd.id) = hd.id := by rw [List.drop_zero, List.take_of_length_le (by rw [hd.id_len]; exact Nat.le_refl _)]
 have h32b : List.take 32 hd.prev = hd.prev := List.take_of_length_le (by rw [ok.p]; exact Nat.le_refl _)
 have hid := hd.id_len
 obtain ⟨V', hV'⟩ : ∃ V', V' = V ++ [AObj.gone] := ⟨_, rfl⟩
 have hVl : V'.length = V.length + 1 := by rw [hV', List.length_append]; rfl
 refine CallA.enterM 122 func11 ntmps11 (congrArg Array.toList results11) rfl ⟨by simp, by simp⟩ (by kernel_rfl) ?_
 refine SemA.cutK (V'.length + 4) [] (fun t : Fst × Nat => [(2, .ptr V'.length 0), (3, .ptr (V'.length + 1) 0), (5, .ptr (V'.length + 2) 0), (7, .ptr (V'.length + 3) 0), (11, .ptr V.length 0)]) (fun t => FT V' t.1 ++ box4 s hd (.p (.slice none 0 0))) (fun t => AddM V s hd t.1 t.2) (FE V.length s.b) (by rw [FT_len]; omega) 12 rfl (by kernel_rfl) ?_ ?_
 rotate_left
 . rintro ⟨s7, ht⟩ gg tmp hM
   dsimp only at hM ⊢
   have hh4 : V'.length = V.length + 1 := hVl
   unfold box4
   simp -dsimp +decide (disch := omega) only [vrm, vt2, vy, vz, vze, v1q, ↓reduceIte, Nat.reduceSub, Nat.reduceAdd, Nat.reduceMul, Nat.reduceLT, Int.reduceAdd, Int.reduceSub, Int.reduceToNat, v4q, vft]
   refine SemA.adoptC (i := V'.length + 2) (k := 0) 26 32 (by decide) (by omega) (vft.2.2.2.1 _ _ _ _ _ _) rfl ?_
   simp -dsimp +decide (disch := omega) only [vrm, vt2, vy, vz, vze, v1q, ↓reduceIte, Nat.reduceSub, Nat.reduceAdd, Nat.reduceMul, Nat.reduceLT, Int.reduceAdd, Int.reduceSub, Int.reduceToNat, v4q, vft]
   refine SemA.o ?_
   simp -dsimp +decide (disch := omega) only [vrm, vt2, vy, vz, vze, v1q, ↓reduceIte, Nat.reduceSub, Nat.reduceAdd, Nat.reduceMul, Nat.reduceLT, Int.reduceAdd, Int.reduceSub, Int.reduceToNat, v4q, vft]
   refine SemA.loopD (fun t : Fst × List (List UInt8) => V'.length + (2 * t.2.length + 5)) (fun t => dsM V'.length t.2.length) (fun t => [(2, .ptr V'.length 0), (5, .ptr (V'.length + 2) 0), (11, .ptr V.length 0)]) (fun t => FT V' t.1 ++ bx5 s hd V'.length t.2 (mks s t.2.length)) (fun t => AddL V s hd ht t.1 t.2) (fun t => t.1.bc.length) (s7, []) (FE V.length s.b) 0 (fun t : Fst × List (List UInt8) => V'.length + (2 * t.2.length + 5)) (fun t => dsM V'.length t.2.length) (fun t => [(2, .ptr V'.length 0), (5, .ptr (V'.length + 2) 0), (11, .ptr V.length 0)]) (fun t => FT V' t.1 ++ bx5 s hd V'.length t.2 (mks s t.2.length)) (fun t => AddL V s hd ht t.1 t.2 /\ Drops t.1 [] t.1) hM.first rfl ⟨rfl, rfl, rfl, rfl⟩ rfl (fun _ h => h) ?_ ?_
   . rintro ⟨s8, gs⟩ g hL
     dsimp only at hL
     have W8 : FW V' s8 := hV' ▸ hL.w
     have hi8 := W8.i.rules
     rw [hL.f, hL.b] at hi8
     have c8 := Fst.rules W8.r.p
     obtain ⟨z8, hz8⟩ := hL.g.x _ hL.g.t
     obtain ⟨r8, hr8, hr8b⟩ := hL.g.p _ hL.g.t
     have hz8h : z8.ht = r8.length /\ r8.length + 1 <= s8.bc.length := by
      obtain ⟨x, q1, q2, q3⟩ := hr8.head
      rw [hz8] at q1; cases q1
      exact ⟨q2, hr8.len hr8b⟩
     have hbl8 := hL.l
     obtain ⟨M, hMM⟩ : ∃ M, M = mks s gs.length := ⟨_, rfl⟩
     have hMl : M.length = 2 * gs.length := by rw [hMM, mks_len]
     have hMw : ∀ q : Nat -> Bool, q s.f = false -> M.map (AObj.wo q) = M := fun q hq => by rw [hMM]; exact mks_wo hq _
     have hfl' := h.i.f
     have hbl' := h.i.b
     have bf : (s.f == s.b) = false := by simpa using h.i.fb
     have hhw := hr.2.2.2.2.2.2.2.2.2.1
     have tl : Tl V'.length s.b (bx5 s hd V'.length gs M) := by rw [hMM]; exact bx5_tl ok (by omega) (by omega) h.i.fb gs _
     have hfo := forks_ok (W8.app (hL.b ▸ tl)) hz8 (by omega)
     rw [hL.f, <- FT_tail W8.i] at hfo
     rw [<- hMM]
     refine SemA.o ?_
     unfold bx5 at hfo ⊢
     simp -dsimp +decide (disch := omega) only [vrm, vt2, vy, vz, vze, v1q, ↓reduceIte, Nat.reduceSub, Nat.reduceAdd, Nat.reduceMul, Nat.reduceLT, Int.reduceAdd, Int.reduceSub, Int.reduceToNat, v4q, vft]
     refine SemA.draw (fun i => true) [(0, true), (2, true), (3, true), (4, true), (5, true), (1, false), (6, true)] mixed (by kernel_rfl) ?_
     simp -dsimp +decide (disch := omega) only [vrm, vt2, vy, vz, vze, v1q, ↓reduceIte, Nat.reduceSub, Nat.reduceAdd, Nat.reduceMul, Nat.reduceLT, Int.reduceAdd, Int.reduceSub, Int.reduceToNat, v4q, vft, kallT, hi8, c8]
     refine hfo.det' ?_
     simp -dsimp +decide (disch := omega) only [vrm, vt2, vy, vz, vze, v1q, ↓reduceIte, Nat.reduceSub, Nat.reduceAdd, Nat.reduceMul, Nat.reduceLT, Int.reduceAdd, Int.reduceSub, Int.reduceToNat, v4q, vft, kallT, hi8, c8]
     by_cases hc : z8.ht + 1 + s8.room < s8.bc.length
     . have i1 := decide_eq_true (show (s8.room : Int) < (s8.bc.length : Int) - (z8.ht : Int) - 1 by omega)
       simp -dsimp +decide (disch := omega) only [vrm, vt2, vy, vz, vze, v1q, ↓reduceIte, Nat.reduceSub, Nat.reduceAdd, Nat.reduceMul, Nat.reduceLT, Int.reduceAdd, Int.reduceSub, Int.reduceToNat, v4q, vft, kallT, hi8, c8, i1]
       have hfl8 : s8.f < V'.length := by rw [hL.f]; omega
       have hlv := leaves_ok (V := V') (s := s8) (bx5 s hd V'.length gs M) hfl8
       have hbl5 : (bx5 s hd V'.length gs M).length = 2 * gs.length + 5 := by rw [bx5]; simp [hMl]
       rw [hL.f, hbl5] at hlv
       unfold bx5 at hlv
       refine hlv.det' ?_
       obtain ⟨k0, i0, x0, p0, y0, hk0, hk1, hlf0, hx0, hp0, hy0, hip0, hyk0⟩ := hL.g.leaf hz8 (by omega)
       simp -dsimp +decide (disch := omega) only [vrm, vt2, vy, vz, vze, v1q, ↓reduceIte, Nat.reduceSub, Nat.reduceAdd, Nat.reduceMul, Nat.reduceLT, Int.reduceAdd, Int.reduceSub, Int.reduceToNat, v4q, vft, hi8, c8]
       have hxs : s8.bc.filter s8.leaf = i0 :: (s8.bc.drop (k0 + 1)).filter s8.leaf := by
        have hk0l := (List.getElem?_eq_some_iff.1 hk0).1
        have e1 : s8.bc = s8.bc.take k0 ++ i0 :: s8.bc.drop (k0 + 1) := by
         have := List.take_append_drop k0 s8.bc
         rw [List.drop_eq_getElem_cons hk0l] at this
         rw [List.getElem?_eq_getElem hk0l] at hk0
         rw [Option.some.inj hk0] at this
         exact this.symm
        have e2 : (s8.bc.take k0).filter s8.leaf = [] := by
         rw [List.filter_eq_nil_iff]
         intro q hq
         obtain ⟨j, hj⟩ := List.mem_iff_getElem?.1 hq
         have hjl := (List.getElem?_eq_some_iff.1 hj).1
         rw [List.length_take] at hjl
         rw [List.getElem?_take_of_lt (by omega)] at hj
         rw [hk1 j q (by omega) hj]; simp
        conv => lhs; rw [e1]
        rw [List.filter_append, e2, List.nil_append, List.filter_cons, if_pos hlf0]
       obtain ⟨K, hK⟩ : ∃ K, K = V'.length + (2 * gs.length + 5) := ⟨_, rfl⟩
       have hbox : ∀ l, (FT V' s8 ++ (bx5 s hd V'.length gs M ++ [AObj.cells 32 [AV.ptr s.f 0]]) ++ l)[K]? = some (.cells 32 [.ptr s8.f 0]) := fun l => by
        rw [List.append_assoc, List.append_assoc, List.getElem?_append_right (by rw [FT_len]; omega), FT_len, List.getElem?_append_right (by rw [hbl5]; omega), hbl5, show K - V'.length - (2 * gs.length + 5) = 0 by omega, hL.f]; rfl
       rw [<- hK]
       obtain ⟨x0i, hx0i⟩ : ∃ l, l = (gs ++ [x0.h.id]) := ⟨_, rfl⟩
       refine SemA.range (g := 82) (cs := [.ptr K 0]) (A := fun i => [.ptr i 0]) (xs := s8.bc.filter s8.leaf) (K + 1) [(2, .ptr V'.length 0), (5, .ptr (V'.length + 2) 0), (11, .ptr V.length 0)] ((V'.length + 4, true) :: EF (K + 3)) (fun _ (_ : Unit) => FT V' s8 ++ (bx5 s hd V'.length gs M ++ [AObj.cells 32 [AV.ptr s.f 0]])) (fun pre _ => pre = []) (fun _ _ _ => FT V' (s8.drop k0 x0 p0 y0) ++ (bx5 s hd V'.length x0i M ++ [AObj.cells 32 [AV.ptr s.f 0]])) (fun c _ _ => c = .exit 2) () (by (simp -dsimp +decide only [vrm, vt2, vy, vz, vze, v1q, ↓reduceIte, Nat.reduceSub, Nat.reduceAdd, Nat.reduceMul, Nat.reduceLT, Int.reduceAdd, Int.reduceSub, Int.reduceToNat, ci])) (by (simp -dsimp +decide only [vrm, vt2, vy, vz, vze, v1q, ↓reduceIte, Nat.reduceSub, Nat.reduceAdd, Nat.reduceMul, Nat.reduceLT, Int.reduceAdd, Int.reduceSub, Int.reduceToNat, ci])) (by kernel_rfl) (fun _ => rfl) ⟨rfl, rfl, rfl, rfl⟩ rfl rfl (by omega) (fun _ _ _ => by rw [List.length_append, List.length_append, FT_len, hbl5]; simp; omega) (fun _ _ _ _ => by rw [List.length_append, List.length_append, FT_len, bx5]; simp [hMl]; omega) ?_ (One fun T => ∃ l, T = FT V' s8 ++ l /\ T[K]? = some (.cells 32 [.ptr s8.f 0])) (liter_ok W8.i W8.o W8.r.p rfl (by omega) ?_) ?_ ?_ ?_ ?_ ?_
       . refine ⟨?_, ?_, List.mem_cons_of_mem _ (EF_mem.2 ⟨by omega, rfl⟩)⟩
         . rw [moved, EF_moved, decide_eq_false (by omega)]; rfl
         . rw [moved, EF_moved, decide_eq_false (by omega)]; rfl
       . intro j hj
         obtain ⟨x, hx⟩ := hL.g.x j hj
         refine ⟨x, hx, W8.r.h j x hx, ?_⟩
         rw [hL.g.c j x hx hj]
         exact Nat.le_trans (List.length_filter_le _ _) (by omega)
       . rintro o2 lv pre T ⟨z, hz, rfl⟩
         exact ⟨hz, _, List.append_assoc _ _ _, hbox _⟩
       . rintro l o1 o2 lv pre x z hpx rfl
         obtain rfl : x = i0 := by
          rw [hxs, List.nil_append] at hpx
          obtain ⟨q, hq⟩ := hpx
          injection hq
         unfold recA
         simp -dsimp +decide (disch := omega) only [vrm, vt2, vy, vz, vze, v1q, ↓reduceIte, Nat.reduceSub, Nat.reduceAdd, Nat.reduceMul, Nat.reduceLT, Int.reduceAdd, Int.reduceSub, Int.reduceToNat, v4q, putsA, List.zip_cons_cons, List.zip_nil_left, List.zip_nil_right]
         refine ⟨[], rfl, fun o3 => ?_⟩
         have W8n := W8.i.nrules hx0
         have hx0r := Nd.rules (W8.r.h _ _ hx0)
         have hkp : decide (V'.length + 2 ≠ V'.length + 4) = true := decide_eq_true (by omega)
         have hkq : decide (V'.length + 4 ≠ V'.length + 4) = false := decide_eq_false fun e => e rfl
         have hki : decide (x ≠ V'.length + 4) = true := decide_eq_true (by have := W8.i.nn _ _ hx0; omega)
         have hidl : (List.map by8 x0.h.id).length = 32 := by rw [List.length_map, x0.h.id_len]
         have hgfl : (gs.flatMap fun x => x.map by8).length = gs.length * 32 := flat_len fun x hx => by rw [List.length_map, hL.i x hx]
         have wt8 := W8.r.t' W8.i W8.v
         have hsf4 : (s.f == V'.length + 4) = false := by simp; omega
         have hx4 : (x == V'.length + 4) = false := by have := W8.i.nn _ _ hx0; simp; omega
         have hVn4 : (V.length == V'.length + 4) = false := by simp; omega
         have hMw4 := hMw (· == V'.length + 4) hsf4
         have hid0 := x0.h.id_len
         have hgM : ∀ (c0 c1 c2 c3 c4 a b c d : AObj), (FT V' s8 ++ c0 :: c1 :: c2 :: c3 :: c4 :: (M ++ [a, b, c, d]))[V'.length + (M.length + 8)]? = some d := fun c0 c1 c2 c3 c4 a b c d => by
          rw [List.getElem?_append_right (by rw [FT_len]; omega), FT_len, show V'.length + (M.length + 8) - V'.length = (M.length + 3) + 1 + 1 + 1 + 1 + 1 by omega]
          simp only [List.getElem?_cons_succ]
          rw [List.getElem?_append_right (by omega), show M.length + 3 - M.length = 3 by omega]; rfl
         have h32x : List.take 32 (List.drop 0 x0.h.id) = x0.h.id := by rw [List.drop_zero, List.take_of_length_le (by omega)]
         have hgn : (gs.flatMap fun x => x.map by8) ++ List.map by8 x0.h.id = x0i.flatMap fun x => x.map by8 := by rw [hx0i, List.flatMap_append]; simp
         have hx0l : gs.length + 1 = x0i.length := by rw [hx0i]; simp
         have W9 : FW V' (s8.drop k0 x0 p0 y0) := W8.drop hL.g hk0 hy0
         have hkf : ∀ j, j < k0 -> s8.bc[j]? ≠ some x := fun j hj e => by
          have := hk1 j x hj e
          rw [hlf0] at this; cases this
         have hyk : y0.kids <= 1000000 := by
          obtain ⟨r1, q1, q2⟩ := hL.g.p x (List.mem_of_getElem? hk0)
          have hp0b : p0 ∈ s8.bc := by
           cases r1 with
           | nil => obtain ⟨w, a1, a2, a3⟩ := q1; rw [hx0] at a1; cases a1; rw [hp0] at a2; cases a2
           | cons j r1 =>
             obtain ⟨⟨w, a1, a2, a3⟩, a4⟩ := q1
             rw [hx0] at a1; cases a1; rw [hp0] at a2; cases a2
             exact q2 _ (by simp)
          rw [hL.g.c p0 y0 hy0 hp0b]
          exact Nat.le_trans (List.length_filter_le _ _) (by omega)
         have hdrop : ∀ l, Tl V'.length s.b l -> CallA prog G 42 [.ptr s.f 0, .ptr x 0] (FT V' s8 ++ l) fun v T' es => v = .tu [] /\ T' = FT V' (s8.drop k0 x0 p0 y0) ++ l /\ es = EF (V' ++ l).length := fun l hl => by
          have := drop_ok (W8.app (hL.b ▸ hl)) (fun j hj => hL.g.x j hj) (k := k0) hx0 hp0 hip0 hy0 hyk0 hyk hk0 hkf
          rw [hL.f, <- FT_tail W8.i, <- FT_tail W9.i] at this
          exact this
         unfold bx5
         simp -dsimp +decide (disch := omega) only [vrm, vt2, vy, vz, vze, v1q, ↓reduceIte, Nat.reduceSub, Nat.reduceAdd, Nat.reduceMul, Nat.reduceLT, Int.reduceAdd, Int.reduceSub, Int.reduceToNat, v4q, vft]
         refine SemA.draw (fun i => decide (i ≠ V'.length + 4)) [(0, true), (1, true), (2, true), (3, true), (4, true), (5, false), (6, false), (7, false)] mixed (by kernel_rfl) ?_
         simp -dsimp +decide (disch := omega) only [vrm, vt2, vy, vz, vze, v1q, ↓reduceIte, Nat.reduceSub, Nat.reduceAdd, Nat.reduceMul, Nat.reduceLT, Int.reduceAdd, Int.reduceSub, Int.reduceToNat, v4q, vft, keepT_get, keepO, hkp, hkq, hki, W8n, hx0r, Option.map_some, List.cons_append, ez32, rep1, vh, hidl, x0.h.id_len, hgfl, wt8, hhw, hMw4, hsf4, hx4, hVn4, ids_wo, wb8, hid0, hgM, h32x, hgn, hx0l]
         refine ⟨⟨by omega, by omega⟩, (hdrop _ ?_).det' ?_⟩
         . refine ⟨fun q hq => ?_, ?_⟩
           . have q1 := hq s.f (by omega)
             have q2 := hq (V'.length + 4) (by simp)
             have q3 := hq (V'.length + 2) (by simp)
             have q4 := hq V.length (by omega)
             have q5 := hq V'.length (by simp)
             simp only [List.map_cons, List.map_nil, List.map_append, AObj.wo, AV.wo, hhw, wb8, ids_wo, q1, q2, q3, q4, q5, hMw q q1, Bool.false_eq_true, if_false]
           . have q2 : (V'.length + 4 == s.b) = false := by simp; omega
             have q3 : (V'.length + 2 == s.b) = false := by simp; omega
             have q4 : (V.length == s.b) = false := by simp; omega
             have q5 : (V'.length == s.b) = false := by simp; omega
             simp only [List.map_cons, List.map_nil, List.map_append, AObj.wo, AV.wo, hhw, wb8, ids_wo, bf, q2, q3, q4, q5, hMw (· == s.b) bf, Bool.false_eq_true, if_false]
         simp -dsimp +decide (disch := omega) only [vrm, vt2, vy, vz, vze, v1q, ↓reduceIte, Nat.reduceSub, Nat.reduceAdd, Nat.reduceMul, Nat.reduceLT, Int.reduceAdd, Int.reduceSub, Int.reduceToNat, v4q, vft]
         have htk : ∀ (c0 c1 c2 c3 c4 a b c d : AObj), List.take (K + 3) (FT V' (s8.drop k0 x0 p0 y0) ++ c0 :: c1 :: c2 :: c3 :: c4 :: (M ++ [a, b, c, d])) = FT V' (s8.drop k0 x0 p0 y0) ++ c0 :: c1 :: c2 :: c3 :: c4 :: (M ++ [a, b, c]) := fun c0 c1 c2 c3 c4 a b c d => by
          rw [show FT V' (s8.drop k0 x0 p0 y0) ++ c0 :: c1 :: c2 :: c3 :: c4 :: (M ++ [a, b, c, d]) = (FT V' (s8.drop k0 x0 p0 y0) ++ c0 :: c1 :: c2 :: c3 :: c4 :: (M ++ [a, b, c])) ++ [d] by simp]
          exact List.take_left' (by rw [List.length_append, FT_len]; simp; omega)
         refine ⟨⟨(), ?_⟩, fun e he => ?_⟩
         . rw [htk]
           have hq : ∀ i, i < K + 3 -> decide (K + 3 <= i) = false := fun i hi => decide_eq_false (by omega)
           have t1 := W9.r.wo W9.i W9.v (q := fun i => decide (K + 3 <= i)) fun i hi => hq i (by omega)
           simp only [List.map_append, List.map_cons, List.map_nil, AObj.wo, AV.wo, hhw, wb8, ids_wo, t1, hq s.f (by omega), hq (V'.length + 4) (by omega), hq (V'.length + 2) (by omega), hq V.length (by omega), hq V'.length (by omega), hMw (fun i => decide (K + 3 <= i)) (hq s.f (by omega)), Bool.false_eq_true, if_false]
         . rcases recE_mem.1 he with ⟨q1, q2⟩ | q1
           . obtain ⟨e0, e1'⟩ := e
             exact List.mem_cons_of_mem _ (EF_mem.2 ⟨q2, (EF_mem.1 q1).2⟩)
           . rw [rec1, if_pos (by omega), rec1, if_pos (by omega)] at q1
             simp only [List.mem_cons, List.not_mem_nil, or_false] at q1
             rcases q1 with rfl | rfl | rfl
             . exact List.mem_cons_of_mem _ (EF_mem.2 ⟨by omega, rfl⟩)
             . exact List.mem_cons_self ..
             . exact List.mem_cons_of_mem _ (EF_mem.2 ⟨by omega, rfl⟩)
       . rintro z o lv h
         rw [hxs] at h; cases h
       . rintro i pre z o lv hpre hex
         obtain rfl : i = 2 := by injection hex
         rw [if_pos rfl]
         have hmv : moved ((V'.length + 4, true) :: EF (K + 3)) = fun i => decide (i = V'.length + 4) := by
          funext i; rw [moved, EF_moved, Bool.or_false, Bool.true_and]
         have hsl : ∀ l, slots ((V'.length + 4, true) :: EF (K + 3)) l = l.map (AV.wo fun i => decide (i = V'.length + 4)) := fun l => by
          unfold slots
          rw [show still ((V'.length + 4, true) :: EF (K + 3)) = false from rfl, <- hmv]
         have hq : ∀ i, i < K + 2 -> decide (V'.length + (2 * (gs ++ [x0.h.id]).length + 5) <= i) = false := fun i hi => decide_eq_false (by rw [List.length_append]; simp; omega)
         have hgl : (gs ++ [x0.h.id]).length = gs.length + 1 := by simp
         refine ⟨(s8.drop k0 x0 p0 y0, gs ++ [x0.h.id]), ⟨⟨hL.g.drop hk0 hx0 hlf0 hp0 hy0, hL.w.drop hL.g hk0 hy0, hL.f, hL.b, hL.r, ?_, ?_, ?_, ?_⟩, ?_⟩, ?_, ?_, ?_, ?_, ?_⟩
         . obtain ⟨x, q1, q2⟩ := hL.x
           show ∃ x, (if V.length = p0 then some { y0 with kids := y0.kids - 1 } else s8.nd V.length) = some x /\ x.ht = ht
           by_cases hp : V.length = p0
           . rw [if_pos hp]
             rw [hp, hy0] at q1; cases q1
             exact ⟨_, rfl, q2⟩
           . rw [if_neg hp]; exact ⟨x, q1, q2⟩
         . show (s8.bc.eraseIdx k0).length + (gs ++ [x0.h.id]).length <= _
           rw [hgl, List.length_eraseIdx, if_pos (List.getElem?_eq_some_iff.1 hk0).1]
           have := (List.getElem?_eq_some_iff.1 hk0).1
           omega
         . intro x hx
           rcases List.mem_append.1 hx with hx | hx
           . exact hL.i x hx
           . rw [List.mem_singleton.1 hx]; exact x0.h.id_len
         . intro l s' hd'
           have := hL.k (x0.h.id :: l) s' (.step hz8 (by omega) hk0 hk1 hlf0 hx0 hp0 hy0 hd')
           rw [List.append_assoc]; exact this
         . show (s8.bc.eraseIdx k0).length < s8.bc.length
           rw [List.length_eraseIdx, if_pos (List.getElem?_eq_some_iff.1 hk0).1]
           have := (List.getElem?_eq_some_iff.1 hk0).1
           omega
         . show V.length <= V'.length + (2 * (gs ++ [x0.h.id]).length + 5)
           omega
         . show List.map _ (.ptr (K + 1) 0 :: slots _ (dsM V'.length gs.length)) = dsM V'.length (gs ++ [x0.h.id]).length
           have q1 := hq (K + 1) (by omega)
           have e1 : (dsM V'.length gs.length).map (AV.wo fun i => decide (i = V'.length + 4)) = dsM V'.length gs.length := dsM_wo _ _ fun j hj => decide_eq_false (by omega)
           have e2 : (dsM V'.length gs.length).map (AV.wo fun i => decide (V'.length + (2 * (gs ++ [x0.h.id]).length + 5) <= i)) = dsM V'.length gs.length := dsM_wo _ _ fun j hj => hq _ (by omega)
           rw [hsl, e1, List.map_cons, hgl, dsM]
           show AV.wo (fun i => decide (V'.length + (2 * (gs ++ [x0.h.id]).length + 5) <= i)) (.ptr (K + 1) 0) :: (dsM V'.length gs.length).map (AV.wo fun i => decide (V'.length + (2 * (gs ++ [x0.h.id]).length + 5) <= i)) = _
           rw [e2, AV.wo, q1, show K + 1 = V'.length + (2 * gs.length + 6) by omega]; rfl
         . rw [hsl]
           have hw2 : ∀ k, k < K + 2 -> k ≠ V'.length + 4 -> AV.wo (fun x => decide (V'.length + (2 * (gs ++ [x0.h.id]).length + 5) <= x)) (AV.wo (fun i => decide (i = V'.length + 4)) (.ptr k 0)) = .ptr k 0 := fun k hk hne => by
            rw [show AV.wo (fun i => decide (i = V'.length + 4)) (.ptr k 0) = .ptr k 0 by rw [AV.wo, decide_eq_false hne]; rfl, AV.wo, hq k hk]; rfl
           exact ⟨congrArg some (hw2 _ (by omega) (by omega)), congrArg some (hw2 _ (by omega) (by omega)), congrArg some (hw2 _ (by omega) (by omega)), rfl⟩
         . have W9 : FW V' (s8.drop k0 x0 p0 y0) := W8.drop hL.g hk0 hy0
           have e1 : FT V' (s8.drop k0 x0 p0 y0) ++ (bx5 s hd V'.length x0i M ++ [AObj.cells 32 [AV.ptr s.f 0]]) ++ [AObj.raw (.deferred (some [])), AObj.rcd o (recA 122 [(2, .ptr V'.length 0), (5, .ptr (V'.length + 2) 0), (11, .ptr V.length 0)]) lv] =
            (FT V' (s8.drop k0 x0 p0 y0) ++ bx5 s hd V'.length (gs ++ [x0.h.id]) (mks s (gs ++ [x0.h.id]).length)) ++ [AObj.rcd o (recA 122 [(2, .ptr V'.length 0), (5, .ptr (V'.length + 2) 0), (11, .ptr V.length 0)]) lv] := by
            rw [hx0i, hgl, mks, hMM, bx5, bx5]
            simp only [List.append_assoc, List.cons_append, List.nil_append]
           have e2 : (FT V' (s8.drop k0 x0 p0 y0) ++ bx5 s hd V'.length (gs ++ [x0.h.id]) (mks s (gs ++ [x0.h.id]).length)).length = V'.length + (2 * (gs ++ [x0.h.id]).length + 5) := by rw [List.length_append, FT_len, bx5_len]
           show List.map _ (List.take (V'.length + (2 * (gs ++ [x0.h.id]).length + 5)) _) = FT V' (s8.drop k0 x0 p0 y0) ++ bx5 s hd V'.length (gs ++ [x0.h.id]) (mks s (gs ++ [x0.h.id]).length)
           rw [e1, <- e2, List.take_left, List.map_append]
           have t1 := W9.r.wo W9.i W9.v (q := fun i => decide (V'.length + (2 * (gs ++ [x0.h.id]).length + 5) <= i)) fun i hi => hq i (by omega)
           have t2 := (bx5_tl (n := V'.length) ok (by omega) (by omega) h.i.fb (gs ++ [x0.h.id]) (gs ++ [x0.h.id]).length).wo (fun i => decide (V'.length + (2 * (gs ++ [x0.h.id]).length + 5) <= i)) fun i hi => hq i (by rw [bx5_len] at hi; omega)
           exact congr (congrArg HAppend.hAppend t1) t2
         . intro e he
           rcases recE_mem.1 he with ⟨q1, q2⟩ | q1
           . rcases List.mem_cons.1 q1 with rfl | q1
             . simp only at q2; omega
             . obtain ⟨e0, e1'⟩ := e
               exact FE_mem.2 (.inr ⟨q2, (EF_mem.1 q1).2⟩)
           . exact q1
       . rintro pre z o lv hpre h
         cases h
     . have i1 := decide_eq_false (show ¬ (s8.room : Int) < (s8.bc.length : Int) - (z8.ht : Int) - 1 by omega)
       simp -dsimp +decide (disch := omega) only [vrm, vt2, vy, vz, vze, v1q, ↓reduceIte, Nat.reduceSub, Nat.reduceAdd, Nat.reduceMul, Nat.reduceLT, Int.reduceAdd, Int.reduceSub, Int.reduceToNat, v4q, vft, kallT, hi8, c8, i1]
       have hq : ∀ i, i < V'.length + (2 * gs.length + 5) -> decide (V'.length + (2 * gs.length + 5) <= i) = false := fun i hi => decide_eq_false (by omega)
       have hbl5 : (bx5 s hd V'.length gs M).length = 2 * gs.length + 5 := by rw [bx5]; simp [hMl]
       refine ⟨(s8, gs), ⟨hL, .done hz8 (by show s8.bc.length <= z8.ht + 1 + s8.room; omega)⟩, by show V.length <= V'.length + (2 * gs.length + 5); omega, dsM_wo _ _ fun i hi => hq _ (by omega), ?_, ?_, fun _ h => h⟩
       . refine ⟨?_, ?_, ?_, rfl⟩
         . show some (AV.wo _ (.ptr V'.length 0)) = _
           rw [AV.wo, hq V'.length (by omega)]; rfl
         . show some (AV.wo _ (.ptr (V'.length + 2) 0)) = _
           rw [AV.wo, hq (V'.length + 2) (by omega)]; rfl
         . show some (AV.wo _ (.ptr V.length 0)) = _
           rw [AV.wo, hq V.length (by omega)]; rfl
       . show List.map _ (List.take _ (FT V' s8 ++ bx5 s hd V'.length gs M)) = FT V' s8 ++ bx5 s hd V'.length gs (mks s gs.length)
         rw [List.take_of_length_le (by rw [List.length_append, FT_len, hbl5]; exact Nat.le_refl _), List.map_append, W8.r.wo W8.i W8.v (fun i hi => hq i (by omega)), tl.wo _ fun i hi => hq i (by rw [hbl5] at hi; exact hi), hMM]
   . rintro ⟨s8, gs⟩ g tmp ⟨hL, hD⟩
     dsimp only at hL hD ⊢
     have W8 : FW V' s8 := hV' ▸ hL.w
     obtain ⟨x8, hx8, hxh⟩ := hL.x
     have hn8 := W8.i.nrules hx8
     have hx8r := Nd.rules (W8.r.h _ _ hx8)
     unfold bx5
     simp -dsimp +decide (disch := omega) only [vrm, vt2, vy, vz, vze, v1q, ↓reduceIte, Nat.reduceSub, Nat.reduceAdd, Nat.reduceMul, Nat.reduceLT, Int.reduceAdd, Int.reduceSub, Int.reduceToNat, v4q, vft]
     refine SemA.draw (fun i => decide (i ≠ V'.length + 2)) [(0, true), (1, true), (2, true), (3, true), (5, true), (4, false), (6, false), (7, true)] mixed (by kernel_rfl) ?_
     have k0 : decide (V.length ≠ V'.length + 2) = true := decide_eq_true (by omega)
     have k1 : decide (V'.length + 2 ≠ V'.length + 2) = false := decide_eq_false fun e => e rfl
     have hE : rec1 V.length (V'.length + 2) false (FE V.length s.b) = FE V.length s.b := by rw [rec1, if_neg (by omega)]
     simp -dsimp +decide (disch := omega) only [vrm, vt2, vy, vz, vze, v1q, ↓reduceIte, Nat.reduceSub, Nat.reduceAdd, Nat.reduceMul, Nat.reduceLT, Int.reduceAdd, Int.reduceSub, Int.reduceToNat, v4q, vft, keepT_get, keepO, hn8, hx8r, k0, k1, Option.map_some, hE]
     refine retM.of (V'.length + 5) (by omega) (fun a ha => ?_) (dsM_nodup _ _) fun T' h1 h2 => ?_
     . obtain ⟨j, hj, rfl⟩ := dsM_mem ha
       refine ⟨_, rfl, by omega, ?_⟩
       rw [List.getElem?_append_right (by rw [FT_len]; omega), FT_len, show V'.length + (2 * j + 6) - V'.length = (2 * j + 1) + 1 + 1 + 1 + 1 + 1 by omega]
       simp only [List.getElem?_cons_succ]
       exact mks_get s hj
     rw [vft.2.2.2.2.2.2.2.2.1] at h2
     obtain ⟨l', rfl⟩ : ∃ l', T' = FT V' s8 ++ (AObj.cells 32 [AV.ptr s.f 0] :: AObj.cells 28 hd.cs :: AObj.cells 40 [AV.sl (V'.length + 4) 0 gs.length] :: AObj.cells 26 (List.map by8 hd.id) :: AObj.buf 26 32 (gs.flatMap fun x => x.map by8) :: l') :=
      ⟨T'.drop (V'.length + 5), (List.take_append_drop (V'.length + 5) T').symm.trans (by rw [h2, List.append_assoc]; rfl)⟩
     simp -dsimp +decide (disch := omega) only [vrm, vt2, vy, vz, vze, v1q, ↓reduceIte, Nat.reduceSub, Nat.reduceAdd, Nat.reduceMul, Nat.reduceLT, Int.reduceAdd, Int.reduceSub, Int.reduceToNat, v4q, vft, vres, vone]
     refine Vw.pub (V'.length + 4) (o := .buf 26 32 (gs.flatMap fun x => x.map by8)) (vft.2.2.2.2.2.1 _ _ _ _ _ _ _ _) rfl (fun a ha => ?_) ?_
     . obtain ⟨x, _, hx⟩ := List.mem_flatMap.1 ha
       obtain ⟨b, _, rfl⟩ := List.mem_map.1 hx
       exact .p _
     have wt8 := W8.r.t' W8.i W8.v
     have hE2 : rec1 V.length (V'.length + 4) false (FE V.length s.b) = FE V.length s.b := by rw [rec1, if_neg (by omega)]
     simp -dsimp +decide (disch := omega) only [vrm, vt2, vy, vz, vze, v1q, ↓reduceIte, Nat.reduceSub, Nat.reduceAdd, Nat.reduceMul, Nat.reduceLT, Int.reduceAdd, Int.reduceSub, Int.reduceToNat, v4q, vft, wt8, hE2]
     refine Vw.cutN V'.length (by rw [FT_len]; omega) (Vw.done ?_)
     refine ⟨s8, ht, gs, 0, [.gone], _, by have := hL.k [] s8 hD; rwa [List.append_nil] at this, hL.g, IdL.vs hL.i, hL.w, ⟨1, rfl⟩, hL.b, hL.f, ?_, ?_, rfl⟩
     . simp only [AV.wo, AV.woL, hxh, wint]
     . rw [vft.2.2.2.2.2.2.2.2.2.1, wt8.2.1, hV']
 simp -dsimp +decide (disch := omega) only [vrm, vt2, vy, vz, vze, v1q, ↓reduceIte, Nat.reduceSub, Nat.reduceAdd, Nat.reduceMul, Nat.reduceLT, Int.reduceAdd, Int.reduceSub, Int.reduceToNat, v2q, vft, hf, hi, hr]
 refine (pid_ok ok).det' ?_
 simp -dsimp +decide (disch := omega) only [vrm, vt2, vy, vz, vze, v1q, ↓reduceIte, Nat.reduceSub, Nat.reduceAdd, Nat.reduceMul, Nat.reduceLT, Int.reduceAdd, Int.reduceSub, Int.reduceToNat, v2q, vft, hf, hi, hr, ez32, vh, hid]
 refine SemA.draw (fun i => true) [(0, true), (1, true), (2, true), (3, true), (4, true), (5, true), (6, true)] mixed (by kernel_rfl) ?_
 cases hlk : s.look hd.id with
 | some i =>
   rw [hlk] at hmf
   obtain ⟨x, hx⟩ := g.x i (g.look hlk).1
   have hn := h.i.nrules hx
   have hxr := Nd.rules (h.r.h _ _ hx)
   simp -dsimp +decide (disch := omega) only [vrm, vt2, vy, vz, vze, v1q, ↓reduceIte, Nat.reduceSub, Nat.reduceAdd, Nat.reduceMul, Nat.reduceLT, Int.reduceAdd, Int.reduceSub, Int.reduceToNat, v2q, vft, hf, hi, hr, ez32, vh, hid, hko, hmf, hfl, h32, hv_fold, kallT, bb2, hn, hxr, vres, vone, Option.map_some]
   exact AddK.same h g (.known hlk hx) rfl rfl rfl fun _ _ => FT_len _ _
 | none =>
 rw [hlk] at hmf
 simp -dsimp +decide (disch := omega) only [vrm, vt2, vy, vz, vze, v1q, ↓reduceIte, Nat.reduceSub, Nat.reduceAdd, Nat.reduceMul, Nat.reduceLT, Int.reduceAdd, Int.reduceSub, Int.reduceToNat, v2q, vft, hf, hi, hr, ez32, vh, hid, hko, hmf, hfl, h32, hv_fold, kallT, bb2, Option.map_none]
 refine SemA.draw (fun i => true) [(0, true), (1, true), (2, true), (3, true), (4, true), (5, true), (6, true), (7, true)] mixed (by kernel_rfl) ?_
 cases hlp : s.look hd.prev with
 | none =>
   rw [hlp] at hmf2
   simp -dsimp +decide (disch := omega) only [vrm, vt2, vy, vz, vze, v1q, ↓reduceIte, Nat.reduceSub, Nat.reduceAdd, Nat.reduceMul, Nat.reduceLT, Int.reduceAdd, Int.reduceSub, Int.reduceToNat, v2q, vft, hf, hi, hr, ez32, vh, hid, hko2, hmf2, hfl2, h32b, hv_fold, kallT, bb2, vres, vone, Option.map_none]
   exact AddK.same h g (.none hlk hlp) rfl rfl rfl fun _ _ => FT_len _ _
 | some p =>
 rw [hlp] at hmf2
 obtain ⟨hpb, hpi⟩ := g.look hlp
 obtain ⟨y, hy⟩ := g.x p hpb
 obtain ⟨r, hpath, hrb⟩ := g.p p hpb
 have hn := h.i.nrules hy
 have hyr := Nd.rules (h.r.h _ _ hy)
 have hrl : r.length + 1 <= s.bc.length := hpath.len hrb
 simp -dsimp +decide (disch := omega) only [vrm, vt2, vy, vz, vze, v1q, ↓reduceIte, Nat.reduceSub, Nat.reduceAdd, Nat.reduceMul, Nat.reduceLT, Int.reduceAdd, Int.reduceSub, Int.reduceToNat, v2q, vft, hf, hi, hr, ez32, vh, hid, hko2, hmf2, hfl2, h32b, hv_fold, kallT, bb2, hn, Option.map_some]
 refine SemA.draw (fun i => true) [(0, true), (1, true), (2, true), (3, true), (4, true), (6, true), (5, false), (7, false), (8, true)] mixed (by kernel_rfl) ?_
 simp -dsimp +decide (disch := omega) only [vrm, vt2, vy, vz, vze, v1q, ↓reduceIte, Nat.reduceSub, Nat.reduceAdd, Nat.reduceMul, Nat.reduceLT, Int.reduceAdd, Int.reduceSub, Int.reduceToNat, v2q, vft, hf, hi, hr, kallT]
 have hfl' := h.i.f
 have hbl' := h.i.b
 have hfb := h.i.fb
 have hhw := hr.2.2.2.2.2.2.2.2.2.1
 have tl : Tl V.length s.b [AObj.cells 32 [AV.ptr s.f 0], AObj.cells 28 hd.cs, AObj.cells 40 [AV.p (Value.slice none 0 0)], AObj.cells 26 (List.map by8 hd.id)] := by
  refine ⟨fun q hq => ?_, ?_⟩
  . have := hq s.f (by omega)
    simp only [List.map_cons, List.map_nil, AObj.wo, AV.wo, hhw, wb8, this, Bool.false_eq_true, if_false]
  . have : (s.f == s.b) = false := by simpa using hfb
    simp only [List.map_cons, List.map_nil, AObj.wo, AV.wo, hhw, wb8, this, Bool.false_eq_true, if_false]
 have hch := hchain_ok (h.app tl) hpath (by omega)
 rw [<- FT_tail h.i] at hch
 refine hch.det' ?_
 simp -dsimp +decide (disch := omega) only [vrm, vt2, vy, vz, vze, v1q, ↓reduceIte, Nat.reduceSub, Nat.reduceAdd, Nat.reduceMul, Nat.reduceLT, Int.reduceAdd, Int.reduceSub, Int.reduceToNat, v2q, vft, hf, hi, hr, kallT]
 have hho : ∀ x ∈ hds s (p :: r), x.Ok := fun x hx => by
  rw [hds, List.mem_reverse, List.mem_map] at hx
  obtain ⟨j, _, rfl⟩ := hx
  exact Fst.hd_ok h.r j
 have hhl : (hds s (p :: r)).length = r.length + 1 := by rw [hds_len]; rfl
 have hes : ∀ T, Es T 68 Hdr.cs (.vs ((hds s (p :: r)).flatMap Hdr.cs) (r.length + 1)) (hds s (p :: r)) := fun T => by
  have := Es.vs (T := T) (f := Hdr.cs) (sz := 68) (xs := hds s (p :: r)) fun x hx => Hdr.cs_len (hho x hx)
  rwa [hhl] at this
 refine (right_ok' h.r.p (hes _) hho ok (by omega)).det' ?_
 obtain ⟨er, her⟩ : ∃ e, e = rightE s.p (hds s (p :: r)) hd := ⟨_, rfl⟩
 rw [<- her]
 by_cases hz : ¬ er = 0
 . have i1 := eq_false hz
   simp -dsimp +decide (disch := omega) only [vrm, vt2, vy, vz, vze, v1q, ↓reduceIte, Nat.reduceSub, Nat.reduceAdd, Nat.reduceMul, Nat.reduceLT, Int.reduceAdd, Int.reduceSub, Int.reduceToNat, v2q, vft, hf, hi, hr, kallT, i1, bb2, vres, vone]
   refine AddK.same h g (.wrong hlk hlp hpath (by rw [<- her]; exact hz)) rfl rfl (by rw [her]) fun _ _ => FT_len _ _
 have hz := Classical.not_not.1 hz
 have i1 := eq_true hz
 obtain ⟨hpx1, hpx2, hpx3⟩ : y.ht = r.length /\ y.ht <= 50000 /\ True := by
  obtain ⟨x, h1, h2, h3⟩ := hpath.head
  rw [hy] at h1; cases h1
  exact ⟨h2, by omega, trivial⟩
 have hht : IntKind.i64.wrap ((y.ht : Int) + 1) = ((y.ht + 1 : Nat) : Int) := IntWalk.i64_in _ (by omega)
 simp -dsimp +decide (disch := omega) only [vrm, vt2, vy, vz, vze, v1q, ↓reduceIte, Nat.reduceSub, Nat.reduceAdd, Nat.reduceMul, Nat.reduceLT, Int.reduceAdd, Int.reduceSub, Int.reduceToNat, v2q, vft, hf, hi, hr, kallT, i1, bb2]
 refine SemA.draw (fun i => true) [(0, true), (1, true), (2, true), (3, true), (4, true), (5, true), (6, true), (7, true), (8, true), (9, false), (10, true)] mixed (by kernel_rfl) ?_
 have b2 := bN_rules.2.1 hd ok
 have b3 := bN_rules.2.2.1 hd ok
 have b4 := bN_rules.2.2.2.1 hd ok hd.id hid
 have b5 := bN_rules.2.2.2.2.1 hd ok hd.id hid
 have b5a := b5 tzN rfl
 have b5b := b5 (tzN.set 0 (.ptr p 0)) rfl
 obtain ⟨x0, hx0⟩ : ∃ x0 : Nd, x0 = ⟨hd, some p, y.ht + 1, 0, 0, false⟩ := ⟨_, rfl⟩
 have hx0c : bN hd.cs (List.map by8 hd.id) ((tzN.set 0 (.ptr p 0)).set 1 (.p (.int .i64 ((y.ht + 1 : Nat) : Int)))) = x0.cs := by
  have e : [oQ, oQ, oQ, oQ] = [lw 0 0, lw 0 1, lw 0 2, lw 0 3] := rfl
  simp only [List.cons.injEq, and_true] at e
  rw [hx0]
  simp only [bN, tzN, Nd.cs, Nd.tl, ptrO, e, List.set_cons_zero, List.set_cons_succ]; rfl
 have hx0r : x0.cs.length = 108 := (Nd.rules (x := x0) (by rw [hx0]; exact ok)).1
 have b6 := bN_rules.2.2.2.2.2.1 hd ok hd.id hid
 have b7 := bN_rules.2.2.2.2.2.2 hd ok hd.id hid
 simp -dsimp +decide (disch := omega) only [vrm, vt2, vy, vz, vze, v1q, ↓reduceIte, Nat.reduceSub, Nat.reduceAdd, Nat.reduceMul, Nat.reduceLT, Int.reduceAdd, Int.reduceSub, Int.reduceToNat, v2q, vft, hf, hi, hr, kallT, hn, hyr, ez32, vh, hid, hht, h32, ezN, bN_rules, b2, b3, b4, b5a, b5b, b6, b7, hx0c, hx0r]
 refine SemA.draw (fun i => true) [(0, true), (1, true), (2, true), (3, true), (4, true), (5, true), (6, false), (7, false), (8, true), (9, true), (10, true), (11, true), (12, true), (13, false)] mixed (by kernel_rfl) ?_
 simp -dsimp +decide (disch := omega) only [vrm, vt2, vy, vz, vze, v1q, ↓reduceIte, Nat.reduceSub, Nat.reduceAdd, Nat.reduceMul, Nat.reduceLT, Int.reduceAdd, Int.reduceSub, Int.reduceToNat, v2q, vft, hf, hi, hr, kallT, hn, hyr, vbg]
 refine (hwork_ok ok).det' ?_
 simp -dsimp +decide (disch := omega) only [vrm, vt2, vy, vz, vze, v1q, ↓reduceIte, Nat.reduceSub, Nat.reduceAdd, Nat.reduceMul, Nat.reduceLT, Int.reduceAdd, Int.reduceSub, Int.reduceToNat, v2q, vft, hf, hi, hr, kallT, hn, hyr, vbg]
 have hywk : y.wk < 2 ^ 256 := by rw [g.w p y r hy hpath hpb]; exact sumH_lt _
 refine (padd_ok hywk (wkH_lt hd)).det' ?_
 have hx1 : wrA x0.cs 102 (Bg ((y.wk + wkH hd) % 2 ^ 256)) = (Fst.newN hd p y).cs := by
  rw [(Nd.rules (x := x0) (by rw [hx0]; exact ok)).2.2.2.2.2.2.2.2.2.2.2.1, hx0]; rfl
 have hx1r := Nd.rules (x := Fst.newN hd p y) ok
 have hx0o : ∀ k : Nat, k < 108 -> k < x0.cs.length := fun k hk => by rw [hx0r]; exact hk
 obtain ⟨y1, hy1⟩ : ∃ y1 : Nd, y1 = { y with kids := y.kids + 1 } := ⟨_, rfl⟩
 have hyk : y.kids <= 50000 := by
  rw [g.c p y hy hpb]
  exact Nat.le_trans (List.length_filter_le _ _) hlen
 have hkid : IntKind.i64.wrap ((y.kids : Int) + 1) = ((y.kids + 1 : Nat) : Int) := IntWalk.i64_in _ (by omega)
 simp -dsimp +decide (disch := omega) only [vrm, vt2, vy, vz, vze, v1q, ↓reduceIte, Nat.reduceSub, Nat.reduceAdd, Nat.reduceMul, Nat.reduceLT, Int.reduceAdd, Int.reduceSub, Int.reduceToNat, v2q, vft, hf, hi, hr, kallT, hn, hyr, vbg, hx1, hx0r, hkid, <- hy1]
 have hpl := h.i.nn p y hy
 have h1 : (s.setN p y1).In V.length := h.i.setN hy y1
 have hr1 : (s.setN p y1).Ref V.length := by
  refine ⟨h.r.p, fun i x hx => ?_, h.r.o, h.r.t, h.r.e, h.r.b, fun i x j hx hj => ?_⟩
  . have hx' : (if i = p then some y1 else s.nd i) = some x := hx
    split at hx'
    . cases hx'; rw [hy1]; exact h.r.h p y hy
    . exact h.r.h i x hx'
  . have hx' : (if i = p then some y1 else s.nd i) = some x := hx
    split at hx'
    . cases hx'; rw [hy1] at hj; exact h.r.on p y j hy hj
    . exact h.r.on i x j hx' hj
 have wt1 := hr1.t' h1 h.v
 have hwi : (FT V (s.setN p y1)).map (AObj.ren (permF (FT V (s.setN p y1)).length [4, 0, 1, 2, 3])) = FT V (s.setN p y1) := by
  rw [FT_len]; exact tbl_ren (permF_id V.length [4, 0, 1, 2, 3]) wt1.2.1
 have hvn := vn (permF V.length [4, 0, 1, 2, 3]) V.length [4, 0, 1, 2, 3]
 have hix : idxO [4, 0, 1, 2, 3] 0 = some 1 /\ idxO [4, 0, 1, 2, 3] 1 = some 2 /\ idxO [4, 0, 1, 2, 3] 2 = some 3 /\ idxO [4, 0, 1, 2, 3] 3 = some 4 /\ idxO [4, 0, 1, 2, 3] 4 = some 0 := ⟨rfl, rfl, rfl, rfl, rfl⟩
 have hpf : permF V.length [4, 0, 1, 2, 3] s.f = some s.f := if_pos hfl'
 have hpp : permF V.length [4, 0, 1, 2, 3] p = some p := if_pos hpl
 have hxn : ∀ f : Nat -> Option Nat, f p = some p -> (Fst.newN hd p y).cs.map (AV.ren f) = (Fst.newN hd p y).cs := fun f hfp => by
  refine cs_ren (q := fun j => decide (j ≠ p)) (fun j hj => ?_) ?_
  . have : j = p := by simpa using hj
    rw [this, hfp]
  . exact Nd.wo (x := Fst.newN hd p y) ok fun i hi => by cases hi; simp
 have rb8 : ∀ l : List UInt8, (List.map by8 l).map (AV.ren (permF V.length [4, 0, 1, 2, 3])) = List.map by8 l := fun l => ren_all fun q => wb8 q l
 refine SemA.perm (FT V (s.setN p y1)) _ [4, 0, 1, 2, 3] rfl (by decide) (by simp) (by rw [FT_len]; exact Nat.le_refl _) hwi ?_
 simp -dsimp +decide only [vrm, vt2, vy, vz, vze, v1q, ↓reduceIte, Nat.reduceSub, Nat.reduceAdd, Nat.reduceMul, Nat.reduceLT, Int.reduceAdd, Int.reduceSub, Int.reduceToNat, ci, vft, hvn, hix, hpf, hpp, hxn, ren_all hhw, rb8, Option.map_some, Option.map_none, List.getElem?_cons_zero, List.getElem?_cons_succ, Option.getD_some, List.map_cons, List.map_nil]
 rw [FT_new h1]
 obtain ⟨s2, hs2⟩ : ∃ s2, s2 = (s.setN p y1).setN V.length (Fst.newN hd p y) := ⟨_, rfl⟩
 have e1 : V.length + 1 = V'.length := hVl.symm
 have e2 : V.length + 2 = V'.length + 1 := by omega
 have e3 : V.length + 3 = V'.length + 2 := by omega
 have e4 : V.length + 4 = V'.length + 3 := by omega
 rw [<- hV', <- hs2]
 simp only [e1, e2, e3, e4]
 have h2 : s2.In V'.length := by rw [hs2, hVl]; exact h1.new _
 have hi2 := h2.rules
 have f2f : s2.f = s.f := by rw [hs2]; rfl
 have f2m : s2.m = s.m := by rw [hs2]; rfl
 have f2b : s2.b = s.b := by rw [hs2]; rfl
 have f2c : s2.cs = s.cs := by rw [hs2]; rfl
 have f2e : s2.es = s.es := by rw [hs2]; rfl
 have f2o : s2.bc = s.bc := by rw [hs2]; rfl
 rw [f2f, f2m, f2b, f2c, f2e, f2o] at hi2
 have hml' := h.i.m
 have kf : decide (s.f ≠ s.b /\ s.f ≠ s.m) = true := decide_eq_true ⟨hfb, h.i.fm⟩
 have kL : decide (V'.length ≠ s.b /\ V'.length ≠ s.m) = true := decide_eq_true (by omega)
 have kk : ∀ k, decide (V'.length + k ≠ s.b /\ V'.length + k ≠ s.m) = true := fun k => decide_eq_true (by omega)
 have kb : decide (s.b ≠ s.b /\ s.b ≠ s.m) = false := decide_eq_false fun e => e.1 rfl
 have km : decide (s.m ≠ s.b /\ s.m ≠ s.m) = false := decide_eq_false fun e => e.2 rfl
 have bm : (s.m == s.b) = false := by simpa using h.i.mb
 have bf : (s.f == s.b) = false := by simpa using hfb
 have bn : (V.length == s.b) = false := by simp; omega
 have bp : (p == s.b) = false := by simpa using (h.i.ne hy).2.2
 have hnb : ∀ i ∈ s.bc, (i == s.b) = false := fun i hi => by
  obtain ⟨z, hz⟩ := g.x i hi
  simpa using (h.i.ne hz).2.2
 have hbcw : List.map (AV.wo fun x => x == s.b) (ptrs s.bc) = ptrs s.bc := ptrs_wo hnb
 have hon : ∀ i x j, s2.nd i = some x -> x.on = some j -> (j == s.b) = false := fun i x j hx hj => by
  rw [hs2] at hx
  have hx' : (if i = V.length then some (Fst.newN hd p y) else if i = p then some y1 else s.nd i) = some x := hx
  have key : ∀ i x, s.nd i = some x -> x.on = some j -> (j == s.b) = false := fun i x hx hj => by
   obtain ⟨w, hw⟩ := h.n i x j hx hj
   simpa using (h.i.ne hw).2.2
  split at hx'
  . cases hx'; cases hj; exact bp
  . split at hx'
    . cases hx'; rw [hy1] at hj; exact key p y hy hj
    . exact key i x hx' hj
 obtain ⟨s3, hs3⟩ : ∃ s3 : Fst, s3 = { s2 with oa := .any } := ⟨_, rfl⟩
 have hok2 : ∀ i x, s2.nd i = some x -> x.h.Ok := fun i x hx => by
  rw [hs2] at hx
  have hx' : (if i = V.length then some (Fst.newN hd p y) else if i = p then some y1 else s.nd i) = some x := hx
  split at hx'
  . cases hx'; exact ok
  . exact hr1.h i x hx'
 have hoa : s2.oa = .sl s.b 0 s.bc.length := by rw [hs2]; exact h.o
 have hVb : V'.map (AObj.wo (· == s.b)) = V' := by rw [hV', List.map_append, h.v.b]; rfl
 have w3 : (FT V' s2).map (AObj.wo fun x => x == s.b) = FT V' s3 := by
  rw [FT_wo (by rw [hs2]; exact h.r.p) hok2 (by rw [f2m]; exact bm) (by
   have : s2.top = s.top := by rw [hs2]; rfl
   rw [this]; exact hnb _ g.t) (fun e he => by
   rw [f2e, g.e, List.mem_map] at he
   obtain ⟨i, hi, rfl⟩ := he
   exact hnb i hi) (fun i hi => by rw [f2o] at hi; exact hnb i hi) hon, hVb, hoa, hs3]
  congr 2
  rw [AV.wo]; simp
 have h3 : s3.In V'.length := by rw [hs3]; exact h2.put _ _ _ _ _ _
 obtain ⟨s4, hs4⟩ : ∃ s4 : Fst, s4 = { s3 with bc := s.bc ++ [V.length] } := ⟨_, rfl⟩
 have h4 : s4.In V'.length := by rw [hs4]; exact h3.put _ _ _ _ _ _
 have p4 : ptrs s.bc ++ [.ptr V.length 0] = ptrs (s.bc ++ [V.length]) := by rw [ptrs, ptrs, List.map_append]; rfl
 have g4 : (FT V' s3).set s.b (.buf 72 1 (ptrs (s.bc ++ [V.length]))) = FT V' s4 := by
  have := h3.sb (s.bc ++ [V.length])
  have eb : s3.b = s.b := by rw [hs3]; exact f2b
  rw [<- eb, hs4]
  exact this
 have g4a : ∀ l o, (FT V' s3 ++ l).set s.b o = (FT V' s3).set s.b o ++ l := fun l o => FT_apps (by omega) l o
 have f4m : s4.m = s.m := by rw [hs4, hs3]; exact f2m
 have f4f : s4.f = s.f := by rw [hs4, hs3]; exact f2f
 have g4m : ∀ l, (FT V' s4 ++ l)[s.m]? = some (.map (s.es.map ent)) := fun l => by
  rw [FT_app (by omega), <- f4m, h4.gm]
  rw [show s4.es = s.es by rw [hs4, hs3]; exact f2e]
 have hidl : (List.map by8 hd.id).length = 32 := by rw [List.length_map, hid]
 have hidt : List.take 32 (List.map by8 hd.id) = List.map by8 hd.id := List.take_of_length_le (by omega)
 have hpl8 : plains (List.map by8 hd.id) = some (hd.id.map fun b => .int .u8 (b.toNat : Int)) := plains_map' _ _
 have hbcw4 : List.map (AV.wo fun x => x == s.b) (ptrs (s.bc ++ [V.length])) = ptrs (s.bc ++ [V.length]) := ptrs_wo fun i hi => by
  rcases List.mem_append.1 hi with hi | hi
  . exact hnb i hi
  . rw [List.mem_singleton.1 hi]; exact bn
 have bL : (V'.length == s.b) = false := by simp; omega
 have bk : ∀ k, (V'.length + k == s.b) = false := fun k => by simp; omega
 have bb : (s.b == s.b) = true := by simp
 have mf0 : mfind (s.es.map ent) (hv hd.id) = none := by rw [hmf]; rfl
 refine SemA.draw (fun i => decide (i ≠ s.b /\ i ≠ s.m)) [(0, true), (1, true), (2, true), (3, true), (4, true), (5, true), (6, true), (7, true), (8, true), (9, true), (10, true), (11, true), (12, false), (13, false), (14, false), (15, true), (16, false), (17, true), (18, true), (19, false)] mixed (by kernel_rfl) ?_
 simp -dsimp +decide (disch := omega) only [vrm, vt2, vy, vz, vze, v1q, ↓reduceIte, Nat.reduceSub, Nat.reduceAdd, Nat.reduceMul, Nat.reduceLT, Int.reduceAdd, Int.reduceSub, Int.reduceToNat, v2q, vft, hf, hi2, h.o, keepT_get, keepO, kf, kL, kk, kb, km, Option.map_some, bm, bf, bn, hbcw, w3, p4, g4, g4a, g4m, hidl, hidt, wb8, hpl8, hv_fold, ptrs_len, hhw, hbcw4, bL, bk, bp, bb, h32, mf0, hko, Option.getD_none]
 refine ⟨⟨by omega, by omega⟩, ?_⟩
 intro ms c b5' hMF hMB
 have g5a : ∀ l o, (FT V' s4 ++ l).set s.m o = (FT V' s4).set s.m o ++ l := fun l o => FT_apps (by omega) l o
 have hml4 : s.m < (FT V' s4).length := by rw [FT_len]; omega
 have g5b : ∀ l o, ((FT V' s4).set s.m o ++ l)[s.m]? = some o := fun l o => by rw [List.getElem?_append_left (by rw [List.length_set]; exact hml4), List.getElem?_set_self hml4]
 have g5c : ∀ l o o', ((FT V' s4).set s.m o ++ l).set s.m o' = (FT V' s4).set s.m o' ++ l := fun l o o' => by rw [List.set_append_left _ _ (by rw [List.length_set]; exact hml4), List.set_set]
 obtain ⟨s5, hs5⟩ : ∃ s5 : Fst, s5 = { s4 with es := s.es ++ [(hd.id, V.length)] } := ⟨_, rfl⟩
 have h5 : s5.In V'.length := by rw [hs5]; exact h4.put _ _ _ _ _ _
 have g5 : (FT V' s4).set s.m (.map ((s.es ++ [(hd.id, V.length)]).map ent)) = FT V' s5 := by
  have := h4.sm (s.es ++ [(hd.id, V.length)])
  rw [<- f4m, hs5]
  exact this
 have hms := mset_new (es := s.es.map ent) (k := Proofs.YtfpjalgfnjjcmaaGreatDoor.hv hd.id) (by rw [hmf]; rfl) (.p (.pointer none)) (.ptr V.length 0)
 have hme : s.es.map ent ++ [(Proofs.YtfpjalgfnjjcmaaGreatDoor.hv hd.id, .ptr V.length 0)] = (s.es ++ [(hd.id, V.length)]).map ent := by rw [List.map_append]; rfl
 simp -dsimp +decide (disch := omega) only [vrm, vt2, vy, vz, vze, v1q, ↓reduceIte, Nat.reduceSub, Nat.reduceAdd, Nat.reduceMul, Nat.reduceLT, Int.reduceAdd, Int.reduceSub, Int.reduceToNat, v4q, g5a, g5b, g5c, mf0, Option.getD_none]
 refine ⟨_, _, b5', rfl, hMF, hMB, rfl, ?_⟩
 rw [hms, hme]
 have c5 : s5.cs = Fst.cs { s with oa := .any } := by rw [hs5, hs4, hs3, hs2]; rfl
 have g5f : ∀ l, (FT V' s5 ++ l)[s.f]? = some (.cells 79 (Fst.cs { s with oa := .any })) := fun l => by
  have := h5.gf
  rw [c5, show s5.f = s.f by (rw [hs5]; exact f4f)] at this
  rw [FT_app (by omega)]; exact this
 have c6 := Fst.rules (s := { s with oa := .any }) h.r.p
 have g5s : ∀ l o, (FT V' s5 ++ l).set s.f o = (FT V' s5).set s.f o ++ l := fun l o => FT_apps (by omega) l o
 obtain ⟨s6, hs6⟩ : ∃ s6 : Fst, s6 = s.addN hd V.length p y := ⟨_, rfl⟩
 have g6 : (FT V' s5).set s.f (.cells 79 (Fst.cs { s with oa := .sl s.b 0 (s.bc.length + 1) })) = FT V' s6 := by
  have := h5.sf (s' := s6) (c := Fst.cs { s with oa := .sl s.b 0 (s.bc.length + 1) }) (by rw [hs6, hs5, hs4, hs3, hs2, hy1]; rfl) (by rw [hs6]; rfl)
  rw [show s5.f = s.f by rw [hs5]; exact f4f] at this
  exact this
 have h6 : s6.In V'.length := by
  have := h5.put s.p s.room (.sl s.b 0 (s.bc.length + 1)) s.top (s.es ++ [(hd.id, V.length)]) (s.bc ++ [V.length])
  rw [hs5, hs4, hs3, hs2, hy1] at this
  rw [hs6]; exact this
 simp -dsimp +decide (disch := omega) only [vrm, vt2, vy, vz, vze, v1q, ↓reduceIte, Nat.reduceSub, Nat.reduceAdd, Nat.reduceMul, Nat.reduceLT, Int.reduceAdd, Int.reduceSub, Int.reduceToNat, v4q, g5, vft, kf, kb, km, g5f, c6, g5s, g6]
 have hni : s.nd V.length = none := by
  cases hx : s.nd V.length with
  | none => rfl
  | some x => have := h.i.nn _ x hx; omega
 have G6 : s6.G := by rw [hs6]; exact g.addN hlk hlp hy hni
 have W6 : FW V' s6 := by rw [hs6, hV']; exact h.addN g ok hy (by omega)
 have P6 : Path s6 (V.length :: p :: r) := by rw [hs6]; exact hpath.addN hy hni
 obtain ⟨rt, hrt, hrtb⟩ := g.p s.top g.t
 have R6 : Path s6 (s.top :: rt) := by rw [hs6]; exact hrt.addO hy hni
 obtain ⟨z, hz1⟩ := g.x s.top g.t
 have f6f : s6.f = s.f := by rw [hs6]; rfl
 have f6b : s6.b = s.b := by rw [hs6]; rfl
 have f6t : s6.top = s.top := by rw [hs6]; rfl
 have f6p : s6.p = s.p := by rw [hs6]; rfl
 have f6r : s6.room = s.room := by rw [hs6]; rfl
 obtain ⟨z6, hz6, hz6w⟩ : ∃ z6, s6.nd s.top = some z6 /\ z6.wk = z.wk := by
  rw [hs6]
  show ∃ z6, (if s.top = V.length then _ else if s.top = p then _ else s.nd s.top) = some z6 /\ _
  have := h.i.nn _ z hz1
  rw [if_neg (by omega)]
  by_cases htp : s.top = p
  . rw [if_pos htp]
    rw [htp, hy] at hz1; cases hz1
    exact ⟨_, rfl, rfl⟩
  . rw [if_neg htp]; exact ⟨z, hz1, rfl⟩
 have hn6 : s6.nd V.length = some (Fst.newN hd p y) := by rw [hs6]; show (if V.length = V.length then _ else _) = _; rw [if_pos rfl]
 have sE1 : ∀ E, (∀ e ∈ E, e ∈ FE V.length s.b) -> Go.E.subE (rec1 V.length s.f false (rec1 V.length s.m false (rec1 V.length s.m false (rec1 V.length s.b true (rec1 V.length p false E))))) (FE V.length s.b) := by
  intro E hE e he
  simp only [rec1, hfl', hml', hbl', hpl, if_true, List.mem_cons] at he
  rcases he with rfl | rfl | rfl | rfl | rfl | he
  . exact FE_mem.2 (.inr ⟨hfl', rfl⟩)
  . exact FE_mem.2 (.inr ⟨hml', rfl⟩)
  . exact FE_mem.2 (.inr ⟨hml', rfl⟩)
  . exact FE_mem.2 (.inl ⟨rfl, rfl⟩)
  . exact FE_mem.2 (.inr ⟨hpl, rfl⟩)
  . exact hE e he
 have hzwk : z.wk < 2 ^ 256 := by rw [g.w _ z rt hz1 hrt g.t]; exact sumH_lt _
 have hnwk : (y.wk + wkH hd) % 2 ^ 256 < 2 ^ 256 := Nat.mod_lt _ (by decide)
 have hi6 := h6.rules
 rw [f6f, f6b] at hi6
 have hn6r := h6.nrules hn6
 have hz6r := h6.nrules hz6
 have hz6n := Nd.rules (W6.r.h _ _ hz6)
 have c6f := Fst.rules W6.r.p
 rw [f6t] at c6f
 refine SemA.draw (fun i => true) [(0, true), (1, true), (2, true), (3, true), (4, true), (5, true), (6, true), (7, true), (8, true), (9, true), (10, true), (11, false)] mixed (by kernel_rfl) ?_
 simp -dsimp +decide (disch := omega) only [vrm, vt2, vy, vz, vze, v1q, ↓reduceIte, Nat.reduceSub, Nat.reduceAdd, Nat.reduceMul, Nat.reduceLT, Int.reduceAdd, Int.reduceSub, Int.reduceToNat, v2q, vft, hi6, hn6r, hz6r, hz6n, hx1r, c6f, kallT, vbg]
 obtain ⟨L5, hL5⟩ : ∃ L5 : Tbl, L5 = [AObj.cells 32 [AV.ptr s.f 0], AObj.cells 28 hd.cs, AObj.cells 40 [AV.p (Value.slice none 0 0)], AObj.cells 26 (List.map by8 hd.id), AObj.buf 72 1 [AV.ptr V.length 0]] := ⟨_, rfl⟩
 have tl5 : Tl V'.length s.b L5 := by
  rw [hL5]
  refine ⟨fun q hq => ?_, ?_⟩
  . have q1 := hq s.f (by omega)
    have q2 := hq V.length (by omega)
    simp only [List.map_cons, List.map_nil, AObj.wo, AV.wo, hhw, wb8, q1, q2, Bool.false_eq_true, if_false]
  . simp only [List.map_cons, List.map_nil, AObj.wo, AV.wo, hhw, wb8, bf, bn, Bool.false_eq_true, if_false]
 have w1 : ∀ k j : Nat, k < V'.length -> decide (V'.length + j <= k) = false := fun k j hk => decide_eq_false (by omega)
 have htl := fun (U : Tbl) (x : AObj) => (rfl : U = U)
 have fin : ∀ s7 : Fst, s7 = (if z.wk < (y.wk + wkH hd) % 2 ^ 256 then s6.turn (s.top :: rt) (V.length :: p :: r) V.length else s6) -> s7.G -> FW V' s7 -> s7.f = s.f -> s7.b = s.b -> s7.room = s.room -> s7.bc = s6.bc -> (∃ x, s7.nd V.length = some x /\ x.ht = y.ht + 1) -> AddM V s hd s7 (y.ht + 1) := by
  intro s7 e7 a1 a2 a3 a4 a5 a6 a7
  refine ⟨a1, hV' ▸ a2, a3, a4, a5, a7, by rw [a6, hs6]; show (s.bc ++ [_]).length <= _; simp, fun l s' hd' => ?_⟩
  exact .right hlk hlp hpath (by rw [<- her]; exact hz) hy h.i.nn (Nat.le_refl _) hz1 hrt (by rw [e7, hs6]) hd'
 have wtd := W6.r.t' W6.i W6.v
 refine (pless_ok (show z6.wk < 2 ^ 256 by rw [hz6w]; exact hzwk) hnwk).det' ?_
 rw [hz6w]
 have box5 : ∀ k, box4 s hd (.p (.slice none 0 0)) = L5.take (4 + 0 * k) := fun k => by rw [hL5, Nat.zero_mul]; rfl
 by_cases hw : z.wk < (y.wk + wkH hd) % 2 ^ 256
 . have i2 := decide_eq_true hw
   rw [show (Fst.newN hd p y).wk = (y.wk + wkH hd) % 2 ^ 256 from rfl, i2]
   have htu := turn_ok (W6.app (f6b ▸ tl5)) (by rw [f6t]; exact R6) P6
   rw [f6t, f6f, <- FT_tail W6.i] at htu
   rw [hL5] at htu
   have G7 := G6.turn (f6t ▸ R6) P6 (by rw [hs6]; show _ ∈ s.bc ++ [_]; simp)
   have W7 : FW V' (s6.turn (s.top :: rt) (V.length :: p :: r) V.length) := W6.turn (by omega)
   rw [f6t] at G7
   have hx7 : ∃ x, (s6.turn (s.top :: rt) (V.length :: p :: r) V.length).nd V.length = some x /\ x.ht = y.ht + 1 := by
    refine ⟨_, Fst.setB_some (Fst.setB_some hn6), ?_⟩
    split <;> split <;> rfl
   have M7 := fin _ (by rw [if_pos hw]) G7 W7 f6f f6b f6r rfl hx7
   have T7 := FT_tail W7.i L5
   rw [hL5] at T7
   rw [<- T7] at htu
   have wt7 := W7.r.t' W7.i W7.v
   simp -dsimp +decide (disch := omega) only [vrm, vt2, vy, vz, vze, v1q, ↓reduceIte, Nat.reduceSub, Nat.reduceAdd, Nat.reduceMul, Nat.reduceLT, Int.reduceAdd, Int.reduceSub, Int.reduceToNat, v2q, vft, hi6, kallT, bb2, e1, e2, e3, e4]
   refine htu.det' ?_
   simp -dsimp +decide (disch := omega) only [vrm, vt2, vy, vz, vze, v1q, ↓reduceIte, Nat.reduceSub, Nat.reduceAdd, Nat.reduceMul, Nat.reduceLT, Int.reduceAdd, Int.reduceSub, Int.reduceToNat, v2q, vft, hi6, kallT, bb2, EF_slots, e1, e2, e3, e4, wt7, hhw]
   refine ⟨⟨(_, y.ht + 1), M7, if_neg (by simp; omega), by rw [if_neg (by simp; omega)]; rfl⟩, fun e he => ?_⟩
   rcases recE_mem.1 he with ⟨q1, q2⟩ | q1
   . obtain ⟨e0, e1'⟩ := e
     exact FE_mem.2 (.inr ⟨q2, (EF_mem.1 q1).2⟩)
   . exact sE1 [] (by simp) e q1
 . have i2 := decide_eq_false hw
   rw [show (Fst.newN hd p y).wk = (y.wk + wkH hd) % 2 ^ 256 from rfl, i2]
   have M7 := fin s6 (by rw [if_neg hw]) G6 W6 f6f f6b f6r rfl ⟨_, hn6, rfl⟩
   simp -dsimp +decide (disch := omega) only [vrm, vt2, vy, vz, vze, v1q, ↓reduceIte, Nat.reduceSub, Nat.reduceAdd, Nat.reduceMul, Nat.reduceLT, Int.reduceAdd, Int.reduceSub, Int.reduceToNat, v2q, vft, hi6, kallT, bb2, e1, e2, e3, e4, wtd, hhw]
   exact ⟨⟨(s6, y.ht + 1), M7, if_neg (by simp; omega), by rw [if_neg (by simp; omega)]; rfl⟩, sE1 [] (by simp)⟩
theorem clone_nil {T : Tbl} : CallA prog G 27 [.p (.slice none 0 0)] T fun v T' es => v = .p (.slice none 0 0) /\ T' = T /\ es = [] := by
 refine CallA.eV 3 func27 ntmps27 results27 ?_
 simp -dsimp +decide only [v5q, ↓reduceIte, Nat.reduceSub, Nat.reduceAdd, Nat.reduceMul, Nat.reduceLT, Int.reduceAdd, Int.reduceSub, Int.reduceToNat, ci]
 refine ⟨.bool true, fun w _ => ?_, ?_⟩
 . have := Lib.run_eql_slice_nil (P := prog) w 24 71 none 0 0 0 0 (show prog.underlying 24 = some (.slice 71) from (by kernel_rfl))
   simpa [eqGuard] using this
 simp -dsimp +decide (disch := omega) only [v5q, ↓reduceIte, Nat.reduceSub, Nat.reduceAdd, Nat.reduceMul, Nat.reduceLT, Int.reduceAdd, Int.reduceSub, Int.reduceToNat, v4q]
 exact Vw.done ⟨rfl, rfl, rfl⟩
def Par.put (p : Par) (a : AV) : Par := { p with pa := a }
theorem Par.set {p : Par} (ok : p.Ok) (a : AV) : p.cs.set 3 a = (p.put a).cs := rfl
def z72 : List AV := w32 0 :: wint 0 :: w32 0 :: .p (.slice none 0 0) :: z68
def bF (c t : List AV) : List AV := c ++ t
def tzF : List AV := [wint 0, .p (.map none), .p (.slice none 0 0), .p (.pointer none)]
theorem ezF : [oW, oI, oW, AV.p (Value.slice none 0 0), oW, oB, oB, oB, oB, oB, oB, oB, oB, oB, oB, oB, oB, oB, oB, oB, oB, oB, oB, oB, oB, oB, oB, oB, oB, oB, oB, oB, oB, oB, oB, oB, oB, oB, oB, oB, oB, oB, oB, oB, oB, oB, oB, oB, oB, oB, oB, oB, oB, oB, oB, oB, oB, oB, oB, oB, oB, oB, oB, oB, oB, oB, oB, oB, oB, oW, oW, oW, oI, AV.p (Value.map none), AV.p (Value.slice none 0 0), AV.p (Value.pointer none)] = bF z72 tzF := rfl
theorem bF_rules : (bF z72 tzF).length = 76 /\ (∀ p : Par, p.Ok -> wrA (bF z72 tzF) 0 p.cs = bF p.cs tzF) /\ (∀ p : Par, p.Ok -> ∀ t, (bF p.cs t).length = 72 + t.length) /\ (∀ p : Par, p.Ok -> ∀ t a, (bF p.cs t).set 72 a = bF p.cs (t.set 0 a)) /\ (∀ p : Par, p.Ok -> ∀ t a, (bF p.cs t).set 73 a = bF p.cs (t.set 1 a)) /\ (∀ p : Par, p.Ok -> ∀ t a, (bF p.cs t).set 74 a = bF p.cs (t.set 2 a)) /\ (∀ p : Par, p.Ok -> ∀ t a, (bF p.cs t).set 75 a = bF p.cs (t.set 3 a)) := by
 have hs : ∀ p : Par, p.Ok -> ∀ t k a, (bF p.cs t).set (72 + k) a = bF p.cs (t.set k a) := fun p ok t k a => by
  have h := (Par.rules ok).1
  rw [bF, List.set_append_right _ _ (by omega), h, Nat.add_sub_cancel_left]; rfl
 refine ⟨rfl, fun p ok => ?_, fun p ok t => by rw [bF, List.length_append, (Par.rules ok).1], fun p ok t a => hs p ok t 0 a, fun p ok t a => hs p ok t 1 a, fun p ok t a => hs p ok t 2 a, fun p ok t a => hs p ok t 3 a⟩
 have h := (Par.rules ok).1
 rw [wrA_eq (by rw [h]; decide), h]; rfl
def Fst.mk0 (p : Par) (n room : Nat) : Fst := ⟨n + 4, n + 2, n + 3, p, room, .sl (n + 3) 0 1, n + 1, [(p.first.id, n + 1)], [n + 1], fun j => if j = n + 1 then some ⟨p.first, none, 0, wkH p.first, 0, true⟩ else none⟩
theorem FT_mk0 (T : Tbl) (p : Par) (rm : Nat) : FT (T ++ List.replicate 5 .gone) (Fst.mk0 p T.length rm) = T ++ [AObj.gone, AObj.cells 75 (Nd.cs ⟨p.first, none, 0, wkH p.first, 0, true⟩), AObj.map [(hv p.first.id, AV.ptr (T.length + 1) 0)], AObj.buf 72 1 [AV.ptr (T.length + 1) 0], AObj.cells 79 (Fst.mk0 p T.length rm).cs] := by
 refine List.ext_getElem? fun i => ?_
 rw [FT_at]
 by_cases hi : i < T.length
 . rw [List.getElem?_append_left hi, List.getElem?_append_left hi]
   cases T[i]? with
   | none => rfl
   | some o =>
     simp only [Option.map_some, Fst.ob, Fst.mk0]
     rw [if_neg (by omega), if_neg (by omega), if_neg (by omega), if_neg (by omega)]
 . obtain ⟨k, rfl⟩ : ∃ k, i = T.length + k := ⟨i - T.length, by omega⟩
   rw [List.getElem?_append_right (by omega), List.getElem?_append_right (by omega), Nat.add_sub_cancel_left]
   match k with
   | 0 => simp [Fst.ob, Fst.mk0]
   | 1 => simp [Fst.ob, Fst.mk0]
   | 2 => simp [Fst.ob, Fst.mk0, ent]
   | 3 => simp [Fst.ob, Fst.mk0, ptrs]
   | 4 => simp [Fst.ob, Fst.mk0]
   | k + 5 => simp
theorem fnew_ok {T : Tbl} {p : Par} (ok : p.Ok) {a : AV} (ok' : (p.put a).Ok) (hk : a.known = some [a]) (ho : a.one = true) (hcl : ∀ T, CallA prog G 27 [p.pa] T fun v T' es => v = a /\ T' = T /\ es = []) {room : Int} :
 CallA prog G 8 [.ag p.cs, wint room] T fun v T' es => if mayB p = true /\ 1 <= room /\ room <= 4096 then (v = .tu [.ptr (T.length + 4) 0, .p (.int .i64 0)] /\ T' = FT (T ++ List.replicate 5 .gone) (Fst.mk0 (p.put a) T.length room.toNat) /\ es = []) else (v = .tu [.p (.pointer none), .p (.int .i64 1)] /\ T' = T /\ es = []) := by
 have hr := Par.rules ok
 have hr' := Par.rules ok'
 have g0 := fun l => gn0 T (.cells 30 p.cs) l
 have g0' := fun l => gn0 T (.cells 30 (p.put a).cs) l
 have hset := Par.set ok a
 have hfr := Hdr.rules ok.f
 by_cases hc : mayB p = true /\ 1 <= room /\ room <= 4096
 . refine CallA.mono (K := fun v T' es => v = .tu [.ptr (T.length + 4) 0, .p (.int .i64 0)] /\ T' = FT (T ++ List.replicate 5 .gone) (Fst.mk0 (p.put a) T.length room.toNat) /\ es = []) ?_ fun v T' es h => by rw [if_pos hc]; exact h
   refine CallA.wfs fun wf => ?_
   have wt := wf.t
   refine CallA.eV 7 func8 ntmps8 results8 ?_
   simp -dsimp +decide only [v5q, ↓reduceIte, Nat.reduceSub, Nat.reduceAdd, Nat.reduceMul, Nat.reduceLT, Int.reduceAdd, Int.reduceSub, Int.reduceToNat, ci]
   simp -dsimp +decide (disch := omega) only [v5q, ↓reduceIte, Nat.reduceSub, Nat.reduceAdd, Nat.reduceMul, Nat.reduceLT, Int.reduceAdd, Int.reduceSub, Int.reduceToNat, v2q, hr, g0]
   refine (pmay_ok ok).det' ?_
   obtain ⟨h1, h2, h3⟩ := hc
   have i2 := eq_false (show ¬ room < 1 by omega)
   have i3 := eq_false (show ¬ (4096 : Int) < room by omega)
   rw [h1]
   simp -dsimp +decide (disch := omega) only [v5q, ↓reduceIte, Nat.reduceSub, Nat.reduceAdd, Nat.reduceMul, Nat.reduceLT, Int.reduceAdd, Int.reduceSub, Int.reduceToNat, v2q, hr, g0, i2, i3, bb2]
   refine (hcl _).det' ?_
   simp -dsimp +decide (disch := omega) only [v5q, ↓reduceIte, Nat.reduceSub, Nat.reduceAdd, Nat.reduceMul, Nat.reduceLT, Int.reduceAdd, Int.reduceSub, Int.reduceToNat, v2q, hr, g0, g0', hset, hr', hk, ho]
   refine SemA.draw (fun i => true) [(0, true), (1, true), (2, true), (3, true), (5, true), (6, true), (4, false), (7, false), (8, true), (9, false), (10, true)] mixed (by kernel_rfl) ?_
   simp -dsimp +decide (disch := omega) only [v5q, ↓reduceIte, Nat.reduceSub, Nat.reduceAdd, Nat.reduceMul, Nat.reduceLT, Int.reduceAdd, Int.reduceSub, Int.reduceToNat, v2q, hr', g0', kallT, hfr]
   have okf : (p.put a).first.Ok := ok.f
   refine (pid_ok okf).det' ?_
   simp -dsimp +decide (disch := omega) only [v5q, ↓reduceIte, Nat.reduceSub, Nat.reduceAdd, Nat.reduceMul, Nat.reduceLT, Int.reduceAdd, Int.reduceSub, Int.reduceToNat, v2q, hr', g0', kallT, hfr]
   refine (hwork_ok okf).det' ?_
   have hid := (p.put a).first.id_len
   have h32 : List.take 32 (List.drop 0 (p.put a).first.id) = (p.put a).first.id := by rw [List.drop_zero, List.take_of_length_le (by omega)]
   have b2 := bN_rules.2.1 _ okf
   have b3 := bN_rules.2.2.1 _ okf
   have b4 := bN_rules.2.2.2.1 _ okf _ hid
   obtain ⟨x0, hx0⟩ : ∃ x0 : Nd, x0 = ⟨(p.put a).first, none, 0, 0, 0, false⟩ := ⟨_, rfl⟩
   have hx0c : bN (p.put a).first.cs (List.map by8 (p.put a).first.id) tzN = x0.cs := by
    have e : [oQ, oQ, oQ, oQ] = [lw 0 0, lw 0 1, lw 0 2, lw 0 3] := rfl
    simp only [List.cons.injEq, and_true] at e
    rw [hx0]
    simp only [bN, tzN, Nd.cs, Nd.tl, ptrO, e]; rfl
   have hx0r := Nd.rules (x := x0) (by rw [hx0]; exact okf)
   have hx1r := Nd.rules (x := { x0 with wk := wkH (p.put a).first }) (by rw [hx0]; exact okf)
   obtain ⟨x2, hx2⟩ : ∃ x2 : Nd, x2 = { x0 with wk := wkH (p.put a).first, best := true } := ⟨_, rfl⟩
   simp -dsimp +decide (disch := omega) only [v5q, ↓reduceIte, Nat.reduceSub, Nat.reduceAdd, Nat.reduceMul, Nat.reduceLT, Int.reduceAdd, Int.reduceSub, Int.reduceToNat, v2q, hr', g0', kallT, hfr, ez32, vh, hid, h32, ezN, bN_rules, b2, b3, b4, hx0c, hx0r, hx1r, vbg, <- hx2, (Hdr.rules okf).1]
   obtain ⟨rm, hrm⟩ : ∃ rm : Nat, room = (rm : Int) := ⟨room.toNat, by omega⟩
   subst hrm
   obtain ⟨s0, hs0⟩ : ∃ s0, s0 = Fst.mk0 (p.put a) T.length rm := ⟨_, rfl⟩
   have hx2r := Nd.rules (x := x2) (by rw [hx2, hx0]; exact okf)
   have hx2i : x2.h.id = (p.put a).first.id := by rw [hx2, hx0]
   rw [hx2i] at hx2r
   have hfl := flat8 (p.put a).first.id
   have g1 := fun a l => gn1 T a (.cells 75 x2.cs) l
   have hko : mapKO prog 26 [] (hv (p.put a).first.id) = True := mapKO_ent (l := []) (by simp) hid
   have hms : mset [] (hv (p.put a).first.id) (.ptr (T.length + 1) 0) = [(hv (p.put a).first.id, .ptr (T.length + 1) 0)] := by unfold mset mfind; rfl
   refine SemA.drawU [(4, .ptr (T.length + 4) 0), (5, .p (.int .i64 0))] (T ++ [.cells 30 (p.put a).cs, .cells 75 x2.cs, .map [(hv (p.put a).first.id, .ptr (T.length + 1) 0)], .buf 72 1 [.ptr (T.length + 1) 0], .cells 79 s0.cs]) [] 14 (fun i => decide (i < T.length + 2)) (.st 0 true (.st 1 true (.st 3 true (.st 4 true (.st 5 true (.st 6 true (.st 7 true (.st 10 true (.st 12 true (.alt 2 (.alt 8 (.st 9 true (.st 11 false (.st 13 true (.st 14 false (.st 15 true (.st 16 true .nil)))))) 11 (.st 8 false (.st 9 true (.st 13 true (.st 14 false (.st 15 true (.st 16 true .nil))))))) 11 (.st 2 false (.st 8 false (.st 9 true (.st 13 true (.st 14 false (.st 15 true (.st 16 true .nil))))))))))))))))) mixed (by kernel_rfl) ?_ ?_
   . have c2 := bF_rules.2.1 _ ok'
     have c3 := fun t => bF_rules.2.2.1 _ ok' t
     have c4 := fun t a => bF_rules.2.2.2.1 _ ok' t a
     have c5 := fun t a => bF_rules.2.2.2.2.1 _ ok' t a
     have c6 := fun t a => bF_rules.2.2.2.2.2.1 _ ok' t a
     have c7 := fun t a => bF_rules.2.2.2.2.2.2 _ ok' t a
     have c8 : ∀ t, t = [wint (rm : Int), .mp (T.length + 2), .sl (T.length + 3) 0 1, .ptr (T.length + 1) 0] -> bF (p.put a).cs t = s0.cs := fun t h => by rw [h, hs0]; rfl
     have kk : (∀ k j : Nat, decide (T.length + k < T.length + j) = decide (k < j)) /\ (∀ j : Nat, decide (T.length < T.length + j) = decide (0 < j)) := ⟨fun k j => by simp, fun j => by simp⟩
     have tt : tzF.length = 4 /\ (∀ x : AV, (tzF.set 0 x).length = 4) /\ (∀ x y : AV, ((tzF.set 0 x).set 1 y).length = 4) /\ (∀ x y z : AV, (((tzF.set 0 x).set 1 y).set 2 z).length = 4) := ⟨rfl, fun _ => rfl, fun _ _ => rfl, fun _ _ _ => rfl⟩
     simp -dsimp +decide (disch := omega) only [v5q, ↓reduceIte, Nat.reduceSub, Nat.reduceAdd, Nat.reduceMul, Nat.reduceLT, Int.reduceAdd, Int.reduceSub, Int.reduceToNat, v4q, vpu, vt, hr', g0', g1, kallT, hx2r, hfl, hko, hms, vh, hid, h32, hv_fold, ezF, bF_rules, c2, c3, c4, c5, c6, c7, keep_app, kk, tt]
     have c9 := c8 _ rfl
     have hwi := tbl_ren (permF_id T.length [0, 1, 3, 2, 4]) wt.2.1
     have hvn := vn (permF T.length [0, 1, 3, 2, 4]) T.length [0, 1, 3, 2, 4]
     have hix : idxO [0, 1, 3, 2, 4] 0 = some 0 /\ idxO [0, 1, 3, 2, 4] 1 = some 1 /\ idxO [0, 1, 3, 2, 4] 2 = some 3 /\ idxO [0, 1, 3, 2, 4] 3 = some 2 /\ idxO [0, 1, 3, 2, 4] 4 = some 4 := ⟨rfl, rfl, rfl, rfl, rfl⟩
     refine ⟨⟨?_, ?_⟩, ?_⟩
     . exact SeeL.done ⟨rfl, ⟨rfl, rfl, rfl⟩, by rw [show ∀ t, t = [wint (rm : Int), .mp (T.length + 2), .sl (T.length + 3) 0 1, .ptr (T.length + 1) 0] -> bF (p.put a).cs t = s0.cs from c8]; rfl, by simp⟩
     . exact SeeL.done ⟨rfl, ⟨rfl, rfl, rfl⟩, by rw [show ∀ t, t = [wint (rm : Int), .mp (T.length + 2), .sl (T.length + 3) 0 1, .ptr (T.length + 1) 0] -> bF (p.put a).cs t = s0.cs from c8]; rfl, by simp⟩
     . refine SeeL.perm T _ [0, 1, 3, 2, 4] rfl (by decide) (by simp) (Nat.le_refl _) hwi ?_
       have hrp : (p.put a).cs.map (AV.ren (permF T.length [0, 1, 3, 2, 4])) = (p.put a).cs := ren_all hr'.2.2.2.2.2.2.2.2.2.2.1
       have hrx : x2.cs.map (AV.ren (permF T.length [0, 1, 3, 2, 4])) = x2.cs := ren_all fun q => Nd.wo (by rw [hx2, hx0]; exact okf) fun i hi => by rw [hx2, hx0] at hi; cases hi
       have hrF : ∀ t : List AV, (bF (p.put a).cs t).map (AV.ren (permF T.length [0, 1, 3, 2, 4])) = bF (p.put a).cs (t.map (AV.ren (permF T.length [0, 1, 3, 2, 4]))) := fun t => by rw [bF, List.map_append, hrp]; rfl
       simp -dsimp +decide only [v5q, ↓reduceIte, Nat.reduceSub, Nat.reduceAdd, Nat.reduceMul, Nat.reduceLT, Int.reduceAdd, Int.reduceSub, Int.reduceToNat, ci, vt, hvn, hix, hrp, hrx, hrF, Option.map_some, List.getElem?_cons_zero, List.getElem?_cons_succ, Option.getD_some, List.map_cons, List.map_nil]
       have hcm : List.map (AV.ren (permF T.length [0, 1, 3, 2, 4])) ((((tzF.set 0 (AV.p (Value.int IntKind.i64 (rm : Int)))).set 1 (AV.mp (T.length + 3))).set 2 (AV.sl (T.length + 2) 0 1)).set 3 (AV.ptr (T.length + 1) 0)) = [wint (rm : Int), .mp (T.length + 2), .sl (T.length + 3) 0 1, .ptr (T.length + 1) 0] := by
        simp only [tzF, List.set_cons_zero, List.set_cons_succ, List.map_cons, List.map_nil, hvn, hix, Option.map_some, wint]
       exact SeeL.done ⟨rfl, ⟨rfl, rfl, rfl⟩, by rw [hcm, c9], by simp⟩
   . intro g tmp
     simp -dsimp +decide (disch := omega) only [v5q, ↓reduceIte, Nat.reduceSub, Nat.reduceAdd, Nat.reduceMul, Nat.reduceLT, Int.reduceAdd, Int.reduceSub, Int.reduceToNat, v2q]
     refine Vw.keep (fun i => decide (i ≠ T.length)) (fun i hi => decide_eq_true (by omega)) (Vw.done ⟨rfl, ?_, rfl⟩)
     rw [show ((rm : Int)).toNat = rm from rfl, FT_mk0, <- hs0]
     have e : keepT (fun i => decide (i ≠ T.length)) (T ++ [AObj.cells 30 (p.put a).cs, AObj.cells 75 x2.cs, AObj.map [(hv (p.put a).first.id, AV.ptr (T.length + 1) 0)], AObj.buf 72 1 [AV.ptr (T.length + 1) 0], AObj.cells 79 s0.cs]) = T ++ [AObj.gone, AObj.cells 75 x2.cs, AObj.map [(hv (p.put a).first.id, AV.ptr (T.length + 1) 0)], AObj.buf 72 1 [AV.ptr (T.length + 1) 0], AObj.cells 79 s0.cs] := by
      refine List.ext_getElem? fun i => ?_
      rw [keepT_get]
      by_cases hi : i < T.length
      . rw [List.getElem?_append_left hi, List.getElem?_append_left hi]
        have : keepO (fun i => decide (i ≠ T.length)) i = id := by
         funext o; unfold keepO; simp only [decide_eq_true (show i ≠ T.length by omega)]; rfl
        rw [this]; simp
      . obtain ⟨k, rfl⟩ : ∃ k, i = T.length + k := ⟨i - T.length, by omega⟩
        rw [List.getElem?_append_right (by omega), List.getElem?_append_right (by omega), Nat.add_sub_cancel_left]
        cases k with
        | zero => simp [keepO]
        | succ k =>
          have : keepO (fun i => decide (i ≠ T.length)) (T.length + (k + 1)) = id := by
           funext o; unfold keepO; simp only [decide_eq_true (show T.length + (k + 1) ≠ T.length by omega)]; rfl
          rw [this, List.getElem?_cons_succ, List.getElem?_cons_succ]; simp
     rw [e, hx2, hx0]
 . refine CallA.mono (K := fun v T' es => v = .tu [.p (.pointer none), .p (.int .i64 1)] /\ T' = T /\ es = []) ?_ fun v T' es h => by rw [if_neg hc]; exact h
   refine CallA.wfs fun wf => ?_
   have wt := wf.t
   refine CallA.eV 7 func8 ntmps8 results8 ?_
   simp -dsimp +decide only [v5q, ↓reduceIte, Nat.reduceSub, Nat.reduceAdd, Nat.reduceMul, Nat.reduceLT, Int.reduceAdd, Int.reduceSub, Int.reduceToNat, ci]
   simp -dsimp +decide (disch := omega) only [v5q, ↓reduceIte, Nat.reduceSub, Nat.reduceAdd, Nat.reduceMul, Nat.reduceLT, Int.reduceAdd, Int.reduceSub, Int.reduceToNat, v2q, hr, g0]
   refine (pmay_ok ok).det' ?_
   cases h1 : mayB p with
   | false =>
     simp -dsimp +decide (disch := omega) only [v5q, ↓reduceIte, Nat.reduceSub, Nat.reduceAdd, Nat.reduceMul, Nat.reduceLT, Int.reduceAdd, Int.reduceSub, Int.reduceToNat, v2q, hr, g0, bb2]
     exact Vw.cut ⟨rfl, rfl, rfl⟩
   | true =>
     by_cases h2 : room < 1
     . have i2 := eq_true h2
       simp -dsimp +decide (disch := omega) only [v5q, ↓reduceIte, Nat.reduceSub, Nat.reduceAdd, Nat.reduceMul, Nat.reduceLT, Int.reduceAdd, Int.reduceSub, Int.reduceToNat, v2q, hr, g0, i2, bb2]
       exact Vw.cut ⟨rfl, rfl, rfl⟩
     . have i2 := eq_false h2
       have i3 := eq_true (show (4096 : Int) < room from Classical.byContradiction fun h4 => hc ⟨h1, by omega, by omega⟩)
       simp -dsimp +decide (disch := omega) only [v5q, ↓reduceIte, Nat.reduceSub, Nat.reduceAdd, Nat.reduceMul, Nat.reduceLT, Int.reduceAdd, Int.reduceSub, Int.reduceToNat, v2q, hr, g0, i2, i3, bb2]
       exact Vw.cut ⟨rfl, rfl, rfl⟩
theorem mk0_nd (p : Par) (n rm j : Nat) : (Fst.mk0 p n rm).nd j = if j = n + 1 then some ⟨p.first, none, 0, wkH p.first, 0, true⟩ else none := rfl
theorem mk0_root (p : Par) (n rm : Nat) : (Fst.mk0 p n rm).nd (n + 1) = some ⟨p.first, none, 0, wkH p.first, 0, true⟩ := by rw [mk0_nd, if_pos rfl]
theorem mk0_inv {p : Par} {n rm j : Nat} {x : Nd} (h : (Fst.mk0 p n rm).nd j = some x) : j = n + 1 /\ x = ⟨p.first, none, 0, wkH p.first, 0, true⟩ := by
 rw [mk0_nd] at h
 split at h
 . rename_i e; cases h; exact ⟨e, rfl⟩
 . cases h
theorem mk0_path (p : Par) (n rm : Nat) : Path (Fst.mk0 p n rm) [n + 1] := ⟨_, mk0_root p n rm, rfl, rfl⟩
theorem mk0_hd (p : Par) (n rm : Nat) : (Fst.mk0 p n rm).hd (n + 1) = p.first := Fst.hd_at (mk0_root p n rm)
theorem mk0_G (p : Par) (n rm : Nat) : (Fst.mk0 p n rm).G := by
 have hb : ∀ i, i ∈ (Fst.mk0 p n rm).bc ↔ i = n + 1 := fun i => List.mem_singleton
 have hon : (Fst.mk0 p n rm).onOf (n + 1) = none := Fst.onOf_at (mk0_root p n rm)
 refine ⟨by simp [Fst.mk0], ?_, fun i hi => ⟨_, (hb i).1 hi ▸ mk0_root p n rm⟩, by simp [Fst.mk0], fun i hi => ?_, ?_, fun i x j hx hi hj => ?_, fun i x r hx hr hi => ?_, fun i x hx hi => ?_, (hb _).2 rfl, fun i x r hx hi hr => ?_⟩
 . show [(p.first.id, n + 1)] = [n + 1].map _
   rw [List.map_cons, List.map_nil, mk0_hd]
 . rw [(hb i).1 hi]
   exact ⟨[], mk0_path p n rm, fun j hj => (hb j).2 (List.mem_singleton.1 hj)⟩
 . exact ⟨n + 1, rfl, fun i hi => by rw [(hb i).1 hi, hon]; simp⟩
 . obtain ⟨-, rfl⟩ := mk0_inv hx; cases hj
 . obtain ⟨rfl, rfl⟩ := mk0_inv hx
   have := Path.uniq hr (mk0_path p n rm)
   subst this
   show wkH p.first = sumH (hds _ [n + 1])
   rw [hds, List.map_cons, List.map_nil, mk0_hd]
   show _ = (0 + wkH p.first) % 2 ^ 256
   rw [Nat.zero_add, Nat.mod_eq_of_lt (wkH_lt _)]
 . obtain ⟨rfl, rfl⟩ := mk0_inv hx
   show 0 = ((([n + 1] : List Nat).filter _).length)
   simp [hon]
 . obtain ⟨rfl, rfl⟩ := mk0_inv hx
   have : r = [] := Path.uniq hr (mk0_path p n rm)
   subst this
   simp [Fst.mk0]
theorem mk0_W {T : Tbl} (wf : ∀ q : Nat -> Bool, (∀ i, i < T.length -> q i = false) -> T.map (AObj.wo q) = T) {p : Par} (ok : p.Ok) (rm : Nat) : FW (T ++ List.replicate 5 .gone) (Fst.mk0 p T.length rm) := by
 have hl : (T ++ List.replicate 5 AObj.gone).length = T.length + 5 := by simp
 have hn : ∀ k, k ≠ 1 -> (Fst.mk0 p T.length rm).nd (T.length + k) = none := fun k hk => by rw [mk0_nd, if_neg (by omega)]
 have hw : ∀ q, (List.replicate 5 AObj.gone).map (AObj.wo q) = List.replicate 5 AObj.gone := fun q => by rw [List.map_replicate]; rfl
 refine ⟨⟨by rw [hl]; show T.length + 4 < _; omega, by rw [hl]; show T.length + 2 < _; omega, by rw [hl]; show T.length + 3 < _; omega, by show T.length + 4 ≠ T.length + 2; omega, by show T.length + 4 ≠ T.length + 3; omega, by show T.length + 2 ≠ T.length + 3; omega, hn 4 (by omega), hn 2 (by omega), hn 3 (by omega), fun i x hx => by rw [hl, (mk0_inv hx).1]; omega⟩, ⟨ok, fun i x hx => by rw [(mk0_inv hx).2]; exact ok.f, fun q hq => ?_, by rw [hl]; show T.length + 1 < _; omega, fun x hx => ?_, fun i hi => ?_, fun i x j hx hj => by rw [(mk0_inv hx).2] at hj; cases hj⟩, ⟨fun q hq => ?_, ?_⟩, rfl, fun e he => ?_, fun i x j hx hj => (by rw [(mk0_inv hx).2] at hj; cases hj), (by show 1 <= 1000000; omega)⟩
 . show AV.wo q (.sl (T.length + 3) 0 1) = _
   rw [AV.wo, hq _ (by omega)]; rfl
 . rw [hl, List.mem_singleton.1 hx]; show T.length + 1 < _; omega
 . rw [hl, List.mem_singleton.1 hi]; omega
 . rw [List.map_append, hw, wf q fun i hi => hq i (by omega)]
 . rw [List.map_append, hw, wf _ fun i hi => by show (i == T.length + 3) = false; simp; omega]
 . rw [List.mem_singleton.1 he]; exact Hdr.id_len _
structure Fst.Fr (s : Fst) (k : Nat) : Prop where
 f : k ≠ s.f
 m : k ≠ s.m
 b : k ≠ s.b
 nd : s.nd k = none
theorem mk0_Fr {p : Par} {n rm k : Nat} (h : k <= n ∨ n + 5 <= k) : (Fst.mk0 p n rm).Fr k := ⟨by show k ≠ n + 4; omega, by show k ≠ n + 2; omega, by show k ≠ n + 3; omega, by rw [mk0_nd, if_neg (by omega)]⟩
theorem FT_fr {V : Tbl} {s : Fst} {k : Nat} (h : s.Fr k) : (FT V s)[k]? = V[k]? := by
 rw [FT_at]
 cases V[k]? with
 | none => rfl
 | some o => simp only [Option.map_some, Fst.ob, h.nd]; rw [if_neg h.f, if_neg h.m, if_neg h.b]
theorem FT_pre {T X : Tbl} {s : Fst} (h : ∀ k, k < T.length -> s.Fr k) : ∃ l, FT (T ++ X) s = T ++ l := by
 refine ⟨(FT (T ++ X) s).drop T.length, ?_⟩
 have : (FT (T ++ X) s).take T.length = T := by
  refine List.ext_getElem? fun i => ?_
  by_cases hi : i < T.length
  . rw [List.getElem?_take_of_lt hi, FT_fr (h i hi), List.getElem?_append_left hi]
  . rw [List.getElem?_eq_none (by rw [List.length_take]; omega), List.getElem?_eq_none (by omega)]
 have e := List.take_append_drop T.length (FT (T ++ X) s)
 rw [this] at e
 exact e.symm
theorem Drops.dom {s s' : Fst} {l : List (List UInt8)} (h : Drops s l s') : s'.f = s.f /\ s'.m = s.m /\ s'.b = s.b /\ s'.room = s.room /\ s'.top = s.top /\ s'.p = s.p /\ ∀ j x, s'.nd j = some x -> ∃ y, s.nd j = some y := by
 induction h with
 | done _ _ => exact ⟨rfl, rfl, rfl, rfl, rfl, rfl, fun j x hx => ⟨x, hx⟩⟩
 | @step s s' x y z k i p l h1 h2 h3 h4 h5 h6 h7 h8 h9 ih =>
   obtain ⟨a1, a2, a3, a4, a5, a6, a7⟩ := ih
   refine ⟨a1, a2, a3, a4, a5, a6, fun j v hv => ?_⟩
   obtain ⟨w, hw⟩ := a7 j v hv
   rw [drop_nd] at hw
   split at hw
   . rename_i e; exact ⟨y, e ▸ h8⟩
   . exact ⟨w, hw⟩
theorem turn_f (s : Fst) (lt lx : List Nat) (i : Nat) : (s.turn lt lx i).f = s.f /\ (s.turn lt lx i).m = s.m /\ (s.turn lt lx i).b = s.b /\ (s.turn lt lx i).room = s.room /\ (s.turn lt lx i).p = s.p /\ (s.turn lt lx i).bc = s.bc /\ (s.turn lt lx i).es = s.es /\ (s.turn lt lx i).top = i /\ (s.turn lt lx i).oa = s.oa := ⟨rfl, rfl, rfl, rfl, rfl, rfl, rfl, rfl, rfl⟩
theorem addN_f (s : Fst) (hd : Hdr) (i p : Nat) (y : Nd) : (s.addN hd i p y).f = s.f /\ (s.addN hd i p y).m = s.m /\ (s.addN hd i p y).b = s.b /\ (s.addN hd i p y).room = s.room /\ (s.addN hd i p y).p = s.p /\ (s.addN hd i p y).bc = s.bc ++ [i] /\ (s.addN hd i p y).es = s.es ++ [(hd.id, i)] /\ (s.addN hd i p y).top = s.top := by
 unfold Fst.addN Fst.setN
 generalize Fst.newN hd p y = x
 exact ⟨rfl, rfl, rfl, rfl, rfl, rfl, rfl, rfl⟩
theorem if_dom {s s2 : Fst} {lt lx : List Nat} {i : Nat} {c : Prop} [Decidable c] {hd : Hdr} {p : Nat} {y : Nd} (h : s2 = if c then (s.addN hd i p y).turn lt lx i else s.addN hd i p y) : s2.f = s.f /\ s2.m = s.m /\ s2.b = s.b /\ s2.room = s.room /\ s2.p = s.p /\ ∀ j x, s2.nd j = some x -> ∃ y', (s.addN hd i p y).nd j = some y' := by
 obtain ⟨f1, f2, f3, f4, f5, f6, f7, f8⟩ := addN_f s hd i p y
 generalize s.addN hd i p y = s1 at *
 by_cases hc : c
 . rw [if_pos hc] at h
   obtain ⟨t1, t2, t3, t4, t5, t6, t7, t8, t9⟩ := turn_f s1 lt lx i
   rw [<- h] at t1 t2 t3 t4 t5
   exact ⟨t1.trans f1, t2.trans f2, t3.trans f3, t4.trans f4, t5.trans f5, fun j x hx => by rw [h] at hx; obtain ⟨x0, h0, _⟩ := turn_nd hx; exact ⟨x0, h0⟩⟩
 . rw [if_neg hc] at h
   rw [h]
   exact ⟨f1, f2, f3, f4, f5, fun j x hx => ⟨x, hx⟩⟩
theorem AddR.dom {N : Nat} {s s' : Fst} {hd : Hdr} {ht : Nat} {l : List (List UInt8)} {e : Int} (h : AddR N s hd s' ht l e) : s'.f = s.f /\ s'.m = s.m /\ s'.b = s.b /\ s'.room = s.room /\ s'.p = s.p /\ ∀ k, k < N -> s.nd k = Option.none -> s'.nd k = Option.none := by
 cases h with
 | known _ _ => exact ⟨rfl, rfl, rfl, rfl, rfl, fun k _ h => h⟩
 | none _ _ => exact ⟨rfl, rfl, rfl, rfl, rfl, fun k _ h => h⟩
 | wrong _ _ _ _ => exact ⟨rfl, rfl, rfl, rfl, rfl, fun k _ h => h⟩
 | @right p i r rt y z s2 _ _ h1 h2 h3 h4 h5 h6 h6' h7 h8 h9 h10 =>
   obtain ⟨a1, a2, a3, a4, a5, a6, a7⟩ := h10.dom
   obtain ⟨k1, k2, k3, k4, k5, k6⟩ := if_dom h9
   refine ⟨a1.trans k1, a2.trans k2, a3.trans k3, a4.trans k4, a6.trans k5, fun k hk hn => ?_⟩
   cases hx : s'.nd k with
   | none => rfl
   | some x =>
     obtain ⟨v, hv⟩ := a7 k x hx
     obtain ⟨w, hw⟩ := k6 k v hv
     rw [addN_nd] at hw
     split at hw
     . omega
     . split at hw
       . rename_i e; rw [e, h5] at hn; cases hn
       . rw [hn] at hw; cases hw
theorem Fst.Fr.add {N : Nat} {s s' : Fst} {hd : Hdr} {ht k : Nat} {l : List (List UInt8)} {e : Int} (h : s.Fr k) (hk : k < N) (ha : AddR N s hd s' ht l e) : s'.Fr k := by
 obtain ⟨a1, a2, a3, -, -, a4⟩ := ha.dom
 exact ⟨by rw [a1]; exact h.f, by rw [a2]; exact h.m, by rw [a3]; exact h.b, a4 k hk h.nd⟩
theorem Drops.len {s s' : Fst} {l : List (List UInt8)} (h : Drops s l s') : s'.bc.length <= s.bc.length := by
 induction h with
 | done _ _ => exact Nat.le_refl _
 | @step s s' x y z k i p l h1 h2 h3 h4 h5 h6 h7 h8 h9 ih =>
   refine Nat.le_trans ih ?_
   show (s.bc.eraseIdx k).length <= _
   exact List.length_eraseIdx_le _ _
theorem AddR.len {N : Nat} {s s' : Fst} {hd : Hdr} {ht : Nat} {l : List (List UInt8)} {e : Int} (h : AddR N s hd s' ht l e) : s'.bc.length <= s.bc.length + 1 := by
 cases h with
 | known _ _ => omega
 | none _ _ => omega
 | wrong _ _ _ _ => omega
 | @right p i r rt y z s2 _ _ h1 h2 h3 h4 h5 h6 h6' h7 h8 h9 h10 =>
   refine Nat.le_trans h10.len ?_
   obtain ⟨f1, f2, f3, f4, f5, f6, f7, f8⟩ := addN_f s hd i p y
   generalize s.addN hd i p y = s1 at *
   rw [h9]
   generalize (y.wk + wkH hd) % 2 ^ 256 = W
   by_cases hw : z.wk < W
   . rw [if_pos hw, (turn_f s1 (s.top :: rt) (i :: p :: r) i).2.2.2.2.2.1, f6]; simp
   . rw [if_neg hw, f6]; simp
theorem turn_at {s : Fst} {lt lx : List Nat} {i j : Nat} {x : Nd} (h : s.nd j = some x) : (s.turn lt lx i).nd j = some { x with best := if j ∈ lx then true else if j ∈ lt then false else x.best } := by
 show ((s.setB lt false).setB lx true).nd j = _
 rw [Fst.setB_some (Fst.setB_some h)]
 congr 1
 by_cases h1 : j ∈ lx <;> by_cases h2 : j ∈ lt <;> simp [h1, h2]
theorem Drops.stop {s s' : Fst} {l : List (List UInt8)} {x : Nd} (h : Drops s l s') (hx : s.nd s.top = some x) (hl : s.bc.length <= x.ht + 1 + s.room) : l = [] /\ s' = s := by
 cases h with
 | done _ _ => exact ⟨rfl, rfl⟩
 | step h1 h2 => rw [hx] at h1; cases h1; omega
structure Added (s : Fst) (hd : Hdr) (p : Nat) (r rt : List Nat) (y : Nd) (c : Bool) (i : Nat) (s2 : Fst) : Prop where
 n : ∀ j x, s.nd j = some x -> j < i
 bc : s2.bc = s.bc ++ [i]
 es : s2.es = s.es ++ [(hd.id, i)]
 par : s2.p = s.p
 room : s2.room = s.room
 top : s2.top = if c then i else s.top
 new : s2.nd i = some ⟨hd, some p, y.ht + 1, (y.wk + wkH hd) % 2 ^ 256, 0, c⟩
 on : s2.nd p = some { y with kids := y.kids + 1, best := if c then true else y.best }
 o : ∀ j x, s.nd j = some x -> j ≠ p -> s2.nd j = some { x with best := if c then (if j ∈ i :: p :: r then true else if j ∈ s.top :: rt then false else x.best) else x.best }
theorem addR_at {N : Nat} {s s' : Fst} {hd : Hdr} {ht p : Nat} {r rt : List Nat} {l : List (List UInt8)} {e : Int} {y z : Nd} (h : AddR N s hd s' ht l e) (hl : s.look hd.id = none) (hp : s.look hd.prev = some p) (hpath : Path s (p :: r)) (hr : rightE s.p (hds s (p :: r)) hd = 0) (hy : s.nd p = some y) (hz : s.nd s.top = some z) (hrt : Path s (s.top :: rt)) :
 e = 0 /\ ht = y.ht + 1 /\ ∃ i s2, Added s hd p r rt y (decide (z.wk < (y.wk + wkH hd) % 2 ^ 256)) i s2 /\ Drops s2 l s' := by
 cases h with
 | known h1 _ => rw [hl] at h1; cases h1
 | none _ h2 => rw [hp] at h2; cases h2
 | wrong h1 h2 h3 h4 =>
   rw [hp] at h2; cases h2
   have := Path.uniq hpath h3; subst this
   exact absurd hr h4
 | @right p' i r' rt' y' z' s2 _ _ h1 h2 h3 h4 h5 h6 h6' h7 h8 h9 h10 =>
   rw [hp] at h2; cases h2
   have := Path.uniq hpath h3; subst this
   rw [hy] at h5; cases h5
   rw [hz] at h7; cases h7
   have := Path.uniq hrt h8; subst this
   refine ⟨rfl, rfl, i, s2, ?_, h10⟩
   obtain ⟨f1, f2, f3, f4, f5, f6, f7, f8⟩ := addN_f s hd i p y
   have hpi := h6 p y hy
   have a1 : (s.addN hd i p y).nd i = some ⟨hd, some p, y.ht + 1, (y.wk + wkH hd) % 2 ^ 256, 0, false⟩ := by rw [addN_nd, if_pos rfl]; rfl
   have a2 : (s.addN hd i p y).nd p = some { y with kids := y.kids + 1 } := by rw [addN_nd, if_neg (by omega), if_pos rfl]
   have a3 : ∀ j x, s.nd j = some x -> j ≠ p -> (s.addN hd i p y).nd j = some x := fun j x hx hj => by
    have := h6 j x hx
    rw [addN_nd, if_neg (by omega), if_neg hj, hx]
   generalize s.addN hd i p y = s1 at *
   generalize hW : (y.wk + wkH hd) % 2 ^ 256 = W at *
   by_cases hw : z.wk < W
   . rw [if_pos hw] at h9
     obtain ⟨t1, t2, t3, t4, t5, t6, t7, t8, t9⟩ := turn_f s1 (s.top :: rt) (i :: p :: r) i
     rw [decide_eq_true hw, h9]
     refine ⟨h6, t6.trans f6, t7.trans f7, t5.trans f5, t4.trans f4, t8, ?_, ?_, fun j x hx hj => ?_⟩
     . rw [turn_at a1, hW]; simp
     . rw [turn_at a2]; simp
     . rw [turn_at (a3 j x hx hj)]; rfl
   . rw [if_neg hw] at h9
     rw [decide_eq_false hw, h9]
     refine ⟨h6, f6, f7, f5, f4, f8, ?_, ?_, fun j x hx hj => ?_⟩
     . rw [a1, hW]
     . rw [a2]; rfl
     . rw [a3 j x hx hj]; rfl
theorem mod4 : (2 + 2) % 2 ^ 256 = 4 := by decide
theorem mod6 : (4 + 2) % 2 ^ 256 = 6 := by decide
theorem works_run {p : Par} {n : Nat} {a b c d : Hdr} {s1 s2 s3 s4 : Fst} {t1 t2 t3 t4 : Nat} {g1 g2 g3 g4 : List (List UInt8)} {e1 e2 e3 e4 : Int}
 (wf : wkH p.first = 2) (wa : wkH a = 2) (wb : wkH b = 2) (wc : wkH c = 2) (wd : wkH d = 2)
 (na : ¬ p.first.id = a.id) (nb : ¬ p.first.id = b.id /\ ¬ a.id = b.id) (nc : ¬ p.first.id = c.id /\ ¬ a.id = c.id /\ ¬ b.id = c.id) (nd : ¬ p.first.id = d.id /\ ¬ a.id = d.id /\ ¬ b.id = d.id /\ ¬ c.id = d.id)
 (pa : a.prev = p.first.id) (pb : b.prev = p.first.id) (pc : c.prev = b.id) (pd : d.prev = a.id)
 (ra : rightE p [p.first] a = 0) (rb : rightE p [p.first] b = 0) (rc : rightE p [p.first, b] c = 0) (rd : rightE p [p.first, a] d = 0)
 {N1 N2 N3 N4 : Nat} (h1 : AddR N1 (Fst.mk0 p n 1) a s1 t1 g1 e1) (h2 : AddR N2 s1 b s2 t2 g2 e2) (h3 : AddR N3 s2 c s3 t3 g3 e3) (h4 : AddR N4 s3 d s4 t4 g4 e4) :
 (e1 = 0 /\ e2 = 0 /\ e3 = 0 /\ e4 = 0 /\ t3 = 2 /\ g4 = [d.id]) /\ (s1.room = 1 /\ s2.room = 1 /\ s3.room = 1 /\ s1.bc.length = 2 /\ s2.bc.length = 3 /\ s3.bc.length = 4) /\ (∃ x, s2.nd s2.top = some x /\ x.h = a /\ x.ht = 1) /\ ∃ x, s3.nd s3.top = some x /\ x.h = c /\ x.ht = 2 := by
 obtain ⟨r, hr⟩ : ∃ r, r = n + 1 := ⟨_, rfl⟩
 have n0 : (Fst.mk0 p n 1).nd r = some ⟨p.first, none, 0, 2, 0, true⟩ := by rw [hr, mk0_root, wf]
 have b0 : (Fst.mk0 p n 1).bc = [r] := by rw [hr]; rfl
 have e0 : (Fst.mk0 p n 1).es = [(p.first.id, r)] := by rw [hr]; rfl
 have p0 : (Fst.mk0 p n 1).p = p := rfl
 have m0 : (Fst.mk0 p n 1).room = 1 := rfl
 have o0 : (Fst.mk0 p n 1).top = r := hr.symm
 generalize Fst.mk0 p n 1 = s0 at *
 have q0 : Path s0 [r] := ⟨_, n0, rfl, rfl⟩
 obtain ⟨rfl, -, i1, u1, A1, D1⟩ := addR_at h1 (p := r) (r := []) (rt := []) (by simp [Fst.look, e0, na]) (by simp [Fst.look, e0, pa]) q0 (by rw [p0, show hds s0 [r] = [p.first] by simp [hds, Fst.hd_at n0]]; exact ra) n0 (by rw [o0]; exact n0) (by rw [o0]; exact q0)
 obtain ⟨x1, x2, x3, x4, x5, x6, x7, x8, x9⟩ := A1
 simp only [wa, mod4, show decide (2 < 4) = true from rfl, if_true, o0, b0, e0, List.cons_append, List.nil_append] at x1 x2 x3 x4 x5 x6 x7 x8 x9
 have hri := x1 r _ n0
 obtain ⟨rfl, rfl⟩ := D1.stop (by rw [x6]; exact x7) (by rw [x2, x5, m0]; simp)
 have q1 : Path s1 [r] := ⟨_, x8, rfl, rfl⟩
 have q1a : Path s1 [i1, r] := ⟨⟨_, x7, rfl, rfl⟩, q1⟩
 obtain ⟨rfl, -, i2, u2, A2, D2⟩ := addR_at h2 (p := r) (r := []) (rt := [r]) (by simp [Fst.look, x3, nb]) (by simp [Fst.look, x3, pb]) q1 (by rw [x4, p0, show hds s1 [r] = [p.first] by simp [hds, Fst.hd_at x8]]; exact rb) x8 (by rw [x6]; exact x7) (by rw [x6]; exact q1a)
 obtain ⟨y1, y2, y3, y4, y5, y6, y7, y8, y9⟩ := A2
 simp only [wb, mod4, show decide (4 < 4) = false from rfl, if_false, x6, x2, x3, Bool.false_eq_true, List.cons_append, List.nil_append] at y1 y2 y3 y4 y5 y6 y7 y8 y9
 have hri2 := y1 r _ x8
 have hi12 := y1 i1 _ x7
 have z1 := y9 i1 _ x7 (by omega)
 obtain ⟨rfl, rfl⟩ := D2.stop (by rw [y6]; exact z1) (by rw [y2, y5, x5, m0]; simp)
 have q2 : Path s2 [r] := ⟨_, y8, rfl, rfl⟩
 have q2a : Path s2 [i1, r] := ⟨⟨_, z1, rfl, rfl⟩, q2⟩
 have q2b : Path s2 [i2, r] := ⟨⟨_, y7, rfl, rfl⟩, q2⟩
 obtain ⟨rfl, rfl, i3, u3, A3, D3⟩ := addR_at h3 (p := i2) (r := [r]) (rt := [r]) (by simp [Fst.look, y3, nc]) (by simp [Fst.look, y3, pc, nb]) q2b (by rw [y4, x4, p0, show hds s2 [i2, r] = [p.first, b] by simp [hds, Fst.hd_at y8, Fst.hd_at y7]]; exact rc) y7 (by rw [y6]; exact z1) (by rw [y6]; exact q2a)
 obtain ⟨v1, v2, v3, v4, v5, v6, v7, v8, v9⟩ := A3
 simp only [wc, mod6, show decide (4 < 6) = true from rfl, if_true, y6, y2, y3, List.cons_append, List.nil_append] at v1 v2 v3 v4 v5 v6 v7 v8 v9
 have hri3 := v1 r _ y8
 have hi13 := v1 i1 _ z1
 have hi23 := v1 i2 _ y7
 have k1 := v9 i1 _ z1 (by omega)
 have k0 := v9 r _ y8 (by omega)
 simp only [List.mem_cons, List.not_mem_nil, or_false, show ¬ i1 = i3 by omega, show ¬ i1 = i2 by omega, show ¬ i1 = r by omega, false_or, if_false, true_or, if_true, or_true] at k1 k0
 obtain ⟨rfl, rfl⟩ := D3.stop (by rw [v6]; exact v7) (by rw [v2, v5, y5, x5, m0]; simp)
 have q3 : Path s3 [r] := ⟨_, k0, rfl, rfl⟩
 have q3a : Path s3 [i1, r] := ⟨⟨_, k1, rfl, rfl⟩, q3⟩
 have q3c : Path s3 [i3, i2, r] := ⟨⟨_, v7, rfl, rfl⟩, ⟨_, v8, rfl, rfl⟩, q3⟩
 obtain ⟨rfl, -, i4, u4, A4, D4⟩ := addR_at h4 (p := i1) (r := [r]) (rt := [i2, r]) (by simp [Fst.look, v3, nd]) (by simp [Fst.look, v3, pd, na]) q3a (by rw [v4, y4, x4, p0, show hds s3 [i1, r] = [p.first, a] by simp [hds, Fst.hd_at k0, Fst.hd_at k1]]; exact rd) k1 (by rw [v6]; exact v7) (by rw [v6]; exact q3c)
 obtain ⟨w1, w2, w3, w4, w5, w6, w7, w8, w9⟩ := A4
 simp only [wd, mod6, show decide (6 < 6) = false from rfl, if_false, v6, v2, v3, Bool.false_eq_true, List.cons_append, List.nil_append] at w1 w2 w3 w4 w5 w6 w7 w8 w9
 have hri4 := w1 r _ k0
 have hi14 := w1 i1 _ k1
 have hi24 := w1 i2 _ v8
 have hi34 := w1 i3 _ v7
 have l0 := w9 r _ k0 (by omega)
 have l2 := w9 i2 _ v8 (by omega)
 have l3 := w9 i3 _ v7 (by omega)
 refine ⟨⟨rfl, rfl, rfl, rfl, rfl, ?_⟩, ⟨by rw [x5, m0], by rw [y5, x5, m0], by rw [v5, y5, x5, m0], by rw [x2]; rfl, by rw [y2]; rfl, by rw [v2]; rfl⟩, ⟨_, by rw [y6]; exact z1, rfl, rfl⟩, ⟨_, by rw [v6]; exact v7, rfl, rfl⟩⟩
 cases D4 with
 | done f1 f2 =>
   rw [w6, l3] at f1
   cases f1
   rw [w2, w5, v5, y5, x5, m0] at f2
   simp at f2
 | @step _ _ x y z k i q l f1 f2 f3 f4 f5 f6 f7 f8 f9 =>
   have him : i ∈ [r, i1, i2, i3, i4] := by rw [<- w2]; exact List.mem_of_getElem? f3
   have hi : i = i4 := by
    simp only [List.mem_cons, List.not_mem_nil, or_false] at him
    rcases him with rfl | rfl | rfl | rfl | rfl
    . rw [Fst.leaf, l0] at f5; simp at f5
    . rw [Fst.leaf, w8] at f5; simp at f5
    . rw [Fst.leaf, l2] at f5; simp at f5
    . rw [Fst.leaf, l3] at f5; simp at f5
    . rfl
   subst hi
   rw [w7] at f6
   cases f6
   cases f7
   have hk : k < 5 := by have := (List.getElem?_eq_some_iff.1 f3).1; rw [w2] at this; simpa using this
   have := f9.stop (x := _) (by rw [drop_nd, if_neg (show ¬ (u4.drop k _ i1 y).top = i1 by show ¬ u4.top = i1; rw [w6]; omega)]; show u4.nd u4.top = _; rw [w6]; exact l3) (by show (u4.bc.eraseIdx k).length <= _ + 1 + u4.room; rw [w2, w5, v5, y5, x5, m0, List.length_eraseIdx_of_lt (by simpa using hk)]; simp)
   rw [this.1]
abbrev tP : Par := easyP 10 10
theorem tP_ok : tP.Ok := easy_ok' (by omega)
theorem tP_may : mayB tP = true := easy_may (by decide) (by decide) (by decide) (by decide)
def tR (k : UInt8) : List UInt8 := k :: List.replicate 31 0
def iF : List UInt8 := [61, 203, 117, 189, 137, 197, 20, 104, 21, 221, 192, 209, 215, 49, 76, 183, 70, 25, 253, 247, 43, 253, 106, 115, 55, 132, 161, 91, 255, 182, 29, 187]
def iA : List UInt8 := [106, 242, 196, 185, 193, 26, 122, 86, 70, 130, 119, 241, 46, 98, 13, 96, 148, 160, 143, 137, 190, 224, 233, 229, 139, 2, 58, 249, 22, 181, 21, 105]
def iB : List UInt8 := [185, 205, 238, 104, 96, 244, 165, 26, 120, 157, 228, 37, 91, 184, 33, 58, 209, 210, 181, 242, 56, 129, 124, 205, 54, 55, 155, 120, 149, 253, 36, 22]
def iC : List UInt8 := [19, 82, 22, 76, 160, 32, 110, 27, 144, 150, 244, 230, 183, 104, 229, 77, 66, 73, 231, 93, 25, 128, 100, 11, 144, 17, 47, 234, 254, 48, 12, 84]
def iD : List UInt8 := [141, 60, 227, 35, 89, 122, 193, 72, 155, 208, 135, 157, 210, 178, 56, 17, 224, 196, 66, 204, 181, 237, 218, 16, 98, 119, 216, 185, 220, 26, 176, 82]
def hA : Hdr := ⟨1, iF, tR 1, 2000, 545259519, 1⟩
def hB : Hdr := ⟨1, iF, tR 2, 2000, 545259519, 1⟩
def hC : Hdr := ⟨1, iB, tR 3, 2010, 545259519, 0⟩
def hD : Hdr := ⟨1, iA, tR 4, 2010, 545259519, 1⟩
def tT : Nat := 0x7fffff * 2 ^ 232
set_option maxRecDepth 100000 in
theorem id_F : tP.first.id = iF := by decide +kernel
set_option maxRecDepth 100000 in
theorem id_A : hA.id = iA := by decide +kernel
set_option maxRecDepth 100000 in
theorem id_B : hB.id = iB := by decide +kernel
set_option maxRecDepth 100000 in
theorem id_C : hC.id = iC := by decide +kernel
set_option maxRecDepth 100000 in
theorem id_D : hD.id = iD := by decide +kernel
theorem ex_t : ofT (545259519 : UInt32).toNat = some tT := by decide +kernel
set_option maxRecDepth 100000 in
theorem no_A : meetsB { hA with nonce := 0 } tT = false := by decide +kernel
set_option maxRecDepth 100000 in
theorem no_B : meetsB { hB with nonce := 0 } tT = false := by decide +kernel
set_option maxRecDepth 100000 in
theorem no_D : meetsB { hD with nonce := 0 } tT = false := by decide +kernel
theorem me_A : meetsB hA tT = true := by rw [meetsB, id_A]; decide +kernel
theorem me_B : meetsB hB tT = true := by rw [meetsB, id_B]; decide +kernel
theorem me_C : meetsB hC tT = true := by rw [meetsB, id_C]; decide +kernel
theorem me_D : meetsB hD tT = true := by rw [meetsB, id_D]; decide +kernel
theorem tbits {hs : List Hdr} {la : Hdr} (hl : hs.getLast? = some la) (hb : la.bits = 545259519) (hn : hs.length % 10 ≠ 0) : bitsB tP hs = 545259519 := by
 unfold bitsB
 rw [hl]
 simp only [tP_may]
 rw [if_neg (by decide), if_pos (by exact hn), hb]
theorem mine2 {hs : List Hdr} {la h : Hdr} {time : UInt32} {root : List UInt8} (hl : hs.getLast? = some la) (hb : la.bits = 545259519) (hn : hs.length % 10 ≠ 0) (he : h = ⟨1, la.id, root, time, 545259519, 1⟩) (h0 : meetsB { h with nonce := 0 } tT = false) (h1 : meetsB h tT = true) : mineB tP hs time root 200 = (h, true) := by
 unfold mineB
 rw [hl, tbits hl hb hn]
 simp only [ex_t]
 rw [show (200 : UInt32).toNat = 197 + 1 + 1 + 1 from rfl, mineAt, if_neg, mineAt, if_pos]
 . rw [he]; rfl
 . rw [he] at h1; exact h1
 . rw [he] at h0; rw [Bool.not_eq_true]; exact h0
theorem mine1 {hs : List Hdr} {la h : Hdr} {time : UInt32} {root : List UInt8} (hl : hs.getLast? = some la) (hb : la.bits = 545259519) (hn : hs.length % 10 ≠ 0) (he : h = ⟨1, la.id, root, time, 545259519, 0⟩) (h1 : meetsB h tT = true) : mineB tP hs time root 200 = (h, true) := by
 unfold mineB
 rw [hl, tbits hl hb hn]
 simp only [ex_t]
 rw [show (200 : UInt32).toNat = 198 + 1 + 1 from rfl, mineAt, if_pos]
 . rw [he]; rfl
 . rw [he] at h1; exact h1
theorem mine_A : mineB tP [tP.first] 2000 (tR 1) 200 = (hA, true) := mine2 (la := tP.first) rfl rfl (by decide) (by rw [id_F]; rfl) no_A me_A
theorem mine_B : mineB tP [tP.first] 2000 (tR 2) 200 = (hB, true) := mine2 (la := tP.first) rfl rfl (by decide) (by rw [id_F]; rfl) no_B me_B
theorem mine_C : mineB tP [tP.first, hB] 2010 (tR 3) 200 = (hC, true) := mine1 (la := hB) rfl rfl (by decide) (by rw [id_B]; rfl) me_C
theorem mine_D : mineB tP [tP.first, hA] 2010 (tR 4) 200 = (hD, true) := mine2 (la := hA) rfl rfl (by decide) (by rw [id_A]; rfl) no_D me_D
theorem right0 {hs : List Hdr} {la h : Hdr} (hl : hs.getLast? = some la) (hb : la.bits = 545259519) (hn : hs.length % 10 ≠ 0) (hp : h.prev = la.id) (hb' : h.bits = 545259519) (hm : meetsB h tT = true) (B : Nat) (ht : ∀ x ∈ hs, x.time.toNat <= B) (hB : B < h.time.toNat) : rightE tP hs h = 0 := by
 have hg : Good tP hs h := by
  refine ⟨?_, by rw [tbits hl hb hn, hb'], ?_, Nat.lt_of_le_of_lt (med_le ht) hB⟩
  . rw [prevB, hl]; exact decide_eq_true hp
  . rw [workB, hb', ex_t]; exact hm
 rw [right_good tP_may hg]; rfl
theorem right_A : rightE tP [tP.first] hA = 0 := right0 rfl rfl (by decide) id_F.symm rfl me_A 1000 (by decide) (by decide)
theorem right_B : rightE tP [tP.first] hB = 0 := right0 rfl rfl (by decide) id_F.symm rfl me_B 1000 (by decide) (by decide)
theorem right_C : rightE tP [tP.first, hB] hC = 0 := right0 rfl rfl (by decide) id_B.symm rfl me_C 2000 (by decide) (by decide)
theorem right_D : rightE tP [tP.first, hA] hD = 0 := right0 rfl rfl (by decide) id_A.symm rfl me_D 2000 (by decide) (by decide)
theorem wk2 {h : Hdr} (hb : h.bits = 545259519) : wkH h = 2 := by rw [wkH, hb]; decide +kernel
theorem tP_run {n : Nat} {s1 s2 s3 s4 : Fst} {t1 t2 t3 t4 : Nat} {g1 g2 g3 g4 : List (List UInt8)} {e1 e2 e3 e4 : Int}
 {N1 N2 N3 N4 : Nat} (h1 : AddR N1 (Fst.mk0 tP n 1) hA s1 t1 g1 e1) (h2 : AddR N2 s1 hB s2 t2 g2 e2) (h3 : AddR N3 s2 hC s3 t3 g3 e3) (h4 : AddR N4 s3 hD s4 t4 g4 e4) :
 (e1 = 0 /\ e2 = 0 /\ e3 = 0 /\ e4 = 0 /\ t3 = 2 /\ g4 = [hD.id]) /\ (s1.room = 1 /\ s2.room = 1 /\ s3.room = 1 /\ s1.bc.length = 2 /\ s2.bc.length = 3 /\ s3.bc.length = 4) /\ (∃ x, s2.nd s2.top = some x /\ x.h = hA /\ x.ht = 1) /\ ∃ x, s3.nd s3.top = some x /\ x.h = hC /\ x.ht = 2 := by
 refine works_run (wk2 rfl) (wk2 rfl) (wk2 rfl) (wk2 rfl) (wk2 rfl) ?_ ?_ ?_ ?_ id_F.symm id_F.symm id_B.symm id_A.symm right_A right_B right_C right_D h1 h2 h3 h4
 . rw [id_F, id_A]; decide
 . rw [id_F, id_A, id_B]; decide
 . rw [id_F, id_A, id_B, id_C]; decide
 . rw [id_F, id_A, id_B, id_C, id_D]; decide
end Go.Proofs.YtfpjalgfnjjcmaaGreatDoor
