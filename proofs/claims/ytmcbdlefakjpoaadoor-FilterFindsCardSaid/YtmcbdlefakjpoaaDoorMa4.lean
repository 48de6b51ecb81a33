/-
  Part 4 of the proof: no statement of its own. No condition but those in each theorem.
-/
import Derived.Test.YtmcbdlefakjpoaaDoorMa3
import Derived.Sort.AssemblyPlain
set_option linter.unusedSimpArgs false
set_option linter.unusedVariables false
set_option linter.unusedSectionVars false
namespace Go.E
section
variable {P : Program} {G : Nat → AV} {Γ Γ' Γ0 : Heap} {ρ ρ' ρ0 : List BI} {T T' T0 : Tbl} {w w' w0 : World} {a b : AV} {u v : Value} {K : AV → Tbl → Eff → Prop} {cs : List AV} {es E : Eff}
variable {N n m : Nat} {ro : Option Nat} {ds loc : List AV} {tmp : List (Nat × AV)} {Nk R : AKont} {X : Nat → AKont}
/-- a plan: fl: an operation that reads alone; sq: one that alone is ready -/
inductive PS where
  | nil : PS
  | fl : Nat → PS → PS
  | fp : Nat → PS → PS
  | sq : Nat → PS → PS
/-- an operation between plain values, whatever the world -/
def plV (P : Program) (ρ : Operand → Value) (o : Op) (K : Value → Prop) (_ : Tag K := .mk) : Prop := match o with
  | .binOp op t x y _ => binV P op t (ρ x) (ρ y) x y (fun _ => False) K
  | .unOp op _ x => unV op (ρ x) (fun _ => False) K
  | .convert s t x => convV (tk P s) (tk P t) s t (ρ x) (fun _ => False) K
  | _ => False
theorem plV_float {evV : Operand → Value} {o : Op} {ty : TypeId} {I : World → Prop} {K : Value → Prop} (h : plV P evV o K) : floatV P evV o ty I K := by
  unfold plV at h
  unfold floatV
  split at h
  · simp only [valV]; exact binV_mono h (fun _ h => h.elim) fun _ h => h
  · simp only [valV]; exact unV_mono h (fun _ h => h.elim) fun _ h => h
  · simp only [valV]; exact convV_mono h (fun _ h => h.elim) fun _ h => h
  · exact h.elim
def plA (P : Program) (ρ : Operand → AV) (o : Op) (K : AV → Prop) (_ : Tag K := .mk) : Prop := match o with
  | .binOp op t x y _ => isP (ρ x) fun a => isP (ρ y) fun b => binV P op t a b x y (fun _ => False) fun v => K (.p v)
  | .unOp op _ x => isP (ρ x) fun a => unV op a (fun _ => False) fun v => K (.p v)
  | .convert s t x => isP (ρ x) fun a => convV (tk P s) (tk P t) s t a (fun _ => False) fun v => K (.p v)
  | _ => False
theorem plA_sound {evA : Operand → AV} {evV : Operand → Value} {o : Op} {K : AV → Prop} (he : ∀ x, Rel Γ ρ (evA x) (evV x)) (h : plA P evA o K) : plV P evV o fun v => K (.p v) := by
  unfold plA at h
  unfold plV
  split at h
  · exact isP_elim (isP_elim h (he _)) (he _)
  · exact isP_elim h (he _)
  · exact isP_elim h (he _)
  · exact h.elim
def PS.len : PS → Nat
  | .nil => 0
  | .fl _ r => r.len + 1
  | .fp _ r => r.len + 1
  | .sq _ r => r.len + 1
def PS.cl (d : Nat) : PS → Nat
  | .nil => d
  | .fl _ r => r.cl d
  | .fp _ r => r.cl d
  | .sq i _ => i
def planOKS (ops : Array Oper) : PS → Nat → Array Bool → Bool
  | .nil, _, listed => (Region.ready .any ops listed).isEmpty
  | .fl i r, cl, listed => ((Region.ready .any ops listed).contains i && Region.free .any ops listed i && (cl != i && ((match ops[i]? with | none => false | some oi => pureOp oi.op) || blocks ops cl i listed))) && planOKS ops r cl (listed.setIfInBounds i true)
  | .fp i r, cl, listed => ((Region.ready .any ops listed).contains i && Region.free .any ops listed i && cl != i) && planOKS ops r cl (listed.setIfInBounds i true)
  | .sq i r, cl, listed => (Region.ready .any ops listed == [i] && (i == cl && decide (i < listed.size))) && planOKS ops r (r.cl ops.size) (listed.setIfInBounds i true)
def planS (P : Program) (n : Nat) (base : Nat → Value) (ops : List Oper) (ds : List Nat) : PS → (World → Prop) → List Value → List (Nat × Value) → World → (K : Kont) → Prop
  | .nil, _, loc, tmp, w, K => K ds loc tmp w
  | .fl i r, I, loc, tmp, w, K => planO n base ops ops[i]? loc tmp
    (fun o => floatV P (ev n base loc tmp) o.op o.type I fun v => putK n o.dst v loc tmp fun loc tmp => planS P n base ops ds r I loc tmp w K)
    (fun o => putK n o.dst undef loc tmp fun loc tmp => planS P n base ops ds r I loc tmp w K)
  | .fp i r, I, loc, tmp, w, K => planO n base ops ops[i]? loc tmp
    (fun o => plV P (ev n base loc tmp) o.op fun v => putK n o.dst v loc tmp fun loc tmp => planS P n base ops ds r I loc tmp w K)
    (fun o => putK n o.dst undef loc tmp fun loc tmp => planS P n base ops ds r I loc tmp w K)
  | .sq i r, I, loc, tmp, w, K => planO n base ops ops[i]? loc tmp
    (fun o => opV P (ev n base loc tmp) o.op o.type w fun v w' => putK n o.dst v loc tmp fun loc tmp => ∃ I', I' w' ∧ planS P n base ops ds r I' loc tmp w' K)
    (fun o => putK n o.dst undef loc tmp fun loc tmp => ∃ I', I' w ∧ planS P n base ops ds r I' loc tmp w K)
theorem getD_set_true {l : Array Bool} {cl i : Nat} (h : l.getD cl false = true) : (l.setIfInBounds i true).getD cl false = true := by
  by_cases hic : i = cl
  · subst hic
    simp only [Array.getD_eq_getD_getElem?, Array.getElem?_setIfInBounds]
    by_cases hb : i < l.size
    · simp [hb]
    · simp [hb] at h
  · rw [getD_set_ne false hic]; exact h
theorem AnyI.swap {ops : Array Oper} {Q : Exit → Act → World → Prop} {cl cl' : Nat} {I J : World → Prop} : ∀ (f : Nat) (listed : Array Bool) (a : Act) (w : World), listed.getD cl false = true → AnyI ro P ops Q cl' J f listed a w → AnyI ro P ops Q cl I f listed a w
  | 0, _, _, _, hl, h => ⟨fun h' => (by rw [hl] at h'; cases h'), h.2⟩
  | f + 1, listed, _, _, hl, h => ⟨fun h' => (by rw [hl] at h'; cases h'), h.2.1, fun i hi => wpOpIn_mono (fun a w => AnyI.swap f _ a w (getD_set_true hl)) (h.2.2 i hi)⟩
theorem planS_any {Q : Exit → Act → World → Prop} {n m : Nat} {base : Nat → Value} {l : List Oper} {ds : List Nat} {K : Kont} (hsel : Region.noSelect l.toArray = true) (hdef : noDefer l.toArray = true) (hQ : ∀ c (a a' : Act) w, Q (.panic c) a w → Q (.panic c) a' w) (hall : l.all (dstIn m) = true) :
    ∀ (pl : PS) (cl : Nat) (listed : Array Bool) (I : World → Prop) (loc : List Value) (tmp : List (Nat × Value)) (w : World) (a : Act), planS P n base l ds pl I loc tmp w K → planOKS l.toArray pl cl listed = true → (listed.getD cl false = false → I w) →
      Agree n base loc tmp a → a.tmps.size = m → a.defers = ds.map markOf →
      (∀ loc tmp w a, Agree n base loc tmp a → a.tmps.size = m → a.defers = ds.map markOf → K ds loc tmp w → Q .normal a w) → AnyI ro P l.toArray Q cl I pl.len listed a w
  | .nil, cl, listed, I, loc, tmp, w, a, h, hpl, hI, ha, hs, hd, hK => by
    simp only [planOKS, List.isEmpty_iff] at hpl
    exact ⟨hI, hpl, hK loc tmp w a ha hs hd h⟩
  | .fl i r, cl, listed, I, loc, tmp, w, a, h, hpl, hI, ha, hs, hd, hK => by
    rw [planOKS, Bool.and_eq_true] at hpl
    obtain ⟨hpl1, hpl2⟩ := hpl
    cases ho : l[i]? with
    | none => simp only [planS, ho, planO] at h
    | some o =>
      have hoi : l.toArray[i]? = some o := by simpa using ho
      have hmem : o ∈ l := List.mem_of_getElem? ho
      have hd1 : dstIn m o = true := List.all_eq_true.1 hall o hmem
      have hdst : ∀ t, o.dst = some t → t < a.tmps.size := by rw [hs]; exact dstIn_spec hd1
      have hnext : ∀ v, ((listed.setIfInBounds i true).getD cl false = false → I w) → (putK n o.dst v loc tmp fun loc tmp => planS P n base l ds r I loc tmp w K) → AnyI ro P l.toArray Q cl I r.len (listed.setIfInBounds i true) (a.put o.dst v) w := by
        intro v hI' hv
        obtain ⟨loc', tmp', ha', hv'⟩ := ha.put hdst v hv
        exact planS_any hsel hdef hQ hall r _ _ I loc' tmp' w _ hv' hpl2 hI' ha' (by cases o.dst <;> simp [Act.put, hs]) (by cases o.dst <;> simp [Act.put, hd]) hK
      simp only [planS, ho, planO] at h
      rw [← ha.ev] at h
      simp only [Bool.and_eq_true, List.contains_iff_mem, Bool.or_eq_true, Bool.not_eq_true', bne_iff_ne, ne_eq, hoi] at hpl1
      obtain ⟨⟨hp1, hp2⟩, hp4, hp3⟩ := hpl1
      have hnext' : ∀ v, (putK n o.dst v loc tmp fun loc tmp => planS P n base l ds r I loc tmp w K) → AnyI ro P l.toArray Q cl I r.len (listed.setIfInBounds i true) (a.put o.dst v) w := fun v hk =>
        hnext v (fun hl => hI (by rw [getD_set_ne false (Ne.symm hp4)] at hl; exact hl)) hk
      rcases hp3 with hp3 | hp3
      · have hgive : ∃ v, GivesI P l.toArray (fun _ => True) o v a ∧ putK n o.dst v loc tmp fun loc tmp => planS P n base l ds r I loc tmp w K := by
          rcases grdV_wanted h with ⟨hw, h⟩ | ⟨hw, h⟩
          · obtain ⟨v, hv, hk⟩ := floatV_run (floatV_pure hp3 h)
            exact ⟨v, .inl ⟨hw, hv⟩, hk⟩
          · exact ⟨undef, .inr ⟨hw, rfl⟩, h⟩
        obtain ⟨v, hg, hk⟩ := hgive
        exact AnyI_first2 [] (.inl fun _ => trivial) hp4 hoi (Region.noSelect_spec hsel) (noDefer_spec hdef) (fun c a w => hQ c _ _ w) r.len listed a w (fun j oj hj hne hun hno => Region.free_spec hoi hp2 j oj hj hne hun hno) (.inl fun _ => trivial) hp1 hg (hnext' v hk)
      · have hgive : ∃ v, GivesI P l.toArray I o v a ∧ putK n o.dst v loc tmp fun loc tmp => planS P n base l ds r I loc tmp w K := by
          rcases grdV_wanted h with ⟨hw, h⟩ | ⟨hw, h⟩
          · obtain ⟨v, hv, hk⟩ := floatV_run h
            exact ⟨v, .inl ⟨hw, hv⟩, hk⟩
          · exact ⟨undef, .inr ⟨hw, rfl⟩, h⟩
        obtain ⟨v, hg, hk⟩ := hgive
        simp only [blocks, Bool.and_eq_true, Bool.or_eq_true, Bool.not_eq_true', List.contains_iff_mem, List.all_eq_true] at hp3
        obtain ⟨⟨⟨hb1, hb2⟩, hb3⟩, hb4⟩ := hp3
        refine AnyI_first2 (waitsFor l.toArray i) (.inr ⟨fun _ h => h, ?_, fun j hj oj hoj => ?_⟩) hp4 hoi (Region.noSelect_spec hsel) (noDefer_spec hdef) (fun c a w => hQ c _ _ w) r.len listed a w (fun j oj hj hne hun hno => Region.free_spec hoi hp2 j oj hj hne hun hno) (.inr ⟨hb3, hb4⟩) hp1 hg (hnext' v hk)
        · rcases hb2 with h | h
          · exact .inl h
          · right
            split at h
            · assumption
            · cases h
        · have := List.all_eq_true.1 hb1 j hj
          rw [hoj] at this
          obtain ⟨k, hk, hk'⟩ := Array.any_eq_true.1 this
          simp only [Bool.and_eq_true, Bool.or_eq_true, beq_iff_eq, List.contains_iff_mem] at hk'
          exact ⟨_, Array.getElem_mem hk, hk'⟩
  | .fp i r, cl, listed, I, loc, tmp, w, a, h, hpl, hI, ha, hs, hd, hK => by
    rw [planOKS, Bool.and_eq_true] at hpl
    obtain ⟨hpl1, hpl2⟩ := hpl
    cases ho : l[i]? with
    | none => simp only [planS, ho, planO] at h
    | some o =>
      have hoi : l.toArray[i]? = some o := by simpa using ho
      have hmem : o ∈ l := List.mem_of_getElem? ho
      have hd1 : dstIn m o = true := List.all_eq_true.1 hall o hmem
      have hdst : ∀ t, o.dst = some t → t < a.tmps.size := by rw [hs]; exact dstIn_spec hd1
      have hnext : ∀ v, ((listed.setIfInBounds i true).getD cl false = false → I w) → (putK n o.dst v loc tmp fun loc tmp => planS P n base l ds r I loc tmp w K) → AnyI ro P l.toArray Q cl I r.len (listed.setIfInBounds i true) (a.put o.dst v) w := by
        intro v hI' hv
        obtain ⟨loc', tmp', ha', hv'⟩ := ha.put hdst v hv
        exact planS_any hsel hdef hQ hall r _ _ I loc' tmp' w _ hv' hpl2 hI' ha' (by cases o.dst <;> simp [Act.put, hs]) (by cases o.dst <;> simp [Act.put, hd]) hK
      simp only [planS, ho, planO] at h
      rw [← ha.ev] at h
      simp only [Bool.and_eq_true, List.contains_iff_mem, bne_iff_ne, ne_eq] at hpl1
      obtain ⟨⟨hp1, hp2⟩, hp4⟩ := hpl1
      have hnext' : ∀ v, (putK n o.dst v loc tmp fun loc tmp => planS P n base l ds r I loc tmp w K) → AnyI ro P l.toArray Q cl I r.len (listed.setIfInBounds i true) (a.put o.dst v) w := fun v hk =>
        hnext v (fun hl => hI (by rw [getD_set_ne false (Ne.symm hp4)] at hl; exact hl)) hk
      have hgive : ∃ v, GivesI P l.toArray (fun _ => True) o v a ∧ putK n o.dst v loc tmp fun loc tmp => planS P n base l ds r I loc tmp w K := by
        rcases grdV_wanted h with ⟨hw, h⟩ | ⟨hw, h⟩
        · obtain ⟨v, hv, hk⟩ := floatV_run (I := fun _ => True) (plV_float h)
          exact ⟨v, .inl ⟨hw, hv⟩, hk⟩
        · exact ⟨undef, .inr ⟨hw, rfl⟩, h⟩
      obtain ⟨v, hg, hk⟩ := hgive
      exact AnyI_first2 [] (.inl fun _ => trivial) hp4 hoi (Region.noSelect_spec hsel) (noDefer_spec hdef) (fun c a w => hQ c _ _ w) r.len listed a w (fun j oj hj hne hun hno => Region.free_spec hoi hp2 j oj hj hne hun hno) (.inl fun _ => trivial) hp1 hg (hnext' v hk)
  | .sq i r, cl, listed, I, loc, tmp, w, a, h, hpl, hI, ha, hs, hd, hK => by
    rw [planOKS] at hpl
    simp only [Bool.and_eq_true, beq_iff_eq, decide_eq_true_eq] at hpl
    obtain ⟨⟨hp1, rfl, hp2⟩, hpl2⟩ := hpl
    cases ho : l[i]? with
    | none => simp only [planS, ho, planO] at h
    | some o =>
      have hoi : l.toArray[i]? = some o := by simpa using ho
      have hmem : o ∈ l := List.mem_of_getElem? ho
      have hd1 : dstIn m o = true := List.all_eq_true.1 hall o hmem
      have hdst : ∀ t, o.dst = some t → t < a.tmps.size := by rw [hs]; exact dstIn_spec hd1
      refine ⟨hI, fun e => (by rw [e] at hp1; cases hp1), fun j hj => ?_⟩
      rw [hp1, List.mem_singleton] at hj
      subst hj
      have hset : (listed.setIfInBounds j true).getD j false = true := by simp [hp2]
      unfold wpOpIn
      simp only [hoi]
      simp only [planS, ho, planO] at h
      rw [← ha.ev] at h
      have hfin : ∀ v w', (putK n o.dst v loc tmp fun loc tmp => ∃ I', I' w' ∧ planS P n base l ds r I' loc tmp w' K) → AnyI ro P l.toArray Q j I r.len (listed.setIfInBounds j true) (a.put o.dst v) w' := by
        intro v w' hv
        obtain ⟨loc', tmp', ha', I', hI', hv'⟩ := ha.put hdst v hv
        exact (planS_any hsel hdef hQ hall r _ _ I' loc' tmp' w' (a.put o.dst v) hv' hpl2 (fun _ => hI') ha' (by cases o.dst <;> simp [Act.put, hs]) (by cases o.dst <;> simp [Act.put, hd]) hK).swap _ _ _ _ hset
      rcases grdV_wanted h with ⟨hw, h⟩ | ⟨hw, h⟩
      · rw [if_pos hw]
        exact (opV_step h).wp hfin
      · rw [if_neg (by rw [hw]; simp)]
        exact ⟨fun f _ => fz_fn f, hfin _ _ h⟩
def planSA (P : Program) (G : Nat → AV) (N n : Nat) (ops : List Oper) : List AV → PS → List AV → List (Nat × AV) → Tbl → Eff → (K : AKont) → (_ : Tag K := .mk) → Prop
  | ds, .nil, loc, tmp, T, E, K, _ => K ds loc tmp T E
  | ds, .fl i r, loc, tmp, T, E, K, _ => planOA ops ops[i]? (evA G n loc tmp)
      (fun o => rdA P (evA G n loc tmp) o.op o.type T fun v => putA n o.dst v loc tmp fun loc tmp => planSA P G N n ops ds r loc tmp T E K)
      (fun o => putA n o.dst (.p undef) loc tmp fun loc tmp => planSA P G N n ops ds r loc tmp T E K)
  | ds, .fp i r, loc, tmp, T, E, K, _ => planOA ops ops[i]? (evA G n loc tmp)
      (fun o => plA P (evA G n loc tmp) o.op fun v => putA n o.dst v loc tmp fun loc tmp => planSA P G N n ops ds r loc tmp T E K)
      (fun o => putA n o.dst (.p undef) loc tmp fun loc tmp => planSA P G N n ops ds r loc tmp T E K)
  | ds, .sq i r, loc, tmp, T, E, K, _ => planOA ops ops[i]? (evA G n loc tmp)
      (fun o => opA P G (evA G n loc tmp) o.op o.type T fun v T' es => putA n o.dst v (slots es loc) (slotsT es tmp) fun loc tmp => planSA P G N n ops (slots es ds) r loc tmp T' (recE N es E) K)
      (fun o => putA n o.dst (.p undef) loc tmp fun loc tmp => planSA P G N n ops ds r loc tmp T E K)
theorem planSA_sound {n : Nat} {base : Nat → Value} {ops : List Oper} {K : AKont} : ∀ (pl : PS) (ds loc : List AV) (tmp : List (Nat × AV)) (dv : List Nat) (lv : List Value) (tv : List (Nat × Value)) (Γ : Heap) (ρ : List BI) (T : Tbl) (w : World) (E : Eff),
    planSA P G ρ0.length n ops ds pl loc tmp T E K → Frm G Γ0 ρ0 T0 w0 Γ ρ T w E → At Γ ρ ds loc tmp dv lv tv → planS P n base ops dv pl (Agr Γ ρ T w) lv tv w (LK G Γ0 ρ0 T0 w0 K)
  | .nil, ds, loc, tmp, dv, lv, tv, Γ, ρ, T, w, E, h, hf, ha => ⟨Γ, ρ, T, E, ds, loc, tmp, hf, ha.ds, ha.loc, ha.tmp, h⟩
  | .fl i r, ds, loc, tmp, dv, lv, tv, Γ, ρ, T, w, E, h, hf, ha => by
    simp only [planSA, planOA] at h
    simp only [planS, planO]
    have he := evA_rel (n := n) (base := base) hf.g ha.loc ha.tmp
    cases ho : ops[i]? with
    | none => rw [ho] at h; exact h.elim
    | some o =>
      rw [ho] at h
      simp only at h ⊢
      refine grdA_sound h he (fun h => ?_) (fun h => ?_)
      · refine valV_mono (rdA_sound hf.st he h) (fun _ _ h => h) (fun s h => FloatP.mono h (fun _ h => h) ?_) ?_
        all_goals
          rintro v ⟨a, h1, h2⟩
          exact putA_sound h2 h1 ha fun loc tmp lv tv hk hat => planSA_sound r _ _ _ _ _ _ _ _ _ _ _ hk hf hat
      · exact putA_sound h (.p _) ha fun loc tmp lv tv hk hat => planSA_sound r _ _ _ _ _ _ _ _ _ _ _ hk hf hat
  | .fp i r, ds, loc, tmp, dv, lv, tv, Γ, ρ, T, w, E, h, hf, ha => by
    simp only [planSA, planOA] at h
    simp only [planS, planO]
    have he := evA_rel (n := n) (base := base) hf.g ha.loc ha.tmp
    cases ho : ops[i]? with
    | none => rw [ho] at h; exact h.elim
    | some o =>
      rw [ho] at h
      simp only at h ⊢
      refine grdA_sound h he (fun h => ?_) (fun h => ?_)
      · have := plA_sound he h
        unfold plV at this ⊢
        split at this
        · exact binV_mono this (fun _ h => h) fun v hk => putA_sound hk (.p _) ha fun loc tmp lv tv hk hat => planSA_sound r _ _ _ _ _ _ _ _ _ _ _ hk hf hat
        · exact unV_mono this (fun _ h => h) fun v hk => putA_sound hk (.p _) ha fun loc tmp lv tv hk hat => planSA_sound r _ _ _ _ _ _ _ _ _ _ _ hk hf hat
        · exact convV_mono this (fun _ h => h) fun v hk => putA_sound hk (.p _) ha fun loc tmp lv tv hk hat => planSA_sound r _ _ _ _ _ _ _ _ _ _ _ hk hf hat
        · exact this.elim
      · exact putA_sound h (.p _) ha fun loc tmp lv tv hk hat => planSA_sound r _ _ _ _ _ _ _ _ _ _ _ hk hf hat
  | .sq i r, ds, loc, tmp, dv, lv, tv, Γ, ρ, T, w, E, h, hf, ha => by
    simp only [planSA, planOA] at h
    simp only [planS, planO]
    have he := evA_rel (n := n) (base := base) hf.g ha.loc ha.tmp
    cases ho : ops[i]? with
    | none => rw [ho] at h; exact h.elim
    | some o =>
      rw [ho] at h
      simp only at h ⊢
      refine grdA_sound h he (fun h => ?_) (fun h => ?_)
      · refine opV_mono (opA_sound hf.g hf.st he h) fun v w' h2 => ?_
        obtain ⟨Γ', ρ', T', es, a, k1, k2, k3, k4⟩ := h2
        exact putA_sound k4 k3 (ha.step k2) fun loc tmp lv tv hk hat => ⟨Agr Γ' ρ' T' w', agr_self k1, planSA_sound r _ _ _ _ _ _ _ _ _ _ _ hk (hf.step k1 k2) hat⟩
      · exact putA_sound h (.p _) ha fun loc tmp lv tv hk hat => ⟨Agr Γ ρ T w, agr_self hf.st, planSA_sound r _ _ _ _ _ _ _ _ _ _ _ hk hf hat⟩
/-- **A REGION THAT DRAWS ITS ORDER, BY A PLAN IN SEGMENTS** -/
theorem SemA.drawS {id : Nat} {ops : Array Oper} (pl : PS) (hm : P.follows .mixedOrders = true)
    (hok : (Region.noSelect ops && noDefer ops && ops.toList.all (dstIn m) && pl.len == ops.size && planOKS ops pl (pl.cl ops.size) (Array.replicate ops.size false)) = true)
    (h : planSA P G N n ops.toList ds pl loc [] T E Nk) : SemA P G N ro n m (.region id ops true) ds loc tmp T E Nk X R := by
  simp only [Bool.and_eq_true, beq_iff_eq] at hok
  obtain ⟨⟨⟨⟨h1, h0⟩, h2⟩, h3⟩, h4⟩ := hok
  intro Γ0 ρ0 T0 w0 Γ ρ w dv lv tv hN hf ha
  refine SemV.cleared ?_
  intro a haa Qs hQs
  refine wpIn_mono (Q := fun e a w => ∃ dv lv tv, Fits' n m dv lv tv a ∧ mkQ (LK G Γ0 ρ0 T0 w0 Nk) (fun i => LK G Γ0 ρ0 T0 w0 (X i)) (LK G Γ0 ρ0 T0 w0 R) e dv lv tv w) ?_ (fun e a w ⟨ds, loc, tmp, hf, hq⟩ => hQs _ _ _ _ _ _ hf hq)
  have hdr : Alike { w with drawn := w.drawn + 1 } w := ⟨rfl, rfl, rfl⟩
  have hf' := hf.same hdr
  subst hN
  refine wpIn_region_any hm (AnyI.any (cl := pl.cl ops.size) (I := Agr Γ ρ T { w with drawn := w.drawn + 1 }) _ _ _ _ ?_)
  have := planS_any (P := P) (ro := ro) (Q := fun e a w => ∃ dv lv tv, Fits' n m dv lv tv a ∧ mkQ (LK G Γ0 ρ0 T0 w0 Nk) (fun i => LK G Γ0 ρ0 T0 w0 (X i)) (LK G Γ0 ρ0 T0 w0 R) e dv lv tv w) (l := ops.toList) (K := LK G Γ0 ρ0 T0 w0 Nk) (by simpa using h1) (by simpa using h0) (fun c a a' w ⟨ds, loc, tmp, _, hq⟩ => hq.elim) h2 pl (pl.cl ops.size)
    (Array.replicate ops.size false) (Agr Γ ρ T { w with drawn := w.drawn + 1 }) lv [] { w with drawn := w.drawn + 1 } a (planSA_sound pl ds loc [] dv lv [] Γ ρ T _ E h hf' ha.clear) (by simpa using h4) (fun _ => agr_self hf'.st) haa.clear haa.size haa.defers
    (fun loc tmp w a h1 h2 h3 hk => ⟨dv, loc, tmp, ⟨⟨_, h1⟩, h2, h3⟩, hk⟩)
  rw [h3] at this
  simpa using this
/-- the equations -/
theorem vy :
  (∀ (P : Program) (G : Nat → AV) (N n : Nat) (ops : List Oper) (ds loc : List AV) (tmp : List (Nat × AV)) (T : Tbl) (E : Eff) (K : AKont), planSA P G N n ops ds .nil loc tmp T E K = K ds loc tmp T E) ∧
  (∀ (P : Program) (G : Nat → AV) (N n : Nat) (ops : List Oper) (ds loc : List AV) (tmp : List (Nat × AV)) (T : Tbl) (E : Eff) (K : AKont) (i : Nat) (r : PS), planSA P G N n ops ds (.fl i r) loc tmp T E K = (planOA ops ops[i]? (evA G n loc tmp)
      (fun o => rdA P (evA G n loc tmp) o.op o.type T fun v => putA n o.dst v loc tmp fun loc tmp => planSA P G N n ops ds r loc tmp T E K)
      (fun o => putA n o.dst (.p undef) loc tmp fun loc tmp => planSA P G N n ops ds r loc tmp T E K))) ∧
  (∀ (P : Program) (G : Nat → AV) (N n : Nat) (ops : List Oper) (ds loc : List AV) (tmp : List (Nat × AV)) (T : Tbl) (E : Eff) (K : AKont) (i : Nat) (r : PS), planSA P G N n ops ds (.sq i r) loc tmp T E K = (planOA ops ops[i]? (evA G n loc tmp)
      (fun o => opA P G (evA G n loc tmp) o.op o.type T fun v T' es => putA n o.dst v (slots es loc) (slotsT es tmp) fun loc tmp => planSA P G N n ops (slots es ds) r loc tmp T' (recE N es E) K)
      (fun o => putA n o.dst (.p undef) loc tmp fun loc tmp => planSA P G N n ops ds r loc tmp T E K))) ∧
  (∀ (P : Program) (G : Nat → AV) (N n : Nat) (ops : List Oper) (ds loc : List AV) (tmp : List (Nat × AV)) (T : Tbl) (E : Eff) (K : AKont) (i : Nat) (r : PS), planSA P G N n ops ds (.fp i r) loc tmp T E K = (planOA ops ops[i]? (evA G n loc tmp)
      (fun o => plA P (evA G n loc tmp) o.op fun v => putA n o.dst v loc tmp fun loc tmp => planSA P G N n ops ds r loc tmp T E K)
      (fun o => putA n o.dst (.p undef) loc tmp fun loc tmp => planSA P G N n ops ds r loc tmp T E K))) ∧
  (∀ (P : Program) (ρ : Operand → AV) (op : BinOp) (t : TypeId) (x y : Operand) (u : TypeId) (K : AV → Prop), plA P ρ (.binOp op t x y u) K = isP (ρ x) fun a => isP (ρ y) fun b => binV P op t a b x y (fun _ => False) fun v => K (.p v)) ∧
  (∀ (P : Program) (ρ : Operand → AV) (op : UnOp) (t : TypeId) (x : Operand) (K : AV → Prop), plA P ρ (.unOp op t x) K = isP (ρ x) fun a => unV op a (fun _ => False) fun v => K (.p v)) ∧
  (∀ (P : Program) (ρ : Operand → AV) (s t : TypeId) (x : Operand) (K : AV → Prop), plA P ρ (.convert s t x) K = isP (ρ x) fun a => convV (tk P s) (tk P t) s t a (fun _ => False) fun v => K (.p v)) :=
  ⟨fun _ _ _ _ _ _ _ _ _ _ _ => rfl, fun _ _ _ _ _ _ _ _ _ _ _ _ _ => rfl, fun _ _ _ _ _ _ _ _ _ _ _ _ _ => rfl, fun _ _ _ _ _ _ _ _ _ _ _ _ _ => rfl, fun _ _ _ _ _ _ _ _ => rfl, fun _ _ _ _ _ _ => rfl, fun _ _ _ _ _ _ => rfl⟩
end
end Go.E

set_option linter.unusedSimpArgs false
set_option linter.unusedVariables false
set_option linter.unusedSectionVars false
namespace Go.E
section
variable {P : Program} {G : Nat → AV} {Γ Γ' Γ0 : Heap} {ρ ρ' ρ0 : List BI} {T T' T0 : Tbl} {w w' w0 : World} {a b : AV} {u v : Value} {K : AV → Tbl → Eff → Prop} {cs : List AV} {es E : Eff}
variable {N n m : Nat} {ro : Option Nat} {ds loc : List AV} {tmp : List (Nat × AV)} {Nk R : AKont} {X : Nat → AKont}
def subE (E E' : Eff) : Prop := ∀ x ∈ E, x ∈ E'
/-- a state of a family -/
def Ct {σ : Type} (n : Nat) (ds : List AV) (L : σ → List (Nat × AV)) (Tb : σ → Tbl) (Q : σ → Prop) (Ei : Eff) : AKont := fun ds' loc' _ T' E' => ds' = ds ∧ (∃ s, Q s ∧ Lc n (L s) loc' ∧ T' = Tb s) ∧ subE E' Ei
theorem SemA.of {c : Code} (hok : codeOK m c = true) (h : codeA P G N ro n m c ds loc tmp T E Nk X R) : SemA P G N ro n m c ds loc tmp T E Nk X R := codeA_sound c _ _ _ _ _ _ _ _ h hok
theorem SemA.seq {a b : Code} {Mk : AKont} (h : SemA P G N ro n m a ds loc tmp T E Mk X R) (hb : ∀ ds loc tmp T E, Mk ds loc tmp T E → SemA P G N ro n m b ds loc tmp T E Nk X R) : SemA P G N ro n m (.seq a b) ds loc tmp T E Nk X R :=
  fun Γ0 ρ0 T0 w0 Γ ρ w dv lv tv hN hf ha => SemV.seq (h Γ0 ρ0 T0 w0 Γ ρ w dv lv tv hN hf ha) fun dv lv tv w ⟨Γ, ρ, T, E, ds, loc, tmp, hf, h1, h2, h3, hk⟩ =>
    hb ds loc tmp T E hk Γ0 ρ0 T0 w0 Γ ρ w dv lv tv hN hf ⟨h1, h2, h3⟩
theorem SemA.kont {c : Code} {Nk' R' : AKont} {X' : Nat → AKont} (h : SemA P G N ro n m c ds loc tmp T E Nk' X' R')
    (hn : ∀ (Γ0 : Heap) (ρ0 : List BI) (T0 : Tbl) (w0 w : World) dv lv tv, ρ0.length = N → LK G Γ0 ρ0 T0 w0 Nk' dv lv tv w → LK G Γ0 ρ0 T0 w0 Nk dv lv tv w)
    (hx : ∀ (Γ0 : Heap) (ρ0 : List BI) (T0 : Tbl) (w0 w : World) i dv lv tv, ρ0.length = N → LK G Γ0 ρ0 T0 w0 (X' i) dv lv tv w → LK G Γ0 ρ0 T0 w0 (X i) dv lv tv w)
    (hr : ∀ (Γ0 : Heap) (ρ0 : List BI) (T0 : Tbl) (w0 w : World) dv lv tv, ρ0.length = N → LK G Γ0 ρ0 T0 w0 R' dv lv tv w → LK G Γ0 ρ0 T0 w0 R dv lv tv w) : SemA P G N ro n m c ds loc tmp T E Nk X R := by
  intro Γ0 ρ0 T0 w0 Γ ρ w dv lv tv hN hf ha
  refine (h Γ0 ρ0 T0 w0 Γ ρ w dv lv tv hN hf ha).mono fun e dv lv tv w hq => ?_
  cases e with
  | normal => exact hn _ _ _ _ _ _ _ _ hN hq
  | exit i => exact hx _ _ _ _ _ i _ _ _ hN hq
  | ret => exact hr _ _ _ _ _ _ _ _ hN hq
  | _ => exact hq.elim
theorem Ct.elim {σ : Type} {L : σ → List (Nat × AV)} {Tb : σ → Tbl} {Q : σ → Prop} {Ei : Eff} {dv : List Nat} {lv : List Value} {tv : List (Nat × Value)} (h : LK G Γ0 ρ0 T0 w0 (Ct n ds L Tb Q Ei) dv lv tv w) :
    ∃ s g Γ ρ, Q s ∧ Frm G Γ0 ρ0 T0 w0 Γ ρ (Tb s) w Ei ∧ At Γ ρ ds (mkA g (L s) 0 n) (tv.map fun p => (p.1, AV.p p.2)) dv lv tv := by
  obtain ⟨Γ, ρ, T, E, ds, loc, tmp, hf, h1, h2, h3, rfl, ⟨s, hs, hl, rfl⟩, hE⟩ := h
  obtain ⟨g, rfl⟩ := hl.elim
  exact ⟨s, g, Γ, ρ, hs, hf.more hE, h1, h2, RelT.all tv⟩
theorem Ct.to {σ : Type} {L : σ → List (Nat × AV)} {Tb : σ → Tbl} {Q : σ → Prop} {Ei : Eff} {dv : List Nat} {lv : List Value} {tv : List (Nat × Value)} {K : AKont} (h : LK G Γ0 ρ0 T0 w0 (Ct n ds L Tb Q Ei) dv lv tv w)
    (hk : ∀ s g tmp, Q s → K ds (mkA g (L s) 0 n) tmp (Tb s) Ei) : LK G Γ0 ρ0 T0 w0 K dv lv tv w := by
  obtain ⟨s, g, Γ, ρ, hs, hf, ha⟩ := Ct.elim h
  exact ⟨Γ, ρ, _, _, _, _, _, hf, ha.ds, ha.loc, ha.tmp, hk s g _ hs⟩
/-- the first pieces of a sequence, and the others -/
def spl : Nat → Code → Option (Code × Code)
  | 1, .seq a r => some (a, r)
  | k + 2, .seq a r => (spl (k + 1) r).map fun p => (.seq a p.1, p.2)
  | _, _ => none
/-- **A CUT** behind k pieces -/
theorem SemA.cutAt {σ : Type} (dsC : List AV) (L : σ → List (Nat × AV)) (Tb : σ → Tbl) (Q : σ → Prop) (Ei : Eff) : ∀ (k : Nat) {c c1 c2 : Code} {ds loc : List AV} {tmp : List (Nat × AV)} {T : Tbl} {E : Eff}, spl k c = some (c1, c2) → codeOK m c1 = true →
    codeA P G N ro n m c1 ds loc tmp T E (Ct n dsC L Tb Q Ei) X R → (∀ s g tmp, Q s → SemA P G N ro n m c2 dsC (mkA g (L s) 0 n) tmp (Tb s) Ei Nk X R) → SemA P G N ro n m c ds loc tmp T E Nk X R
  | 0, c, c1, c2, _, _, _, _, _, hs, _, _, _ => by simp [spl] at hs
  | 1, c, c1, c2, ds, loc, tmp, T, E, hs, hok, h1, h2 => by
    cases c <;> simp only [spl] at hs <;> first | cases hs | skip
    refine SemA.seq (Mk := Ct n dsC L Tb Q Ei) (SemA.of hok h1) ?_
    rintro ds loc tmp T E ⟨rfl, ⟨s, hs, hl, rfl⟩, hE⟩
    obtain ⟨g, rfl⟩ := hl.elim
    intro Γ0 ρ0 T0 w0 Γ ρ w dv lv tv hN hf ha
    exact h2 s g _ hs Γ0 ρ0 T0 w0 Γ ρ w dv lv tv hN (hf.more hE) ha
  | k + 2, c, c1, c2, ds, loc, tmp, T, E, hs, hok, h1, h2 => by
    cases c <;> simp only [spl] at hs <;> first | cases hs | skip
    rename_i a r
    simp only [Option.map_eq_some_iff] at hs
    obtain ⟨⟨x, y⟩, hs1, hs2⟩ := hs
    simp only [Prod.mk.injEq] at hs2
    obtain ⟨rfl, rfl⟩ := hs2
    simp only [codeOK, Bool.and_eq_true] at hok
    refine SemA.seq (SemA.of hok.1 h1) ?_
    intro ds loc tmp T E h
    exact SemA.cutAt dsC L Tb Q Ei (k + 1) hs1 hok.2 h h2
/-- a cut behind the first piece, its code not looked into yet -/
theorem SemA.seqC {σ : Type} {a b : Code} (dsC : List AV) (L : σ → List (Nat × AV)) (Tb : σ → Tbl) (Q : σ → Prop) (Ei : Eff) (h1 : SemA P G N ro n m a ds loc tmp T E (Ct n dsC L Tb Q Ei) X R)
    (h2 : ∀ s g tmp, Q s → SemA P G N ro n m b dsC (mkA g (L s) 0 n) tmp (Tb s) Ei Nk X R) : SemA P G N ro n m (.seq a b) ds loc tmp T E Nk X R := by
  refine SemA.seq (Mk := Ct n dsC L Tb Q Ei) h1 ?_
  rintro ds loc tmp T E ⟨rfl, ⟨s, hs, hl, rfl⟩, hE⟩
  obtain ⟨g, rfl⟩ := hl.elim
  intro Γ0 ρ0 T0 w0 Γ ρ w dv lv tv hN hf ha
  exact h2 s g _ hs Γ0 ρ0 T0 w0 Γ ρ w dv lv tv hN (hf.more hE) ha
theorem SemA.blk {c : Code} {i : Nat} (h : SemA P G N ro n m c ds loc tmp T E Nk (fun j => if j = i then Nk else X j) R) : SemA P G N ro n m (.block i c) ds loc tmp T E Nk X R := by
  intro Γ0 ρ0 T0 w0 Γ ρ w dv lv tv hN hf ha
  refine SemV.block ((h Γ0 ρ0 T0 w0 Γ ρ w dv lv tv hN hf ha).mono fun e dv lv tv w hq => ?_)
  cases e with
  | exit j => simp only [mkQ] at hq ⊢; split <;> rename_i hj <;> simpa [hj] using hq
  | _ => exact hq
/-- a loop: by states of rounds; at its end (exit xi) by other states -/
theorem SemA.loopE {σ τ : Type} {c : Code} (L : σ → List (Nat × AV)) (Tb : σ → Tbl) (Q : σ → Prop) (μ : σ → Nat) (s0 : σ) (Ei : Eff) (xi : Nat) (Le : τ → List (Nat × AV)) (Te : τ → Tbl) (Qe : τ → Prop) (hQ : Q s0) (hL : Lc n (L s0) loc) (hT : T = Tb s0) (hE : ∀ x ∈ E, x ∈ Ei)
    (round : ∀ s g, Q s → SemA P G N ro n m c ds (mkA g (L s) 0 n) [] (Tb s) Ei (Ct n ds L Tb (fun s' => Q s' ∧ μ s' < μ s) Ei) (fun j => if j = xi then Ct n ds Le Te Qe Ei else X j) R)
    (exit : ∀ s g tmp, Qe s → X xi ds (mkA g (Le s) 0 n) tmp (Te s) Ei) : SemA P G N ro n m (.loop c) ds loc [] T E Nk X R := by
  intro Γ0 ρ0 T0 w0 Γ ρ w dv lv tv hN hf ha a haa Qs hQs
  refine wpIn_loop_ghost (fun k a w => ∃ (Γ : Heap) (ρ : List BI) (s : σ) (loc : List AV) (dv : List Nat) (lv : List Value) (tv : List (Nat × Value)), Fits' n m dv lv tv a ∧ Frm G Γ0 ρ0 T0 w0 Γ ρ (Tb s) w Ei ∧ At Γ ρ ds loc [] dv lv [] ∧ (Q s ∧ Lc n (L s) loc) ∧ μ s = k)
    (μ s0) ⟨Γ, ρ, s0, loc, dv, lv, tv, haa, hT ▸ hf.more hE, ha.clear, ⟨hQ, hL⟩, rfl⟩ ?_
  rintro k a w ⟨Γ, ρ, s, loc, dv, lv, tv, haa, hf, hat, ⟨hI, hL⟩, rfl⟩
  obtain ⟨g, rfl⟩ := hL.elim
  have hr := round s g hI Γ0 ρ0 T0 w0 Γ ρ w dv lv [] hN hf hat
  refine hr a haa.cleared _ fun e dv' lv' tv' w' a' haa' hq => ?_
  cases e with
  | normal =>
    obtain ⟨Γ', ρ', T', E', ds', loc', tmp', g1, g2, g3, g4, rfl, ⟨s', ⟨h1, h2⟩, h3, rfl⟩, g6⟩ := hq
    exact ⟨_, h2, Γ', ρ', s', loc', dv', lv', tv', haa', g1.more g6, ⟨g2, g3, .nil⟩, ⟨h1, h3⟩, rfl⟩
  | exit i =>
    simp only [mkQ] at hq
    split at hq
    · rename_i hi; subst hi; exact hQs (.exit _) _ _ _ _ _ haa' (Ct.to hq exit)
    · exact hQs (.exit i) _ _ _ _ _ haa' hq
  | ret => exact hQs .ret _ _ _ _ _ haa' hq
  | _ => exact hq.elim
/-- a function, its code not looked into yet -/
theorem CallA.enterZ {f : FuncId} {fn : Func} {c : Code} {args : List AV} {m : Nat} {rs : List ResultVar} (n : Nat) (hf : P.funcs[f]? = some fn) (hm : fn.ntmps = m) (hrs : fn.results.toList = rs) (hb : fn.body = some c) (hn : (args.length ≤ n ∧ n ≤ m)) (hr : rsLt n rs = true)
    (h : SemA P G T.length none n m c [] (args ++ List.replicate (n - args.length) (.p undef)) [] T [] (retA P rs (Vw G T K)) (fun _ _ _ _ _ _ => False) (retA P rs (Vw G T K))) : CallA P G f args T K := by
  subst hm; subst hrs
  have this : CallA P G f args T (Vw G T K) := by
    intro Γ ρ w vs hG hs ha
    have hl := ha.1
    refine Ret.enterS n hf hb ⟨by simp; omega, hn.2⟩ ?_
    have hsem := h Γ ρ T w Γ ρ w [] (vs ++ List.replicate (n - vs.length) undef) [] hs.len ⟨hG, hs, Ext.refl rfl⟩ ⟨.nil, ha.append (by rw [hl]; have := RelL.ps (Γ := Γ) (ρ := ρ) (List.replicate (n - vs.length) undef); rwa [List.map_replicate] at this), .nil⟩
    have e : (vs.toArray.toList ++ List.replicate (n - vs.toArray.size) undef) = vs ++ List.replicate (n - vs.length) undef := by simp
    rw [e]
    refine hsem.mono fun e dv lv tv w' hq => ?_
    cases e with
    | normal => obtain ⟨Γ', ρ', T', E', ds', loc', tmp', g1, g2, g3, g4, g5⟩ := hq; exact retA_sound g1 g2 g3 hr g5
    | ret => obtain ⟨Γ', ρ', T', E', ds', loc', tmp', g1, g2, g3, g4, g5⟩ := hq; exact retA_sound g1 g2 g3 hr g5
    | exit i => obtain ⟨Γ', ρ', T', E', ds', loc', tmp', g1, g2, g3, g4, g5⟩ := hq; exact g5.elim
    | _ => exact hq.elim
  intro Γ ρ w vs hG hs ha
  refine (this Γ ρ w vs hG hs ha).mono fun x w' ⟨Γ', ρ', T', es, a, h1, h2, h3, h4⟩ => ?_
  exact h4 Γ ρ w Γ' ρ' w' x hs ⟨hG.mono h2.le, h1, h2⟩ h3
/-- the equations -/
theorem vze : (∀ E : Eff, subE [] E = True) ∧ (∀ E : Eff, subE E E = True) ∧ (∀ (i : Nat) (b : Bool) (E E' : Eff), subE ((i, b) :: E) ((i, b) :: E') = subE E ((i, b) :: E')) :=
  ⟨fun _ => by simp [subE], fun _ => by simp [subE], fun i b E E' => by simp [subE]⟩
theorem vz {σ : Type} : (∀ (n : Nat) (ds : List AV) (L : σ → List (Nat × AV)) (Tb : σ → Tbl) (Q : σ → Prop) (Ei : Eff) (ds' loc' : List AV) (tmp' : List (Nat × AV)) (T' : Tbl) (E' : Eff), Ct n ds L Tb Q Ei ds' loc' tmp' T' E' = (ds' = ds ∧ (∃ s, Q s ∧ Lc n (L s) loc' ∧ T' = Tb s) ∧ subE E' Ei)) :=
  fun _ _ _ _ _ _ _ _ _ _ _ => rfl
end
end Go.E

set_option linter.unusedSimpArgs false
set_option linter.unusedVariables false
set_option linter.unusedSectionVars false
namespace Go.E
section
variable {G : Nat → AV} {T0 T : Tbl} {K : AV → Tbl → Eff → Prop} {v : AV} {E E' : Eff}
/-- a contract that tells all -/
theorem CallA.det' {P : Program} {f : FuncId} {args : List AV} {r : AV} {T1 : Tbl} {E1 : Eff} (h : CallA P G f args T fun v T' es => v = r ∧ T' = T1 ∧ es = E1) (hk : K r T1 E1) : CallA P G f args T K :=
  h.mono fun v T' es ⟨h1, h2, h3⟩ => by subst h1; subst h2; subst h3; exact hk
/-- the end of a call: more may be told as turned -/
theorem Vw.eff (hE : ∀ x ∈ E, x ∈ E') (h : Vw G T0 K v T E') : Vw G T0 K v T E := fun Γ0 ρ0 w0 Γ ρ w x hs hf hr =>
  h Γ0 ρ0 w0 Γ ρ w x hs ⟨hf.g, hf.st, hf.ext.more fun x hx _ => hE x hx⟩ hr
end
variable {α : Type}
theorem flat_len {f : α → List AV} {sz : Nat} : ∀ {xs : List α}, (∀ x ∈ xs, (f x).length = sz) → (xs.flatMap f).length = xs.length * sz
  | [], _ => by simp
  | x :: xs, h => by
    rw [List.flatMap_cons, List.length_append, h x (by simp), flat_len (xs := xs) fun x hx => h x (by simp [hx]), List.length_cons, Nat.succ_mul]; omega
theorem flat_drop {f : α → List AV} {sz : Nat} : ∀ {xs : List α} (i : Nat), (∀ x ∈ xs, (f x).length = sz) → (xs.flatMap f).drop (i * sz) = (xs.drop i).flatMap f
  | _, 0, _ => by simp
  | [], i + 1, _ => by simp
  | x :: xs, i + 1, h => by
    have := flat_drop (xs := xs) i fun x hx => h x (by simp [hx])
    rw [List.flatMap_cons, List.drop_succ_cons, ← this, Nat.succ_mul, Nat.add_comm, ← List.drop_drop]
    congr 1
    rw [← h x (by simp), List.drop_left]
theorem flat_take {f : α → List AV} {sz : Nat} : ∀ {xs : List α} (i : Nat), (∀ x ∈ xs, (f x).length = sz) → (xs.flatMap f).take (i * sz) = (xs.take i).flatMap f
  | _, 0, _ => by simp
  | [], i + 1, _ => by simp
  | x :: xs, i + 1, h => by
    have := flat_take (xs := xs) i fun x hx => h x (by simp [hx])
    rw [List.flatMap_cons, List.take_succ_cons, List.flatMap_cons, ← this, Nat.succ_mul, Nat.add_comm]
    rw [← h x (by simp), List.take_length_add_append]
theorem flat_at {f : α → List AV} {sz : Nat} {xs : List α} (h : ∀ x ∈ xs, (f x).length = sz) {i : Nat} {x : α} (hx : xs[i]? = some x) : ((xs.flatMap f).drop (i * sz)).take sz = f x := by
  obtain ⟨hi, rfl⟩ := List.getElem?_eq_some_iff.1 hx
  rw [flat_drop i h, List.drop_eq_getElem_cons hi, List.flatMap_cons, ← h xs[i] (by simp), List.take_left]
/-- a is a slice of xs; f x: the cells of x, sz of them -/
structure Es (T : Tbl) (sz : Nat) (f : α → List AV) (a : AV) (xs : List α) : Prop where
  wd : ∀ x ∈ xs, (f x).length = sz
  sl : Sl T sz a (xs.flatMap f) xs.length
section
variable {P : Program} {T : Tbl} {sz : Nat} {f : α → List AV} {a : AV} {xs : List α}
theorem Es.app (h : Es T sz f a xs) (l : Tbl) : Es (T ++ l) sz f a xs := ⟨h.wd, h.sl.app l⟩
theorem Es.vs (h : ∀ x ∈ xs, (f x).length = sz) : Es T sz f (.vs (xs.flatMap f) xs.length) xs := ⟨h, Sl.vs _ _ (flat_len h)⟩
theorem Es.obj {i : Nat} {o : AObj} (hT : T[i]? = some o) (hc : o.cs = some (xs.flatMap f)) (h : ∀ x ∈ xs, (f x).length = sz) : Es T sz f (.sl i 0 xs.length) xs := ⟨h, Sl.obj hT hc (flat_len h)⟩
theorem Es.nil : Es T sz f (.p (.slice none 0 0)) [] := ⟨by simp, Sl.nil⟩
theorem Es.sub (h : Es T sz f a xs) {l m : Nat} (h1 : l ≤ m) (h2 : m ≤ xs.length) : Es T sz f (a.sub sz l m) ((xs.drop l).take (m - l)) := by
  have hs : ∀ x ∈ (xs.drop l).take (m - l), (f x).length = sz := fun x hx => h.wd x (List.mem_of_mem_drop (List.mem_of_mem_take hx))
  refine ⟨hs, ?_⟩
  have := h.sl.sub h1 h2
  rw [flat_drop l h.wd, flat_take (m - l) fun x hx => h.wd x (List.mem_of_mem_drop hx)] at this
  rwa [show ((xs.drop l).take (m - l)).length = m - l by simp; omega]
/-- loads of whole elements -/
theorem Es.ld (h : Es T sz f a xs) {t : TypeId} (ht : tak P t = some true) (hs : tsz P t = sz) (h0 : 0 < sz) :
    (∀ (l : Tbl) (i : Nat) (K : AV → Prop), i < xs.length → loadA P t (a.pl (i * sz)) (T ++ l) K = getO xs[i]? fun x => K (.ag (f x))) ∧ (∀ (i : Nat) (K : AV → Prop), i < xs.length → loadA P t (a.pl (i * sz)) T K = getO xs[i]? fun x => K (.ag (f x))) := by
  have key : ∀ (T : Tbl) (i : Nat) (K : AV → Prop), Es T sz f a xs → i < xs.length → loadA P t (a.pl (i * sz)) T K = getO xs[i]? fun x => K (.ag (f x)) := fun T i K h hi => by
    have e : i * sz + tsz P t ≤ xs.length * sz := by
      rw [hs, ← Nat.succ_mul]; exact Nat.mul_le_mul_right _ hi
    rw [h.sl.lds ht (i * sz) (by omega) e, hs, flat_at h.wd (x := xs[i]) (by simp [hi])]
    simp [hi, getO]
  exact ⟨fun l i K hi => key _ i K (h.app l) hi, fun i K hi => key T i K h hi⟩
end
/-- a slice of numbers -/
theorem map_at {β : Type} (g : α → β) (xs : List α) (i : Nat) : (xs.map g)[i]? = xs[i]?.map g := List.getElem?_map ..
theorem getO_mp {β : Type} (g : α → β) (o : Option α) (K : β → Prop) : getO (o.map g) K = getO o fun x => K (g x) := by cases o <;> rfl
end Go.E

set_option linter.unusedSimpArgs false
set_option linter.unusedVariables false
set_option linter.unusedSectionVars false
namespace Go.E
section
variable {P : Program} {G : Nat → AV} {Γ Γ' Γ0 : Heap} {ρ ρ' ρ0 : List BI} {T T' T0 : Tbl} {w w' w0 : World} {a b : AV} {u v : Value} {K : AV → Tbl → Eff → Prop} {cs : List AV} {es E : Eff}
variable {N n m : Nat} {ro : Option Nat} {ds loc : List AV} {tmp : List (Nat × AV)} {Nk R : AKont} {X : Nat → AKont}
/-- a slot that holds nil holds a slice that may grow -/
theorem SemA.adopt {c : Code} (j : Nat) (El : TypeId) (sz : Nat) (h0 : 0 < sz) (hj : loc[j]? = some (.p (.slice none 0 0)))
    (h : SemA P G N ro n m c ds (loc.set j (.sl T.length 0 0)) tmp (T ++ [.buf El sz []]) E Nk X R) : SemA P G N ro n m c ds loc tmp T E Nk X R := by
  refine SemA.view ?_ h
  intro Γ0 ρ0 T0 w0 Γ ρ w dv lv tv hN hf ha
  obtain ⟨k1, k2⟩ := hf.st.push (w' := w) ⟨none, 0, true⟩ (.buf El sz []) hf.st.of (fun _ _ => rfl) ⟨⟨rfl, h0⟩, 0, by simp, Nat.le_refl _, .inl ⟨rfl, rfl, rfl⟩⟩ (fun b hb => by cases hb)
  have h1 := hf.step k1 k2
  have h2 := ha.step k2
  refine ⟨_, _, h1, ⟨h2.ds, ?_, h2.tmp⟩⟩
  obtain ⟨v, hv, hr⟩ := ha.loc.get hj
  have := hr.p_inv; subst this
  have h3 := h2.loc.set (a := .sl T.length 0 0) (v := .slice none 0 0) (.sl (x := ⟨none, 0, true⟩) (by rw [← hf.st.len]; simp) (fun _ => rfl) (Nat.le_refl _) (fun _ _ => rfl)) j
  have e : lv.set j (.slice none 0 0) = lv := by
    refine List.ext_getElem? fun i => ?_
    rw [List.getElem?_set]
    by_cases hi : j = i
    · subst hi
      obtain ⟨hl, he⟩ := List.getElem?_eq_some_iff.1 hv
      rw [if_pos rfl, if_pos hl, hv]
    · rw [if_neg hi]
  rw [e] at h3
  exact h3
/-- a state of a family, but for objects k and on, that are let go -/
def CtK {σ : Type} (k n : Nat) (ds : List AV) (L : σ → List (Nat × AV)) (Tb : σ → Tbl) (Q : σ → Prop) (Ei : Eff) : AKont := fun ds' loc' _ T' E' =>
  ds'.map (AV.wo (k ≤ ·)) = ds ∧ (∃ s, Q s ∧ Lc n (L s) (loc'.map (AV.wo (k ≤ ·))) ∧ (T'.take k).map (AObj.wo (k ≤ ·)) = Tb s) ∧ subE E' Ei
section
variable {σ τ : Type} {L : σ → List (Nat × AV)} {Tb : σ → Tbl} {Q : σ → Prop} {Ei : Eff} {k : Nat}
theorem CtK.elim {dv : List Nat} {lv : List Value} {tv : List (Nat × Value)} (hk : ρ0.length ≤ k) (h : LK G Γ0 ρ0 T0 w0 (CtK k n ds L Tb Q Ei) dv lv tv w) :
    ∃ s loc Γ ρ, Q s ∧ Lc n (L s) loc ∧ Frm G Γ0 ρ0 T0 w0 Γ ρ (Tb s) w Ei ∧ At Γ ρ ds loc (tv.map fun p => (p.1, AV.p p.2)) dv lv tv := by
  obtain ⟨Γ, ρ, T, E, ds, loc, tmp, hf, h1, h2, h3, rfl, ⟨s, hs, hl, ht⟩, hE⟩ := h
  have hc := (hf.more hE).cut k hk
  have hw := (hf.st.cut k).2
  rw [ht] at hc
  exact ⟨s, _, Γ, _, hs, hl, hc, ⟨h1.wo hw, h2.wo hw, RelT.all tv⟩⟩
theorem CtK.to {dv : List Nat} {lv : List Value} {tv : List (Nat × Value)} {K : AKont} (hk : ρ0.length ≤ k) (h : LK G Γ0 ρ0 T0 w0 (CtK k n ds L Tb Q Ei) dv lv tv w)
    (hK : ∀ s g tmp, Q s → K ds (mkA g (L s) 0 n) tmp (Tb s) Ei) : LK G Γ0 ρ0 T0 w0 K dv lv tv w := by
  obtain ⟨s, loc, Γ, ρ, hs, hl, hf, ha⟩ := CtK.elim hk h
  obtain ⟨g, rfl⟩ := hl.elim
  exact ⟨Γ, ρ, _, _, _, _, _, hf, ha.ds, ha.loc, ha.tmp, hK s g _ hs⟩
/-- a loop: by states of rounds, and states at its end; objects k and on are let go at the end of each round -/
theorem SemA.loopK {c : Code} (k : Nat) (L : σ → List (Nat × AV)) (Tb : σ → Tbl) (Q : σ → Prop) (μ : σ → Nat) (s0 : σ) (Ei : Eff) (xi : Nat) (Le : τ → List (Nat × AV)) (Te : τ → Tbl) (Qe : τ → Prop) (hk : N ≤ k) (hQ : Q s0) (hL : Lc n (L s0) loc) (hT : T = Tb s0) (hE : ∀ x ∈ E, x ∈ Ei)
    (round : ∀ s g, Q s → SemA P G N ro n m c ds (mkA g (L s) 0 n) [] (Tb s) Ei (CtK k n ds L Tb (fun s' => Q s' ∧ μ s' < μ s) Ei) (fun j => if j = xi then CtK k n ds Le Te Qe Ei else X j) R)
    (exit : ∀ s g tmp, Qe s → X xi ds (mkA g (Le s) 0 n) tmp (Te s) Ei) : SemA P G N ro n m (.loop c) ds loc [] T E Nk X R := by
  intro Γ0 ρ0 T0 w0 Γ ρ w dv lv tv hN hf ha a haa Qs hQs
  refine wpIn_loop_ghost (fun k a w => ∃ (Γ : Heap) (ρ : List BI) (s : σ) (loc : List AV) (dv : List Nat) (lv : List Value) (tv : List (Nat × Value)), Fits' n m dv lv tv a ∧ Frm G Γ0 ρ0 T0 w0 Γ ρ (Tb s) w Ei ∧ At Γ ρ ds loc [] dv lv [] ∧ (Q s ∧ Lc n (L s) loc) ∧ μ s = k)
    (μ s0) ⟨Γ, ρ, s0, loc, dv, lv, tv, haa, hT ▸ hf.more hE, ha.clear, ⟨hQ, hL⟩, rfl⟩ ?_
  rintro k' a w ⟨Γ, ρ, s, loc, dv, lv, tv, haa, hf, hat, ⟨hI, hL⟩, rfl⟩
  obtain ⟨g, rfl⟩ := hL.elim
  have hr := round s g hI Γ0 ρ0 T0 w0 Γ ρ w dv lv [] hN hf hat
  refine hr a haa.cleared _ fun e dv' lv' tv' w' a' haa' hq => ?_
  cases e with
  | normal =>
    obtain ⟨s', loc', Γ', ρ', ⟨h1, h2⟩, hl', h3, h4⟩ := CtK.elim (by omega) hq
    exact ⟨_, h2, Γ', ρ', s', _, dv', lv', tv', haa', h3, ⟨h4.ds, h4.loc, .nil⟩, ⟨h1, hl'⟩, rfl⟩
  | exit i =>
    simp only [mkQ] at hq
    split at hq
    · rename_i hi; subst hi; exact hQs (.exit _) _ _ _ _ _ haa' (CtK.to (by omega) hq exit)
    · exact hQs (.exit i) _ _ _ _ _ haa' hq
  | ret => exact hQs .ret _ _ _ _ _ haa' hq
  | _ => exact hq.elim
end
theorem vt2 {σ : Type} : (∀ (k n : Nat) (ds : List AV) (L : σ → List (Nat × AV)) (Tb : σ → Tbl) (Q : σ → Prop) (Ei : Eff) (ds' loc' : List AV) (tmp' : List (Nat × AV)) (T' : Tbl) (E' : Eff), CtK k n ds L Tb Q Ei ds' loc' tmp' T' E' = (ds'.map (AV.wo (k ≤ ·)) = ds ∧ (∃ s, Q s ∧ Lc n (L s) (loc'.map (AV.wo (k ≤ ·))) ∧ (T'.take k).map (AObj.wo (k ≤ ·)) = Tb s) ∧ subE E' Ei)) :=
  fun _ _ _ _ _ _ _ _ _ _ _ _ => rfl
/-- a cut behind k pieces; objects kk and on are let go -/
theorem SemA.cutK {σ : Type} (kk : Nat) (dsC : List AV) (L : σ → List (Nat × AV)) (Tb : σ → Tbl) (Q : σ → Prop) (Ei : Eff) (hkk : N ≤ kk) : ∀ (k : Nat) {c c1 c2 : Code} {ds loc : List AV} {tmp : List (Nat × AV)} {T : Tbl} {E : Eff}, spl k c = some (c1, c2) → codeOK m c1 = true →
    codeA P G N ro n m c1 ds loc tmp T E (CtK kk n dsC L Tb Q Ei) X R → (∀ s g tmp, Q s → SemA P G N ro n m c2 dsC (mkA g (L s) 0 n) tmp (Tb s) Ei Nk X R) → SemA P G N ro n m c ds loc tmp T E Nk X R
  | 0, c, c1, c2, _, _, _, _, _, hs, _, _, _ => by simp [spl] at hs
  | 1, c, c1, c2, ds, loc, tmp, T, E, hs, hok, h1, h2 => by
    cases c <;> simp only [spl] at hs <;> first | cases hs | skip
    refine SemA.seq (Mk := CtK kk n dsC L Tb Q Ei) (SemA.of hok h1) ?_
    intro ds loc tmp T E hq
    intro Γ0 ρ0 T0 w0 Γ ρ w dv lv tv hN hf ha
    obtain ⟨s, loc', Γ', ρ', hs, hl, hf', ha'⟩ := CtK.elim (G := G) (Γ0 := Γ0) (ρ0 := ρ0) (T0 := T0) (w0 := w0) (w := w) (dv := dv) (lv := lv) (tv := tv) (by omega) ⟨Γ, ρ, T, E, ds, loc, tmp, hf, ha.ds, ha.loc, ha.tmp, hq⟩
    obtain ⟨g, rfl⟩ := hl.elim
    exact h2 s g _ hs Γ0 ρ0 T0 w0 Γ' ρ' w dv lv tv hN hf' ha'
  | k + 2, c, c1, c2, ds, loc, tmp, T, E, hs, hok, h1, h2 => by
    cases c <;> simp only [spl] at hs <;> first | cases hs | skip
    rename_i a r
    simp only [Option.map_eq_some_iff] at hs
    obtain ⟨⟨x, y⟩, hs1, hs2⟩ := hs
    simp only [Prod.mk.injEq] at hs2
    obtain ⟨rfl, rfl⟩ := hs2
    simp only [codeOK, Bool.and_eq_true] at hok
    refine SemA.seq (SemA.of hok.1 h1) ?_
    intro ds loc tmp T E h
    exact SemA.cutK kk dsC L Tb Q Ei hkk (k + 1) hs1 hok.2 h h2
/-- the value of a call, seen otherwise -/
theorem Vw.val (b : AV) (hb : ∀ Γ ρ x, Rel Γ ρ a x → Rel Γ ρ b x) (h : Vw G T0 K b T E) : Vw G T0 K a T E := fun Γ0 ρ0 w0 Γ ρ w x hs hf hr => h Γ0 ρ0 w0 Γ ρ w x hs hf (hb _ _ _ hr)
theorem nil_vs : ∀ Γ ρ x, Rel Γ ρ (.p (.slice none 0 0)) x → Rel Γ ρ (.vs [] 0) x := fun Γ ρ x h => by
  have := h.p_inv; subst this; exact .vs0 (.inl rfl) (Nat.le_refl _)
end
end Go.E

set_option linter.unusedSimpArgs false
set_option linter.unusedVariables false
set_option linter.unusedSectionVars false
namespace Go.Proofs.YtmcbdlefakjpoaaDoor
open Go.E
abbrev H8 : List UInt8 → List AV := fun h => h.map by8
def lf32 : List Lf := List.replicate 32 (.i .u8)
theorem ktH : KT Tryd.prog 23 lf32 := ⟨(by kernel_rfl), (by kernel_rfl), (by kernel_rfl), (by kernel_rfl), Nat.le_of_ble_eq_true (by kernel_rfl), (by kernel_rfl)⟩
theorem fitH {l : List UInt8} (h : l.length = 32) : FitL lf32 (l.map fun b => .int .u8 (b.toNat : Int)) := by
  have := FitL.u8 l
  rwa [h] at this
def hv (l : List UInt8) : Value := .agg (l.map fun b => .int .u8 (b.toNat : Int)).toArray
theorem hv_inj {l m : List UInt8} (h : hv l = hv m) : l = m := by
  unfold hv at h
  have h := List.toArray_inj (Value.agg.inj h)
  exact (List.map_inj_right (f := fun b : UInt8 => Value.int .u8 (b.toNat : Int)) (fun x y e => by simp at e; exact UInt8.toNat_inj.1 (by omega))).1 h
theorem plains8 (l : List UInt8) : plains (l.map by8) = some (l.map fun b => .int .u8 (b.toNat : Int)) := plains_map' _ _
open Classical in
theorem eqH {l m : List UInt8} (hl : l.length = 32) (hm : m.length = 32) (xo yo : Operand) (K : AV → Prop) : binA Tryd.prog .eql 23 (.ag (l.map by8)) (.ag (m.map by8)) xo yo K = K (.p (.bool (decide (l = m)))) := by
  show getO (plains (l.map by8)) (fun _ => getO (AV.flat (.ag (m.map by8))) fun b => _) = _
  rw [plains8]
  show getO (AV.flat (.ag (m.map by8))) (fun b => _) = _
  simp only [AV.flat, plains8, Option.map_some, getO]
  rw [ktH.eql (fitH hl) (fitH hm)]
  congr 3
  rw [Bool.eq_iff_iff, decide_eq_true_iff, decide_eq_true_iff]
  exact ⟨fun h => hv_inj (by unfold hv; rw [h]), fun h => by rw [h]⟩
open Classical in
theorem neH {l m : List UInt8} (hl : l.length = 32) (hm : m.length = 32) (xo yo : Operand) (K : AV → Prop) : binA Tryd.prog .neq 23 (.ag (l.map by8)) (.ag (m.map by8)) xo yo K = K (.p (.bool (!decide (l = m)))) := by
  show getO (plains (l.map by8)) (fun _ => getO (AV.flat (.ag (m.map by8))) fun b => _) = _
  rw [plains8]
  show getO (AV.flat (.ag (m.map by8))) (fun b => _) = _
  simp only [AV.flat, plains8, Option.map_some, getO]
  rw [ktH.neq (fitH hl) (fitH hm)]
  congr 4
  rw [Bool.eq_iff_iff, decide_eq_true_iff, decide_eq_true_iff]
  exact ⟨fun h => hv_inj (by unfold hv; rw [h]), fun h => by rw [h]⟩
theorem tk32 (l : List UInt8) (h : l.length = 32) : List.take 32 (List.drop 0 l) = l := by rw [List.drop_zero, List.take_of_length_le (by omega)]
def H32 (hs : List (List UInt8)) : Prop := ∀ h ∈ hs, h.length = 32
theorem kn32 (l : List UInt8) (h : l.length = 32) : (AV.ag (l.map by8)).known = some (l.map by8) := rfl
set_option maxRecDepth 8000 in
theorem has_ok {T : Tbl} {a : AV} {hs : List (List UInt8)} {x : List UInt8} (hb : Es T 32 H8 a hs) (hx : x.length = 32) (hl : hs.length ≤ 1099511627776) :
    CallA Tryd.prog Tryd.G 33 [a, .ag (x.map by8)] T fun v T' es => v = .p (.bool (decide (x ∈ hs))) ∧ T' = T ∧ es = [] := by
  have hr := Sl.rules hb.sl (by decide)
  have hld := hb.ld (P := Tryd.prog) (t := 23) (by (simp -dsimp +decide only [vy, vz, vze, va, vc, vu, vl, Tryd.ty, Tryd.en, ↓reduceIte, Nat.reduceSub, Nat.reduceAdd, Nat.reduceMul, Nat.reduceLT, Int.reduceAdd, Int.reduceSub, Int.reduceToNat, Int.cast_ofNat_Int])) (by (simp -dsimp +decide only [vy, vz, vze, va, vc, vu, vl, Tryd.ty, Tryd.en, ↓reduceIte, Nat.reduceSub, Nat.reduceAdd, Nat.reduceMul, Nat.reduceLT, Int.reduceAdd, Int.reduceSub, Int.reduceToNat, Int.cast_ofNat_Int])) (by decide)
  refine CallA.wfs fun wf => ?_
  have wt := wf.t
  have wa := wf.arg a (by simp)
  refine CallA.enterV 6 Tryd.func33 Tryd.ntmps33 (congrArg Array.toList Tryd.results33) rfl ⟨by simp, by simp⟩ (by kernel_rfl) (by kernel_rfl) ?_
  (simp -dsimp +decide only [vy, vz, vze, va, vc, vu, vl, Tryd.ty, Tryd.en, ↓reduceIte, Nat.reduceSub, Nat.reduceAdd, Nat.reduceMul, Nat.reduceLT, Int.reduceAdd, Int.reduceSub, Int.reduceToNat, Int.cast_ofNat_Int])
  refine SemA.loopL (fun i : Nat => [(0, a), (3, .ptr T.length 0), (4, .p (.bool false)), (5, wint (i : Int))]) (fun _ => T ++ [.cells 23 (x.map by8)]) (fun i => i ≤ hs.length ∧ x ∉ hs.take i) (fun i => hs.length - i) 0 [] (by kernel_rfl) ⟨by omega, by simp⟩ (by (simp -dsimp +decide only [vy, vz, vze, va, vc, vu, vl, Tryd.ty, Tryd.en, ↓reduceIte, Nat.reduceSub, Nat.reduceAdd, Nat.reduceMul, Nat.reduceLT, Int.reduceAdd, Int.reduceSub, Int.reduceToNat, Int.cast_ofNat_Int])) rfl (by simp) ?_
  rintro i g ⟨hi, hn⟩
  (simp -dsimp +decide only [vy, vz, vze, va, vc, vu, vl, Tryd.ty, Tryd.en, ↓reduceIte, Nat.reduceSub, Nat.reduceAdd, Nat.reduceMul, Nat.reduceLT, Int.reduceAdd, Int.reduceSub, Int.reduceToNat, Int.cast_ofNat_Int, hr])
  refine CondP.dec (fun h => ?_) (fun h => ?_)
  · obtain ⟨y, hy⟩ : ∃ y, hs[i]? = some y := ⟨hs[i]'(by omega), by simp⟩
    have hy32 := hb.wd y (List.mem_of_getElem? hy)
    have hy32' : y.length = 32 := by simpa using hy32
    (simp -dsimp +decide only [vy, vz, vze, va, vc, vu, vl, Tryd.ty, Tryd.en, ↓reduceIte, Nat.reduceSub, Nat.reduceAdd, Nat.reduceMul, Nat.reduceLT, Int.reduceAdd, Int.reduceSub, Int.reduceToNat, Int.cast_ofNat_Int])
    refine SemA.drawS (.fl 0 (.fl 1 (.fl 2 (.fl 3 (.fl 4 (.fl 5 .nil)))))) Tryd.mixed (by kernel_rfl) ?_
    (simp -dsimp +decide (disch := omega) only [vy, vz, vze, va, vc, vu, vl, Tryd.ty, Tryd.en, ↓reduceIte, Nat.reduceSub, Nat.reduceAdd, Nat.reduceMul, Nat.reduceLT, Int.reduceAdd, Int.reduceSub, Int.reduceToNat, Int.cast_ofNat_Int, vi, getO_i, hld, hy, hr, vt, eqH hy32' hx, tk32 x hx])
    refine ⟨⟨by omega, by omega⟩, by omega, CondP.split (fun h => ?_) (fun h => ?_)⟩
    · rw [decide_eq_true_iff] at h
      (simp -dsimp +decide (disch := omega) only [vy, vz, vze, va, vc, vu, vl, Tryd.ty, Tryd.en, ↓reduceIte, Nat.reduceSub, Nat.reduceAdd, Nat.reduceMul, Nat.reduceLT, Int.reduceAdd, Int.reduceSub, Int.reduceToNat, Int.cast_ofNat_Int, vi, getO_i, vt, wt, wa])
      refine Vw.cut ⟨?_, rfl, rfl⟩
      rw [decide_eq_true (by rw [← h]; exact List.mem_of_getElem? hy)]; rfl
    · rw [decide_eq_false_iff_not] at h
      (simp -dsimp +decide (disch := omega) only [vy, vz, vze, va, vc, vu, vl, Tryd.ty, Tryd.en, ↓reduceIte, Nat.reduceSub, Nat.reduceAdd, Nat.reduceMul, Nat.reduceLT, Int.reduceAdd, Int.reduceSub, Int.reduceToNat, Int.cast_ofNat_Int, vi, getO_i, vt])
      refine ⟨i + 1, ⟨by omega, ?_⟩, by omega, rfl⟩
      rw [List.take_add_one, hy]
      simp only [List.mem_append, not_or]
      exact ⟨hn, by simpa using fun e => h e.symm⟩
  · (simp -dsimp +decide (disch := omega) only [vy, vz, vze, va, vc, vu, vl, Tryd.ty, Tryd.en, ↓reduceIte, Nat.reduceSub, Nat.reduceAdd, Nat.reduceMul, Nat.reduceLT, Int.reduceAdd, Int.reduceSub, Int.reduceToNat, Int.cast_ofNat_Int, vi, getO_i, vt])
    refine Vw.cut ⟨?_, rfl, rfl⟩
    rw [List.take_of_length_le (by omega)] at hn
    rw [decide_eq_false hn]; rfl
theorem h8 {l : List (List UInt8)} (h : H32 l) : ∀ x ∈ l, (H8 x).length = 32 := fun x hx => by simpa using h x hx
/-- each once, as they come -/
def uniqF (acc : List (List UInt8)) : List (List UInt8) → List (List UInt8)
  | [] => acc
  | h :: r => uniqF (if h ∈ acc then acc else acc ++ [h]) r
def uniq (l : List (List UInt8)) : List (List UInt8) := uniqF [] l
theorem uniqF_mem : ∀ (l acc : List (List UInt8)) (x : List UInt8), x ∈ uniqF acc l ↔ x ∈ acc ∨ x ∈ l
  | [], acc, x => by simp [uniqF]
  | h :: r, acc, x => by
    rw [uniqF, uniqF_mem r]
    split
    · rename_i hh; constructor
      · rintro (h1 | h1) <;> simp [h1]
      · rintro (h1 | h1)
        · exact .inl h1
        · rcases List.mem_cons.1 h1 with rfl | h1
          · exact .inl hh
          · exact .inr h1
    · simp [or_assoc]
theorem uniqF_len : ∀ (l acc : List (List UInt8)), (uniqF acc l).length ≤ acc.length + l.length
  | [], acc => by simp [uniqF]
  | h :: r, acc => by
    rw [uniqF]
    have h1 := uniqF_len r (if h ∈ acc then acc else acc ++ [h])
    have h2 : (if h ∈ acc then acc else acc ++ [h]).length ≤ acc.length + 1 := by split <;> simp
    rw [List.length_cons]; omega
theorem uniqF_nodup : ∀ (l acc : List (List UInt8)), acc.Nodup → (uniqF acc l).Nodup
  | [], acc, h => h
  | h :: r, acc, ha => by
    rw [uniqF]
    refine uniqF_nodup r _ ?_
    split
    · exact ha
    · rename_i hh
      rw [List.nodup_append]
      refine ⟨ha, by simp, fun a h1 b h2 => ?_⟩
      simp at h2; subst h2; rintro rfl; exact hh h1
theorem uniq_32 {l : List (List UInt8)} (h : H32 l) : H32 (uniq l) := fun x hx => by
  rw [uniq, uniqF_mem] at hx
  rcases hx with hx | hx
  · cases hx
  · exact h x hx
theorem clean8f (l : List (List UInt8)) : ∀ a ∈ l.flatMap H8, a.Clean := by
  intro a ha; obtain ⟨x, _, hx⟩ := List.mem_flatMap.1 ha; exact clean8 x a hx
/-- the cells of a hash of zeros -/
def z32 : List AV := List.replicate 32 (.p (.int .u8 0))
theorem z32_eq : ([.p (.int .u8 0), .p (.int .u8 0), .p (.int .u8 0), .p (.int .u8 0), .p (.int .u8 0), .p (.int .u8 0), .p (.int .u8 0), .p (.int .u8 0), .p (.int .u8 0), .p (.int .u8 0), .p (.int .u8 0), .p (.int .u8 0), .p (.int .u8 0), .p (.int .u8 0), .p (.int .u8 0), .p (.int .u8 0), .p (.int .u8 0), .p (.int .u8 0), .p (.int .u8 0), .p (.int .u8 0), .p (.int .u8 0), .p (.int .u8 0), .p (.int .u8 0), .p (.int .u8 0), .p (.int .u8 0), .p (.int .u8 0), .p (.int .u8 0), .p (.int .u8 0), .p (.int .u8 0), .p (.int .u8 0), .p (.int .u8 0), .p (.int .u8 0)] : List AV) = z32 := rfl
theorem z32_len : z32.length = 32 := rfl
theorem rep1 (l : List AV) : (List.replicate 1 l).flatten = l := by simp
theorem wr32 (y : List UInt8) (h : y.length = 32) : wrA z32 0 (List.map by8 y) = List.map by8 y := wrA_all (by simp [z32_len, h])
theorem ones8 (y : List UInt8) : ones (List.map by8 y) = true := by
  rw [ones, List.all_eq_true]
  intro a ha; obtain ⟨x, _, rfl⟩ := List.mem_map.1 ha; rfl
theorem wo8 (q : Nat → Bool) (y : List UInt8) : (List.map by8 y).map (AV.wo q) = List.map by8 y := by
  rw [List.map_map]
  refine List.map_congr_left fun x _ => ?_
  show AV.wo q (.p _) = _
  rw [AV.wo]; rfl
theorem wo8f (q : Nat → Bool) (l : List (List UInt8)) : (l.flatMap H8).map (AV.wo q) = l.flatMap H8 := by
  rw [List.map_flatMap]
  simp only [wo8]
set_option maxRecDepth 8000 in
theorem runlike_ok {T : Tbl} {a : AV} {hs : List (List UInt8)} (hb : Es T 32 H8 a hs) (hl : hs.length ≤ 1099511627776) :
    CallA Tryd.prog Tryd.G 17 [a] T fun v T' es => v = .vs ((uniq hs).flatMap H8) (uniq hs).length ∧ T' = T ∧ es = [] := by
  have hr := Sl.rules hb.sl (by decide)
  have hld := hb.ld (P := Tryd.prog) (t := 23) (by (simp -dsimp +decide only [vy, vz, vze, va, vc, vu, vl, Tryd.ty, Tryd.en, ↓reduceIte, Nat.reduceSub, Nat.reduceAdd, Nat.reduceMul, Nat.reduceLT, Int.reduceAdd, Int.reduceSub, Int.reduceToNat, Int.cast_ofNat_Int])) (by (simp -dsimp +decide only [vy, vz, vze, va, vc, vu, vl, Tryd.ty, Tryd.en, ↓reduceIte, Nat.reduceSub, Nat.reduceAdd, Nat.reduceMul, Nat.reduceLT, Int.reduceAdd, Int.reduceSub, Int.reduceToNat, Int.cast_ofNat_Int])) (by decide)
  refine CallA.wfs fun wf => ?_
  have wt := wf.t
  have wp := wf.p
  have wa := wf.arg a (by simp)
  have wap := wf.argp a (by simp)
  refine CallA.enterV 5 Tryd.func17 Tryd.ntmps17 (congrArg Array.toList Tryd.results17) rfl ⟨by simp, by simp⟩ (by kernel_rfl) (by kernel_rfl) ?_
  (simp -dsimp +decide only [vy, vz, vze, va, vc, vu, vl, Tryd.ty, Tryd.en, ↓reduceIte, Nat.reduceSub, Nat.reduceAdd, Nat.reduceMul, Nat.reduceLT, Int.reduceAdd, Int.reduceSub, Int.reduceToNat, Int.cast_ofNat_Int])
  refine SemA.adopt 3 23 32 (by decide) rfl ?_
  (simp -dsimp +decide only [vy, vz, vze, va, vc, vu, vl, Tryd.ty, Tryd.en, ↓reduceIte, Nat.reduceSub, Nat.reduceAdd, Nat.reduceMul, Nat.reduceLT, Int.reduceAdd, Int.reduceSub, Int.reduceToNat, Int.cast_ofNat_Int])
  refine SemA.loopC (fun s : Nat × List (List UInt8) => [(0, a), (3, .sl T.length 0 s.2.length), (4, wint (s.1 : Int))]) (fun s => T ++ [.buf 23 32 (s.2.flatMap H8)]) (fun s => s.1 ≤ hs.length ∧ s.2.length ≤ s.1 ∧ H32 s.2 ∧ uniqF s.2 (hs.drop s.1) = uniq hs) (fun s => hs.length - s.1) (T.length + 1) (0, []) [] (by kernel_rfl) (by omega) ⟨by simp, by simp, (fun _ h => nomatch h), rfl⟩ (by (simp -dsimp +decide only [vy, vz, vze, va, vc, vu, vl, Tryd.ty, Tryd.en, ↓reduceIte, Nat.reduceSub, Nat.reduceAdd, Nat.reduceMul, Nat.reduceLT, Int.reduceAdd, Int.reduceSub, Int.reduceToNat, Int.cast_ofNat_Int]); rfl) rfl (by simp) ?_
  rintro ⟨i, acc⟩ g ⟨hi, hacc, h32, hu⟩
  dsimp only at hi hacc h32 hu
  (simp -dsimp +decide only [vy, vz, vze, va, vc, vu, vl, Tryd.ty, Tryd.en, ↓reduceIte, Nat.reduceSub, Nat.reduceAdd, Nat.reduceMul, Nat.reduceLT, Int.reduceAdd, Int.reduceSub, Int.reduceToNat, Int.cast_ofNat_Int, hr])
  refine CondP.dec (fun h => ?_) (fun h => ?_)
  · obtain ⟨y, hy⟩ : ∃ y, hs[i]? = some y := ⟨hs[i]'(by omega), by simp⟩
    have hy32' : y.length = 32 := by simpa using hb.wd y (List.mem_of_getElem? hy)
    have hd : hs.drop i = y :: hs.drop (i + 1) := by
      obtain ⟨h1, rfl⟩ := List.getElem?_eq_some_iff.1 hy
      exact List.drop_eq_getElem_cons h1
    rw [hd, uniqF] at hu
    (simp -dsimp +decide (disch := omega) only [vy, vz, vze, va, vc, vu, vl, Tryd.ty, Tryd.en, ↓reduceIte, Nat.reduceSub, Nat.reduceAdd, Nat.reduceMul, Nat.reduceLT, Int.reduceAdd, Int.reduceSub, Int.reduceToNat, Int.cast_ofNat_Int, vi, getO_i, hld, hy, hr, vt])
    repeat (refine And.intro (by omega) ?_)
    refine (has_ok (hs := acc) (Es.obj (xs := acc) (o := .buf 23 32 (acc.flatMap H8)) (by (simp -dsimp +decide only [vy, vz, vze, va, vc, vu, vl, Tryd.ty, Tryd.en, ↓reduceIte, Nat.reduceSub, Nat.reduceAdd, Nat.reduceMul, Nat.reduceLT, Int.reduceAdd, Int.reduceSub, Int.reduceToNat, Int.cast_ofNat_Int])) rfl (h8 h32)) hy32' (by omega)).det ?_
    (simp -dsimp +decide (disch := omega) only [vy, vz, vze, va, vc, vu, vl, Tryd.ty, Tryd.en, ↓reduceIte, Nat.reduceSub, Nat.reduceAdd, Nat.reduceMul, Nat.reduceLT, Int.reduceAdd, Int.reduceSub, Int.reduceToNat, Int.cast_ofNat_Int, vi, getO_i, vt])
    refine CondP.ndec (fun h => ?_) (fun h => ?_)
    · rw [if_neg h] at hu
      have hfl := flat_len (f := H8) (h8 h32)
      have hwr := wr32 y hy32'
      have hon := ones8 y
      (simp -dsimp +decide (disch := omega) only [vy, vz, vze, va, vc, vu, vl, Tryd.ty, Tryd.en, ↓reduceIte, Nat.reduceSub, Nat.reduceAdd, Nat.reduceMul, Nat.reduceLT, Int.reduceAdd, Int.reduceSub, Int.reduceToNat, Int.cast_ofNat_Int, vi, getO_i, hld, hy, hr, vt, wt, wa, tk32 y hy32', hfl, z32_eq, rep1, z32_len, hwr, hon, wo8, wo8f, hy32'])
      repeat (refine And.intro (by omega) ?_)
      refine ⟨(i + 1, acc ++ [y]), ⟨by dsimp only; omega, by simp; omega, ?_, hu⟩, by dsimp only; omega, by first | rfl | (and_intros <;> first | rfl | (simp; done)), ?_⟩
      · intro x hx
        rcases List.mem_append.1 hx with hx | hx
        · exact h32 x hx
        · simp at hx; subst hx; exact hy32'
      · simp
    · rw [if_pos h] at hu
      (simp -dsimp +decide (disch := omega) only [vy, vz, vze, va, vc, vu, vl, Tryd.ty, Tryd.en, ↓reduceIte, Nat.reduceSub, Nat.reduceAdd, Nat.reduceMul, Nat.reduceLT, Int.reduceAdd, Int.reduceSub, Int.reduceToNat, Int.cast_ofNat_Int, vi, getO_i, vt, wt, wa, wo8f])
      exact ⟨(i + 1, acc), ⟨by dsimp only; omega, by dsimp only; omega, h32, hu⟩, by dsimp only; omega, by first | rfl | (and_intros <;> first | rfl | (simp; done)), rfl⟩
  · (simp -dsimp +decide (disch := omega) only [vy, vz, vze, va, vc, vu, vl, Tryd.ty, Tryd.en, ↓reduceIte, Nat.reduceSub, Nat.reduceAdd, Nat.reduceMul, Nat.reduceLT, Int.reduceAdd, Int.reduceSub, Int.reduceToNat, Int.cast_ofNat_Int, vi, getO_i, vt])
    have hd : hs.drop i = [] := List.drop_eq_nil_of_le (by omega)
    rw [hd, uniqF] at hu
    refine Vw.pub T.length (o := .buf 23 32 (acc.flatMap H8)) (by (simp -dsimp +decide only [vy, vz, vze, va, vc, vu, vl, Tryd.ty, Tryd.en, ↓reduceIte, Nat.reduceSub, Nat.reduceAdd, Nat.reduceMul, Nat.reduceLT, Int.reduceAdd, Int.reduceSub, Int.reduceToNat, Int.cast_ofNat_Int])) rfl (clean8f acc) ?_
    (simp -dsimp +decide only [vy, vz, vze, va, vc, vu, vl, Tryd.ty, Tryd.en, ↓reduceIte, Nat.reduceSub, Nat.reduceAdd, Nat.reduceMul, Nat.reduceLT, Int.reduceAdd, Int.reduceSub, Int.reduceToNat, Int.cast_ofNat_Int, vt, wp])
    refine Vw.cut ⟨?_, rfl, rfl⟩
    rw [← hu]; rfl
end Go.Proofs.YtmcbdlefakjpoaaDoor

set_option linter.unusedSimpArgs false
set_option linter.unusedVariables false
set_option linter.unusedSectionVars false
namespace Go.Proofs.YtmcbdlefakjpoaaDoor
open Go.E
def f1 (h : List UInt8) : Value × AV := (hv h, .p (.int .i64 1))
theorem flat8 (l : List UInt8) : AV.flat (.ag (List.map by8 l)) = some (hv l) := by
  show (plains (List.map by8 l)).map (fun vs => Value.agg vs.toArray) = _
  rw [plains8]; rfl
theorem hv_fold (y : List UInt8) : Value.agg (List.map (fun x : UInt8 => Value.int .u8 (x.toNat : Int)) y).toArray = hv y := rfl
open Classical in
theorem mfind_f1 (acc : List (List UInt8)) (y : List UInt8) : mfind (acc.map f1) (hv y) = if y ∈ acc then some (.p (.int .i64 1)) else none := by
  unfold mfind
  induction acc with
  | nil => rfl
  | cons a r ih =>
    rw [List.map_cons, List.find?_cons]
    by_cases h : a = y
    · subst h; simp [f1]
    · have h2 : ¬ hv a = hv y := fun e => h (hv_inj e)
      simp only [f1, h2, decide_false]
      rw [show (List.find? (fun e => decide (e.1 = hv y)) (List.map f1 r)).map (·.2) = _ from ih]
      have h3 : ¬ y = a := fun e => h e.symm
      simp [List.mem_cons, h3]
theorem mset_f1 (acc : List (List UInt8)) (y : List UInt8) (h : y ∉ acc) : mset (acc.map f1) (hv y) (.p (.int .i64 1)) = (acc ++ [y]).map f1 := by
  unfold mset
  rw [mfind_f1, if_neg h]
  simp [f1]
theorem mapKO_f1 (acc : List (List UInt8)) (y : List UInt8) (h : H32 acc) (hy : y.length = 32) : mapKO Tryd.prog 23 (acc.map f1) (hv y) = True := by
  refine eq_true ⟨_, ktH.kl, ktH.ky (fitH hy), fun e he => ?_⟩
  obtain ⟨x, hx, rfl⟩ := List.mem_map.1 he
  exact ktH.ky (fitH (h x hx))
theorem wo_f1 (q : Nat → Bool) (acc : List (List UInt8)) : (acc.map f1).map (fun e => (e.1, AV.wo q e.2)) = acc.map f1 := by
  rw [List.map_map]
  refine List.map_congr_left fun x _ => ?_
  show (_, AV.wo q (.p _)) = _
  rw [AV.wo]; rfl
set_option maxRecDepth 8000 in
theorem unlike_ok {T : Tbl} {a : AV} {hs : List (List UInt8)} (hb : Es T 32 H8 a hs) (hl : hs.length ≤ 1099511627776) :
    CallA Tryd.prog Tryd.G 18 [a] T fun v T' es => v = .vs ((uniq hs).flatMap H8) (uniq hs).length ∧ T' = T ∧ es = [] := by
  have hr := Sl.rules hb.sl (by decide)
  have hld := hb.ld (P := Tryd.prog) (t := 23) (by (simp -dsimp +decide only [va, vc, vu, vl, Tryd.ty, Tryd.en, ↓reduceIte, Nat.reduceSub, Nat.reduceAdd, Nat.reduceMul, Nat.reduceLT, Int.reduceAdd, Int.reduceSub, Int.reduceToNat, Int.cast_ofNat_Int])) (by (simp -dsimp +decide only [va, vc, vu, vl, Tryd.ty, Tryd.en, ↓reduceIte, Nat.reduceSub, Nat.reduceAdd, Nat.reduceMul, Nat.reduceLT, Int.reduceAdd, Int.reduceSub, Int.reduceToNat, Int.cast_ofNat_Int])) (by decide)
  refine CallA.wfs fun wf => ?_
  have wt := wf.t
  have wp := wf.p
  have wa := wf.arg a (by simp)
  have wap := wf.argp a (by simp)
  refine CallA.enterV 11 Tryd.func18 Tryd.ntmps18 (congrArg Array.toList Tryd.results18) rfl ⟨by simp, by simp⟩ (by kernel_rfl) (by kernel_rfl) ?_
  (simp -dsimp +decide only [va, vc, vu, vl, Tryd.ty, Tryd.en, ↓reduceIte, Nat.reduceSub, Nat.reduceAdd, Nat.reduceMul, Nat.reduceLT, Int.reduceAdd, Int.reduceSub, Int.reduceToNat, Int.cast_ofNat_Int])
  (simp -dsimp +decide (disch := omega) only [va, vc, vu, vl, Tryd.ty, Tryd.en, ↓reduceIte, Nat.reduceSub, Nat.reduceAdd, Nat.reduceMul, Nat.reduceLT, Int.reduceAdd, Int.reduceSub, Int.reduceToNat, Int.cast_ofNat_Int, vi, getO_i, hr, vt])
  refine SemA.adopt 4 23 32 (by decide) rfl ?_
  (simp -dsimp +decide only [va, vc, vu, vl, Tryd.ty, Tryd.en, ↓reduceIte, Nat.reduceSub, Nat.reduceAdd, Nat.reduceMul, Nat.reduceLT, Int.reduceAdd, Int.reduceSub, Int.reduceToNat, Int.cast_ofNat_Int, vt])
  refine SemA.loopC (fun s : Nat × List (List UInt8) => [(0, a), (3, .mp T.length), (4, .sl (T.length + 1) 0 s.2.length), (8, a), (9, wint (hs.length : Int)), (10, wint (s.1 : Int))]) (fun s => T ++ [.map (s.2.map f1), .buf 23 32 (s.2.flatMap H8)]) (fun s => s.1 ≤ hs.length ∧ s.2.length ≤ s.1 ∧ H32 s.2 ∧ uniqF s.2 (hs.drop s.1) = uniq hs) (fun s => hs.length - s.1) (T.length + 2) (0, []) [] (by kernel_rfl) (by omega) ⟨by simp, by simp, (fun _ h => nomatch h), rfl⟩ (by (simp -dsimp +decide only [va, vc, vu, vl, Tryd.ty, Tryd.en, ↓reduceIte, Nat.reduceSub, Nat.reduceAdd, Nat.reduceMul, Nat.reduceLT, Int.reduceAdd, Int.reduceSub, Int.reduceToNat, Int.cast_ofNat_Int, vt]); first | rfl | (and_intros <;> first | rfl | (simp; done))) ?_ (by simp) ?_
  · simp
  rintro ⟨i, acc⟩ g ⟨hi, hacc, h32, hu⟩
  dsimp only at hi hacc h32 hu
  (simp -dsimp +decide only [va, vc, vu, vl, Tryd.ty, Tryd.en, ↓reduceIte, Nat.reduceSub, Nat.reduceAdd, Nat.reduceMul, Nat.reduceLT, Int.reduceAdd, Int.reduceSub, Int.reduceToNat, Int.cast_ofNat_Int, hr])
  refine CondP.dec (fun h => ?_) (fun h => ?_)
  · obtain ⟨y, hy⟩ : ∃ y, hs[i]? = some y := ⟨hs[i]'(by omega), by simp⟩
    have hy32' : y.length = 32 := by simpa using hb.wd y (List.mem_of_getElem? hy)
    have hd : hs.drop i = y :: hs.drop (i + 1) := by
      obtain ⟨h1, rfl⟩ := List.getElem?_eq_some_iff.1 hy
      exact List.drop_eq_getElem_cons h1
    have hwr := wr32 y hy32'
    have hon := ones8 y
    have hko := mapKO_f1 acc y h32 hy32'
    have hmf := mfind_f1 acc y
    have hfl := flat_len (f := H8) (h8 h32)
    rw [hd, uniqF] at hu
    by_cases hin : y ∈ acc
    · rw [if_pos hin] at hu hmf
      (simp -dsimp +decide (disch := omega) only [va, vc, vu, vl, Tryd.ty, Tryd.en, ↓reduceIte, Nat.reduceSub, Nat.reduceAdd, Nat.reduceMul, Nat.reduceLT, Int.reduceAdd, Int.reduceSub, Int.reduceToNat, Int.cast_ofNat_Int, vi, getO_i, hld, hy, hr, vt, wt, wa, z32_eq, z32_len, hwr, hon, hy32', tk32 y hy32', hv_fold, hko, hmf, wo_f1, wo8f])
      exact ⟨by omega, (i + 1, acc), ⟨by dsimp only; omega, by dsimp only; omega, h32, hu⟩, by dsimp only; omega, by first | rfl | (and_intros <;> first | rfl | (simp; done)), rfl⟩
    · rw [if_neg hin] at hu hmf
      have hms := mset_f1 acc y hin
      (simp -dsimp +decide (disch := omega) only [va, vc, vu, vl, Tryd.ty, Tryd.en, ↓reduceIte, Nat.reduceSub, Nat.reduceAdd, Nat.reduceMul, Nat.reduceLT, Int.reduceAdd, Int.reduceSub, Int.reduceToNat, Int.cast_ofNat_Int, vi, getO_i, hld, hy, hr, vt, wt, wa, z32_eq, z32_len, hwr, hon, hy32', tk32 y hy32', hv_fold, hko, hmf, hms, rep1, wo8, wo8f, hfl, wo_f1])
      repeat (refine And.intro (by omega) ?_)
      refine ⟨(i + 1, acc ++ [y]), ⟨by dsimp only; omega, by simp; omega, ?_, hu⟩, by dsimp only; omega, by first | rfl | (and_intros <;> first | rfl | (simp; done)), ?_⟩
      · intro x hx
        rcases List.mem_append.1 hx with hx | hx
        · exact h32 x hx
        · simp at hx; subst hx; exact hy32'
      · simp
  · (simp -dsimp +decide (disch := omega) only [va, vc, vu, vl, Tryd.ty, Tryd.en, ↓reduceIte, Nat.reduceSub, Nat.reduceAdd, Nat.reduceMul, Nat.reduceLT, Int.reduceAdd, Int.reduceSub, Int.reduceToNat, Int.cast_ofNat_Int, vi, getO_i, vt])
    have hd : hs.drop i = [] := List.drop_eq_nil_of_le (by omega)
    rw [hd, uniqF] at hu
    refine Vw.pub (T.length + 1) (o := .buf 23 32 (acc.flatMap H8)) (by (simp -dsimp +decide only [va, vc, vu, vl, Tryd.ty, Tryd.en, ↓reduceIte, Nat.reduceSub, Nat.reduceAdd, Nat.reduceMul, Nat.reduceLT, Int.reduceAdd, Int.reduceSub, Int.reduceToNat, Int.cast_ofNat_Int])) rfl (clean8f acc) ?_
    (simp -dsimp +decide only [va, vc, vu, vl, Tryd.ty, Tryd.en, ↓reduceIte, Nat.reduceSub, Nat.reduceAdd, Nat.reduceMul, Nat.reduceLT, Int.reduceAdd, Int.reduceSub, Int.reduceToNat, Int.cast_ofNat_Int, vt, wp])
    refine Vw.cut ⟨?_, rfl, rfl⟩
    rw [← hu]; rfl
end Go.Proofs.YtmcbdlefakjpoaaDoor

set_option linter.unusedSimpArgs false
set_option linter.unusedVariables false
set_option linter.unusedSectionVars false
namespace Go.Proofs.YtmcbdlefakjpoaaDoor
open Go.E
/-- the cells of numbers -/
def D (d : Array UInt64) : List AV := d.toList.map w64
/-- the table with object i: numbers d -/
def TB (T : Tbl) (i : Nat) (d : Array UInt64) : Tbl := T.set i (.buf 46 1 (D d))
def ltU (x y : UInt64) : Bool := decide (x < y)
theorem swoU : Sort.SWO ltU where
  irrefl := fun x => by simp [ltU]
  trans := fun x y z h1 h2 => by simp [ltU] at *; exact UInt64.lt_trans h1 h2
  ntrans := fun x y z h1 h2 => by simp [ltU] at *; exact UInt64.le_trans h2 h1
theorem D_at (d : Array UInt64) {k : Nat} (h : k < d.size) : (D d)[k]? = some (w64 d[k]!) := by
  unfold D
  rw [List.getElem?_map, Array.getElem?_toList, getElem!_pos d k h]; simp [h]
theorem D_len (d : Array UInt64) : (D d).length = d.size := by simp [D]
theorem D_set (d : Array UInt64) (k : Nat) (v : UInt64) : (D d).set k (w64 v) = D (d.setIfInBounds k v) := by
  simp [D, List.map_set]
theorem D_sv (d : Array UInt64) (k : Nat) (v : UInt64) : (D d).set k (.p (.int .u64 (v.toNat : Int))) = D (d.setIfInBounds k v) := D_set d k v
theorem D_ns (d : Array UInt64) (k : Nat) (v : UInt64) : (D (d.setIfInBounds k v) ≠ []) = (D d ≠ []) := by rw [← D_set]; simp
theorem D_ls (d : Array UInt64) (k : Nat) (v : UInt64) : (D (d.setIfInBounds k v)).length = d.size := by simp [D]
theorem D_ne (d : Array UInt64) (h : 0 < d.size) : (D d ≠ []) = True := by
  simp [D]; intro e; simp [e] at h
theorem TB_get {T : Tbl} {i : Nat} (hi : i < T.length) :
    (∀ d, (TB T i d)[i]? = some (.buf 46 1 (D d))) ∧ (∀ d l, (TB T i d ++ l)[i]? = some (.buf 46 1 (D d))) ∧ (∀ d d', (TB T i d).set i (.buf 46 1 (D d')) = TB T i d') ∧
    (∀ d l d', (TB T i d ++ l).set i (.buf 46 1 (D d')) = TB T i d' ++ l) ∧ (∀ d, (TB T i d).length = T.length) ∧ (∀ es x, recE T.length ((i, x) :: es) [] = (i, x) :: recE T.length es []) ∧ (∀ E, rec1 T.length i false E = (i, false) :: E) := by
  refine ⟨fun d => by simp [TB, hi], fun d l => ?_, fun d d' => by simp [TB], fun d l d' => ?_, fun d => by simp [TB], fun es x => by simp [recE, rec1, hi], fun E => by simp [rec1, hi]⟩
  · rw [List.getElem?_append_left (by simp [TB, hi])]; simp [TB, hi]
  · rw [List.set_append_left _ _ (by simp [TB, hi])]; simp [TB]
theorem isNaN_ok {T : Tbl} {x : UInt64} : CallA Tryd.prog Tryd.G 64 [w64 x] T fun v T' es => v = .p (.bool false) ∧ T' = T ∧ es = [] := by
  refine CallA.enterV 3 Tryd.func64 Tryd.ntmps64 (congrArg Array.toList Tryd.results64) rfl ⟨by simp, by simp⟩ (by kernel_rfl) (by kernel_rfl) ?_
  (simp -dsimp +decide only [vy, vz, vze, va, vc, vu, vl, Tryd.ty, Tryd.en, ↓reduceIte, Nat.reduceSub, Nat.reduceAdd, Nat.reduceMul, Nat.reduceLT, Int.reduceAdd, Int.reduceSub, Int.reduceToNat, Int.cast_ofNat_Int])
  exact Vw.done ⟨by simp, rfl, rfl⟩
theorem less_ok {T : Tbl} {x y : UInt64} : CallA Tryd.prog Tryd.G 45 [w64 x, w64 y] T fun v T' es => v = .p (.bool (ltU x y)) ∧ T' = T ∧ es = [] := by
  refine CallA.enterV 5 Tryd.func45 Tryd.ntmps45 (congrArg Array.toList Tryd.results45) rfl ⟨by simp, by simp⟩ (by kernel_rfl) (by kernel_rfl) ?_
  (simp -dsimp +decide only [vy, vz, vze, va, vc, vu, vl, Tryd.ty, Tryd.en, ↓reduceIte, Nat.reduceSub, Nat.reduceAdd, Nat.reduceMul, Nat.reduceLT, Int.reduceAdd, Int.reduceSub, Int.reduceToNat, Int.cast_ofNat_Int])
  refine isNaN_ok.det ?_
  (simp -dsimp +decide only [vy, vz, vze, va, vc, vu, vl, Tryd.ty, Tryd.en, ↓reduceIte, Nat.reduceSub, Nat.reduceAdd, Nat.reduceMul, Nat.reduceLT, Int.reduceAdd, Int.reduceSub, Int.reduceToNat, Int.cast_ofNat_Int])
  refine Vw.done ⟨?_, rfl, rfl⟩
  simp [ltU, UInt64.lt_iff_toNat_lt]
def BIG : Nat := 1099511627776
theorem swD {d : Array UInt64} {i j : Nat} : ((D d).set i (w64 d[j]!)).set j (w64 d[i]!) = D (Sort.swp d i j) := by
  rw [D_set, D_set]; rfl
theorem insInner_step {a j : Nat} {d : Array UInt64} (h : a < j) (hl : ltU d[j]! d[j - 1]! = true) : Sort.insInner ltU a j d = Sort.insInner ltU a (j - 1) (Sort.swp d j (j - 1)) := by
  cases j with
  | zero => omega
  | succ j => rw [Sort.insInner]; simp only [Nat.add_sub_cancel] at hl ⊢; simp [hl, h]
theorem insInner_stop {a j : Nat} {d : Array UInt64} (h : ¬ (a < j ∧ ltU d[j]! d[j - 1]! = true)) : Sort.insInner ltU a j d = d := by
  cases j with
  | zero => rfl
  | succ j =>
    rw [Sort.insInner]; simp only [Nat.add_sub_cancel] at h
    rw [if_neg]; simpa using h
set_option maxRecDepth 8000 in
theorem ins_ok {T : Tbl} {i a b n : Nat} {d : Array UInt64} (hi : i < T.length) (hn : d.size = n) (hab : a ≤ b) (hb : b ≤ n) (hB : n ≤ 1099511627776) :
    CallA Tryd.prog Tryd.G 50 [.sl i 0 n, wint (a : Int), wint (b : Int)] (TB T i d) fun v T' es => v = .tu [] ∧ T' = TB T i (Sort.insertionSort ltU d a b) ∧ es = [(i, false)] := by
  have tg := TB_get hi
  refine CallA.enterV 8 Tryd.func50 Tryd.ntmps50 (congrArg Array.toList Tryd.results50) rfl ⟨by simp, by simp⟩ (by kernel_rfl) (by kernel_rfl) ?_
  (simp -dsimp +decide only [vy, vz, vze, va, vc, vu, vl, Tryd.ty, Tryd.en, ↓reduceIte, Nat.reduceSub, Nat.reduceAdd, Nat.reduceMul, Nat.reduceLT, Int.reduceAdd, Int.reduceSub, Int.reduceToNat, Int.cast_ofNat_Int])
  (simp -dsimp +decide (disch := omega) only [vy, vz, vze, va, vc, vu, vl, Tryd.ty, Tryd.en, ↓reduceIte, Nat.reduceSub, Nat.reduceAdd, Nat.reduceMul, Nat.reduceLT, Int.reduceAdd, Int.reduceSub, Int.reduceToNat, Int.cast_ofNat_Int, vi, getO_i, tg])
  refine SemA.loopL (fun s : Nat × Array UInt64 => [(0, .sl i 0 n), (1, wint (a : Int)), (2, wint (b : Int)), (6, wint (s.1 : Int))]) (fun s => TB T i s.2) (fun s => a + 1 ≤ s.1 ∧ s.1 ≤ max (a + 1) b ∧ s.2.size = n ∧ Sort.insOuter ltU a b s.1 s.2 = Sort.insertionSort ltU d a b) (fun s => b + 1 - s.1) (a + 1, d) [(i, false)] (by kernel_rfl) ⟨by simp, by simp; omega, hn, rfl⟩ (by (simp -dsimp +decide (disch := omega) only [vy, vz, vze, va, vc, vu, vl, Tryd.ty, Tryd.en, ↓reduceIte, Nat.reduceSub, Nat.reduceAdd, Nat.reduceMul, Nat.reduceLT, Int.reduceAdd, Int.reduceSub, Int.reduceToNat, Int.cast_ofNat_Int, vi, getO_i]); simp) rfl (by simp) ?_
  rintro ⟨k, d1⟩ g ⟨hk1, hk2, hs, hk⟩
  dsimp only at hk1 hk2 hs hk
  (simp -dsimp +decide (disch := omega) only [vy, vz, vze, va, vc, vu, vl, Tryd.ty, Tryd.en, ↓reduceIte, Nat.reduceSub, Nat.reduceAdd, Nat.reduceMul, Nat.reduceLT, Int.reduceAdd, Int.reduceSub, Int.reduceToNat, Int.cast_ofNat_Int, vi, getO_i, tg])
  refine CondP.dec (fun h => ?_) (fun h => ?_)
  · (simp -dsimp +decide (disch := omega) only [vy, vz, vze, va, vc, vu, vl, Tryd.ty, Tryd.en, ↓reduceIte, Nat.reduceSub, Nat.reduceAdd, Nat.reduceMul, Nat.reduceLT, Int.reduceAdd, Int.reduceSub, Int.reduceToNat, Int.cast_ofNat_Int, vi, getO_i, tg])
    refine SemA.loopL (fun s : Nat × Array UInt64 => [(0, .sl i 0 n), (1, wint (a : Int)), (2, wint (b : Int)), (6, wint (k : Int)), (7, wint (s.1 : Int))]) (fun s => TB T i s.2) (fun s => s.1 ≤ k ∧ s.2.size = n ∧ Sort.insInner ltU a s.1 s.2 = Sort.insInner ltU a k d1) (fun s => s.1) (k, d1) [(i, false)] (by kernel_rfl) ⟨by simp, hs, rfl⟩ (by (simp -dsimp +decide (disch := omega) only [vy, vz, vze, va, vc, vu, vl, Tryd.ty, Tryd.en, ↓reduceIte, Nat.reduceSub, Nat.reduceAdd, Nat.reduceMul, Nat.reduceLT, Int.reduceAdd, Int.reduceSub, Int.reduceToNat, Int.cast_ofNat_Int, vi, getO_i])) rfl (by simp) ?_
    rintro ⟨j, d2⟩ g2 ⟨hj1, hs2, hj⟩
    dsimp only at hj1 hs2 hj
    (simp -dsimp +decide (disch := omega) only [vy, vz, vze, va, vc, vu, vl, Tryd.ty, Tryd.en, ↓reduceIte, Nat.reduceSub, Nat.reduceAdd, Nat.reduceMul, Nat.reduceLT, Int.reduceAdd, Int.reduceSub, Int.reduceToNat, Int.cast_ofNat_Int, vi, getO_i, tg])
    by_cases hja : a < j
    · have hgt : ((a : Int) < (j : Int)) = True := by simp; omega
      have hne := D_ne d2 (by omega)
      refine SemA.drawS (.fl 0 (.fl 1 (.fl 2 (.fl 3 (.fl 4 (.fl 5 (.fl 6 (.fl 7 (.fl 8 (.fl 9 (.fl 10 (.fl 11 (.fl 12 (.sq 13 (.fl 14 .nil))))))))))))))) Tryd.mixed (by kernel_rfl) ?_
      (simp -dsimp +decide (disch := omega) only [vy, vz, vze, va, vc, vu, vl, Tryd.ty, Tryd.en, ↓reduceIte, Nat.reduceSub, Nat.reduceAdd, Nat.reduceMul, Nat.reduceLT, Int.reduceAdd, Int.reduceSub, Int.reduceToNat, Int.cast_ofNat_Int, vi, getO_i, tg, hgt, hne, D_at])
      refine ⟨by omega, by omega, ?_⟩
      refine less_ok.det ?_
      (simp -dsimp +decide (disch := omega) only [vy, vz, vze, va, vc, vu, vl, Tryd.ty, Tryd.en, ↓reduceIte, Nat.reduceSub, Nat.reduceAdd, Nat.reduceMul, Nat.reduceLT, Int.reduceAdd, Int.reduceSub, Int.reduceToNat, Int.cast_ofNat_Int, vi, getO_i, tg, hgt, hne, D_at])
      by_cases hl : ltU d2[j]! d2[j - 1]! = true
      · rw [hl]
        (simp -dsimp +decide (disch := omega) only [vy, vz, vze, va, vc, vu, vl, Tryd.ty, Tryd.en, ↓reduceIte, Nat.reduceSub, Nat.reduceAdd, Nat.reduceMul, Nat.reduceLT, Int.reduceAdd, Int.reduceSub, Int.reduceToNat, Int.cast_ofNat_Int, vi, getO_i, tg])
        refine SemA.drawS (.fl 0 (.fl 1 (.fl 2 (.fl 3 (.fp 4 (.fl 5 (.fl 6 (.fl 7 (.fl 8 (.fl 9 (.fl 10 (.fl 11 (.fl 12 (.fl 13 (.fl 14 (.sq 15 (.fl 16 (.sq 17 .nil)))))))))))))))))) Tryd.mixed (by kernel_rfl) ?_
        (simp -dsimp +decide (disch := omega) only [vy, vz, vze, va, vc, vu, vl, Tryd.ty, Tryd.en, ↓reduceIte, Nat.reduceSub, Nat.reduceAdd, Nat.reduceMul, Nat.reduceLT, Int.reduceAdd, Int.reduceSub, Int.reduceToNat, Int.cast_ofNat_Int, vi, getO_i, tg, hne, D_sv, D_ns, D_ls, D_at, D_len, Array.size_setIfInBounds])
        and_intros
        all_goals first | omega | (simp; done) | skip
        refine ⟨(j - 1, Sort.swp d2 j (j - 1)), ⟨by dsimp only; omega, ?_, ?_⟩, by dsimp only; omega, ?_, rfl⟩
        · rw [Sort.size_swp]; exact hs2
        · rw [← insInner_step hja hl]; exact hj
        · dsimp only; rw [show ((j - 1 : Nat) : Int) = (j : Int) - 1 by omega]
      · have hl : ltU d2[j]! d2[j - 1]! = false := by simpa using hl
        rw [hl]
        (simp -dsimp +decide (disch := omega) only [vy, vz, vze, va, vc, vu, vl, Tryd.ty, Tryd.en, ↓reduceIte, Nat.reduceSub, Nat.reduceAdd, Nat.reduceMul, Nat.reduceLT, Int.reduceAdd, Int.reduceSub, Int.reduceToNat, Int.cast_ofNat_Int, vi, getO_i, tg])
        refine ⟨(k + 1, d2), ⟨by dsimp only; omega, by dsimp only; omega, hs2, ?_⟩, by dsimp only; omega, rfl, rfl⟩
        have e := insInner_stop (a := a) (j := j) (d := d2) (by simp [hl])
        rw [← hk]
        conv => rhs; rw [Sort.insOuter, if_pos (by omega)]
        dsimp only
        rw [← hj, e]
    · have hgt : ((a : Int) < (j : Int)) = False := by simp; omega
      refine SemA.drawS (.fl 0 (.fl 1 (.fl 2 (.fl 3 (.fl 4 (.fl 5 (.fl 6 (.fl 7 (.fl 8 (.fl 9 (.fl 10 (.fl 11 (.fl 12 (.sq 13 (.fl 14 .nil))))))))))))))) Tryd.mixed (by kernel_rfl) ?_
      (simp -dsimp +decide (disch := omega) only [vy, vz, vze, va, vc, vu, vl, Tryd.ty, Tryd.en, ↓reduceIte, Nat.reduceSub, Nat.reduceAdd, Nat.reduceMul, Nat.reduceLT, Int.reduceAdd, Int.reduceSub, Int.reduceToNat, Int.cast_ofNat_Int, vi, getO_i, tg, hgt])
      refine ⟨(k + 1, d2), ⟨by dsimp only; omega, by dsimp only; omega, hs2, ?_⟩, by dsimp only; omega, rfl, rfl⟩
      have e := insInner_stop (a := a) (j := j) (d := d2) (by omega)
      rw [← hk]
      conv => rhs; rw [Sort.insOuter, if_pos (by omega)]
      dsimp only
      rw [← hj, e]
  · (simp -dsimp +decide (disch := omega) only [vy, vz, vze, va, vc, vu, vl, Tryd.ty, Tryd.en, ↓reduceIte, Nat.reduceSub, Nat.reduceAdd, Nat.reduceMul, Nat.reduceLT, Int.reduceAdd, Int.reduceSub, Int.reduceToNat, Int.cast_ofNat_Int, vi, getO_i, tg])
    refine Vw.done ⟨rfl, ?_, rfl⟩
    rw [← hk, Sort.insOuter, if_neg (by omega)]
end Go.Proofs.YtmcbdlefakjpoaaDoor

set_option linter.unusedSimpArgs false
set_option linter.unusedVariables false
set_option linter.unusedSectionVars false
namespace Go.Proofs.YtmcbdlefakjpoaaDoor
open Go.E
/-- the same with a counter behind it -/
def TC (T : Tbl) (i : Nat) (d : Array UInt64) (s : Int) : Tbl := TB T i d ++ [.cells 3 [.p (.int .i64 s)]]
theorem TC_get {T : Tbl} {i : Nat} (hi : i < T.length) :
    (∀ d s, (TC T i d s)[i]? = some (.buf 46 1 (D d))) ∧ (∀ d s, (TC T i d s)[T.length]? = some (.cells 3 [.p (.int .i64 s)])) ∧ (∀ d s s', (TC T i d s).set T.length (.cells 3 [.p (.int .i64 s')]) = TC T i d s') ∧
    (∀ d s, (TC T i d s).length = T.length + 1) ∧ (∀ E, rec1 (T.length + 1) T.length false E = (T.length, false) :: E) := by
  have tg := TB_get hi
  refine ⟨fun d s => tg.2.1 d _, fun d s => ?_, fun d s s' => ?_, fun d s => by simp [TC, tg], fun E => by simp [rec1]⟩
  · unfold TC; rw [List.getElem?_append_right (by simp [tg])]; simp [tg]
  · unfold TC; rw [List.set_append_right _ _ (by simp [tg])]; simp [tg]
set_option maxRecDepth 8000 in
theorem order2_ok {T : Tbl} {i a b n : Nat} {d : Array UInt64} {s : Int} (hi : i < T.length) (hn : d.size = n) (ha : a < n) (hb : b < n) :
    CallA Tryd.prog Tryd.G 74 [.sl i 0 n, wint (a : Int), wint (b : Int), .ptr T.length 0] (TC T i d s) fun v T' es => (∃ s', T' = TC T i d s') ∧ es = [(T.length, false)] ∧ (v = .tu [wint (a : Int), wint (b : Int)] ∨ v = .tu [wint (b : Int), wint (a : Int)]) := by
  have tg := TC_get hi
  have hne := D_ne d (by omega)
  refine CallA.enterV 10 Tryd.func74 Tryd.ntmps74 (congrArg Array.toList Tryd.results74) rfl ⟨by simp, by simp⟩ (by kernel_rfl) (by kernel_rfl) ?_
  (simp -dsimp +decide only [vy, vz, vze, va, vc, vu, vl, Tryd.ty, Tryd.en, ↓reduceIte, Nat.reduceSub, Nat.reduceAdd, Nat.reduceMul, Nat.reduceLT, Int.reduceAdd, Int.reduceSub, Int.reduceToNat, Int.cast_ofNat_Int])
  (simp -dsimp +decide (disch := omega) only [vy, vz, vze, va, vc, vu, vl, Tryd.ty, Tryd.en, ↓reduceIte, Nat.reduceSub, Nat.reduceAdd, Nat.reduceMul, Nat.reduceLT, Int.reduceAdd, Int.reduceSub, Int.reduceToNat, Int.cast_ofNat_Int, vi, getO_i, tg])
  refine SemA.drawS (.fl 0 (.fl 1 (.fl 2 (.fl 3 (.fl 4 (.fl 5 (.fl 6 (.fl 7 (.sq 8 .nil))))))))) Tryd.mixed (by kernel_rfl) ?_
  (simp -dsimp +decide (disch := omega) only [vy, vz, vze, va, vc, vu, vl, Tryd.ty, Tryd.en, ↓reduceIte, Nat.reduceSub, Nat.reduceAdd, Nat.reduceMul, Nat.reduceLT, Int.reduceAdd, Int.reduceSub, Int.reduceToNat, Int.cast_ofNat_Int, vi, getO_i, tg, hne, D_at])
  refine ⟨⟨by omega, by omega⟩, ⟨by omega, by omega⟩, ?_⟩
  refine less_ok.det ?_
  (simp -dsimp +decide (disch := omega) only [vy, vz, vze, va, vc, vu, vl, Tryd.ty, Tryd.en, ↓reduceIte, Nat.reduceSub, Nat.reduceAdd, Nat.reduceMul, Nat.reduceLT, Int.reduceAdd, Int.reduceSub, Int.reduceToNat, Int.cast_ofNat_Int, vi, getO_i, tg])
  refine CondP.split (fun h => ?_) (fun h => ?_)
  · (simp -dsimp +decide (disch := omega) only [vy, vz, vze, va, vc, vu, vl, Tryd.ty, Tryd.en, ↓reduceIte, Nat.reduceSub, Nat.reduceAdd, Nat.reduceMul, Nat.reduceLT, Int.reduceAdd, Int.reduceSub, Int.reduceToNat, Int.cast_ofNat_Int, vi, getO_i, tg])
    exact Vw.done ⟨⟨_, rfl⟩, rfl, .inr rfl⟩
  · (simp -dsimp +decide (disch := omega) only [vy, vz, vze, va, vc, vu, vl, Tryd.ty, Tryd.en, ↓reduceIte, Nat.reduceSub, Nat.reduceAdd, Nat.reduceMul, Nat.reduceLT, Int.reduceAdd, Int.reduceSub, Int.reduceToNat, Int.cast_ofNat_Int, vi, getO_i, tg])
    refine Vw.eff (E' := [(T.length, false)]) (by simp) ?_
    exact Vw.done ⟨⟨_, rfl⟩, rfl, .inl rfl⟩
set_option maxRecDepth 8000 in
theorem median_ok {T : Tbl} {i a b c n : Nat} {d : Array UInt64} {s : Int} (hi : i < T.length) (hn : d.size = n) (ha : a < n) (hb : b < n) (hc : c < n) :
    CallA Tryd.prog Tryd.G 71 [.sl i 0 n, wint (a : Int), wint (b : Int), wint (c : Int), .ptr T.length 0] (TC T i d s) fun v T' es => (∃ s', T' = TC T i d s') ∧ es = [(T.length, false)] ∧ (∃ m : Nat, v = wint (m : Int) ∧ (m = a ∨ m = b ∨ m = c)) := by
  have tg := TC_get hi
  have rest : ∀ (a b : Nat) (s : Int) (g : Nat → AV), a < n → b < n → ∀ K : AV → Tbl → Eff → Prop, (∀ s' (x y : Nat), (x = a ∧ y = b ∨ x = b ∧ y = a) → K (.tu [wint (x : Int), wint (y : Int)]) (TC T i d s') [(T.length, false)]) → CallA Tryd.prog Tryd.G 74 [.sl i 0 n, wint (a : Int), wint (b : Int), .ptr T.length 0] (TC T i d s) K := by
    intro a b s g ha hb K hK
    refine (order2_ok hi hn ha hb).mono ?_
    rintro v T' es ⟨⟨s', rfl⟩, rfl, rfl | rfl⟩
    · exact hK s' a b (.inl ⟨rfl, rfl⟩)
    · exact hK s' b a (.inr ⟨rfl, rfl⟩)
  refine CallA.enterV 11 Tryd.func71 Tryd.ntmps71 (congrArg Array.toList Tryd.results71) rfl ⟨by simp, by simp⟩ (by kernel_rfl) (by kernel_rfl) ?_
  (simp -dsimp +decide only [vy, vz, vze, va, vc, vu, vl, Tryd.ty, Tryd.en, ↓reduceIte, Nat.reduceSub, Nat.reduceAdd, Nat.reduceMul, Nat.reduceLT, Int.reduceAdd, Int.reduceSub, Int.reduceToNat, Int.cast_ofNat_Int])
  refine rest a b s (fun _ => .any) ha hb _ fun s1 x y hxy => ?_
  (simp -dsimp +decide (disch := omega) only [vy, vz, vze, va, vc, vu, vl, Tryd.ty, Tryd.en, ↓reduceIte, Nat.reduceSub, Nat.reduceAdd, Nat.reduceMul, Nat.reduceLT, Int.reduceAdd, Int.reduceSub, Int.reduceToNat, Int.cast_ofNat_Int, vi, getO_i, tg])
  refine rest y c s1 (fun _ => .any) (by omega) hc _ fun s2 x2 y2 hxy2 => ?_
  (simp -dsimp +decide (disch := omega) only [vy, vz, vze, va, vc, vu, vl, Tryd.ty, Tryd.en, ↓reduceIte, Nat.reduceSub, Nat.reduceAdd, Nat.reduceMul, Nat.reduceLT, Int.reduceAdd, Int.reduceSub, Int.reduceToNat, Int.cast_ofNat_Int, vi, getO_i, tg])
  refine rest x x2 s2 (fun _ => .any) (by omega) (by omega) _ fun s3 x3 y3 hxy3 => ?_
  (simp -dsimp +decide (disch := omega) only [vy, vz, vze, va, vc, vu, vl, Tryd.ty, Tryd.en, ↓reduceIte, Nat.reduceSub, Nat.reduceAdd, Nat.reduceMul, Nat.reduceLT, Int.reduceAdd, Int.reduceSub, Int.reduceToNat, Int.cast_ofNat_Int, vi, getO_i, tg])
  refine Vw.eff (E' := [(T.length, false)]) (by simp) ?_
  exact Vw.done ⟨⟨_, rfl⟩, rfl, y3, rfl, by omega⟩
set_option maxRecDepth 8000 in
theorem medadj_ok {T : Tbl} {i a n : Nat} {d : Array UInt64} {s : Int} (hi : i < T.length) (hn : d.size = n) (ha : 0 < a ∧ a + 1 < n) (hB : n ≤ 1099511627776) :
    CallA Tryd.prog Tryd.G 70 [.sl i 0 n, wint (a : Int), .ptr T.length 0] (TC T i d s) fun v T' es => (∃ s', T' = TC T i d s') ∧ es = [(T.length, false)] ∧ (∃ m : Nat, v = wint (m : Int) ∧ a ≤ m + 1 ∧ m ≤ a + 1) := by
  have tg := TC_get hi
  have e1 : (a : Int) - 1 = ((a - 1 : Nat) : Int) := by omega
  have e2 : (a : Int) + 1 = ((a + 1 : Nat) : Int) := by omega
  refine CallA.enterV 7 Tryd.func70 Tryd.ntmps70 (congrArg Array.toList Tryd.results70) rfl ⟨by simp, by simp⟩ (by kernel_rfl) (by kernel_rfl) ?_
  (simp -dsimp +decide only [vy, vz, vze, va, vc, vu, vl, Tryd.ty, Tryd.en, ↓reduceIte, Nat.reduceSub, Nat.reduceAdd, Nat.reduceMul, Nat.reduceLT, Int.reduceAdd, Int.reduceSub, Int.reduceToNat, Int.cast_ofNat_Int])
  (simp -dsimp +decide (disch := omega) only [vy, vz, vze, va, vc, vu, vl, Tryd.ty, Tryd.en, ↓reduceIte, Nat.reduceSub, Nat.reduceAdd, Nat.reduceMul, Nat.reduceLT, Int.reduceAdd, Int.reduceSub, Int.reduceToNat, Int.cast_ofNat_Int, vi, getO_i, tg, e1, e2])
  refine (median_ok (a := a - 1) (b := a) (c := a + 1) hi hn (by omega) (by omega) (by omega)).mono ?_
  rintro v T' es ⟨⟨s', rfl⟩, rfl, m, rfl, hm⟩
  (simp -dsimp +decide (disch := omega) only [vy, vz, vze, va, vc, vu, vl, Tryd.ty, Tryd.en, ↓reduceIte, Nat.reduceSub, Nat.reduceAdd, Nat.reduceMul, Nat.reduceLT, Int.reduceAdd, Int.reduceSub, Int.reduceToNat, Int.cast_ofNat_Int, vi, getO_i, tg])
  exact Vw.done ⟨⟨_, rfl⟩, rfl, m, rfl, by omega, by omega⟩
set_option maxRecDepth 8000 in
theorem pivot_ok {T : Tbl} {i a b n : Nat} {d : Array UInt64} (hi : i < T.length) (hn : d.size = n) (hab : a + 12 < b) (hb : b ≤ n) (hB : n ≤ 1099511627776) :
    CallA Tryd.prog Tryd.G 53 [.sl i 0 n, wint (a : Int), wint (b : Int)] (TB T i d) fun v T' es => (∃ (j : Nat) (h : Int), v = .tu [wint (j : Int), .p (.int .i64 h)] ∧ a ≤ j ∧ j < b) ∧ T' = TB T i d ∧ es = [] := by
  have tb := TB_get hi
  have tg := TC_get hi
  have htc : TB T i d ++ [AObj.cells 3 [.p (.int .i64 0)]] = TC T i d 0 := rfl
  have hl : (b : Int) - (a : Int) = ((b - a : Nat) : Int) := by omega
  have q4 : ∀ k : Nat, (k : Int).tdiv 4 = ((k / 4 : Nat) : Int) := fun _ => rfl
  have e1 : (a : Int) + ((((b - a) / 4 : Nat)) : Int) * 1 = ((a + (b - a) / 4 * 1 : Nat) : Int) := by omega
  have e2 : (a : Int) + ((((b - a) / 4 : Nat)) : Int) * 2 = ((a + (b - a) / 4 * 2 : Nat) : Int) := by omega
  have e3 : (a : Int) + ((((b - a) / 4 : Nat)) : Int) * 3 = ((a + (b - a) / 4 * 3 : Nat) : Int) := by omega
  have h8 : ((8 : Int) ≤ ((b - a : Nat) : Int)) = True := by simp; omega
  refine CallA.enterV 50 Tryd.func53 Tryd.ntmps53 (congrArg Array.toList Tryd.results53) rfl ⟨by simp, by simp⟩ (by kernel_rfl) (by kernel_rfl) ?_
  (simp -dsimp +decide only [vy, vz, vze, va, vc, vu, vl, Tryd.ty, Tryd.en, ↓reduceIte, Nat.reduceSub, Nat.reduceAdd, Nat.reduceMul, Nat.reduceLT, Int.reduceAdd, Int.reduceSub, Int.reduceToNat, Int.cast_ofNat_Int])
  (simp -dsimp +decide (disch := omega) only [vy, vz, vze, va, vc, vu, vl, Tryd.ty, Tryd.en, ↓reduceIte, Nat.reduceSub, Nat.reduceAdd, Nat.reduceMul, Nat.reduceLT, Int.reduceAdd, Int.reduceSub, Int.reduceToNat, Int.cast_ofNat_Int, vi, getO_i, tb, tg, htc, hl, q4, e1, e2, e3, h8])
  refine CondP.dec (fun h => ?_) (fun h => ?_)
  · (simp -dsimp +decide (disch := omega) only [vy, vz, vze, va, vc, vu, vl, Tryd.ty, Tryd.en, ↓reduceIte, Nat.reduceSub, Nat.reduceAdd, Nat.reduceMul, Nat.reduceLT, Int.reduceAdd, Int.reduceSub, Int.reduceToNat, Int.cast_ofNat_Int, vi, getO_i, tb, tg])
    refine (medadj_ok (a := a + (b - a) / 4) (s := 0) hi hn ⟨by omega, by omega⟩ hB).mono ?_
    rintro v T' es ⟨⟨s1, rfl⟩, rfl, m1, rfl, hm1⟩
    (simp -dsimp +decide (disch := omega) only [vy, vz, vze, va, vc, vu, vl, Tryd.ty, Tryd.en, ↓reduceIte, Nat.reduceSub, Nat.reduceAdd, Nat.reduceMul, Nat.reduceLT, Int.reduceAdd, Int.reduceSub, Int.reduceToNat, Int.cast_ofNat_Int, vi, getO_i, tb, tg])
    refine (medadj_ok (a := a + (b - a) / 4 * 2) (s := s1) hi hn ⟨by omega, by omega⟩ hB).mono ?_
    rintro v T' es ⟨⟨s2, rfl⟩, rfl, m2, rfl, hm2⟩
    (simp -dsimp +decide (disch := omega) only [vy, vz, vze, va, vc, vu, vl, Tryd.ty, Tryd.en, ↓reduceIte, Nat.reduceSub, Nat.reduceAdd, Nat.reduceMul, Nat.reduceLT, Int.reduceAdd, Int.reduceSub, Int.reduceToNat, Int.cast_ofNat_Int, vi, getO_i, tb, tg])
    refine (medadj_ok (a := a + (b - a) / 4 * 3) (s := s2) hi hn ⟨by omega, by omega⟩ hB).mono ?_
    rintro v T' es ⟨⟨s3, rfl⟩, rfl, m3, rfl, hm3⟩
    (simp -dsimp +decide (disch := omega) only [vy, vz, vze, va, vc, vu, vl, Tryd.ty, Tryd.en, ↓reduceIte, Nat.reduceSub, Nat.reduceAdd, Nat.reduceMul, Nat.reduceLT, Int.reduceAdd, Int.reduceSub, Int.reduceToNat, Int.cast_ofNat_Int, vi, getO_i, tb, tg])
    refine (median_ok (a := m1) (b := m2) (c := m3) (s := s3) hi hn (by omega) (by omega) (by omega)).mono ?_
    rintro v T' es ⟨⟨s4, rfl⟩, rfl, m4, rfl, hm4⟩
    (simp -dsimp +decide (disch := omega) only [vy, vz, vze, va, vc, vu, vl, Tryd.ty, Tryd.en, ↓reduceIte, Nat.reduceSub, Nat.reduceAdd, Nat.reduceMul, Nat.reduceLT, Int.reduceAdd, Int.reduceSub, Int.reduceToNat, Int.cast_ofNat_Int, vi, getO_i, tb, tg])
    refine CondP.split (fun h => ?_) (fun h => ?_)
    · (simp -dsimp +decide (disch := omega) only [vy, vz, vze, va, vc, vu, vl, Tryd.ty, Tryd.en, ↓reduceIte, Nat.reduceSub, Nat.reduceAdd, Nat.reduceMul, Nat.reduceLT, Int.reduceAdd, Int.reduceSub, Int.reduceToNat, Int.cast_ofNat_Int, vi, getO_i, tb, tg])
      exact Vw.cut ⟨⟨m4, _, rfl, by omega, by omega⟩, rfl, rfl⟩
    · (simp -dsimp +decide (disch := omega) only [vy, vz, vze, va, vc, vu, vl, Tryd.ty, Tryd.en, ↓reduceIte, Nat.reduceSub, Nat.reduceAdd, Nat.reduceMul, Nat.reduceLT, Int.reduceAdd, Int.reduceSub, Int.reduceToNat, Int.cast_ofNat_Int, vi, getO_i, tb, tg])
      refine CondP.split (fun h => ?_) (fun h => ?_)
      · (simp -dsimp +decide (disch := omega) only [vy, vz, vze, va, vc, vu, vl, Tryd.ty, Tryd.en, ↓reduceIte, Nat.reduceSub, Nat.reduceAdd, Nat.reduceMul, Nat.reduceLT, Int.reduceAdd, Int.reduceSub, Int.reduceToNat, Int.cast_ofNat_Int, vi, getO_i, tb, tg])
        exact Vw.cut ⟨⟨m4, _, rfl, by omega, by omega⟩, rfl, rfl⟩
      · (simp -dsimp +decide (disch := omega) only [vy, vz, vze, va, vc, vu, vl, Tryd.ty, Tryd.en, ↓reduceIte, Nat.reduceSub, Nat.reduceAdd, Nat.reduceMul, Nat.reduceLT, Int.reduceAdd, Int.reduceSub, Int.reduceToNat, Int.cast_ofNat_Int, vi, getO_i, tb, tg])
        exact Vw.cut ⟨⟨m4, _, rfl, by omega, by omega⟩, rfl, rfl⟩
  · (simp -dsimp +decide (disch := omega) only [vy, vz, vze, va, vc, vu, vl, Tryd.ty, Tryd.en, ↓reduceIte, Nat.reduceSub, Nat.reduceAdd, Nat.reduceMul, Nat.reduceLT, Int.reduceAdd, Int.reduceSub, Int.reduceToNat, Int.cast_ofNat_Int, vi, getO_i, tb, tg])
    refine (median_ok (a := a + (b - a) / 4) (b := a + (b - a) / 4 * 2) (c := a + (b - a) / 4 * 3) (s := 0) hi hn (by omega) (by omega) (by omega)).mono ?_
    rintro v T' es ⟨⟨s4, rfl⟩, rfl, m4, rfl, hm4⟩
    (simp -dsimp +decide (disch := omega) only [vy, vz, vze, va, vc, vu, vl, Tryd.ty, Tryd.en, ↓reduceIte, Nat.reduceSub, Nat.reduceAdd, Nat.reduceMul, Nat.reduceLT, Int.reduceAdd, Int.reduceSub, Int.reduceToNat, Int.cast_ofNat_Int, vi, getO_i, tb, tg])
    refine CondP.split (fun h => ?_) (fun h => ?_)
    · (simp -dsimp +decide (disch := omega) only [vy, vz, vze, va, vc, vu, vl, Tryd.ty, Tryd.en, ↓reduceIte, Nat.reduceSub, Nat.reduceAdd, Nat.reduceMul, Nat.reduceLT, Int.reduceAdd, Int.reduceSub, Int.reduceToNat, Int.cast_ofNat_Int, vi, getO_i, tb, tg])
      exact Vw.cut ⟨⟨m4, _, rfl, by omega, by omega⟩, rfl, rfl⟩
    · (simp -dsimp +decide (disch := omega) only [vy, vz, vze, va, vc, vu, vl, Tryd.ty, Tryd.en, ↓reduceIte, Nat.reduceSub, Nat.reduceAdd, Nat.reduceMul, Nat.reduceLT, Int.reduceAdd, Int.reduceSub, Int.reduceToNat, Int.cast_ofNat_Int, vi, getO_i, tb, tg])
      refine CondP.split (fun h => ?_) (fun h => ?_)
      · (simp -dsimp +decide (disch := omega) only [vy, vz, vze, va, vc, vu, vl, Tryd.ty, Tryd.en, ↓reduceIte, Nat.reduceSub, Nat.reduceAdd, Nat.reduceMul, Nat.reduceLT, Int.reduceAdd, Int.reduceSub, Int.reduceToNat, Int.cast_ofNat_Int, vi, getO_i, tb, tg])
        exact Vw.cut ⟨⟨m4, _, rfl, by omega, by omega⟩, rfl, rfl⟩
      · (simp -dsimp +decide (disch := omega) only [vy, vz, vze, va, vc, vu, vl, Tryd.ty, Tryd.en, ↓reduceIte, Nat.reduceSub, Nat.reduceAdd, Nat.reduceMul, Nat.reduceLT, Int.reduceAdd, Int.reduceSub, Int.reduceToNat, Int.cast_ofNat_Int, vi, getO_i, tb, tg])
        exact Vw.cut ⟨⟨m4, _, rfl, by omega, by omega⟩, rfl, rfl⟩
end Go.Proofs.YtmcbdlefakjpoaaDoor

set_option linter.unusedSimpArgs false
set_option linter.unusedVariables false
set_option linter.unusedSectionVars false
namespace Go.Proofs.YtmcbdlefakjpoaaDoor
open Go.E
theorem scanUp_step {p : UInt64 → Bool} {d : Array UInt64} {j i : Nat} (h : i ≤ j) (hp : p d[i]! = true) : Sort.scanUp p d j i = Sort.scanUp p d j (i + 1) := by
  rw [Sort.scanUp, if_pos (by simp [h, hp])]
theorem scanUp_stop {p : UInt64 → Bool} {d : Array UInt64} {j i : Nat} (h : ¬ (i ≤ j ∧ p d[i]! = true)) : Sort.scanUp p d j i = i := by
  rw [Sort.scanUp, if_neg (by simpa using h)]
theorem scanDown_step {p : UInt64 → Bool} {d : Array UInt64} {j i : Nat} (h : i ≤ j) (h0 : 0 < j) (hp : p d[j]! = true) : Sort.scanDown p d i j = Sort.scanDown p d i (j - 1) := by
  cases j with
  | zero => omega
  | succ j => rw [Sort.scanDown, if_pos (by simp [h, hp])]; rfl
theorem scanDown_stop {p : UInt64 → Bool} {d : Array UInt64} {j i : Nat} (h : ¬ (i ≤ j ∧ p d[j]! = true)) : Sort.scanDown p d i j = j := by
  cases j with
  | zero => rfl
  | succ j => rw [Sort.scanDown, if_neg (by simpa using h)]
theorem swp_eq (d : Array UInt64) (x y : Nat) : (d.setIfInBounds x d[y]!).setIfInBounds y d[x]! = Sort.swp d x y := rfl
set_option maxRecDepth 8000 in
theorem parteq_ok {T : Tbl} {i a b pv n : Nat} {d : Array UInt64} (hi : i < T.length) (hn : d.size = n) (hab : a ≤ pv ∧ pv < b) (hb : b ≤ n) (hB : n ≤ 1099511627776) :
    CallA Tryd.prog Tryd.G 56 [.sl i 0 n, wint (a : Int), wint (b : Int), wint (pv : Int)] (TB T i d) fun v T' es => v = wint ((Sort.partitionEqual ltU d a b pv).1 : Int) ∧ T' = TB T i (Sort.partitionEqual ltU d a b pv).2 ∧ es = [(i, false)] := by
  have tg := TB_get hi
  have e1 : (a : Int) + 1 = ((a + 1 : Nat) : Int) := by omega
  have e2 : (b : Int) - 1 = ((b - 1 : Nat) : Int) := by omega
  refine CallA.enterV 11 Tryd.func56 Tryd.ntmps56 (congrArg Array.toList Tryd.results56) rfl ⟨by simp, by simp⟩ (by kernel_rfl) (by kernel_rfl) ?_
  (simp -dsimp +decide only [vy, vz, vze, va, vc, vu, vl, Tryd.ty, Tryd.en, ↓reduceIte, Nat.reduceSub, Nat.reduceAdd, Nat.reduceMul, Nat.reduceLT, Int.reduceAdd, Int.reduceSub, Int.reduceToNat, Int.cast_ofNat_Int])
  (simp -dsimp +decide (disch := omega) only [vy, vz, vze, va, vc, vu, vl, Tryd.ty, Tryd.en, ↓reduceIte, Nat.reduceSub, Nat.reduceAdd, Nat.reduceMul, Nat.reduceLT, Int.reduceAdd, Int.reduceSub, Int.reduceToNat, Int.cast_ofNat_Int, vi, getO_i, tg])
  have hne := D_ne d (by omega)
  refine SemA.drawS (.fl 0 (.fl 1 (.fl 2 (.fl 3 (.fl 4 (.fl 5 (.fl 6 (.fl 7 (.fl 8 (.fl 9 (.fl 10 (.fl 11 (.fl 12 (.sq 13 (.fl 14 (.sq 15 .nil)))))))))))))))) Tryd.mixed (by kernel_rfl) ?_
  (simp -dsimp +decide (disch := omega) only [vy, vz, vze, va, vc, vu, vl, Tryd.ty, Tryd.en, ↓reduceIte, Nat.reduceSub, Nat.reduceAdd, Nat.reduceMul, Nat.reduceLT, Int.reduceAdd, Int.reduceSub, Int.reduceToNat, Int.cast_ofNat_Int, vi, getO_i, tg, hne, D_sv, D_ns, D_ls, D_at, D_len, Array.size_setIfInBounds])
  repeat (refine And.intro (by omega) ?_)
  (simp -dsimp +decide (disch := omega) only [vy, vz, vze, va, vc, vu, vl, Tryd.ty, Tryd.en, ↓reduceIte, Nat.reduceSub, Nat.reduceAdd, Nat.reduceMul, Nat.reduceLT, Int.reduceAdd, Int.reduceSub, Int.reduceToNat, Int.cast_ofNat_Int, vi, getO_i, tg, swp_eq, e1, e2])
  obtain ⟨d0, hd0⟩ : ∃ d0, d0 = Sort.swp d a pv := ⟨_, rfl⟩
  have hs0 : d0.size = n := by rw [hd0, Sort.size_swp, hn]
  rw [← hd0]
  refine SemA.loopL (fun s : Nat × Nat × Array UInt64 => [(0, .sl i 0 n), (1, wint (a : Int)), (9, wint (s.1 : Int)), (10, wint (s.2.1 : Int))]) (fun s => TB T i s.2.2) (fun s => a < s.1 ∧ s.1 ≤ s.2.1 + 1 ∧ s.2.1 < b ∧ s.2.2.size = n ∧ Sort.partEqLoop ltU a s.1 s.2.1 s.2.2 = Sort.partitionEqual ltU d a b pv) (fun s => s.2.1 + 1 - s.1) (a + 1, b - 1, d0) [(i, false)] (by kernel_rfl) ⟨by simp, by dsimp only; omega, by dsimp only; omega, hs0, by rw [hd0]; rfl⟩ (by (simp -dsimp +decide (disch := omega) only [vy, vz, vze, va, vc, vu, vl, Tryd.ty, Tryd.en, ↓reduceIte, Nat.reduceSub, Nat.reduceAdd, Nat.reduceMul, Nat.reduceLT, Int.reduceAdd, Int.reduceSub, Int.reduceToNat, Int.cast_ofNat_Int, vi, getO_i])) rfl (by simp) ?_
  rintro ⟨i1, j1, d1⟩ g ⟨hi1, hij, hjb, hs1, hpl⟩
  dsimp only at hi1 hij hjb hs1 hpl
  rw [Sort.partEqLoop_eq] at hpl
  (simp -dsimp +decide (disch := omega) only [vy, vz, vze, va, vc, vu, vl, Tryd.ty, Tryd.en, ↓reduceIte, Nat.reduceSub, Nat.reduceAdd, Nat.reduceMul, Nat.reduceLT, Int.reduceAdd, Int.reduceSub, Int.reduceToNat, Int.cast_ofNat_Int, vi, getO_i, tg])
  refine SemA.loopE (fun x : Nat => [(0, .sl i 0 n), (1, wint (a : Int)), (9, wint ((x : Nat) : Int)), (10, wint ((j1 : Nat) : Int))]) (fun _ => TB T i d1) (fun x => i1 ≤ x ∧ x ≤ j1 + 1 ∧ Sort.scanUp (fun z => !ltU d1[a]! z) d1 (j1) (x) = Sort.scanUp (fun z => !ltU d1[a]! z) d1 (j1) (i1)) (fun x => j1 + 1 - x) (i1) [(i, false)] 2 (fun x : Nat => [(0, .sl i 0 n), (1, wint (a : Int)), (9, wint ((x : Nat) : Int)), (10, wint ((j1 : Nat) : Int))]) (fun _ => TB T i d1) (fun x => i1 ≤ x ∧ x ≤ j1 + 1 ∧ x = Sort.scanUp (fun z => !ltU d1[a]! z) d1 (j1) (i1) ∧ (x ≤ j1 → ltU d1[a]! d1[x]! = true)) ⟨by omega, by omega, rfl⟩ (by (simp -dsimp +decide (disch := omega) only [vy, vz, vze, va, vc, vu, vl, Tryd.ty, Tryd.en, ↓reduceIte, Nat.reduceSub, Nat.reduceAdd, Nat.reduceMul, Nat.reduceLT, Int.reduceAdd, Int.reduceSub, Int.reduceToNat, Int.cast_ofNat_Int, vi, getO_i])) rfl (by simp) ?_ ?_
  · rintro x gx ⟨hx1, hx2, hx3⟩
    refine SemA.of (by kernel_rfl) ?_
    (simp -dsimp +decide (disch := omega) only [vy, vz, vze, va, vc, vu, vl, Tryd.ty, Tryd.en, ↓reduceIte, Nat.reduceSub, Nat.reduceAdd, Nat.reduceMul, Nat.reduceLT, Int.reduceAdd, Int.reduceSub, Int.reduceToNat, Int.cast_ofNat_Int, vi, getO_i, tg])
    by_cases hcx : x ≤ j1
    · have hle : (((x : Nat) : Int) ≤ ((j1 : Nat) : Int)) = True := by simp; omega
      have hne := D_ne d1 (by omega)
      refine SemA.drawS (.fl 0 (.fl 1 (.fl 2 (.fl 3 (.fl 4 (.fl 5 (.fl 6 (.fl 7 (.fl 8 (.fl 9 (.fl 10 (.fl 11 (.sq 12 (.fl 13 (.fl 14 .nil))))))))))))))) Tryd.mixed (by kernel_rfl) ?_
      (simp -dsimp +decide (disch := omega) only [vy, vz, vze, va, vc, vu, vl, Tryd.ty, Tryd.en, ↓reduceIte, Nat.reduceSub, Nat.reduceAdd, Nat.reduceMul, Nat.reduceLT, Int.reduceAdd, Int.reduceSub, Int.reduceToNat, Int.cast_ofNat_Int, vi, getO_i, tg, hle, hne, D_at])
      repeat (refine And.intro (by omega) ?_)
      refine less_ok.det ?_
      (simp -dsimp +decide (disch := omega) only [vy, vz, vze, va, vc, vu, vl, Tryd.ty, Tryd.en, ↓reduceIte, Nat.reduceSub, Nat.reduceAdd, Nat.reduceMul, Nat.reduceLT, Int.reduceAdd, Int.reduceSub, Int.reduceToNat, Int.cast_ofNat_Int, vi, getO_i, tg])
      by_cases hl : ltU d1[a]! d1[x]! = false
      · rw [hl]
        (simp -dsimp +decide (disch := omega) only [vy, vz, vze, va, vc, vu, vl, Tryd.ty, Tryd.en, ↓reduceIte, Nat.reduceSub, Nat.reduceAdd, Nat.reduceMul, Nat.reduceLT, Int.reduceAdd, Int.reduceSub, Int.reduceToNat, Int.cast_ofNat_Int, vi, getO_i, tg])
        exact ⟨x + 1, ⟨⟨by omega, by omega, by rw [← hx3]; exact (scanUp_step (p := (fun z => !ltU d1[a]! z)) hcx (by simp [hl])).symm⟩, by omega⟩, rfl⟩
      · have hl : ltU d1[a]! d1[x]! = true := by simpa using hl
        rw [hl]
        (simp -dsimp +decide (disch := omega) only [vy, vz, vze, va, vc, vu, vl, Tryd.ty, Tryd.en, ↓reduceIte, Nat.reduceSub, Nat.reduceAdd, Nat.reduceMul, Nat.reduceLT, Int.reduceAdd, Int.reduceSub, Int.reduceToNat, Int.cast_ofNat_Int, vi, getO_i, tg])
        exact ⟨x, ⟨by omega, by omega, by rw [← hx3]; exact (scanUp_stop (p := (fun z => !ltU d1[a]! z)) (d := d1) (j := j1) (i := x) (by simp [hl])).symm, fun _ => hl⟩, rfl⟩
    · have hle : (((x : Nat) : Int) ≤ ((j1 : Nat) : Int)) = False := by simp; omega
      refine SemA.drawS (.fl 0 (.fl 1 (.fl 2 (.fl 3 (.fl 4 (.fl 5 (.fl 6 (.fl 7 (.fl 8 (.fl 9 (.fl 10 (.fl 11 (.sq 12 (.fl 13 (.fl 14 .nil))))))))))))))) Tryd.mixed (by kernel_rfl) ?_
      (simp -dsimp +decide (disch := omega) only [vy, vz, vze, va, vc, vu, vl, Tryd.ty, Tryd.en, ↓reduceIte, Nat.reduceSub, Nat.reduceAdd, Nat.reduceMul, Nat.reduceLT, Int.reduceAdd, Int.reduceSub, Int.reduceToNat, Int.cast_ofNat_Int, vi, getO_i, tg, hle])
      exact ⟨x, ⟨by omega, by omega, by rw [← hx3]; exact (scanUp_stop (p := (fun z => !ltU d1[a]! z)) (d := d1) (j := j1) (i := x) (by omega)).symm, fun h => absurd h hcx⟩, rfl⟩
  · rintro x gx tmpx ⟨hx1, hx2, hx3, hx4⟩
    (simp -dsimp +decide (disch := omega) only [vy, vz, vze, va, vc, vu, vl, Tryd.ty, Tryd.en, ↓reduceIte, Nat.reduceSub, Nat.reduceAdd, Nat.reduceMul, Nat.reduceLT, Int.reduceAdd, Int.reduceSub, Int.reduceToNat, Int.cast_ofNat_Int, vi, getO_i, tg])
    refine SemA.loopE (fun y : Nat => [(0, .sl i 0 n), (1, wint (a : Int)), (9, wint ((x : Nat) : Int)), (10, wint ((y : Nat) : Int))]) (fun _ => TB T i d1) (fun y => x ≤ y + 1 ∧ y ≤ j1 ∧ Sort.scanDown (fun z => ltU d1[a]! z) d1 (x) (y) = Sort.scanDown (fun z => ltU d1[a]! z) d1 (x) (j1)) (fun y => y + 1 - (x)) (j1) [(i, false)] 4 (fun y : Nat => [(0, .sl i 0 n), (1, wint (a : Int)), (9, wint ((x : Nat) : Int)), (10, wint ((y : Nat) : Int))]) (fun _ => TB T i d1) (fun y => x ≤ y + 1 ∧ y ≤ j1 ∧ y = Sort.scanDown (fun z => ltU d1[a]! z) d1 (x) (j1) ∧ (x ≤ y → ltU d1[a]! d1[y]! = false)) ⟨by omega, by omega, rfl⟩ (by (simp -dsimp +decide (disch := omega) only [vy, vz, vze, va, vc, vu, vl, Tryd.ty, Tryd.en, ↓reduceIte, Nat.reduceSub, Nat.reduceAdd, Nat.reduceMul, Nat.reduceLT, Int.reduceAdd, Int.reduceSub, Int.reduceToNat, Int.cast_ofNat_Int, vi, getO_i])) rfl (by simp) ?_ ?_
    · rintro y gy ⟨hy1, hy2, hy3⟩
      refine SemA.of (by kernel_rfl) ?_
      (simp -dsimp +decide (disch := omega) only [vy, vz, vze, va, vc, vu, vl, Tryd.ty, Tryd.en, ↓reduceIte, Nat.reduceSub, Nat.reduceAdd, Nat.reduceMul, Nat.reduceLT, Int.reduceAdd, Int.reduceSub, Int.reduceToNat, Int.cast_ofNat_Int, vi, getO_i, tg])
      by_cases hcy : x ≤ y
      · have hle : (((x : Nat) : Int) ≤ ((y : Nat) : Int)) = True := by simp; omega
        have hne := D_ne d1 (by omega)
        refine SemA.drawS (.fl 0 (.fl 1 (.fl 2 (.fl 3 (.fl 4 (.fl 5 (.fl 6 (.fl 7 (.fl 8 (.fl 9 (.fl 10 (.fl 11 (.sq 12 (.fl 13 .nil)))))))))))))) Tryd.mixed (by kernel_rfl) ?_
        (simp -dsimp +decide (disch := omega) only [vy, vz, vze, va, vc, vu, vl, Tryd.ty, Tryd.en, ↓reduceIte, Nat.reduceSub, Nat.reduceAdd, Nat.reduceMul, Nat.reduceLT, Int.reduceAdd, Int.reduceSub, Int.reduceToNat, Int.cast_ofNat_Int, vi, getO_i, tg, hle, hne, D_at])
        repeat (refine And.intro (by omega) ?_)
        refine less_ok.det ?_
        (simp -dsimp +decide (disch := omega) only [vy, vz, vze, va, vc, vu, vl, Tryd.ty, Tryd.en, ↓reduceIte, Nat.reduceSub, Nat.reduceAdd, Nat.reduceMul, Nat.reduceLT, Int.reduceAdd, Int.reduceSub, Int.reduceToNat, Int.cast_ofNat_Int, vi, getO_i, tg])
        by_cases hl : ltU d1[a]! d1[y]! = true
        · rw [hl]
          (simp -dsimp +decide (disch := omega) only [vy, vz, vze, va, vc, vu, vl, Tryd.ty, Tryd.en, ↓reduceIte, Nat.reduceSub, Nat.reduceAdd, Nat.reduceMul, Nat.reduceLT, Int.reduceAdd, Int.reduceSub, Int.reduceToNat, Int.cast_ofNat_Int, vi, getO_i, tg])
          exact ⟨y - 1, ⟨⟨by omega, by omega, by rw [← hy3]; exact (scanDown_step (p := (fun z => ltU d1[a]! z)) hcy (by omega) (by simp [hl])).symm⟩, by omega⟩, (by rw [show ((y - 1 : Nat) : Int) = (y : Int) - 1 by omega])⟩
        · have hl : ltU d1[a]! d1[y]! = false := by simpa using hl
          rw [hl]
          (simp -dsimp +decide (disch := omega) only [vy, vz, vze, va, vc, vu, vl, Tryd.ty, Tryd.en, ↓reduceIte, Nat.reduceSub, Nat.reduceAdd, Nat.reduceMul, Nat.reduceLT, Int.reduceAdd, Int.reduceSub, Int.reduceToNat, Int.cast_ofNat_Int, vi, getO_i, tg])
          exact ⟨y, ⟨by omega, by omega, by rw [← hy3]; exact (scanDown_stop (p := (fun z => ltU d1[a]! z)) (d := d1) (i := x) (j := y) (by simp [hl])).symm, fun _ => hl⟩, rfl⟩
      · have hle : (((x : Nat) : Int) ≤ ((y : Nat) : Int)) = False := by simp; omega
        refine SemA.drawS (.fl 0 (.fl 1 (.fl 2 (.fl 3 (.fl 4 (.fl 5 (.fl 6 (.fl 7 (.fl 8 (.fl 9 (.fl 10 (.fl 11 (.sq 12 (.fl 13 .nil)))))))))))))) Tryd.mixed (by kernel_rfl) ?_
        (simp -dsimp +decide (disch := omega) only [vy, vz, vze, va, vc, vu, vl, Tryd.ty, Tryd.en, ↓reduceIte, Nat.reduceSub, Nat.reduceAdd, Nat.reduceMul, Nat.reduceLT, Int.reduceAdd, Int.reduceSub, Int.reduceToNat, Int.cast_ofNat_Int, vi, getO_i, tg, hle])
        exact ⟨y, ⟨by omega, by omega, by rw [← hy3]; exact (scanDown_stop (p := (fun z => ltU d1[a]! z)) (d := d1) (i := x) (j := y) (by omega)).symm, fun h => absurd h hcy⟩, rfl⟩
    · rintro y gy tmpy ⟨hy1, hy2, hy3, hy4⟩
      rw [← hx3, ← hy3] at hpl
      (simp -dsimp +decide (disch := omega) only [vy, vz, vze, va, vc, vu, vl, Tryd.ty, Tryd.en, ↓reduceIte, Nat.reduceSub, Nat.reduceAdd, Nat.reduceMul, Nat.reduceLT, Int.reduceAdd, Int.reduceSub, Int.reduceToNat, Int.cast_ofNat_Int, vi, getO_i, tg])
      refine CondP.dec (fun h => ?_) (fun h => ?_)
      · rw [if_pos (by omega)] at hpl
        (simp -dsimp +decide (disch := omega) only [vy, vz, vze, va, vc, vu, vl, Tryd.ty, Tryd.en, ↓reduceIte, Nat.reduceSub, Nat.reduceAdd, Nat.reduceMul, Nat.reduceLT, Int.reduceAdd, Int.reduceSub, Int.reduceToNat, Int.cast_ofNat_Int, vi, getO_i, tg])
        refine Vw.eff (E' := [(i, false)]) (by simp) ?_
        refine Vw.done ⟨?_, ?_, rfl⟩
        · rw [← hpl]; rfl
        · rw [← hpl]
      · rw [if_neg (by omega)] at hpl
        (simp -dsimp +decide (disch := omega) only [vy, vz, vze, va, vc, vu, vl, Tryd.ty, Tryd.en, ↓reduceIte, Nat.reduceSub, Nat.reduceAdd, Nat.reduceMul, Nat.reduceLT, Int.reduceAdd, Int.reduceSub, Int.reduceToNat, Int.cast_ofNat_Int, vi, getO_i, tg])
        have hne := D_ne d1 (by omega)
        refine SemA.drawS (.fl 0 (.fl 1 (.fl 2 (.fl 3 (.fl 4 (.fl 5 (.fl 6 (.fl 7 (.fl 8 (.fl 9 (.fl 10 (.fl 11 (.fl 12 (.sq 13 (.fl 14 (.sq 15 .nil)))))))))))))))) Tryd.mixed (by kernel_rfl) ?_
        (simp -dsimp +decide (disch := omega) only [vy, vz, vze, va, vc, vu, vl, Tryd.ty, Tryd.en, ↓reduceIte, Nat.reduceSub, Nat.reduceAdd, Nat.reduceMul, Nat.reduceLT, Int.reduceAdd, Int.reduceSub, Int.reduceToNat, Int.cast_ofNat_Int, vi, getO_i, tg, hne, D_sv, D_ns, D_ls, D_at, D_len, Array.size_setIfInBounds])
        repeat (refine And.intro (by omega) ?_)
        (simp -dsimp +decide (disch := omega) only [vy, vz, vze, va, vc, vu, vl, Tryd.ty, Tryd.en, ↓reduceIte, Nat.reduceSub, Nat.reduceAdd, Nat.reduceMul, Nat.reduceLT, Int.reduceAdd, Int.reduceSub, Int.reduceToNat, Int.cast_ofNat_Int, vi, getO_i, tg, swp_eq])
        and_intros
        all_goals first | omega | (simp; done) | skip
        have hxy : x ≠ y := by
          rintro rfl
          have h1 := hx4 (by omega)
          have h2 := hy4 (by omega)
          rw [h1] at h2; cases h2
        refine ⟨(x + 1, y - 1, Sort.swp d1 x y), ⟨by dsimp only; omega, by dsimp only; omega, by dsimp only; omega, by rw [Sort.size_swp]; exact hs1, hpl⟩, by dsimp only; omega, ?_, rfl⟩
        dsimp only
        exact ⟨by rw [show ((x + 1 : Nat) : Int) = (x : Int) + 1 by omega], by rw [show ((y - 1 : Nat) : Int) = (y : Int) - 1 by omega]⟩
set_option maxRecDepth 8000 in
theorem part_ok {T : Tbl} {i a b pv n : Nat} {d : Array UInt64} (hi : i < T.length) (hn : d.size = n) (hab : a ≤ pv ∧ pv < b) (hb : b ≤ n) (hB : n ≤ 1099511627776) :
    CallA Tryd.prog Tryd.G 57 [.sl i 0 n, wint (a : Int), wint (b : Int), wint (pv : Int)] (TB T i d) fun v T' es => v = .tu [wint ((Sort.partition ltU d a b pv).1 : Int), .p (.bool (Sort.partition ltU d a b pv).2.1)] ∧ T' = TB T i (Sort.partition ltU d a b pv).2.2 ∧ es = [(i, false)] := by
  have tg := TB_get hi
  have e1 : (a : Int) + 1 = ((a + 1 : Nat) : Int) := by omega
  have e2 : (b : Int) - 1 = ((b - 1 : Nat) : Int) := by omega
  refine CallA.enterV 12 Tryd.func57 Tryd.ntmps57 (congrArg Array.toList Tryd.results57) rfl ⟨by simp, by simp⟩ (by kernel_rfl) (by kernel_rfl) ?_
  (simp -dsimp +decide only [vy, vz, vze, va, vc, vu, vl, Tryd.ty, Tryd.en, ↓reduceIte, Nat.reduceSub, Nat.reduceAdd, Nat.reduceMul, Nat.reduceLT, Int.reduceAdd, Int.reduceSub, Int.reduceToNat, Int.cast_ofNat_Int])
  (simp -dsimp +decide (disch := omega) only [vy, vz, vze, va, vc, vu, vl, Tryd.ty, Tryd.en, ↓reduceIte, Nat.reduceSub, Nat.reduceAdd, Nat.reduceMul, Nat.reduceLT, Int.reduceAdd, Int.reduceSub, Int.reduceToNat, Int.cast_ofNat_Int, vi, getO_i, tg])
  have hne := D_ne d (by omega)
  refine SemA.drawS (.fl 0 (.fl 1 (.fl 2 (.fl 3 (.fl 4 (.fl 5 (.fl 6 (.fl 7 (.fl 8 (.fl 9 (.fl 10 (.fl 11 (.fl 12 (.sq 13 (.fl 14 (.sq 15 .nil)))))))))))))))) Tryd.mixed (by kernel_rfl) ?_
  (simp -dsimp +decide (disch := omega) only [vy, vz, vze, va, vc, vu, vl, Tryd.ty, Tryd.en, ↓reduceIte, Nat.reduceSub, Nat.reduceAdd, Nat.reduceMul, Nat.reduceLT, Int.reduceAdd, Int.reduceSub, Int.reduceToNat, Int.cast_ofNat_Int, vi, getO_i, tg, hne, D_sv, D_ns, D_ls, D_at, D_len, Array.size_setIfInBounds])
  repeat (refine And.intro (by omega) ?_)
  (simp -dsimp +decide (disch := omega) only [vy, vz, vze, va, vc, vu, vl, Tryd.ty, Tryd.en, ↓reduceIte, Nat.reduceSub, Nat.reduceAdd, Nat.reduceMul, Nat.reduceLT, Int.reduceAdd, Int.reduceSub, Int.reduceToNat, Int.cast_ofNat_Int, vi, getO_i, tg, swp_eq, e1, e2])
  obtain ⟨d0, hd0⟩ : ∃ d0, d0 = Sort.swp d a pv := ⟨_, rfl⟩
  have hs0 : d0.size = n := by rw [hd0, Sort.size_swp, hn]
  obtain ⟨b1, hb1⟩ : ∃ b1, b1 = b - 1 := ⟨_, rfl⟩
  obtain ⟨a1, ha1⟩ : ∃ a1, a1 = a + 1 := ⟨_, rfl⟩
  have hpt : Sort.partition ltU d a b pv = (let i := Sort.scanUp (fun z => ltU z d0[a]!) d0 b1 a1; let j := Sort.scanDown (fun z => !ltU z d0[a]!) d0 i b1; if i > j then (j, true, Sort.swp d0 j a) else let r := Sort.partLoop ltU a (i + 1) (j - 1) (Sort.swp d0 i j); (r.1, false, Sort.swp r.2 r.1 a)) := by rw [hd0, hb1, ha1]; rfl
  dsimp only at hpt
  rw [← hd0, ← hb1, ← ha1]
  refine SemA.loopE (fun x : Nat => [(0, .sl i 0 n), (1, wint (a : Int)), (10, wint ((x : Nat) : Int)), (11, wint ((b1 : Nat) : Int))]) (fun _ => TB T i d0) (fun x => a1 ≤ x ∧ x ≤ b1 + 1 ∧ Sort.scanUp (fun z => ltU z d0[a]!) d0 (b1) (x) = Sort.scanUp (fun z => ltU z d0[a]!) d0 (b1) (a1)) (fun x => b1 + 1 - x) (a1) [(i, false)] 0 (fun x : Nat => [(0, .sl i 0 n), (1, wint (a : Int)), (10, wint ((x : Nat) : Int)), (11, wint ((b1 : Nat) : Int))]) (fun _ => TB T i d0) (fun x => a1 ≤ x ∧ x ≤ b1 + 1 ∧ x = Sort.scanUp (fun z => ltU z d0[a]!) d0 (b1) (a1) ∧ (x ≤ b1 → ltU d0[x]! d0[a]! = false)) ⟨by omega, by omega, rfl⟩ (by (simp -dsimp +decide (disch := omega) only [vy, vz, vze, va, vc, vu, vl, Tryd.ty, Tryd.en, ↓reduceIte, Nat.reduceSub, Nat.reduceAdd, Nat.reduceMul, Nat.reduceLT, Int.reduceAdd, Int.reduceSub, Int.reduceToNat, Int.cast_ofNat_Int, vi, getO_i])) rfl (by simp) ?_ ?_
  · rintro x gx ⟨hx1, hx2, hx3⟩
    refine SemA.of (by kernel_rfl) ?_
    (simp -dsimp +decide (disch := omega) only [vy, vz, vze, va, vc, vu, vl, Tryd.ty, Tryd.en, ↓reduceIte, Nat.reduceSub, Nat.reduceAdd, Nat.reduceMul, Nat.reduceLT, Int.reduceAdd, Int.reduceSub, Int.reduceToNat, Int.cast_ofNat_Int, vi, getO_i, tg])
    by_cases hcx : x ≤ b1
    · have hle : (((x : Nat) : Int) ≤ ((b1 : Nat) : Int)) = True := by simp; omega
      have hne := D_ne d0 (by omega)
      refine SemA.drawS (.fl 0 (.fl 1 (.fl 2 (.fl 3 (.fl 4 (.fl 5 (.fl 6 (.fl 7 (.fl 8 (.fl 9 (.fl 10 (.fl 11 (.sq 12 (.fl 13 .nil)))))))))))))) Tryd.mixed (by kernel_rfl) ?_
      (simp -dsimp +decide (disch := omega) only [vy, vz, vze, va, vc, vu, vl, Tryd.ty, Tryd.en, ↓reduceIte, Nat.reduceSub, Nat.reduceAdd, Nat.reduceMul, Nat.reduceLT, Int.reduceAdd, Int.reduceSub, Int.reduceToNat, Int.cast_ofNat_Int, vi, getO_i, tg, hle, hne, D_at])
      repeat (refine And.intro (by omega) ?_)
      refine less_ok.det ?_
      (simp -dsimp +decide (disch := omega) only [vy, vz, vze, va, vc, vu, vl, Tryd.ty, Tryd.en, ↓reduceIte, Nat.reduceSub, Nat.reduceAdd, Nat.reduceMul, Nat.reduceLT, Int.reduceAdd, Int.reduceSub, Int.reduceToNat, Int.cast_ofNat_Int, vi, getO_i, tg])
      by_cases hl : ltU d0[x]! d0[a]! = true
      · rw [hl]
        (simp -dsimp +decide (disch := omega) only [vy, vz, vze, va, vc, vu, vl, Tryd.ty, Tryd.en, ↓reduceIte, Nat.reduceSub, Nat.reduceAdd, Nat.reduceMul, Nat.reduceLT, Int.reduceAdd, Int.reduceSub, Int.reduceToNat, Int.cast_ofNat_Int, vi, getO_i, tg])
        exact ⟨x + 1, ⟨⟨by omega, by omega, by rw [← hx3]; exact (scanUp_step (p := (fun z => ltU z d0[a]!)) hcx (by simp [hl])).symm⟩, by omega⟩, rfl⟩
      · have hl : ltU d0[x]! d0[a]! = false := by simpa using hl
        rw [hl]
        (simp -dsimp +decide (disch := omega) only [vy, vz, vze, va, vc, vu, vl, Tryd.ty, Tryd.en, ↓reduceIte, Nat.reduceSub, Nat.reduceAdd, Nat.reduceMul, Nat.reduceLT, Int.reduceAdd, Int.reduceSub, Int.reduceToNat, Int.cast_ofNat_Int, vi, getO_i, tg])
        exact ⟨x, ⟨by omega, by omega, by rw [← hx3]; exact (scanUp_stop (p := (fun z => ltU z d0[a]!)) (d := d0) (j := b1) (i := x) (by simp [hl])).symm, fun _ => hl⟩, rfl⟩
    · have hle : (((x : Nat) : Int) ≤ ((b1 : Nat) : Int)) = False := by simp; omega
      refine SemA.drawS (.fl 0 (.fl 1 (.fl 2 (.fl 3 (.fl 4 (.fl 5 (.fl 6 (.fl 7 (.fl 8 (.fl 9 (.fl 10 (.fl 11 (.sq 12 (.fl 13 .nil)))))))))))))) Tryd.mixed (by kernel_rfl) ?_
      (simp -dsimp +decide (disch := omega) only [vy, vz, vze, va, vc, vu, vl, Tryd.ty, Tryd.en, ↓reduceIte, Nat.reduceSub, Nat.reduceAdd, Nat.reduceMul, Nat.reduceLT, Int.reduceAdd, Int.reduceSub, Int.reduceToNat, Int.cast_ofNat_Int, vi, getO_i, tg, hle])
      exact ⟨x, ⟨by omega, by omega, by rw [← hx3]; exact (scanUp_stop (p := (fun z => ltU z d0[a]!)) (d := d0) (j := b1) (i := x) (by omega)).symm, fun h => absurd h hcx⟩, rfl⟩
  · rintro x gx tmpx ⟨hx1, hx2, hx3, hx4⟩
    (simp -dsimp +decide (disch := omega) only [vy, vz, vze, va, vc, vu, vl, Tryd.ty, Tryd.en, ↓reduceIte, Nat.reduceSub, Nat.reduceAdd, Nat.reduceMul, Nat.reduceLT, Int.reduceAdd, Int.reduceSub, Int.reduceToNat, Int.cast_ofNat_Int, vi, getO_i, tg])
    refine SemA.loopE (fun y : Nat => [(0, .sl i 0 n), (1, wint (a : Int)), (10, wint ((x : Nat) : Int)), (11, wint ((y : Nat) : Int))]) (fun _ => TB T i d0) (fun y => x ≤ y + 1 ∧ y ≤ b1 ∧ Sort.scanDown (fun z => !ltU z d0[a]!) d0 (x) (y) = Sort.scanDown (fun z => !ltU z d0[a]!) d0 (x) (b1)) (fun y => y + 1 - (x)) (b1) [(i, false)] 2 (fun y : Nat => [(0, .sl i 0 n), (1, wint (a : Int)), (10, wint ((x : Nat) : Int)), (11, wint ((y : Nat) : Int))]) (fun _ => TB T i d0) (fun y => x ≤ y + 1 ∧ y ≤ b1 ∧ y = Sort.scanDown (fun z => !ltU z d0[a]!) d0 (x) (b1) ∧ (x ≤ y → ltU d0[y]! d0[a]! = true)) ⟨by omega, by omega, rfl⟩ (by (simp -dsimp +decide (disch := omega) only [vy, vz, vze, va, vc, vu, vl, Tryd.ty, Tryd.en, ↓reduceIte, Nat.reduceSub, Nat.reduceAdd, Nat.reduceMul, Nat.reduceLT, Int.reduceAdd, Int.reduceSub, Int.reduceToNat, Int.cast_ofNat_Int, vi, getO_i])) rfl (by simp) ?_ ?_
    · rintro y gy ⟨hy1, hy2, hy3⟩
      refine SemA.of (by kernel_rfl) ?_
      (simp -dsimp +decide (disch := omega) only [vy, vz, vze, va, vc, vu, vl, Tryd.ty, Tryd.en, ↓reduceIte, Nat.reduceSub, Nat.reduceAdd, Nat.reduceMul, Nat.reduceLT, Int.reduceAdd, Int.reduceSub, Int.reduceToNat, Int.cast_ofNat_Int, vi, getO_i, tg])
      by_cases hcy : x ≤ y
      · have hle : (((x : Nat) : Int) ≤ ((y : Nat) : Int)) = True := by simp; omega
        have hne := D_ne d0 (by omega)
        refine SemA.drawS (.fl 0 (.fl 1 (.fl 2 (.fl 3 (.fl 4 (.fl 5 (.fl 6 (.fl 7 (.fl 8 (.fl 9 (.fl 10 (.fl 11 (.sq 12 (.fl 13 (.fl 14 .nil))))))))))))))) Tryd.mixed (by kernel_rfl) ?_
        (simp -dsimp +decide (disch := omega) only [vy, vz, vze, va, vc, vu, vl, Tryd.ty, Tryd.en, ↓reduceIte, Nat.reduceSub, Nat.reduceAdd, Nat.reduceMul, Nat.reduceLT, Int.reduceAdd, Int.reduceSub, Int.reduceToNat, Int.cast_ofNat_Int, vi, getO_i, tg, hle, hne, D_at])
        repeat (refine And.intro (by omega) ?_)
        refine less_ok.det ?_
        (simp -dsimp +decide (disch := omega) only [vy, vz, vze, va, vc, vu, vl, Tryd.ty, Tryd.en, ↓reduceIte, Nat.reduceSub, Nat.reduceAdd, Nat.reduceMul, Nat.reduceLT, Int.reduceAdd, Int.reduceSub, Int.reduceToNat, Int.cast_ofNat_Int, vi, getO_i, tg])
        by_cases hl : ltU d0[y]! d0[a]! = false
        · rw [hl]
          (simp -dsimp +decide (disch := omega) only [vy, vz, vze, va, vc, vu, vl, Tryd.ty, Tryd.en, ↓reduceIte, Nat.reduceSub, Nat.reduceAdd, Nat.reduceMul, Nat.reduceLT, Int.reduceAdd, Int.reduceSub, Int.reduceToNat, Int.cast_ofNat_Int, vi, getO_i, tg])
          exact ⟨y - 1, ⟨⟨by omega, by omega, by rw [← hy3]; exact (scanDown_step (p := (fun z => !ltU z d0[a]!)) hcy (by omega) (by simp [hl])).symm⟩, by omega⟩, (by rw [show ((y - 1 : Nat) : Int) = (y : Int) - 1 by omega])⟩
        · have hl : ltU d0[y]! d0[a]! = true := by simpa using hl
          rw [hl]
          (simp -dsimp +decide (disch := omega) only [vy, vz, vze, va, vc, vu, vl, Tryd.ty, Tryd.en, ↓reduceIte, Nat.reduceSub, Nat.reduceAdd, Nat.reduceMul, Nat.reduceLT, Int.reduceAdd, Int.reduceSub, Int.reduceToNat, Int.cast_ofNat_Int, vi, getO_i, tg])
          exact ⟨y, ⟨by omega, by omega, by rw [← hy3]; exact (scanDown_stop (p := (fun z => !ltU z d0[a]!)) (d := d0) (i := x) (j := y) (by simp [hl])).symm, fun _ => hl⟩, rfl⟩
      · have hle : (((x : Nat) : Int) ≤ ((y : Nat) : Int)) = False := by simp; omega
        refine SemA.drawS (.fl 0 (.fl 1 (.fl 2 (.fl 3 (.fl 4 (.fl 5 (.fl 6 (.fl 7 (.fl 8 (.fl 9 (.fl 10 (.fl 11 (.sq 12 (.fl 13 (.fl 14 .nil))))))))))))))) Tryd.mixed (by kernel_rfl) ?_
        (simp -dsimp +decide (disch := omega) only [vy, vz, vze, va, vc, vu, vl, Tryd.ty, Tryd.en, ↓reduceIte, Nat.reduceSub, Nat.reduceAdd, Nat.reduceMul, Nat.reduceLT, Int.reduceAdd, Int.reduceSub, Int.reduceToNat, Int.cast_ofNat_Int, vi, getO_i, tg, hle])
        exact ⟨y, ⟨by omega, by omega, by rw [← hy3]; exact (scanDown_stop (p := (fun z => !ltU z d0[a]!)) (d := d0) (i := x) (j := y) (by omega)).symm, fun h => absurd h hcy⟩, rfl⟩
    · rintro y gy tmpy ⟨hy1, hy2, hy3, hy4⟩
      rw [← hx3, ← hy3] at hpt
      (simp -dsimp +decide (disch := omega) only [vy, vz, vze, va, vc, vu, vl, Tryd.ty, Tryd.en, ↓reduceIte, Nat.reduceSub, Nat.reduceAdd, Nat.reduceMul, Nat.reduceLT, Int.reduceAdd, Int.reduceSub, Int.reduceToNat, Int.cast_ofNat_Int, vi, getO_i, tg])
      refine CondP.dec (fun h => ?_) (fun h => ?_)
      · rw [if_pos (by omega)] at hpt
        (simp -dsimp +decide (disch := omega) only [vy, vz, vze, va, vc, vu, vl, Tryd.ty, Tryd.en, ↓reduceIte, Nat.reduceSub, Nat.reduceAdd, Nat.reduceMul, Nat.reduceLT, Int.reduceAdd, Int.reduceSub, Int.reduceToNat, Int.cast_ofNat_Int, vi, getO_i, tg])
        have hne := D_ne d0 (by omega)
        refine SemA.drawS (.fl 0 (.fl 1 (.fl 2 (.fl 3 (.fl 4 (.fl 5 (.fl 6 (.fl 7 (.fl 8 (.fl 9 (.fl 10 (.fl 11 (.fl 12 (.sq 13 (.fl 14 (.sq 15 .nil)))))))))))))))) Tryd.mixed (by kernel_rfl) ?_
        (simp -dsimp +decide (disch := omega) only [vy, vz, vze, va, vc, vu, vl, Tryd.ty, Tryd.en, ↓reduceIte, Nat.reduceSub, Nat.reduceAdd, Nat.reduceMul, Nat.reduceLT, Int.reduceAdd, Int.reduceSub, Int.reduceToNat, Int.cast_ofNat_Int, vi, getO_i, tg, hne, D_sv, D_ns, D_ls, D_at, D_len, Array.size_setIfInBounds])
        repeat (refine And.intro (by omega) ?_)
        (simp -dsimp +decide (disch := omega) only [vy, vz, vze, va, vc, vu, vl, Tryd.ty, Tryd.en, ↓reduceIte, Nat.reduceSub, Nat.reduceAdd, Nat.reduceMul, Nat.reduceLT, Int.reduceAdd, Int.reduceSub, Int.reduceToNat, Int.cast_ofNat_Int, vi, getO_i, tg, swp_eq])
        refine Vw.eff (E' := [(i, false)]) (by simp) ?_
        rw [hpt]
        exact Vw.done ⟨rfl, rfl, rfl⟩
      · rw [if_neg (by omega)] at hpt
        (simp -dsimp +decide (disch := omega) only [vy, vz, vze, va, vc, vu, vl, Tryd.ty, Tryd.en, ↓reduceIte, Nat.reduceSub, Nat.reduceAdd, Nat.reduceMul, Nat.reduceLT, Int.reduceAdd, Int.reduceSub, Int.reduceToNat, Int.cast_ofNat_Int, vi, getO_i, tg])
        have hne := D_ne d0 (by omega)
        refine SemA.drawS (.fl 0 (.fl 1 (.fl 2 (.fl 3 (.fl 4 (.fl 5 (.fl 6 (.fl 7 (.fl 8 (.fl 9 (.fl 10 (.fl 11 (.fl 12 (.sq 13 (.fl 14 (.sq 15 .nil)))))))))))))))) Tryd.mixed (by kernel_rfl) ?_
        (simp -dsimp +decide (disch := omega) only [vy, vz, vze, va, vc, vu, vl, Tryd.ty, Tryd.en, ↓reduceIte, Nat.reduceSub, Nat.reduceAdd, Nat.reduceMul, Nat.reduceLT, Int.reduceAdd, Int.reduceSub, Int.reduceToNat, Int.cast_ofNat_Int, vi, getO_i, tg, hne, D_sv, D_ns, D_ls, D_at, D_len, Array.size_setIfInBounds])
        repeat (refine And.intro (by omega) ?_)
        (simp -dsimp +decide (disch := omega) only [vy, vz, vze, va, vc, vu, vl, Tryd.ty, Tryd.en, ↓reduceIte, Nat.reduceSub, Nat.reduceAdd, Nat.reduceMul, Nat.reduceLT, Int.reduceAdd, Int.reduceSub, Int.reduceToNat, Int.cast_ofNat_Int, vi, getO_i, tg, swp_eq])
        have hxy : x ≠ y := by
          rintro rfl
          have h1 := hx4 (by omega)
          have h2 := hy4 (by omega)
          rw [h1] at h2; cases h2
        refine SemA.loopL (fun s : Nat × Nat × Array UInt64 => [(0, .sl i 0 n), (1, wint (a : Int)), (10, wint (s.1 : Int)), (11, wint (s.2.1 : Int))]) (fun s => TB T i s.2.2) (fun s => a < s.1 ∧ s.1 ≤ s.2.1 + 1 ∧ s.2.1 < b ∧ s.2.2.size = n ∧ Sort.partLoop ltU a s.1 s.2.1 s.2.2 = Sort.partLoop ltU a (x + 1) (y - 1) (Sort.swp d0 x y)) (fun s => s.2.1 + 1 - s.1) (x + 1, y - 1, Sort.swp d0 x y) [(i, false)] (by kernel_rfl) ⟨by dsimp only; omega, by dsimp only; omega, by dsimp only; omega, by rw [Sort.size_swp]; exact hs0, rfl⟩ ?_ rfl (by simp) ?_
        · (simp -dsimp +decide (disch := omega) only [vy, vz, vze, va, vc, vu, vl, Tryd.ty, Tryd.en, ↓reduceIte, Nat.reduceSub, Nat.reduceAdd, Nat.reduceMul, Nat.reduceLT, Int.reduceAdd, Int.reduceSub, Int.reduceToNat, Int.cast_ofNat_Int, vi, getO_i])
          exact ⟨by rw [show ((x + 1 : Nat) : Int) = (x : Int) + 1 by omega], by rw [show ((y - 1 : Nat) : Int) = (y : Int) - 1 by omega]⟩
        rintro ⟨i1, j1, d1⟩ g ⟨hi1, hij, hjb, hs1, hpl⟩
        dsimp only at hi1 hij hjb hs1 hpl
        rw [Sort.partLoop_eq] at hpl
        (simp -dsimp +decide (disch := omega) only [vy, vz, vze, va, vc, vu, vl, Tryd.ty, Tryd.en, ↓reduceIte, Nat.reduceSub, Nat.reduceAdd, Nat.reduceMul, Nat.reduceLT, Int.reduceAdd, Int.reduceSub, Int.reduceToNat, Int.cast_ofNat_Int, vi, getO_i, tg])
        refine SemA.loopE (fun x2 : Nat => [(0, .sl i 0 n), (1, wint (a : Int)), (10, wint ((x2 : Nat) : Int)), (11, wint ((j1 : Nat) : Int))]) (fun _ => TB T i d1) (fun x2 => i1 ≤ x2 ∧ x2 ≤ j1 + 1 ∧ Sort.scanUp (fun z => ltU z d1[a]!) d1 (j1) (x2) = Sort.scanUp (fun z => ltU z d1[a]!) d1 (j1) (i1)) (fun x2 => j1 + 1 - x2) (i1) [(i, false)] 6 (fun x2 : Nat => [(0, .sl i 0 n), (1, wint (a : Int)), (10, wint ((x2 : Nat) : Int)), (11, wint ((j1 : Nat) : Int))]) (fun _ => TB T i d1) (fun x2 => i1 ≤ x2 ∧ x2 ≤ j1 + 1 ∧ x2 = Sort.scanUp (fun z => ltU z d1[a]!) d1 (j1) (i1) ∧ (x2 ≤ j1 → ltU d1[x2]! d1[a]! = false)) ⟨by omega, by omega, rfl⟩ (by (simp -dsimp +decide (disch := omega) only [vy, vz, vze, va, vc, vu, vl, Tryd.ty, Tryd.en, ↓reduceIte, Nat.reduceSub, Nat.reduceAdd, Nat.reduceMul, Nat.reduceLT, Int.reduceAdd, Int.reduceSub, Int.reduceToNat, Int.cast_ofNat_Int, vi, getO_i])) rfl (by simp) ?_ ?_
        · rintro x2 gx2 ⟨hx21, hx22, hx23⟩
          refine SemA.of (by kernel_rfl) ?_
          (simp -dsimp +decide (disch := omega) only [vy, vz, vze, va, vc, vu, vl, Tryd.ty, Tryd.en, ↓reduceIte, Nat.reduceSub, Nat.reduceAdd, Nat.reduceMul, Nat.reduceLT, Int.reduceAdd, Int.reduceSub, Int.reduceToNat, Int.cast_ofNat_Int, vi, getO_i, tg])
          by_cases hcx2 : x2 ≤ j1
          · have hle : (((x2 : Nat) : Int) ≤ ((j1 : Nat) : Int)) = True := by simp; omega
            have hne := D_ne d1 (by omega)
            refine SemA.drawS (.fl 0 (.fl 1 (.fl 2 (.fl 3 (.fl 4 (.fl 5 (.fl 6 (.fl 7 (.fl 8 (.fl 9 (.fl 10 (.fl 11 (.sq 12 (.fl 13 .nil)))))))))))))) Tryd.mixed (by kernel_rfl) ?_
            (simp -dsimp +decide (disch := omega) only [vy, vz, vze, va, vc, vu, vl, Tryd.ty, Tryd.en, ↓reduceIte, Nat.reduceSub, Nat.reduceAdd, Nat.reduceMul, Nat.reduceLT, Int.reduceAdd, Int.reduceSub, Int.reduceToNat, Int.cast_ofNat_Int, vi, getO_i, tg, hle, hne, D_at])
            repeat (refine And.intro (by omega) ?_)
            refine less_ok.det ?_
            (simp -dsimp +decide (disch := omega) only [vy, vz, vze, va, vc, vu, vl, Tryd.ty, Tryd.en, ↓reduceIte, Nat.reduceSub, Nat.reduceAdd, Nat.reduceMul, Nat.reduceLT, Int.reduceAdd, Int.reduceSub, Int.reduceToNat, Int.cast_ofNat_Int, vi, getO_i, tg])
            by_cases hl : ltU d1[x2]! d1[a]! = true
            · rw [hl]
              (simp -dsimp +decide (disch := omega) only [vy, vz, vze, va, vc, vu, vl, Tryd.ty, Tryd.en, ↓reduceIte, Nat.reduceSub, Nat.reduceAdd, Nat.reduceMul, Nat.reduceLT, Int.reduceAdd, Int.reduceSub, Int.reduceToNat, Int.cast_ofNat_Int, vi, getO_i, tg])
              exact ⟨x2 + 1, ⟨⟨by omega, by omega, by rw [← hx23]; exact (scanUp_step (p := (fun z => ltU z d1[a]!)) hcx2 (by simp [hl])).symm⟩, by omega⟩, rfl⟩
            · have hl : ltU d1[x2]! d1[a]! = false := by simpa using hl
              rw [hl]
              (simp -dsimp +decide (disch := omega) only [vy, vz, vze, va, vc, vu, vl, Tryd.ty, Tryd.en, ↓reduceIte, Nat.reduceSub, Nat.reduceAdd, Nat.reduceMul, Nat.reduceLT, Int.reduceAdd, Int.reduceSub, Int.reduceToNat, Int.cast_ofNat_Int, vi, getO_i, tg])
              exact ⟨x2, ⟨by omega, by omega, by rw [← hx23]; exact (scanUp_stop (p := (fun z => ltU z d1[a]!)) (d := d1) (j := j1) (i := x2) (by simp [hl])).symm, fun _ => hl⟩, rfl⟩
          · have hle : (((x2 : Nat) : Int) ≤ ((j1 : Nat) : Int)) = False := by simp; omega
            refine SemA.drawS (.fl 0 (.fl 1 (.fl 2 (.fl 3 (.fl 4 (.fl 5 (.fl 6 (.fl 7 (.fl 8 (.fl 9 (.fl 10 (.fl 11 (.sq 12 (.fl 13 .nil)))))))))))))) Tryd.mixed (by kernel_rfl) ?_
            (simp -dsimp +decide (disch := omega) only [vy, vz, vze, va, vc, vu, vl, Tryd.ty, Tryd.en, ↓reduceIte, Nat.reduceSub, Nat.reduceAdd, Nat.reduceMul, Nat.reduceLT, Int.reduceAdd, Int.reduceSub, Int.reduceToNat, Int.cast_ofNat_Int, vi, getO_i, tg, hle])
            exact ⟨x2, ⟨by omega, by omega, by rw [← hx23]; exact (scanUp_stop (p := (fun z => ltU z d1[a]!)) (d := d1) (j := j1) (i := x2) (by omega)).symm, fun h => absurd h hcx2⟩, rfl⟩
        · rintro x2 gx2 tmpx2 ⟨hx21, hx22, hx23, hx24⟩
          (simp -dsimp +decide (disch := omega) only [vy, vz, vze, va, vc, vu, vl, Tryd.ty, Tryd.en, ↓reduceIte, Nat.reduceSub, Nat.reduceAdd, Nat.reduceMul, Nat.reduceLT, Int.reduceAdd, Int.reduceSub, Int.reduceToNat, Int.cast_ofNat_Int, vi, getO_i, tg])
          refine SemA.loopE (fun y2 : Nat => [(0, .sl i 0 n), (1, wint (a : Int)), (10, wint ((x2 : Nat) : Int)), (11, wint ((y2 : Nat) : Int))]) (fun _ => TB T i d1) (fun y2 => x2 ≤ y2 + 1 ∧ y2 ≤ j1 ∧ Sort.scanDown (fun z => !ltU z d1[a]!) d1 (x2) (y2) = Sort.scanDown (fun z => !ltU z d1[a]!) d1 (x2) (j1)) (fun y2 => y2 + 1 - (x2)) (j1) [(i, false)] 8 (fun y2 : Nat => [(0, .sl i 0 n), (1, wint (a : Int)), (10, wint ((x2 : Nat) : Int)), (11, wint ((y2 : Nat) : Int))]) (fun _ => TB T i d1) (fun y2 => x2 ≤ y2 + 1 ∧ y2 ≤ j1 ∧ y2 = Sort.scanDown (fun z => !ltU z d1[a]!) d1 (x2) (j1) ∧ (x2 ≤ y2 → ltU d1[y2]! d1[a]! = true)) ⟨by omega, by omega, rfl⟩ (by (simp -dsimp +decide (disch := omega) only [vy, vz, vze, va, vc, vu, vl, Tryd.ty, Tryd.en, ↓reduceIte, Nat.reduceSub, Nat.reduceAdd, Nat.reduceMul, Nat.reduceLT, Int.reduceAdd, Int.reduceSub, Int.reduceToNat, Int.cast_ofNat_Int, vi, getO_i])) rfl (by simp) ?_ ?_
          · rintro y2 gy2 ⟨hy21, hy22, hy23⟩
            refine SemA.of (by kernel_rfl) ?_
            (simp -dsimp +decide (disch := omega) only [vy, vz, vze, va, vc, vu, vl, Tryd.ty, Tryd.en, ↓reduceIte, Nat.reduceSub, Nat.reduceAdd, Nat.reduceMul, Nat.reduceLT, Int.reduceAdd, Int.reduceSub, Int.reduceToNat, Int.cast_ofNat_Int, vi, getO_i, tg])
            by_cases hcy2 : x2 ≤ y2
            · have hle : (((x2 : Nat) : Int) ≤ ((y2 : Nat) : Int)) = True := by simp; omega
              have hne := D_ne d1 (by omega)
              refine SemA.drawS (.fl 0 (.fl 1 (.fl 2 (.fl 3 (.fl 4 (.fl 5 (.fl 6 (.fl 7 (.fl 8 (.fl 9 (.fl 10 (.fl 11 (.sq 12 (.fl 13 (.fl 14 .nil))))))))))))))) Tryd.mixed (by kernel_rfl) ?_
              (simp -dsimp +decide (disch := omega) only [vy, vz, vze, va, vc, vu, vl, Tryd.ty, Tryd.en, ↓reduceIte, Nat.reduceSub, Nat.reduceAdd, Nat.reduceMul, Nat.reduceLT, Int.reduceAdd, Int.reduceSub, Int.reduceToNat, Int.cast_ofNat_Int, vi, getO_i, tg, hle, hne, D_at])
              repeat (refine And.intro (by omega) ?_)
              refine less_ok.det ?_
              (simp -dsimp +decide (disch := omega) only [vy, vz, vze, va, vc, vu, vl, Tryd.ty, Tryd.en, ↓reduceIte, Nat.reduceSub, Nat.reduceAdd, Nat.reduceMul, Nat.reduceLT, Int.reduceAdd, Int.reduceSub, Int.reduceToNat, Int.cast_ofNat_Int, vi, getO_i, tg])
              by_cases hl : ltU d1[y2]! d1[a]! = false
              · rw [hl]
                (simp -dsimp +decide (disch := omega) only [vy, vz, vze, va, vc, vu, vl, Tryd.ty, Tryd.en, ↓reduceIte, Nat.reduceSub, Nat.reduceAdd, Nat.reduceMul, Nat.reduceLT, Int.reduceAdd, Int.reduceSub, Int.reduceToNat, Int.cast_ofNat_Int, vi, getO_i, tg])
                exact ⟨y2 - 1, ⟨⟨by omega, by omega, by rw [← hy23]; exact (scanDown_step (p := (fun z => !ltU z d1[a]!)) hcy2 (by omega) (by simp [hl])).symm⟩, by omega⟩, (by rw [show ((y2 - 1 : Nat) : Int) = (y2 : Int) - 1 by omega])⟩
              · have hl : ltU d1[y2]! d1[a]! = true := by simpa using hl
                rw [hl]
                (simp -dsimp +decide (disch := omega) only [vy, vz, vze, va, vc, vu, vl, Tryd.ty, Tryd.en, ↓reduceIte, Nat.reduceSub, Nat.reduceAdd, Nat.reduceMul, Nat.reduceLT, Int.reduceAdd, Int.reduceSub, Int.reduceToNat, Int.cast_ofNat_Int, vi, getO_i, tg])
                exact ⟨y2, ⟨by omega, by omega, by rw [← hy23]; exact (scanDown_stop (p := (fun z => !ltU z d1[a]!)) (d := d1) (i := x2) (j := y2) (by simp [hl])).symm, fun _ => hl⟩, rfl⟩
            · have hle : (((x2 : Nat) : Int) ≤ ((y2 : Nat) : Int)) = False := by simp; omega
              refine SemA.drawS (.fl 0 (.fl 1 (.fl 2 (.fl 3 (.fl 4 (.fl 5 (.fl 6 (.fl 7 (.fl 8 (.fl 9 (.fl 10 (.fl 11 (.sq 12 (.fl 13 (.fl 14 .nil))))))))))))))) Tryd.mixed (by kernel_rfl) ?_
              (simp -dsimp +decide (disch := omega) only [vy, vz, vze, va, vc, vu, vl, Tryd.ty, Tryd.en, ↓reduceIte, Nat.reduceSub, Nat.reduceAdd, Nat.reduceMul, Nat.reduceLT, Int.reduceAdd, Int.reduceSub, Int.reduceToNat, Int.cast_ofNat_Int, vi, getO_i, tg, hle])
              exact ⟨y2, ⟨by omega, by omega, by rw [← hy23]; exact (scanDown_stop (p := (fun z => !ltU z d1[a]!)) (d := d1) (i := x2) (j := y2) (by omega)).symm, fun h => absurd h hcy2⟩, rfl⟩
          · rintro y2 gy2 tmpy2 ⟨hy21, hy22, hy23, hy24⟩
            rw [← hx23, ← hy23] at hpl
            (simp -dsimp +decide (disch := omega) only [vy, vz, vze, va, vc, vu, vl, Tryd.ty, Tryd.en, ↓reduceIte, Nat.reduceSub, Nat.reduceAdd, Nat.reduceMul, Nat.reduceLT, Int.reduceAdd, Int.reduceSub, Int.reduceToNat, Int.cast_ofNat_Int, vi, getO_i, tg])
            refine CondP.dec (fun h => ?_) (fun h => ?_)
            · rw [if_pos (by omega)] at hpl
              (simp -dsimp +decide (disch := omega) only [vy, vz, vze, va, vc, vu, vl, Tryd.ty, Tryd.en, ↓reduceIte, Nat.reduceSub, Nat.reduceAdd, Nat.reduceMul, Nat.reduceLT, Int.reduceAdd, Int.reduceSub, Int.reduceToNat, Int.cast_ofNat_Int, vi, getO_i, tg])
              have hne := D_ne d1 (by omega)
              refine SemA.drawS (.fl 0 (.fl 1 (.fl 2 (.fl 3 (.fl 4 (.fl 5 (.fl 6 (.fl 7 (.fl 8 (.fl 9 (.fl 10 (.fl 11 (.fl 12 (.sq 13 (.fl 14 (.sq 15 .nil)))))))))))))))) Tryd.mixed (by kernel_rfl) ?_
              (simp -dsimp +decide (disch := omega) only [vy, vz, vze, va, vc, vu, vl, Tryd.ty, Tryd.en, ↓reduceIte, Nat.reduceSub, Nat.reduceAdd, Nat.reduceMul, Nat.reduceLT, Int.reduceAdd, Int.reduceSub, Int.reduceToNat, Int.cast_ofNat_Int, vi, getO_i, tg, hne, D_sv, D_ns, D_ls, D_at, D_len, Array.size_setIfInBounds])
              repeat (refine And.intro (by omega) ?_)
              (simp -dsimp +decide (disch := omega) only [vy, vz, vze, va, vc, vu, vl, Tryd.ty, Tryd.en, ↓reduceIte, Nat.reduceSub, Nat.reduceAdd, Nat.reduceMul, Nat.reduceLT, Int.reduceAdd, Int.reduceSub, Int.reduceToNat, Int.cast_ofNat_Int, vi, getO_i, tg, swp_eq])
              refine Vw.eff (E' := [(i, false)]) (by simp) ?_
              rw [hpt, ← hpl]
              exact Vw.done ⟨rfl, rfl, rfl⟩
            · rw [if_neg (by omega)] at hpl
              (simp -dsimp +decide (disch := omega) only [vy, vz, vze, va, vc, vu, vl, Tryd.ty, Tryd.en, ↓reduceIte, Nat.reduceSub, Nat.reduceAdd, Nat.reduceMul, Nat.reduceLT, Int.reduceAdd, Int.reduceSub, Int.reduceToNat, Int.cast_ofNat_Int, vi, getO_i, tg])
              have hne := D_ne d1 (by omega)
              refine SemA.drawS (.fl 0 (.fl 1 (.fl 2 (.fl 3 (.fl 4 (.fl 5 (.fl 6 (.fl 7 (.fl 8 (.fl 9 (.fl 10 (.fl 11 (.fl 12 (.sq 13 (.fl 14 (.sq 15 .nil)))))))))))))))) Tryd.mixed (by kernel_rfl) ?_
              (simp -dsimp +decide (disch := omega) only [vy, vz, vze, va, vc, vu, vl, Tryd.ty, Tryd.en, ↓reduceIte, Nat.reduceSub, Nat.reduceAdd, Nat.reduceMul, Nat.reduceLT, Int.reduceAdd, Int.reduceSub, Int.reduceToNat, Int.cast_ofNat_Int, vi, getO_i, tg, hne, D_sv, D_ns, D_ls, D_at, D_len, Array.size_setIfInBounds])
              repeat (refine And.intro (by omega) ?_)
              (simp -dsimp +decide (disch := omega) only [vy, vz, vze, va, vc, vu, vl, Tryd.ty, Tryd.en, ↓reduceIte, Nat.reduceSub, Nat.reduceAdd, Nat.reduceMul, Nat.reduceLT, Int.reduceAdd, Int.reduceSub, Int.reduceToNat, Int.cast_ofNat_Int, vi, getO_i, tg, swp_eq])
              and_intros
              all_goals first | omega | (simp; done) | skip
              have hxy : x2 ≠ y2 := by
                rintro rfl
                have h1 := hx24 (by omega)
                have h2 := hy24 (by omega)
                rw [h1] at h2; cases h2
              refine ⟨(x2 + 1, y2 - 1, Sort.swp d1 x2 y2), ⟨by dsimp only; omega, by dsimp only; omega, by dsimp only; omega, by rw [Sort.size_swp]; exact hs1, hpl⟩, by dsimp only; omega, ?_, rfl⟩
              dsimp only
              exact ⟨by rw [show ((x2 + 1 : Nat) : Int) = (x2 : Int) + 1 by omega], by rw [show ((y2 - 1 : Nat) : Int) = (y2 : Int) - 1 by omega]⟩
end Go.Proofs.YtmcbdlefakjpoaaDoor

set_option linter.unusedSimpArgs false
set_option linter.unusedVariables false
set_option linter.unusedSectionVars false
namespace Go.Proofs.YtmcbdlefakjpoaaDoor
open Go.E
theorem bl_shift (k n : Nat) (h : 2 ^ k ≤ n) : Sort.bitsLen n = Sort.bitsLen (n / 2 ^ k) + k := by
  have h0 : n ≠ 0 := by have := Nat.two_pow_pos k; omega
  have h1 : n / 2 ^ k ≠ 0 := by
    have := Nat.div_pos h (Nat.two_pow_pos k); omega
  unfold Sort.bitsLen
  rw [if_neg h0, if_neg h1]
  have : n.log2 = (n / 2 ^ k).log2 + k := by
    refine (Nat.log2_eq_iff h0).2 ⟨?_, ?_⟩
    · have := Nat.log2_self_le h1
      rw [Nat.pow_add]
      exact Nat.le_trans (Nat.mul_le_mul_right _ this) (Nat.div_mul_le_self n (2 ^ k))
    · have := Nat.lt_log2_self (n := n / 2 ^ k)
      have h2 : n < (n / 2 ^ k + 1) * 2 ^ k := by
        have := Nat.lt_div_mul_add (a := n) (Nat.two_pow_pos k)
        rw [Nat.succ_mul]; exact this
      rw [show (n / 2 ^ k).log2 + k + 1 = (n / 2 ^ k).log2 + 1 + k by omega, Nat.pow_add]
      exact Nat.lt_of_lt_of_le h2 (Nat.mul_le_mul_right _ this)
  omega
theorem getO_tab {s : ByteArray} (hs : ∀ k, k < 256 → s[k]? = some (UInt8.ofNat (Sort.bitsLen k))) {n : Nat} (hn : n < 256) {K : UInt8 → Prop} (hk : K (UInt8.ofNat (Sort.bitsLen n))) : getO s[n]? K := by
  rw [hs n hn]; exact hk
theorem bl_le (n : Nat) (h : n < 256) : (UInt8.ofNat (Sort.bitsLen n)).toNat = Sort.bitsLen n := by
  have : Sort.bitsLen n ≤ 8 := (Sort.bitsLen_le_iff n 8).2 h
  simp; omega
set_option maxRecDepth 8000 in
theorem len64_ok {T : Tbl} {x : UInt64} : CallA Tryd.prog Tryd.G 59 [w64 x] T fun v T' es => v = wint (Sort.bitsLen x.toNat : Int) ∧ T' = T ∧ es = [] := by
  have hx := x.toNat_lt
  refine CallA.enterZ 3 Tryd.func59 Tryd.ntmps59 (congrArg Array.toList Tryd.results59) rfl ⟨by simp, by simp⟩ (by kernel_rfl) ?_
  refine SemA.cutAt [] (fun s : UInt64 × Nat => [(0, w64 s.1), (2, wint (s.2 : Int))]) (fun _ => T) (fun s => s.1.toNat < 4294967296 ∧ Sort.bitsLen s.1.toNat + s.2 = Sort.bitsLen x.toNat ∧ s.2 ≤ 32) [] 2 rfl (by kernel_rfl) ?_ ?_
  · (simp -dsimp +decide only [vy, vz, vze, va, vc, vu, vl, Tryd.ty, Tryd.en, ↓reduceIte, Nat.reduceSub, Nat.reduceAdd, Nat.reduceMul, Nat.reduceLT, Int.reduceAdd, Int.reduceSub, Int.reduceToNat, Int.cast_ofNat_Int])
    obtain ⟨y, hy⟩ : ∃ y, y = x := ⟨_, rfl⟩
    obtain ⟨m, hm⟩ : ∃ m : Nat, m = 0 := ⟨_, rfl⟩
    have hy2 : Sort.bitsLen y.toNat + m = Sort.bitsLen x.toNat := by rw [hy, hm]; rfl
    rw [← hy]
    have hyl := y.toNat_lt
    refine CondP.split (fun h => ?_) (fun h => ?_)
    · (simp -dsimp +decide (disch := omega) only [vy, vz, vze, va, vc, vu, vl, Tryd.ty, Tryd.en, ↓reduceIte, Nat.reduceSub, Nat.reduceAdd, Nat.reduceMul, Nat.reduceLT, Int.reduceAdd, Int.reduceSub, Int.reduceToNat, Int.cast_ofNat_Int, vi, getO_i])
      refine ⟨(u64_shr y 32, 32), ?_, rfl, rfl⟩
      rw [decide_eq_true_iff] at h
      have hk : (u64_shr y 32).toNat = y.toNat / 2 ^ 32 := by rw [u64_shr, if_pos (by omega), UInt64.toNat_shiftRight]; show y.toNat >>> 32 = _; rw [Nat.shiftRight_eq_div_pow]
      dsimp only
      rw [hk]
      refine ⟨by omega, ?_, by omega⟩
      rw [bl_shift 32 y.toNat (by omega)]
    · (simp -dsimp +decide (disch := omega) only [vy, vz, vze, va, vc, vu, vl, Tryd.ty, Tryd.en, ↓reduceIte, Nat.reduceSub, Nat.reduceAdd, Nat.reduceMul, Nat.reduceLT, Int.reduceAdd, Int.reduceSub, Int.reduceToNat, Int.cast_ofNat_Int, vi, getO_i])
      rw [decide_eq_false_iff_not] at h
      exact ⟨(y, 0), ⟨by dsimp only; omega, by dsimp only; omega, by dsimp only; omega⟩, rfl, rfl⟩
  rintro ⟨y, m⟩ g tmp ⟨hy1, hy2, hm⟩
  dsimp only at hy1 hy2 hm
  refine SemA.cutAt [] (fun s : UInt64 × Nat => [(0, w64 s.1), (2, wint (s.2 : Int))]) (fun _ => T) (fun s => s.1.toNat < 65536 ∧ Sort.bitsLen s.1.toNat + s.2 = Sort.bitsLen x.toNat ∧ s.2 ≤ 48) [] 1 rfl (by kernel_rfl) ?_ ?_
  · (simp -dsimp +decide (disch := omega) only [vy, vz, vze, va, vc, vu, vl, Tryd.ty, Tryd.en, ↓reduceIte, Nat.reduceSub, Nat.reduceAdd, Nat.reduceMul, Nat.reduceLT, Int.reduceAdd, Int.reduceSub, Int.reduceToNat, Int.cast_ofNat_Int, vi, getO_i])
    refine CondP.split (fun h => ?_) (fun h => ?_)
    · (simp -dsimp +decide (disch := omega) only [vy, vz, vze, va, vc, vu, vl, Tryd.ty, Tryd.en, ↓reduceIte, Nat.reduceSub, Nat.reduceAdd, Nat.reduceMul, Nat.reduceLT, Int.reduceAdd, Int.reduceSub, Int.reduceToNat, Int.cast_ofNat_Int, vi, getO_i])
      refine ⟨(u64_shr y 16, m + 16), ?_, rfl, rfl⟩
      rw [decide_eq_true_iff] at h
      have hk : (u64_shr y 16).toNat = y.toNat / 2 ^ 16 := by rw [u64_shr, if_pos (by omega), UInt64.toNat_shiftRight]; show y.toNat >>> 16 = _; rw [Nat.shiftRight_eq_div_pow]
      dsimp only
      rw [hk]
      refine ⟨by omega, ?_, by omega⟩
      rw [← hy2, bl_shift 16 y.toNat (by omega)]; omega
    · (simp -dsimp +decide (disch := omega) only [vy, vz, vze, va, vc, vu, vl, Tryd.ty, Tryd.en, ↓reduceIte, Nat.reduceSub, Nat.reduceAdd, Nat.reduceMul, Nat.reduceLT, Int.reduceAdd, Int.reduceSub, Int.reduceToNat, Int.cast_ofNat_Int, vi, getO_i])
      rw [decide_eq_false_iff_not] at h
      exact ⟨(y, m), ⟨by dsimp only; omega, hy2, by dsimp only; omega⟩, rfl, rfl⟩
  clear hy1 hy2 hm y m
  rintro ⟨y, m⟩ g tmp ⟨hy1, hy2, hm⟩
  dsimp only at hy1 hy2 hm
  refine SemA.cutAt [] (fun s : UInt64 × Nat => [(0, w64 s.1), (2, wint (s.2 : Int))]) (fun _ => T) (fun s => s.1.toNat < 256 ∧ Sort.bitsLen s.1.toNat + s.2 = Sort.bitsLen x.toNat ∧ s.2 ≤ 56) [] 1 rfl (by kernel_rfl) ?_ ?_
  · (simp -dsimp +decide (disch := omega) only [vy, vz, vze, va, vc, vu, vl, Tryd.ty, Tryd.en, ↓reduceIte, Nat.reduceSub, Nat.reduceAdd, Nat.reduceMul, Nat.reduceLT, Int.reduceAdd, Int.reduceSub, Int.reduceToNat, Int.cast_ofNat_Int, vi, getO_i])
    refine CondP.split (fun h => ?_) (fun h => ?_)
    · (simp -dsimp +decide (disch := omega) only [vy, vz, vze, va, vc, vu, vl, Tryd.ty, Tryd.en, ↓reduceIte, Nat.reduceSub, Nat.reduceAdd, Nat.reduceMul, Nat.reduceLT, Int.reduceAdd, Int.reduceSub, Int.reduceToNat, Int.cast_ofNat_Int, vi, getO_i])
      refine ⟨(u64_shr y 8, m + 8), ?_, rfl, rfl⟩
      rw [decide_eq_true_iff] at h
      have hk : (u64_shr y 8).toNat = y.toNat / 2 ^ 8 := by rw [u64_shr, if_pos (by omega), UInt64.toNat_shiftRight]; show y.toNat >>> 8 = _; rw [Nat.shiftRight_eq_div_pow]
      dsimp only
      rw [hk]
      refine ⟨by omega, ?_, by omega⟩
      rw [← hy2, bl_shift 8 y.toNat (by omega)]; omega
    · (simp -dsimp +decide (disch := omega) only [vy, vz, vze, va, vc, vu, vl, Tryd.ty, Tryd.en, ↓reduceIte, Nat.reduceSub, Nat.reduceAdd, Nat.reduceMul, Nat.reduceLT, Int.reduceAdd, Int.reduceSub, Int.reduceToNat, Int.cast_ofNat_Int, vi, getO_i])
      rw [decide_eq_false_iff_not] at h
      exact ⟨(y, m), ⟨by dsimp only; omega, hy2, by dsimp only; omega⟩, rfl, rfl⟩
  clear hy1 hy2 hm y m
  rintro ⟨y, m⟩ g tmp ⟨hy1, hy2, hm⟩
  dsimp only at hy1 hy2 hm
  refine SemA.of (by kernel_rfl) ?_
  have hy8 : y.toUInt8.toNat = y.toNat := by rw [UInt64.toNat_toUInt8]; omega
  (simp -dsimp +decide (disch := omega) only [vy, vz, vze, va, vc, vu, vl, Tryd.ty, Tryd.en, ↓reduceIte, Nat.reduceSub, Nat.reduceAdd, Nat.reduceMul, Nat.reduceLT, Int.reduceAdd, Int.reduceSub, Int.reduceToNat, Int.cast_ofNat_Int, vi, getO_i, hy8])
  refine getO_tab (by decide +kernel) hy1 ?_
  have hb := bl_le y.toNat hy1
  (simp -dsimp +decide (disch := omega) only [vy, vz, vze, va, vc, vu, vl, Tryd.ty, Tryd.en, ↓reduceIte, Nat.reduceSub, Nat.reduceAdd, Nat.reduceMul, Nat.reduceLT, Int.reduceAdd, Int.reduceSub, Int.reduceToNat, Int.cast_ofNat_Int, vi, getO_i, hb])
  refine Vw.done ⟨?_, rfl, rfl⟩
  have : Sort.bitsLen y.toNat ≤ 8 := (Sort.bitsLen_le_iff _ 8).2 hy1
  rw [IntWalk.i64_in (Sort.bitsLen y.toNat : Int) (by omega), IntWalk.i64_in _ (by omega), ← hy2]
  show AV.p (.int .i64 _) = AV.p (.int .i64 _)
  congr 2; omega
set_option maxRecDepth 8000 in
theorem len_ok {T : Tbl} {x : UInt64} : CallA Tryd.prog Tryd.G 37 [w64 x] T fun v T' es => v = wint (Sort.bitsLen x.toNat : Int) ∧ T' = T ∧ es = [] := by
  refine CallA.enterV 3 Tryd.func37 Tryd.ntmps37 (congrArg Array.toList Tryd.results37) rfl ⟨by simp, by simp⟩ (by kernel_rfl) (by kernel_rfl) ?_
  (simp -dsimp +decide only [vy, vz, vze, va, vc, vu, vl, Tryd.ty, Tryd.en, ↓reduceIte, Nat.reduceSub, Nat.reduceAdd, Nat.reduceMul, Nat.reduceLT, Int.reduceAdd, Int.reduceSub, Int.reduceToNat, Int.cast_ofNat_Int])
  refine (len64_ok (x := x)).det ?_
  (simp -dsimp +decide only [vy, vz, vze, va, vc, vu, vl, Tryd.ty, Tryd.en, ↓reduceIte, Nat.reduceSub, Nat.reduceAdd, Nat.reduceMul, Nat.reduceLT, Int.reduceAdd, Int.reduceSub, Int.reduceToNat, Int.cast_ofNat_Int])
  exact Vw.done ⟨rfl, rfl, rfl⟩
set_option maxRecDepth 8000 in
theorem npow_ok {T : Tbl} {n : Nat} (hn : n ≤ 1099511627776) : CallA Tryd.prog Tryd.G 68 [wint (n : Int)] T fun v T' es => v = w64 (u64_shl 1 (Sort.bitsLen n)) ∧ T' = T ∧ es = [] := by
  have h1 : (UInt64.ofInt (n : Int)).toNat = n := by rw [UInt64.ofInt]; simp; omega
  refine CallA.enterV 3 Tryd.func68 Tryd.ntmps68 (congrArg Array.toList Tryd.results68) rfl ⟨by simp, by simp⟩ (by kernel_rfl) (by kernel_rfl) ?_
  (simp -dsimp +decide only [vy, vz, vze, va, vc, vu, vl, Tryd.ty, Tryd.en, ↓reduceIte, Nat.reduceSub, Nat.reduceAdd, Nat.reduceMul, Nat.reduceLT, Int.reduceAdd, Int.reduceSub, Int.reduceToNat, Int.cast_ofNat_Int])
  refine (len_ok (x := UInt64.ofInt (n : Int))).det ?_
  (simp -dsimp +decide only [vy, vz, vze, va, vc, vu, vl, Tryd.ty, Tryd.en, ↓reduceIte, Nat.reduceSub, Nat.reduceAdd, Nat.reduceMul, Nat.reduceLT, Int.reduceAdd, Int.reduceSub, Int.reduceToNat, Int.cast_ofNat_Int, h1])
  exact ⟨by omega, Vw.done ⟨rfl, rfl, rfl⟩⟩
end Go.Proofs.YtmcbdlefakjpoaaDoor

set_option linter.unusedSimpArgs false
set_option linter.unusedVariables false
set_option linter.unusedSectionVars false
namespace Go.Proofs.YtmcbdlefakjpoaaDoor
open Go.E
theorem swp_eq' (d : Array UInt64) (x y : Nat) : (d.setIfInBounds x d[y]!).setIfInBounds y d[x]! = Sort.swp d x y := rfl
set_option maxRecDepth 8000 in
theorem rev_ok {T : Tbl} {i a b n : Nat} {d : Array UInt64} (hi : i < T.length) (hn : d.size = n) (hab : a ≤ b ∧ 0 < b) (hb : b ≤ n) (hB : n ≤ 1099511627776) :
    CallA Tryd.prog Tryd.G 54 [.sl i 0 n, wint (a : Int), wint (b : Int)] (TB T i d) fun v T' es => v = .tu [] ∧ T' = TB T i (Sort.reverseRange d a b) ∧ es = [(i, false)] := by
  have tg := TB_get hi
  have e2 : (b : Int) - 1 = ((b - 1 : Nat) : Int) := by omega
  refine CallA.enterV 8 Tryd.func54 Tryd.ntmps54 (congrArg Array.toList Tryd.results54) rfl ⟨by simp, by simp⟩ (by kernel_rfl) (by kernel_rfl) ?_
  (simp -dsimp +decide only [vy, vz, vze, va, vc, vu, vl, Tryd.ty, Tryd.en, ↓reduceIte, Nat.reduceSub, Nat.reduceAdd, Nat.reduceMul, Nat.reduceLT, Int.reduceAdd, Int.reduceSub, Int.reduceToNat, Int.cast_ofNat_Int])
  (simp -dsimp +decide (disch := omega) only [vy, vz, vze, va, vc, vu, vl, Tryd.ty, Tryd.en, ↓reduceIte, Nat.reduceSub, Nat.reduceAdd, Nat.reduceMul, Nat.reduceLT, Int.reduceAdd, Int.reduceSub, Int.reduceToNat, Int.cast_ofNat_Int, vi, getO_i, tg, e2])
  refine SemA.loopL (fun s : Nat × Nat × Array UInt64 => [(0, .sl i 0 n), (6, wint (s.1 : Int)), (7, wint (s.2.1 : Int))]) (fun s => TB T i s.2.2) (fun s => a ≤ s.1 ∧ s.1 ≤ b ∧ s.2.1 < b ∧ s.2.2.size = n ∧ Sort.reverseLoop s.1 s.2.1 s.2.2 = Sort.reverseRange d a b) (fun s => s.2.1 - s.1) (a, b - 1, d) [(i, false)] (by kernel_rfl) ⟨by simp, by dsimp only; omega, by dsimp only; omega, hn, rfl⟩ (by (simp -dsimp +decide (disch := omega) only [vy, vz, vze, va, vc, vu, vl, Tryd.ty, Tryd.en, ↓reduceIte, Nat.reduceSub, Nat.reduceAdd, Nat.reduceMul, Nat.reduceLT, Int.reduceAdd, Int.reduceSub, Int.reduceToNat, Int.cast_ofNat_Int, vi, getO_i])) rfl (by simp) ?_
  rintro ⟨i1, j1, d1⟩ g ⟨hi1, hi2, hjb, hs1, hpl⟩
  dsimp only at hi1 hi2 hjb hs1 hpl
  rw [Sort.reverseLoop] at hpl
  (simp -dsimp +decide (disch := omega) only [vy, vz, vze, va, vc, vu, vl, Tryd.ty, Tryd.en, ↓reduceIte, Nat.reduceSub, Nat.reduceAdd, Nat.reduceMul, Nat.reduceLT, Int.reduceAdd, Int.reduceSub, Int.reduceToNat, Int.cast_ofNat_Int, vi, getO_i, tg])
  refine CondP.dec (fun h => ?_) (fun h => ?_)
  · rw [if_pos (by omega)] at hpl
    (simp -dsimp +decide (disch := omega) only [vy, vz, vze, va, vc, vu, vl, Tryd.ty, Tryd.en, ↓reduceIte, Nat.reduceSub, Nat.reduceAdd, Nat.reduceMul, Nat.reduceLT, Int.reduceAdd, Int.reduceSub, Int.reduceToNat, Int.cast_ofNat_Int, vi, getO_i, tg])
    have hne := D_ne d1 (by omega)
    refine SemA.drawS (.fl 0 (.fl 1 (.fl 2 (.fl 3 (.fl 4 (.fl 5 (.fl 6 (.fl 7 (.fl 8 (.fl 9 (.fl 10 (.fl 11 (.fl 12 (.sq 13 (.fl 14 (.sq 15 .nil)))))))))))))))) Tryd.mixed (by kernel_rfl) ?_
    (simp -dsimp +decide (disch := omega) only [vy, vz, vze, va, vc, vu, vl, Tryd.ty, Tryd.en, ↓reduceIte, Nat.reduceSub, Nat.reduceAdd, Nat.reduceMul, Nat.reduceLT, Int.reduceAdd, Int.reduceSub, Int.reduceToNat, Int.cast_ofNat_Int, vi, getO_i, tg, hne, D_sv, D_ns, D_ls, D_at, D_len, Array.size_setIfInBounds])
    repeat (refine And.intro (by omega) ?_)
    (simp -dsimp +decide (disch := omega) only [vy, vz, vze, va, vc, vu, vl, Tryd.ty, Tryd.en, ↓reduceIte, Nat.reduceSub, Nat.reduceAdd, Nat.reduceMul, Nat.reduceLT, Int.reduceAdd, Int.reduceSub, Int.reduceToNat, Int.cast_ofNat_Int, vi, getO_i, tg, swp_eq'])
    and_intros
    all_goals first | omega | (simp; done) | skip
    refine ⟨(i1 + 1, j1 - 1, Sort.swp d1 i1 j1), ⟨by dsimp only; omega, by dsimp only; omega, by dsimp only; omega, by rw [Sort.size_swp]; exact hs1, hpl⟩, by dsimp only; omega, ?_, rfl⟩
    dsimp only
    exact ⟨by rw [show ((i1 + 1 : Nat) : Int) = (i1 : Int) + 1 by omega], by rw [show ((j1 - 1 : Nat) : Int) = (j1 : Int) - 1 by omega]⟩
  · rw [if_neg (by omega)] at hpl
    (simp -dsimp +decide (disch := omega) only [vy, vz, vze, va, vc, vu, vl, Tryd.ty, Tryd.en, ↓reduceIte, Nat.reduceSub, Nat.reduceAdd, Nat.reduceMul, Nat.reduceLT, Int.reduceAdd, Int.reduceSub, Int.reduceToNat, Int.cast_ofNat_Int, vi, getO_i, tg])
    refine Vw.eff (E' := [(i, false)]) (by simp) ?_
    exact Vw.done ⟨rfl, by rw [← hpl], rfl⟩
theorem sd_stop {h first r : Nat} {d : Array UInt64} (hr : 2 * r + 1 ≥ h) : Sort.siftDown ltU h first r d = d := by
  rw [Sort.siftDown, dif_pos hr]
theorem sd_one {h first r : Nat} {d : Array UInt64} (hr : ¬ 2 * r + 1 ≥ h) (h2 : ¬ (2 * r + 1 + 1 < h ∧ ltU d[first + (2 * r + 1)]! d[first + (2 * r + 1) + 1]! = true)) :
    Sort.siftDown ltU h first r d = if !ltU d[first + r]! d[first + (2 * r + 1)]! then d else Sort.siftDown ltU h first (2 * r + 1) (Sort.swp d (first + r) (first + (2 * r + 1))) := by
  conv => lhs; rw [Sort.siftDown, dif_neg hr]
  rw [if_neg (by simpa using h2)]
theorem sd_two {h first r : Nat} {d : Array UInt64} (hr : ¬ 2 * r + 1 ≥ h) (h2 : 2 * r + 1 + 1 < h ∧ ltU d[first + (2 * r + 1)]! d[first + (2 * r + 1) + 1]! = true) :
    Sort.siftDown ltU h first r d = if !ltU d[first + r]! d[first + (2 * r + 2)]! then d else Sort.siftDown ltU h first (2 * r + 2) (Sort.swp d (first + r) (first + (2 * r + 2))) := by
  conv => lhs; rw [Sort.siftDown, dif_neg hr]
  rw [if_pos (by simpa using h2), dif_pos (by omega)]
set_option maxRecDepth 8000 in
theorem sift_ok {T : Tbl} {i root h first n : Nat} {d : Array UInt64} (hi : i < T.length) (hn : d.size = n) (hf : first + h ≤ n) (hr0 : root ≤ n) (hB : n ≤ 1099511627776) :
    CallA Tryd.prog Tryd.G 67 [.sl i 0 n, wint (root : Int), wint (h : Int), wint (first : Int)] (TB T i d) fun v T' es => v = .tu [] ∧ T' = TB T i (Sort.siftDown ltU h first root d) ∧ es = [(i, false)] := by
  have tg := TB_get hi
  refine CallA.enterV 10 Tryd.func67 Tryd.ntmps67 (congrArg Array.toList Tryd.results67) rfl ⟨by simp, by simp⟩ (by kernel_rfl) (by kernel_rfl) ?_
  (simp -dsimp +decide only [vy, vz, vze, va, vc, vu, vl, Tryd.ty, Tryd.en, ↓reduceIte, Nat.reduceSub, Nat.reduceAdd, Nat.reduceMul, Nat.reduceLT, Int.reduceAdd, Int.reduceSub, Int.reduceToNat, Int.cast_ofNat_Int])
  (simp -dsimp +decide (disch := omega) only [vy, vz, vze, va, vc, vu, vl, Tryd.ty, Tryd.en, ↓reduceIte, Nat.reduceSub, Nat.reduceAdd, Nat.reduceMul, Nat.reduceLT, Int.reduceAdd, Int.reduceSub, Int.reduceToNat, Int.cast_ofNat_Int, vi, getO_i, tg])
  refine SemA.loopE (fun s : Nat × Array UInt64 => [(0, .sl i 0 n), (2, wint (h : Int)), (3, wint (first : Int)), (8, wint (s.1 : Int))]) (fun s => TB T i s.2) (fun s => s.1 ≤ n ∧ s.2.size = n ∧ Sort.siftDown ltU h first s.1 s.2 = Sort.siftDown ltU h first root d) (fun s => h - s.1) (root, d) [(i, false)] 0 (fun _ : Unit => []) (fun _ => TB T i (Sort.siftDown ltU h first root d)) (fun _ => True) ⟨hr0, hn, rfl⟩ (by (simp -dsimp +decide (disch := omega) only [vy, vz, vze, va, vc, vu, vl, Tryd.ty, Tryd.en, ↓reduceIte, Nat.reduceSub, Nat.reduceAdd, Nat.reduceMul, Nat.reduceLT, Int.reduceAdd, Int.reduceSub, Int.reduceToNat, Int.cast_ofNat_Int, vi, getO_i])) rfl (by simp) ?_ ?_
  · rintro ⟨r, d1⟩ g ⟨hr, hs1, hsd⟩
    dsimp only at hr hs1 hsd
    have e1 : (2 : Int) * (r : Int) + 1 = ((2 * r + 1 : Nat) : Int) := by omega
    have e2 : ((2 * r + 1 : Nat) : Int) + 1 = ((2 * r + 2 : Nat) : Int) := by omega
    refine SemA.blk ?_
    refine SemA.cutAt [] (fun c : Nat => [(0, .sl i 0 n), (2, wint (h : Int)), (3, wint (first : Int)), (8, wint (r : Int)), (9, wint (c : Int))]) (fun _ => TB T i d1) (fun c => c < h ∧ r < c ∧ Sort.siftDown ltU h first r d1 = (if !ltU d1[first + r]! d1[first + c]! then d1 else Sort.siftDown ltU h first c (Sort.swp d1 (first + r) (first + c)))) [(i, false)] 3 rfl (by kernel_rfl) ?_ ?_
    · (simp -dsimp +decide (disch := omega) only [vy, vz, vze, va, vc, vu, vl, Tryd.ty, Tryd.en, ↓reduceIte, Nat.reduceSub, Nat.reduceAdd, Nat.reduceMul, Nat.reduceLT, Int.reduceAdd, Int.reduceSub, Int.reduceToNat, Int.cast_ofNat_Int, vi, getO_i, tg, e1])
      refine CondP.dec (fun hc => ?_) (fun hc => ?_)
      · (simp -dsimp +decide (disch := omega) only [vy, vz, vze, va, vc, vu, vl, Tryd.ty, Tryd.en, ↓reduceIte, Nat.reduceSub, Nat.reduceAdd, Nat.reduceMul, Nat.reduceLT, Int.reduceAdd, Int.reduceSub, Int.reduceToNat, Int.cast_ofNat_Int, vi, getO_i, tg])
        exact ⟨(), by rw [← hsd, sd_stop (by omega)]⟩
      · have hc : ¬ 2 * r + 1 ≥ h := by omega
        (simp -dsimp +decide (disch := omega) only [vy, vz, vze, va, vc, vu, vl, Tryd.ty, Tryd.en, ↓reduceIte, Nat.reduceSub, Nat.reduceAdd, Nat.reduceMul, Nat.reduceLT, Int.reduceAdd, Int.reduceSub, Int.reduceToNat, Int.cast_ofNat_Int, vi, getO_i, tg, e1])
        by_cases h2 : 2 * r + 1 + 1 < h
        · have hlt : (((2 * r + 2 : Nat) : Int) < (h : Int)) = True := by simp; omega
          have hne := D_ne d1 (by omega)
          refine SemA.drawS (.fl 0 (.fl 1 (.fl 2 (.fl 3 (.fl 4 (.fl 5 (.fl 6 (.fl 7 (.fl 8 (.fl 9 (.fl 10 (.fl 11 (.fl 12 (.fl 13 (.fl 14 (.fl 15 (.fl 16 (.fl 17 (.sq 18 (.fl 19 .nil)))))))))))))))))))) Tryd.mixed (by kernel_rfl) ?_
          (simp -dsimp +decide (disch := omega) only [vy, vz, vze, va, vc, vu, vl, Tryd.ty, Tryd.en, ↓reduceIte, Nat.reduceSub, Nat.reduceAdd, Nat.reduceMul, Nat.reduceLT, Int.reduceAdd, Int.reduceSub, Int.reduceToNat, Int.cast_ofNat_Int, vi, getO_i, tg, hlt, hne, D_at, e1, e2])
          repeat (refine And.intro (by omega) ?_)
          refine less_ok.det ?_
          (simp -dsimp +decide (disch := omega) only [vy, vz, vze, va, vc, vu, vl, Tryd.ty, Tryd.en, ↓reduceIte, Nat.reduceSub, Nat.reduceAdd, Nat.reduceMul, Nat.reduceLT, Int.reduceAdd, Int.reduceSub, Int.reduceToNat, Int.cast_ofNat_Int, vi, getO_i, tg])
          by_cases hl : ltU d1[first + (2 * r + 1)]! d1[first + (2 * r + 2)]! = true
          · rw [hl]
            (simp -dsimp +decide (disch := omega) only [vy, vz, vze, va, vc, vu, vl, Tryd.ty, Tryd.en, ↓reduceIte, Nat.reduceSub, Nat.reduceAdd, Nat.reduceMul, Nat.reduceLT, Int.reduceAdd, Int.reduceSub, Int.reduceToNat, Int.cast_ofNat_Int, vi, getO_i, tg, e2])
            exact ⟨2 * r + 2, ⟨by omega, by omega, sd_two hc ⟨h2, hl⟩⟩, rfl⟩
          · have hl' : ltU d1[first + (2 * r + 1)]! d1[first + (2 * r + 2)]! = false := by simpa using hl
            rw [hl']
            (simp -dsimp +decide (disch := omega) only [vy, vz, vze, va, vc, vu, vl, Tryd.ty, Tryd.en, ↓reduceIte, Nat.reduceSub, Nat.reduceAdd, Nat.reduceMul, Nat.reduceLT, Int.reduceAdd, Int.reduceSub, Int.reduceToNat, Int.cast_ofNat_Int, vi, getO_i, tg])
            exact ⟨2 * r + 1, ⟨by omega, by omega, sd_one hc (fun h => hl h.2)⟩, rfl⟩
        · have hlt : (((2 * r + 2 : Nat) : Int) < (h : Int)) = False := by simp; omega
          refine SemA.drawS (.fl 0 (.fl 1 (.fl 2 (.fl 3 (.fl 4 (.fl 5 (.fl 6 (.fl 7 (.fl 8 (.fl 9 (.fl 10 (.fl 11 (.fl 12 (.fl 13 (.fl 14 (.fl 15 (.fl 16 (.fl 17 (.sq 18 (.fl 19 .nil)))))))))))))))))))) Tryd.mixed (by kernel_rfl) ?_
          (simp -dsimp +decide (disch := omega) only [vy, vz, vze, va, vc, vu, vl, Tryd.ty, Tryd.en, ↓reduceIte, Nat.reduceSub, Nat.reduceAdd, Nat.reduceMul, Nat.reduceLT, Int.reduceAdd, Int.reduceSub, Int.reduceToNat, Int.cast_ofNat_Int, vi, getO_i, tg, hlt, e1, e2])
          exact ⟨2 * r + 1, ⟨by omega, by omega, sd_one hc (fun h => h2 h.1)⟩, rfl⟩
    · rintro c gc tmp ⟨hc1, hc2, hc3⟩
      refine SemA.of (by kernel_rfl) ?_
      have hne := D_ne d1 (by omega)
      (simp -dsimp +decide (disch := omega) only [vy, vz, vze, va, vc, vu, vl, Tryd.ty, Tryd.en, ↓reduceIte, Nat.reduceSub, Nat.reduceAdd, Nat.reduceMul, Nat.reduceLT, Int.reduceAdd, Int.reduceSub, Int.reduceToNat, Int.cast_ofNat_Int, vi, getO_i, tg])
      refine SemA.drawS (.fl 0 (.fl 1 (.fl 2 (.fl 3 (.fl 4 (.fl 5 (.fl 6 (.fl 7 (.fl 8 (.fl 9 (.fl 10 (.fl 11 (.sq 12 (.fl 13 .nil)))))))))))))) Tryd.mixed (by kernel_rfl) ?_
      (simp -dsimp +decide (disch := omega) only [vy, vz, vze, va, vc, vu, vl, Tryd.ty, Tryd.en, ↓reduceIte, Nat.reduceSub, Nat.reduceAdd, Nat.reduceMul, Nat.reduceLT, Int.reduceAdd, Int.reduceSub, Int.reduceToNat, Int.cast_ofNat_Int, vi, getO_i, tg, hne, D_at])
      repeat (refine And.intro (by omega) ?_)
      refine less_ok.det ?_
      (simp -dsimp +decide (disch := omega) only [vy, vz, vze, va, vc, vu, vl, Tryd.ty, Tryd.en, ↓reduceIte, Nat.reduceSub, Nat.reduceAdd, Nat.reduceMul, Nat.reduceLT, Int.reduceAdd, Int.reduceSub, Int.reduceToNat, Int.cast_ofNat_Int, vi, getO_i, tg])
      by_cases hl : ltU d1[first + r]! d1[first + c]! = true
      · rw [hl] at hc3 ⊢
        (simp -dsimp +decide (disch := omega) only [vy, vz, vze, va, vc, vu, vl, Tryd.ty, Tryd.en, ↓reduceIte, Nat.reduceSub, Nat.reduceAdd, Nat.reduceMul, Nat.reduceLT, Int.reduceAdd, Int.reduceSub, Int.reduceToNat, Int.cast_ofNat_Int, vi, getO_i, tg])
        have hne := D_ne d1 (by omega)
        refine SemA.drawS (.fl 0 (.fl 1 (.fl 2 (.fl 3 (.fl 4 (.fl 5 (.fl 6 (.fp 7 (.fl 8 (.fl 9 (.fl 10 (.fl 11 (.fl 12 (.fl 13 (.fl 14 (.fl 15 (.fl 16 (.fl 17 (.fl 18 (.fl 19 (.fl 20 (.sq 21 (.fl 22 (.sq 23 .nil)))))))))))))))))))))))) Tryd.mixed (by kernel_rfl) ?_
        (simp -dsimp +decide (disch := omega) only [vy, vz, vze, va, vc, vu, vl, Tryd.ty, Tryd.en, ↓reduceIte, Nat.reduceSub, Nat.reduceAdd, Nat.reduceMul, Nat.reduceLT, Int.reduceAdd, Int.reduceSub, Int.reduceToNat, Int.cast_ofNat_Int, vi, getO_i, tg, hne, D_sv, D_ns, D_ls, D_at, D_len, Array.size_setIfInBounds])
        repeat (refine And.intro (by omega) ?_)
        (simp -dsimp +decide (disch := omega) only [vy, vz, vze, va, vc, vu, vl, Tryd.ty, Tryd.en, ↓reduceIte, Nat.reduceSub, Nat.reduceAdd, Nat.reduceMul, Nat.reduceLT, Int.reduceAdd, Int.reduceSub, Int.reduceToNat, Int.cast_ofNat_Int, vi, getO_i, tg, swp_eq'])
        exact ⟨(c, Sort.swp d1 (first + r) (first + c)), ⟨⟨by dsimp only; omega, by rw [Sort.size_swp]; exact hs1, by rw [← hsd, hc3]; rfl⟩, by dsimp only; omega⟩, rfl, rfl⟩
      · have hl : ltU d1[first + r]! d1[first + c]! = false := by simpa using hl
        rw [hl] at hc3 ⊢
        (simp -dsimp +decide (disch := omega) only [vy, vz, vze, va, vc, vu, vl, Tryd.ty, Tryd.en, ↓reduceIte, Nat.reduceSub, Nat.reduceAdd, Nat.reduceMul, Nat.reduceLT, Int.reduceAdd, Int.reduceSub, Int.reduceToNat, Int.cast_ofNat_Int, vi, getO_i, tg])
        refine Vw.eff (E' := [(i, false)]) (by simp) ?_
        exact Vw.done ⟨rfl, by rw [← hsd, hc3]; rfl, rfl⟩
  · rintro ⟨⟩ g tmp -
    (simp -dsimp +decide (disch := omega) only [vy, vz, vze, va, vc, vu, vl, Tryd.ty, Tryd.en, ↓reduceIte, Nat.reduceSub, Nat.reduceAdd, Nat.reduceMul, Nat.reduceLT, Int.reduceAdd, Int.reduceSub, Int.reduceToNat, Int.cast_ofNat_Int, vi, getO_i, tg])
    refine Vw.eff (E' := [(i, false)]) (by simp) ?_
    exact Vw.done ⟨rfl, rfl, rfl⟩
theorem hb_step {h first k : Nat} {d : Array UInt64} : Sort.heapBuild ltU h first (k + 1) d = Sort.heapBuild ltU h first k (Sort.siftDown ltU h first k d) := rfl
theorem hp_step {first k : Nat} {d : Array UInt64} : Sort.heapPop ltU first (k + 1) d = Sort.heapPop ltU first k (Sort.siftDown ltU k first 0 (Sort.swp d first (first + k))) := rfl
theorem sd_size (h first : Nat) : ∀ (m r : Nat) (d : Array UInt64), h - r ≤ m → (Sort.siftDown ltU h first r d).size = d.size
  | m, r, d, hm => by
    by_cases hr : 2 * r + 1 ≥ h
    · rw [sd_stop hr]
    · have key : ∀ c, r < c → c < h → (if !ltU d[first + r]! d[first + c]! then d else Sort.siftDown ltU h first c (Sort.swp d (first + r) (first + c))).size = d.size := fun c h1 h2 => by
        split
        · rfl
        · cases m with
          | zero => omega
          | succ m => rw [sd_size h first m c _ (by omega), Sort.size_swp]
      by_cases h2 : 2 * r + 1 + 1 < h ∧ ltU d[first + (2 * r + 1)]! d[first + (2 * r + 1) + 1]! = true
      · rw [sd_two hr h2]; exact key _ (by omega) (by omega)
      · rw [sd_one hr h2]; exact key _ (by omega) (by omega)
set_option maxRecDepth 8000 in
theorem heap_ok {T : Tbl} {i a b n : Nat} {d : Array UInt64} (hi : i < T.length) (hn : d.size = n) (hab : a < b) (hb : b ≤ n) (hB : n ≤ 1099511627776) :
    CallA Tryd.prog Tryd.G 51 [.sl i 0 n, wint (a : Int), wint (b : Int)] (TB T i d) fun v T' es => v = .tu [] ∧ T' = TB T i (Sort.heapSort ltU d a b) ∧ es = [(i, false)] := by
  have tg := TB_get hi
  have e1 : (b : Int) - (a : Int) = ((b - a : Nat) : Int) := by omega
  have e2 : ((b - a : Nat) : Int) - 1 = ((b - a - 1 : Nat) : Int) := by omega
  have q2 : ∀ k : Nat, (k : Int).tdiv 2 = ((k / 2 : Nat) : Int) := fun _ => rfl
  refine CallA.enterV 11 Tryd.func51 Tryd.ntmps51 (congrArg Array.toList Tryd.results51) rfl ⟨by simp, by simp⟩ (by kernel_rfl) (by kernel_rfl) ?_
  (simp -dsimp +decide only [vy, vz, vze, va, vc, vu, vl, Tryd.ty, Tryd.en, ↓reduceIte, Nat.reduceSub, Nat.reduceAdd, Nat.reduceMul, Nat.reduceLT, Int.reduceAdd, Int.reduceSub, Int.reduceToNat, Int.cast_ofNat_Int])
  (simp -dsimp +decide (disch := omega) only [vy, vz, vze, va, vc, vu, vl, Tryd.ty, Tryd.en, ↓reduceIte, Nat.reduceSub, Nat.reduceAdd, Nat.reduceMul, Nat.reduceLT, Int.reduceAdd, Int.reduceSub, Int.reduceToNat, Int.cast_ofNat_Int, vi, getO_i, tg, e1, e2, q2])
  refine SemA.loopE (fun s : Nat × Array UInt64 => [(0, .sl i 0 n), (6, wint (a : Int)), (7, wint 0), (8, wint ((b - a : Nat) : Int)), (9, wint ((s.1 : Int) - 1))]) (fun s => TB T i s.2) (fun s => s.1 ≤ b - a ∧ s.2.size = n ∧ Sort.heapBuild ltU (b - a) a s.1 s.2 = Sort.heapBuild ltU (b - a) a ((b - a - 1) / 2 + 1) d) (fun s => s.1) ((b - a - 1) / 2 + 1, d) [(i, false)] 0 (fun _ : Unit => [(0, .sl i 0 n), (6, wint (a : Int)), (7, wint 0), (8, wint ((b - a : Nat) : Int))]) (fun _ => TB T i (Sort.heapBuild ltU (b - a) a ((b - a - 1) / 2 + 1) d)) (fun _ => (Sort.heapBuild ltU (b - a) a ((b - a - 1) / 2 + 1) d).size = n) ⟨by dsimp only; omega, hn, rfl⟩ (by (simp -dsimp +decide (disch := omega) only [vy, vz, vze, va, vc, vu, vl, Tryd.ty, Tryd.en, ↓reduceIte, Nat.reduceSub, Nat.reduceAdd, Nat.reduceMul, Nat.reduceLT, Int.reduceAdd, Int.reduceSub, Int.reduceToNat, Int.cast_ofNat_Int, vi, getO_i]); rw [show (((b - a - 1) / 2 + 1 : Nat) : Int) - 1 = (((b - a - 1) / 2 : Nat) : Int) by omega]) rfl (by simp) ?_ ?_
  · rintro ⟨k, d1⟩ g ⟨hk, hs1, hhb⟩
    dsimp only at hk hs1 hhb
    refine SemA.of (by kernel_rfl) ?_
    (simp -dsimp +decide (disch := omega) only [vy, vz, vze, va, vc, vu, vl, Tryd.ty, Tryd.en, ↓reduceIte, Nat.reduceSub, Nat.reduceAdd, Nat.reduceMul, Nat.reduceLT, Int.reduceAdd, Int.reduceSub, Int.reduceToNat, Int.cast_ofNat_Int, vi, getO_i, tg])
    refine CondP.dec (fun hc => ?_) (fun hc => ?_)
    · obtain ⟨k, rfl⟩ : ∃ k', k = k' + 1 := ⟨k - 1, by omega⟩
      have e3 : (((k + 1 : Nat) : Int)) - 1 = (k : Int) := by omega
      (simp -dsimp +decide (disch := omega) only [vy, vz, vze, va, vc, vu, vl, Tryd.ty, Tryd.en, ↓reduceIte, Nat.reduceSub, Nat.reduceAdd, Nat.reduceMul, Nat.reduceLT, Int.reduceAdd, Int.reduceSub, Int.reduceToNat, Int.cast_ofNat_Int, vi, getO_i, tg, e3])
      refine (sift_ok (root := k) (h := b - a) (first := a) hi hs1 (by omega) (by omega) hB).det' ?_
      (simp -dsimp +decide (disch := omega) only [vy, vz, vze, va, vc, vu, vl, Tryd.ty, Tryd.en, ↓reduceIte, Nat.reduceSub, Nat.reduceAdd, Nat.reduceMul, Nat.reduceLT, Int.reduceAdd, Int.reduceSub, Int.reduceToNat, Int.cast_ofNat_Int, vi, getO_i, tg])
      exact ⟨(k, Sort.siftDown ltU (b - a) a k d1), ⟨⟨by dsimp only; omega, by rw [sd_size _ _ _ _ _ (Nat.le_refl _)]; exact hs1, hhb⟩, by dsimp only; omega⟩, rfl, rfl⟩
    · (simp -dsimp +decide (disch := omega) only [vy, vz, vze, va, vc, vu, vl, Tryd.ty, Tryd.en, ↓reduceIte, Nat.reduceSub, Nat.reduceAdd, Nat.reduceMul, Nat.reduceLT, Int.reduceAdd, Int.reduceSub, Int.reduceToNat, Int.cast_ofNat_Int, vi, getO_i, tg])
      have : k = 0 := by omega
      subst this
      have : d1 = Sort.heapBuild ltU (b - a) a ((b - a - 1) / 2 + 1) d := hhb
      exact ⟨(), by rw [← this]; exact hs1, by rw [← this]⟩
  · rintro ⟨⟩ g tmp hs0
    obtain ⟨d0, hd0⟩ : ∃ d0, d0 = Sort.heapBuild ltU (b - a) a ((b - a - 1) / 2 + 1) d := ⟨_, rfl⟩
    have hfin : Sort.heapSort ltU d a b = Sort.heapPop ltU a (b - a) d0 := by rw [hd0]; rfl
    rw [← hd0] at hs0 ⊢
    (simp -dsimp +decide (disch := omega) only [vy, vz, vze, va, vc, vu, vl, Tryd.ty, Tryd.en, ↓reduceIte, Nat.reduceSub, Nat.reduceAdd, Nat.reduceMul, Nat.reduceLT, Int.reduceAdd, Int.reduceSub, Int.reduceToNat, Int.cast_ofNat_Int, vi, getO_i, tg, e2])
    refine SemA.loopE (fun s : Nat × Array UInt64 => [(0, .sl i 0 n), (6, wint (a : Int)), (7, wint 0), (10, wint ((s.1 : Int) - 1))]) (fun s => TB T i s.2) (fun s => s.1 ≤ b - a ∧ s.2.size = n ∧ Sort.heapPop ltU a s.1 s.2 = Sort.heapPop ltU a (b - a) d0) (fun s => s.1) (b - a, d0) [(i, false)] 2 (fun _ : Unit => []) (fun _ => TB T i (Sort.heapSort ltU d a b)) (fun _ => True) ⟨by dsimp only; omega, hs0, rfl⟩ (by (simp -dsimp +decide (disch := omega) only [vy, vz, vze, va, vc, vu, vl, Tryd.ty, Tryd.en, ↓reduceIte, Nat.reduceSub, Nat.reduceAdd, Nat.reduceMul, Nat.reduceLT, Int.reduceAdd, Int.reduceSub, Int.reduceToNat, Int.cast_ofNat_Int, vi, getO_i, e2])) rfl (by simp) ?_ ?_
    · rintro ⟨k, d1⟩ g ⟨hk, hs1, hhb⟩
      dsimp only at hk hs1 hhb
      refine SemA.of (by kernel_rfl) ?_
      (simp -dsimp +decide (disch := omega) only [vy, vz, vze, va, vc, vu, vl, Tryd.ty, Tryd.en, ↓reduceIte, Nat.reduceSub, Nat.reduceAdd, Nat.reduceMul, Nat.reduceLT, Int.reduceAdd, Int.reduceSub, Int.reduceToNat, Int.cast_ofNat_Int, vi, getO_i, tg])
      refine CondP.dec (fun hc => ?_) (fun hc => ?_)
      · obtain ⟨k, rfl⟩ : ∃ k', k = k' + 1 := ⟨k - 1, by omega⟩
        have e3 : (((k + 1 : Nat) : Int)) - 1 = (k : Int) := by omega
        (simp -dsimp +decide (disch := omega) only [vy, vz, vze, va, vc, vu, vl, Tryd.ty, Tryd.en, ↓reduceIte, Nat.reduceSub, Nat.reduceAdd, Nat.reduceMul, Nat.reduceLT, Int.reduceAdd, Int.reduceSub, Int.reduceToNat, Int.cast_ofNat_Int, vi, getO_i, tg, e3])
        have hne := D_ne d1 (by omega)
        refine SemA.drawS (.fl 0 (.fl 1 (.fl 2 (.fl 3 (.fl 4 (.fp 5 (.fl 6 (.fl 7 (.fl 8 (.fl 9 (.fl 10 (.fl 11 (.fl 12 (.fl 13 (.fl 14 (.fl 15 (.fl 16 (.sq 17 (.fl 18 (.sq 19 .nil)))))))))))))))))))) Tryd.mixed (by kernel_rfl) ?_
        (simp -dsimp +decide (disch := omega) only [vy, vz, vze, va, vc, vu, vl, Tryd.ty, Tryd.en, ↓reduceIte, Nat.reduceSub, Nat.reduceAdd, Nat.reduceMul, Nat.reduceLT, Int.reduceAdd, Int.reduceSub, Int.reduceToNat, Int.cast_ofNat_Int, vi, getO_i, e3, tg, hne, D_sv, D_ns, D_ls, D_at, D_len, Array.size_setIfInBounds])
        repeat (refine And.intro (by omega) ?_)
        (simp -dsimp +decide (disch := omega) only [vy, vz, vze, va, vc, vu, vl, Tryd.ty, Tryd.en, ↓reduceIte, Nat.reduceSub, Nat.reduceAdd, Nat.reduceMul, Nat.reduceLT, Int.reduceAdd, Int.reduceSub, Int.reduceToNat, Int.cast_ofNat_Int, vi, getO_i, tg, swp_eq', e3])
        have hz : wint (0 : Int) = wint ((0 : Nat) : Int) := rfl
        refine (sift_ok (d := Sort.swp d1 a (a + k)) (root := 0) (h := k) (first := a) hi (by rw [Sort.size_swp]; exact hs1) (by omega) (by omega) hB).det' ?_
        (simp -dsimp +decide (disch := omega) only [vy, vz, vze, va, vc, vu, vl, Tryd.ty, Tryd.en, ↓reduceIte, Nat.reduceSub, Nat.reduceAdd, Nat.reduceMul, Nat.reduceLT, Int.reduceAdd, Int.reduceSub, Int.reduceToNat, Int.cast_ofNat_Int, vi, getO_i, tg])
        exact ⟨(k, Sort.siftDown ltU k a 0 (Sort.swp d1 a (a + k))), ⟨⟨by dsimp only; omega, by rw [sd_size _ _ _ _ _ (Nat.le_refl _), Sort.size_swp]; exact hs1, hhb⟩, by dsimp only; omega⟩, rfl, rfl⟩
      · (simp -dsimp +decide (disch := omega) only [vy, vz, vze, va, vc, vu, vl, Tryd.ty, Tryd.en, ↓reduceIte, Nat.reduceSub, Nat.reduceAdd, Nat.reduceMul, Nat.reduceLT, Int.reduceAdd, Int.reduceSub, Int.reduceToNat, Int.cast_ofNat_Int, vi, getO_i, tg])
        have : k = 0 := by omega
        subst this
        exact ⟨(), by rw [hfin, ← hhb]; rfl⟩
    · rintro ⟨⟩ g tmp -
      (simp -dsimp +decide (disch := omega) only [vy, vz, vze, va, vc, vu, vl, Tryd.ty, Tryd.en, ↓reduceIte, Nat.reduceSub, Nat.reduceAdd, Nat.reduceMul, Nat.reduceLT, Int.reduceAdd, Int.reduceSub, Int.reduceToNat, Int.cast_ofNat_Int, vi, getO_i, tg])
      refine Vw.eff (E' := [(i, false)]) (by simp) ?_
      exact Vw.done ⟨rfl, rfl, rfl⟩
end Go.Proofs.YtmcbdlefakjpoaaDoor

set_option linter.unusedSimpArgs false
set_option linter.unusedVariables false
set_option linter.unusedSectionVars false
namespace Go.Proofs.YtmcbdlefakjpoaaDoor
open Go.E
theorem ss_step {b x : Nat} {d : Array UInt64} (h : x < b) (hl : ltU d[x]! d[x - 1]! = false) : Sort.scanSorted ltU d b x = Sort.scanSorted ltU d b (x + 1) := by
  rw [Sort.scanSorted, if_pos (by simp [h, hl])]
theorem ss_stop {b x : Nat} {d : Array UInt64} (h : ¬ (x < b ∧ ltU d[x]! d[x - 1]! = false)) : Sort.scanSorted ltU d b x = x := by
  rw [Sort.scanSorted, if_neg (by simpa using h)]
theorem shd_step {y : Nat} {d : Array UInt64} (h : 0 < y) (hl : ltU d[y]! d[y - 1]! = true) : Sort.shiftDown ltU y d = Sort.shiftDown ltU (y - 1) (Sort.swp d y (y - 1)) := by
  cases y with
  | zero => omega
  | succ y => rw [Sort.shiftDown]; simp only [Nat.add_sub_cancel] at hl ⊢; simp [hl]
theorem shd_stop {y : Nat} {d : Array UInt64} (h : 0 < y → ltU d[y]! d[y - 1]! = false) : Sort.shiftDown ltU y d = d := by
  cases y with
  | zero => rfl
  | succ y => have := h (by omega); rw [Sort.shiftDown]; simp only [Nat.add_sub_cancel] at this; simp [this]
theorem shu_step {b y : Nat} {d : Array UInt64} (h : y < b) (hl : ltU d[y]! d[y - 1]! = true) : Sort.shiftUp ltU b y d = Sort.shiftUp ltU b (y + 1) (Sort.swp d y (y - 1)) := by
  conv => lhs; rw [Sort.shiftUp, if_pos h]
  simp [hl]
theorem shu_stop {b y : Nat} {d : Array UInt64} (h : y < b → ltU d[y]! d[y - 1]! = false) : Sort.shiftUp ltU b y d = d := by
  rw [Sort.shiftUp]
  split
  · rename_i hy; simp [h hy]
  · rfl
set_option maxRecDepth 8000 in
theorem pins_ok {T : Tbl} {i a b n : Nat} {d : Array UInt64} (hi : i < T.length) (hn : d.size = n) (hab : a + 12 < b) (hb : b ≤ n) (hB : n ≤ 1099511627776) :
    CallA Tryd.prog Tryd.G 55 [.sl i 0 n, wint (a : Int), wint (b : Int)] (TB T i d) fun v T' es => v = .p (.bool (Sort.partialInsertionSort ltU d a b).2) ∧ T' = TB T i (Sort.partialInsertionSort ltU d a b).1 ∧ es = [(i, false)] := by
  have tg := TB_get hi
  have e0 : (a : Int) + 1 = ((a + 1 : Nat) : Int) := by omega
  refine CallA.enterV 11 Tryd.func55 Tryd.ntmps55 (congrArg Array.toList Tryd.results55) rfl ⟨by simp, by simp⟩ (by kernel_rfl) (by kernel_rfl) ?_
  (simp -dsimp +decide only [vy, vz, vze, va, vc, vu, vl, Tryd.ty, Tryd.en, ↓reduceIte, Nat.reduceSub, Nat.reduceAdd, Nat.reduceMul, Nat.reduceLT, Int.reduceAdd, Int.reduceSub, Int.reduceToNat, Int.cast_ofNat_Int])
  (simp -dsimp +decide (disch := omega) only [vy, vz, vze, va, vc, vu, vl, Tryd.ty, Tryd.en, ↓reduceIte, Nat.reduceSub, Nat.reduceAdd, Nat.reduceMul, Nat.reduceLT, Int.reduceAdd, Int.reduceSub, Int.reduceToNat, Int.cast_ofNat_Int, vi, getO_i, tg, e0])
  refine SemA.loopE (fun s : Nat × Nat × Array UInt64 => [(0, .sl i 0 n), (1, wint (a : Int)), (2, wint (b : Int)), (7, wint (s.2.1 : Int)), (8, wint (5 - (s.1 : Int)))]) (fun s => TB T i s.2.2) (fun s => s.1 ≤ 5 ∧ a + 1 ≤ s.2.1 ∧ s.2.1 ≤ b ∧ s.2.2.size = n ∧ Sort.partialIns ltU a b s.1 s.2.1 s.2.2 = Sort.partialInsertionSort ltU d a b) (fun s => s.1) (5, a + 1, d) [(i, false)] 0 (fun d1 : Array UInt64 => []) (fun d1 => TB T i d1) (fun d1 => (d1, false) = Sort.partialInsertionSort ltU d a b) ⟨by simp, by simp, by dsimp only; omega, hn, rfl⟩ (by (simp -dsimp +decide (disch := omega) only [vy, vz, vze, va, vc, vu, vl, Tryd.ty, Tryd.en, ↓reduceIte, Nat.reduceSub, Nat.reduceAdd, Nat.reduceMul, Nat.reduceLT, Int.reduceAdd, Int.reduceSub, Int.reduceToNat, Int.cast_ofNat_Int, vi, getO_i])) rfl (by simp) ?_ ?_
  · rintro ⟨s, i1, d1⟩ g ⟨hs, hi1, hi2, hs1, hp⟩
    dsimp only at hs hi1 hi2 hs1 hp
    refine SemA.seqC [] (fun _ : Unit => [(0, .sl i 0 n), (1, wint (a : Int)), (2, wint (b : Int)), (7, wint (i1 : Int)), (8, wint (5 - (s : Int)))]) (fun _ => TB T i d1) (fun _ => 0 < s) [(i, false)] ?_ ?_
    · refine SemA.of (by kernel_rfl) ?_
      (simp -dsimp +decide (disch := omega) only [vy, vz, vze, va, vc, vu, vl, Tryd.ty, Tryd.en, ↓reduceIte, Nat.reduceSub, Nat.reduceAdd, Nat.reduceMul, Nat.reduceLT, Int.reduceAdd, Int.reduceSub, Int.reduceToNat, Int.cast_ofNat_Int, vi, getO_i, tg])
      refine CondP.dec (fun h => ?_) (fun h => ?_)
      · (simp -dsimp +decide (disch := omega) only [vy, vz, vze, va, vc, vu, vl, Tryd.ty, Tryd.en, ↓reduceIte, Nat.reduceSub, Nat.reduceAdd, Nat.reduceMul, Nat.reduceLT, Int.reduceAdd, Int.reduceSub, Int.reduceToNat, Int.cast_ofNat_Int, vi, getO_i, tg])
        exact ⟨(), by omega⟩
      · (simp -dsimp +decide (disch := omega) only [vy, vz, vze, va, vc, vu, vl, Tryd.ty, Tryd.en, ↓reduceIte, Nat.reduceSub, Nat.reduceAdd, Nat.reduceMul, Nat.reduceLT, Int.reduceAdd, Int.reduceSub, Int.reduceToNat, Int.cast_ofNat_Int, vi, getO_i, tg])
        obtain rfl : s = 0 := by omega
        exact ⟨d1, hp, rfl⟩
    rintro ⟨⟩ g tmp h0
    obtain ⟨s, rfl⟩ : ∃ s', s = s' + 1 := ⟨s - 1, by omega⟩
    rw [Sort.partialIns_succ] at hp
    obtain ⟨i2, hi2'⟩ : ∃ i2, i2 = Sort.scanSorted ltU d1 b i1 := ⟨_, rfl⟩
    rw [← hi2'] at hp
    refine SemA.seqC [] (fun s' : Nat × Array UInt64 => [(0, .sl i 0 n), (1, wint (a : Int)), (2, wint (b : Int)), (7, wint (i2 : Int)), (8, wint (5 - ((s + 1 : Nat) : Int)))]) (fun s' => TB T i s'.2) (fun s' => i2 ≤ b ∧ a + 1 ≤ i2 ∧ s'.2.size = n ∧ Sort.partialIns ltU a b s i2 s'.2 = Sort.partialInsertionSort ltU d a b) [(i, false)] ?_ ?_
    · refine SemA.blk ?_
      refine SemA.cutAt [] (fun _ : Unit => [(0, .sl i 0 n), (1, wint (a : Int)), (2, wint (b : Int)), (7, wint (i2 : Int)), (8, wint (5 - ((s + 1 : Nat) : Int)))]) (fun _ => TB T i (Sort.swp d1 i2 (i2 - 1))) (fun _ => i2 < b ∧ a + 1 ≤ i2 ∧ ¬ (i2 = b) ∧ ¬ (b - a < 50)) [(i, false)] 4 rfl (by kernel_rfl) ?_ ?_
      · (simp -dsimp +decide (disch := omega) only [vy, vz, vze, va, vc, vu, vl, Tryd.ty, Tryd.en, ↓reduceIte, Nat.reduceSub, Nat.reduceAdd, Nat.reduceMul, Nat.reduceLT, Int.reduceAdd, Int.reduceSub, Int.reduceToNat, Int.cast_ofNat_Int, vi, getO_i, tg])
        refine SemA.loopE (fun x : Nat => [(0, .sl i 0 n), (1, wint (a : Int)), (2, wint (b : Int)), (7, wint (x : Int)), (8, wint (5 - ((s + 1 : Nat) : Int)))]) (fun _ => TB T i d1) (fun x => i1 ≤ x ∧ x ≤ b ∧ Sort.scanSorted ltU d1 b x = i2) (fun x => b - x) i1 [(i, false)] 2 (fun _ : Unit => [(0, .sl i 0 n), (1, wint (a : Int)), (2, wint (b : Int)), (7, wint (i2 : Int)), (8, wint (5 - ((s + 1 : Nat) : Int)))]) (fun _ => TB T i d1) (fun _ => i1 ≤ i2 ∧ i2 ≤ b) ⟨by omega, hi2, hi2'.symm⟩ (by (simp -dsimp +decide (disch := omega) only [vy, vz, vze, va, vc, vu, vl, Tryd.ty, Tryd.en, ↓reduceIte, Nat.reduceSub, Nat.reduceAdd, Nat.reduceMul, Nat.reduceLT, Int.reduceAdd, Int.reduceSub, Int.reduceToNat, Int.cast_ofNat_Int, vi, getO_i])) rfl (by simp) ?_ ?_
        · rintro x gx ⟨hx1, hx2, hx3⟩
          refine SemA.of (by kernel_rfl) ?_
          (simp -dsimp +decide (disch := omega) only [vy, vz, vze, va, vc, vu, vl, Tryd.ty, Tryd.en, ↓reduceIte, Nat.reduceSub, Nat.reduceAdd, Nat.reduceMul, Nat.reduceLT, Int.reduceAdd, Int.reduceSub, Int.reduceToNat, Int.cast_ofNat_Int, vi, getO_i, tg])
          by_cases hxb : x < b
          · have hlt : ((x : Int) < (b : Int)) = True := by simp; omega
            have hne := D_ne d1 (by omega)
            refine SemA.drawS (.fl 0 (.fl 1 (.fl 2 (.fl 3 (.fl 4 (.fl 5 (.fl 6 (.fl 7 (.fl 8 (.fl 9 (.fl 10 (.fl 11 (.fl 12 (.sq 13 (.fl 14 (.fl 15 .nil)))))))))))))))) Tryd.mixed (by kernel_rfl) ?_
            (simp -dsimp +decide (disch := omega) only [vy, vz, vze, va, vc, vu, vl, Tryd.ty, Tryd.en, ↓reduceIte, Nat.reduceSub, Nat.reduceAdd, Nat.reduceMul, Nat.reduceLT, Int.reduceAdd, Int.reduceSub, Int.reduceToNat, Int.cast_ofNat_Int, vi, getO_i, tg, hlt, hne, D_at])
            repeat (refine And.intro (by omega) ?_)
            refine less_ok.det ?_
            (simp -dsimp +decide (disch := omega) only [vy, vz, vze, va, vc, vu, vl, Tryd.ty, Tryd.en, ↓reduceIte, Nat.reduceSub, Nat.reduceAdd, Nat.reduceMul, Nat.reduceLT, Int.reduceAdd, Int.reduceSub, Int.reduceToNat, Int.cast_ofNat_Int, vi, getO_i, tg])
            by_cases hl : ltU d1[x]! d1[x - 1]! = false
            · rw [hl]
              (simp -dsimp +decide (disch := omega) only [vy, vz, vze, va, vc, vu, vl, Tryd.ty, Tryd.en, ↓reduceIte, Nat.reduceSub, Nat.reduceAdd, Nat.reduceMul, Nat.reduceLT, Int.reduceAdd, Int.reduceSub, Int.reduceToNat, Int.cast_ofNat_Int, vi, getO_i, tg])
              exact ⟨x + 1, ⟨⟨by omega, by omega, by rw [← hx3]; exact (ss_step hxb hl).symm⟩, by omega⟩, rfl⟩
            · have hl' : ltU d1[x]! d1[x - 1]! = true := by simpa using hl
              rw [hl']
              (simp -dsimp +decide (disch := omega) only [vy, vz, vze, va, vc, vu, vl, Tryd.ty, Tryd.en, ↓reduceIte, Nat.reduceSub, Nat.reduceAdd, Nat.reduceMul, Nat.reduceLT, Int.reduceAdd, Int.reduceSub, Int.reduceToNat, Int.cast_ofNat_Int, vi, getO_i, tg])
              have : x = i2 := by rw [← hx3]; exact (ss_stop (fun h => hl h.2)).symm
              exact ⟨(), ⟨by omega, by omega⟩, by rw [this]⟩
          · have hlt : ((x : Int) < (b : Int)) = False := by simp; omega
            refine SemA.drawS (.fl 0 (.fl 1 (.fl 2 (.fl 3 (.fl 4 (.fl 5 (.fl 6 (.fl 7 (.fl 8 (.fl 9 (.fl 10 (.fl 11 (.fl 12 (.sq 13 (.fl 14 (.fl 15 .nil)))))))))))))))) Tryd.mixed (by kernel_rfl) ?_
            (simp -dsimp +decide (disch := omega) only [vy, vz, vze, va, vc, vu, vl, Tryd.ty, Tryd.en, ↓reduceIte, Nat.reduceSub, Nat.reduceAdd, Nat.reduceMul, Nat.reduceLT, Int.reduceAdd, Int.reduceSub, Int.reduceToNat, Int.cast_ofNat_Int, vi, getO_i, tg, hlt])
            have : x = i2 := by rw [← hx3]; exact (ss_stop (fun h => hxb h.1)).symm
            exact ⟨(), ⟨by omega, by omega⟩, by rw [this]⟩
        · rintro ⟨⟩ gx tmpx ⟨hx1, hx2⟩
          (simp -dsimp +decide (disch := omega) only [vy, vz, vze, va, vc, vu, vl, Tryd.ty, Tryd.en, ↓reduceIte, Nat.reduceSub, Nat.reduceAdd, Nat.reduceMul, Nat.reduceLT, Int.reduceAdd, Int.reduceSub, Int.reduceToNat, Int.cast_ofNat_Int, vi, getO_i, tg])
          refine CondP.dec (fun h => ?_) (fun h => ?_)
          · (simp -dsimp +decide (disch := omega) only [vy, vz, vze, va, vc, vu, vl, Tryd.ty, Tryd.en, ↓reduceIte, Nat.reduceSub, Nat.reduceAdd, Nat.reduceMul, Nat.reduceLT, Int.reduceAdd, Int.reduceSub, Int.reduceToNat, Int.cast_ofNat_Int, vi, getO_i, tg])
            rw [if_pos (by omega)] at hp
            refine Vw.eff (E' := [(i, false)]) (by simp) ?_
            exact Vw.done ⟨by rw [← hp], by rw [← hp], rfl⟩
          · rw [if_neg (by omega)] at hp
            have e5 : (b : Int) - (a : Int) = ((b - a : Nat) : Int) := by omega
            (simp -dsimp +decide (disch := omega) only [vy, vz, vze, va, vc, vu, vl, Tryd.ty, Tryd.en, ↓reduceIte, Nat.reduceSub, Nat.reduceAdd, Nat.reduceMul, Nat.reduceLT, Int.reduceAdd, Int.reduceSub, Int.reduceToNat, Int.cast_ofNat_Int, vi, getO_i, tg, e5])
            refine CondP.dec (fun h2 => ?_) (fun h2 => ?_)
            · rw [if_pos (by omega)] at hp
              (simp -dsimp +decide (disch := omega) only [vy, vz, vze, va, vc, vu, vl, Tryd.ty, Tryd.en, ↓reduceIte, Nat.reduceSub, Nat.reduceAdd, Nat.reduceMul, Nat.reduceLT, Int.reduceAdd, Int.reduceSub, Int.reduceToNat, Int.cast_ofNat_Int, vi, getO_i, tg])
              refine Vw.eff (E' := [(i, false)]) (by simp) ?_
              exact Vw.done ⟨by rw [← hp], by rw [← hp], rfl⟩
            · (simp -dsimp +decide (disch := omega) only [vy, vz, vze, va, vc, vu, vl, Tryd.ty, Tryd.en, ↓reduceIte, Nat.reduceSub, Nat.reduceAdd, Nat.reduceMul, Nat.reduceLT, Int.reduceAdd, Int.reduceSub, Int.reduceToNat, Int.cast_ofNat_Int, vi, getO_i, tg])
              have hne := D_ne d1 (by omega)
              refine SemA.drawS (.fl 0 (.fl 1 (.fl 2 (.fl 3 (.fp 4 (.fl 5 (.fl 6 (.fl 7 (.fl 8 (.fl 9 (.fl 10 (.fl 11 (.fl 12 (.fl 13 (.fl 14 (.sq 15 (.fl 16 (.sq 17 .nil)))))))))))))))))) Tryd.mixed (by kernel_rfl) ?_
              (simp -dsimp +decide (disch := omega) only [vy, vz, vze, va, vc, vu, vl, Tryd.ty, Tryd.en, ↓reduceIte, Nat.reduceSub, Nat.reduceAdd, Nat.reduceMul, Nat.reduceLT, Int.reduceAdd, Int.reduceSub, Int.reduceToNat, Int.cast_ofNat_Int, vi, getO_i, tg, hne, D_sv, D_ns, D_ls, D_at, D_len, Array.size_setIfInBounds])
              repeat (refine And.intro (by omega) ?_)
              (simp -dsimp +decide (disch := omega) only [vy, vz, vze, va, vc, vu, vl, Tryd.ty, Tryd.en, ↓reduceIte, Nat.reduceSub, Nat.reduceAdd, Nat.reduceMul, Nat.reduceLT, Int.reduceAdd, Int.reduceSub, Int.reduceToNat, Int.cast_ofNat_Int, vi, getO_i, tg, swp_eq'])
              exact ⟨(), by omega, by omega, by omega, by omega⟩
      · rintro ⟨⟩ gx tmpx ⟨h1, h2, h3, h4⟩
        rw [if_neg h3, if_neg h4] at hp
        obtain ⟨d2, hd2⟩ : ∃ d2, d2 = Sort.swp d1 i2 (i2 - 1) := ⟨_, rfl⟩
        have hs2 : d2.size = n := by rw [hd2, Sort.size_swp, hs1]
        rw [← hd2] at hp ⊢
        obtain ⟨d3, hd3⟩ : ∃ d3, d3 = (if i2 - a ≥ 2 then Sort.shiftDown ltU (i2 - 1) d2 else d2) := ⟨_, rfl⟩
        have hfd : Sort.fixDown ltU a i2 d2 = d3 := by rw [hd3]; rfl
        rw [hfd, Sort.fixUp] at hp
        have e5 : (i2 : Int) - (a : Int) = ((i2 - a : Nat) : Int) := by omega
        have e6 : (i2 : Int) - 1 = ((i2 - 1 : Nat) : Int) := by omega
        have e7 : (b : Int) - (i2 : Int) = ((b - i2 : Nat) : Int) := by omega
        have e8 : (i2 : Int) + 1 = ((i2 + 1 : Nat) : Int) := by omega
        refine SemA.cutAt [] (fun _ : Unit => [(0, .sl i 0 n), (1, wint (a : Int)), (2, wint (b : Int)), (7, wint (i2 : Int)), (8, wint (5 - ((s + 1 : Nat) : Int)))]) (fun _ => TB T i d3) (fun _ => d3.size = n) [(i, false)] 1 rfl (by kernel_rfl) ?_ ?_
        · (simp -dsimp +decide (disch := omega) only [vy, vz, vze, va, vc, vu, vl, Tryd.ty, Tryd.en, ↓reduceIte, Nat.reduceSub, Nat.reduceAdd, Nat.reduceMul, Nat.reduceLT, Int.reduceAdd, Int.reduceSub, Int.reduceToNat, Int.cast_ofNat_Int, vi, getO_i, tg, e5])
          refine CondP.dec (fun h => ?_) (fun h => ?_)
          · rw [if_pos (by omega)] at hd3
            (simp -dsimp +decide (disch := omega) only [vy, vz, vze, va, vc, vu, vl, Tryd.ty, Tryd.en, ↓reduceIte, Nat.reduceSub, Nat.reduceAdd, Nat.reduceMul, Nat.reduceLT, Int.reduceAdd, Int.reduceSub, Int.reduceToNat, Int.cast_ofNat_Int, vi, getO_i, tg, e6])
            refine SemA.loopE (fun s' : Nat × Array UInt64 => [(0, .sl i 0 n), (1, wint (a : Int)), (2, wint (b : Int)), (7, wint (i2 : Int)), (8, wint (5 - ((s + 1 : Nat) : Int))), (9, wint (s'.1 : Int))]) (fun s' => TB T i s'.2) (fun s' => s'.1 < n ∧ s'.2.size = n ∧ Sort.shiftDown ltU s'.1 s'.2 = d3) (fun s' => s'.1) (i2 - 1, d2) [(i, false)] 4 (fun _ : Unit => [(0, .sl i 0 n), (1, wint (a : Int)), (2, wint (b : Int)), (7, wint (i2 : Int)), (8, wint (5 - ((s + 1 : Nat) : Int)))]) (fun _ => TB T i d3) (fun _ => d3.size = n) ⟨by dsimp only; omega, hs2, hd3.symm⟩ (by (simp -dsimp +decide (disch := omega) only [vy, vz, vze, va, vc, vu, vl, Tryd.ty, Tryd.en, ↓reduceIte, Nat.reduceSub, Nat.reduceAdd, Nat.reduceMul, Nat.reduceLT, Int.reduceAdd, Int.reduceSub, Int.reduceToNat, Int.cast_ofNat_Int, vi, getO_i])) rfl (by simp) ?_ ?_
            · rintro ⟨y, d4⟩ gy ⟨hy, hs4, hy4⟩
              dsimp only at hy hs4 hy4
              refine SemA.of (by kernel_rfl) ?_
              (simp -dsimp +decide (disch := omega) only [vy, vz, vze, va, vc, vu, vl, Tryd.ty, Tryd.en, ↓reduceIte, Nat.reduceSub, Nat.reduceAdd, Nat.reduceMul, Nat.reduceLT, Int.reduceAdd, Int.reduceSub, Int.reduceToNat, Int.cast_ofNat_Int, vi, getO_i, tg])
              refine CondP.dec (fun h => ?_) (fun h => ?_)
              · have hne := D_ne d4 (by omega)
                (simp -dsimp +decide (disch := omega) only [vy, vz, vze, va, vc, vu, vl, Tryd.ty, Tryd.en, ↓reduceIte, Nat.reduceSub, Nat.reduceAdd, Nat.reduceMul, Nat.reduceLT, Int.reduceAdd, Int.reduceSub, Int.reduceToNat, Int.cast_ofNat_Int, vi, getO_i, tg])
                refine SemA.drawS (.fl 0 (.fl 1 (.fl 2 (.fl 3 (.fl 4 (.fl 5 (.fl 6 (.fl 7 (.fl 8 (.sq 9 (.fl 10 .nil))))))))))) Tryd.mixed (by kernel_rfl) ?_
                (simp -dsimp +decide (disch := omega) only [vy, vz, vze, va, vc, vu, vl, Tryd.ty, Tryd.en, ↓reduceIte, Nat.reduceSub, Nat.reduceAdd, Nat.reduceMul, Nat.reduceLT, Int.reduceAdd, Int.reduceSub, Int.reduceToNat, Int.cast_ofNat_Int, vi, getO_i, tg, hne, D_at])
                repeat (refine And.intro (by omega) ?_)
                refine less_ok.det ?_
                (simp -dsimp +decide (disch := omega) only [vy, vz, vze, va, vc, vu, vl, Tryd.ty, Tryd.en, ↓reduceIte, Nat.reduceSub, Nat.reduceAdd, Nat.reduceMul, Nat.reduceLT, Int.reduceAdd, Int.reduceSub, Int.reduceToNat, Int.cast_ofNat_Int, vi, getO_i, tg])
                by_cases hl : ltU d4[y]! d4[y - 1]! = true
                · rw [hl]
                  (simp -dsimp +decide (disch := omega) only [vy, vz, vze, va, vc, vu, vl, Tryd.ty, Tryd.en, ↓reduceIte, Nat.reduceSub, Nat.reduceAdd, Nat.reduceMul, Nat.reduceLT, Int.reduceAdd, Int.reduceSub, Int.reduceToNat, Int.cast_ofNat_Int, vi, getO_i, tg])
                  have hne := D_ne d4 (by omega)
                  refine SemA.drawS (.fl 0 (.fl 1 (.fl 2 (.fl 3 (.fp 4 (.fl 5 (.fl 6 (.fl 7 (.fl 8 (.fl 9 (.fl 10 (.fl 11 (.fl 12 (.fl 13 (.fl 14 (.sq 15 (.fl 16 (.sq 17 .nil)))))))))))))))))) Tryd.mixed (by kernel_rfl) ?_
                  (simp -dsimp +decide (disch := omega) only [vy, vz, vze, va, vc, vu, vl, Tryd.ty, Tryd.en, ↓reduceIte, Nat.reduceSub, Nat.reduceAdd, Nat.reduceMul, Nat.reduceLT, Int.reduceAdd, Int.reduceSub, Int.reduceToNat, Int.cast_ofNat_Int, vi, getO_i, tg, hne, D_sv, D_ns, D_ls, D_at, D_len, Array.size_setIfInBounds])
                  repeat (refine And.intro (by omega) ?_)
                  (simp -dsimp +decide (disch := omega) only [vy, vz, vze, va, vc, vu, vl, Tryd.ty, Tryd.en, ↓reduceIte, Nat.reduceSub, Nat.reduceAdd, Nat.reduceMul, Nat.reduceLT, Int.reduceAdd, Int.reduceSub, Int.reduceToNat, Int.cast_ofNat_Int, vi, getO_i, tg, swp_eq'])
                  exact ⟨(y - 1, Sort.swp d4 y (y - 1)), ⟨⟨by dsimp only; omega, by rw [Sort.size_swp]; exact hs4, by rw [← hy4]; exact (shd_step (by omega) hl).symm⟩, by dsimp only; omega⟩, by dsimp only; rw [show ((y - 1 : Nat) : Int) = (y : Int) - 1 by omega], rfl⟩
                · have hl : ltU d4[y]! d4[y - 1]! = false := by simpa using hl
                  rw [hl]
                  (simp -dsimp +decide (disch := omega) only [vy, vz, vze, va, vc, vu, vl, Tryd.ty, Tryd.en, ↓reduceIte, Nat.reduceSub, Nat.reduceAdd, Nat.reduceMul, Nat.reduceLT, Int.reduceAdd, Int.reduceSub, Int.reduceToNat, Int.cast_ofNat_Int, vi, getO_i, tg])
                  have : d4 = d3 := by rw [← hy4]; exact (shd_stop (fun _ => hl)).symm
                  exact ⟨(), by rw [← this]; exact hs4, by rw [this]⟩
              · (simp -dsimp +decide (disch := omega) only [vy, vz, vze, va, vc, vu, vl, Tryd.ty, Tryd.en, ↓reduceIte, Nat.reduceSub, Nat.reduceAdd, Nat.reduceMul, Nat.reduceLT, Int.reduceAdd, Int.reduceSub, Int.reduceToNat, Int.cast_ofNat_Int, vi, getO_i, tg])
                have : d4 = d3 := by rw [← hy4]; exact (shd_stop (fun _ => by omega)).symm
                exact ⟨(), by rw [← this]; exact hs4, by rw [this]⟩
            · rintro ⟨⟩ gy tmpy hs3
              (simp -dsimp +decide (disch := omega) only [vy, vz, vze, va, vc, vu, vl, Tryd.ty, Tryd.en, ↓reduceIte, Nat.reduceSub, Nat.reduceAdd, Nat.reduceMul, Nat.reduceLT, Int.reduceAdd, Int.reduceSub, Int.reduceToNat, Int.cast_ofNat_Int, vi, getO_i, tg])
              exact ⟨(), hs3⟩
          · rw [if_neg (by omega)] at hd3
            (simp -dsimp +decide (disch := omega) only [vy, vz, vze, va, vc, vu, vl, Tryd.ty, Tryd.en, ↓reduceIte, Nat.reduceSub, Nat.reduceAdd, Nat.reduceMul, Nat.reduceLT, Int.reduceAdd, Int.reduceSub, Int.reduceToNat, Int.cast_ofNat_Int, vi, getO_i, tg])
            exact ⟨(), by rw [hd3]; exact hs2, by rw [hd3]⟩
        · rintro ⟨⟩ gz tmpz hs3
          refine SemA.of (by kernel_rfl) ?_
          (simp -dsimp +decide (disch := omega) only [vy, vz, vze, va, vc, vu, vl, Tryd.ty, Tryd.en, ↓reduceIte, Nat.reduceSub, Nat.reduceAdd, Nat.reduceMul, Nat.reduceLT, Int.reduceAdd, Int.reduceSub, Int.reduceToNat, Int.cast_ofNat_Int, vi, getO_i, tg, e7])
          refine CondP.dec (fun h => ?_) (fun h => ?_)
          · rw [if_pos (by omega)] at hp
            (simp -dsimp +decide (disch := omega) only [vy, vz, vze, va, vc, vu, vl, Tryd.ty, Tryd.en, ↓reduceIte, Nat.reduceSub, Nat.reduceAdd, Nat.reduceMul, Nat.reduceLT, Int.reduceAdd, Int.reduceSub, Int.reduceToNat, Int.cast_ofNat_Int, vi, getO_i, tg, e8])
            refine SemA.loopE (fun s' : Nat × Array UInt64 => [(0, .sl i 0 n), (1, wint (a : Int)), (2, wint (b : Int)), (7, wint (i2 : Int)), (8, wint (5 - ((s + 1 : Nat) : Int))), (10, wint (s'.1 : Int))]) (fun s' => TB T i s'.2) (fun s' => 0 < s'.1 ∧ s'.1 ≤ b ∧ s'.2.size = n ∧ Sort.shiftUp ltU b s'.1 s'.2 = Sort.shiftUp ltU b (i2 + 1) d3) (fun s' => b - s'.1) (i2 + 1, d3) [(i, false)] 6 (fun d5 : Array UInt64 => [(0, .sl i 0 n), (1, wint (a : Int)), (2, wint (b : Int)), (7, wint (i2 : Int)), (8, wint (5 - ((s + 1 : Nat) : Int)))]) (fun d5 => TB T i d5) (fun d5 => d5.size = n ∧ d5 = Sort.shiftUp ltU b (i2 + 1) d3) ⟨by simp, by dsimp only; omega, hs3, rfl⟩ (by (simp -dsimp +decide (disch := omega) only [vy, vz, vze, va, vc, vu, vl, Tryd.ty, Tryd.en, ↓reduceIte, Nat.reduceSub, Nat.reduceAdd, Nat.reduceMul, Nat.reduceLT, Int.reduceAdd, Int.reduceSub, Int.reduceToNat, Int.cast_ofNat_Int, vi, getO_i])) rfl (by simp) ?_ ?_
            · rintro ⟨y, d4⟩ gy ⟨hy0, hy, hs4, hy4⟩
              dsimp only at hy0 hy hs4 hy4
              refine SemA.of (by kernel_rfl) ?_
              (simp -dsimp +decide (disch := omega) only [vy, vz, vze, va, vc, vu, vl, Tryd.ty, Tryd.en, ↓reduceIte, Nat.reduceSub, Nat.reduceAdd, Nat.reduceMul, Nat.reduceLT, Int.reduceAdd, Int.reduceSub, Int.reduceToNat, Int.cast_ofNat_Int, vi, getO_i, tg])
              refine CondP.dec (fun h => ?_) (fun h => ?_)
              · have hne := D_ne d4 (by omega)
                (simp -dsimp +decide (disch := omega) only [vy, vz, vze, va, vc, vu, vl, Tryd.ty, Tryd.en, ↓reduceIte, Nat.reduceSub, Nat.reduceAdd, Nat.reduceMul, Nat.reduceLT, Int.reduceAdd, Int.reduceSub, Int.reduceToNat, Int.cast_ofNat_Int, vi, getO_i, tg])
                refine SemA.drawS (.fl 0 (.fl 1 (.fl 2 (.fl 3 (.fl 4 (.fl 5 (.fl 6 (.fl 7 (.fl 8 (.sq 9 (.fl 10 .nil))))))))))) Tryd.mixed (by kernel_rfl) ?_
                (simp -dsimp +decide (disch := omega) only [vy, vz, vze, va, vc, vu, vl, Tryd.ty, Tryd.en, ↓reduceIte, Nat.reduceSub, Nat.reduceAdd, Nat.reduceMul, Nat.reduceLT, Int.reduceAdd, Int.reduceSub, Int.reduceToNat, Int.cast_ofNat_Int, vi, getO_i, tg, hne, D_at])
                repeat (refine And.intro (by omega) ?_)
                refine less_ok.det ?_
                (simp -dsimp +decide (disch := omega) only [vy, vz, vze, va, vc, vu, vl, Tryd.ty, Tryd.en, ↓reduceIte, Nat.reduceSub, Nat.reduceAdd, Nat.reduceMul, Nat.reduceLT, Int.reduceAdd, Int.reduceSub, Int.reduceToNat, Int.cast_ofNat_Int, vi, getO_i, tg])
                by_cases hl : ltU d4[y]! d4[y - 1]! = true
                · rw [hl]
                  (simp -dsimp +decide (disch := omega) only [vy, vz, vze, va, vc, vu, vl, Tryd.ty, Tryd.en, ↓reduceIte, Nat.reduceSub, Nat.reduceAdd, Nat.reduceMul, Nat.reduceLT, Int.reduceAdd, Int.reduceSub, Int.reduceToNat, Int.cast_ofNat_Int, vi, getO_i, tg])
                  have hne := D_ne d4 (by omega)
                  refine SemA.drawS (.fl 0 (.fl 1 (.fl 2 (.fl 3 (.fp 4 (.fl 5 (.fl 6 (.fl 7 (.fl 8 (.fl 9 (.fl 10 (.fl 11 (.fl 12 (.fl 13 (.fl 14 (.sq 15 (.fl 16 (.sq 17 .nil)))))))))))))))))) Tryd.mixed (by kernel_rfl) ?_
                  (simp -dsimp +decide (disch := omega) only [vy, vz, vze, va, vc, vu, vl, Tryd.ty, Tryd.en, ↓reduceIte, Nat.reduceSub, Nat.reduceAdd, Nat.reduceMul, Nat.reduceLT, Int.reduceAdd, Int.reduceSub, Int.reduceToNat, Int.cast_ofNat_Int, vi, getO_i, tg, hne, D_sv, D_ns, D_ls, D_at, D_len, Array.size_setIfInBounds])
                  repeat (refine And.intro (by omega) ?_)
                  (simp -dsimp +decide (disch := omega) only [vy, vz, vze, va, vc, vu, vl, Tryd.ty, Tryd.en, ↓reduceIte, Nat.reduceSub, Nat.reduceAdd, Nat.reduceMul, Nat.reduceLT, Int.reduceAdd, Int.reduceSub, Int.reduceToNat, Int.cast_ofNat_Int, vi, getO_i, tg, swp_eq'])
                  exact ⟨(y + 1, Sort.swp d4 y (y - 1)), ⟨⟨by dsimp only; omega, by dsimp only; omega, by rw [Sort.size_swp]; exact hs4, by rw [← hy4]; exact (shu_step (by omega) hl).symm⟩, by dsimp only; omega⟩, rfl, rfl⟩
                · have hl : ltU d4[y]! d4[y - 1]! = false := by simpa using hl
                  rw [hl]
                  (simp -dsimp +decide (disch := omega) only [vy, vz, vze, va, vc, vu, vl, Tryd.ty, Tryd.en, ↓reduceIte, Nat.reduceSub, Nat.reduceAdd, Nat.reduceMul, Nat.reduceLT, Int.reduceAdd, Int.reduceSub, Int.reduceToNat, Int.cast_ofNat_Int, vi, getO_i, tg])
                  exact ⟨d4, ⟨hs4, by rw [← hy4]; exact (shu_stop (fun _ => hl)).symm⟩, rfl⟩
              · (simp -dsimp +decide (disch := omega) only [vy, vz, vze, va, vc, vu, vl, Tryd.ty, Tryd.en, ↓reduceIte, Nat.reduceSub, Nat.reduceAdd, Nat.reduceMul, Nat.reduceLT, Int.reduceAdd, Int.reduceSub, Int.reduceToNat, Int.cast_ofNat_Int, vi, getO_i, tg])
                exact ⟨d4, ⟨hs4, by rw [← hy4]; exact (shu_stop (fun _ => by omega)).symm⟩, rfl⟩
            · rintro d5 gy tmpy ⟨hs5, hd5⟩
              (simp -dsimp +decide (disch := omega) only [vy, vz, vze, va, vc, vu, vl, Tryd.ty, Tryd.en, ↓reduceIte, Nat.reduceSub, Nat.reduceAdd, Nat.reduceMul, Nat.reduceLT, Int.reduceAdd, Int.reduceSub, Int.reduceToNat, Int.cast_ofNat_Int, vi, getO_i, tg])
              exact ⟨(0, d5), ⟨by omega, by omega, hs5, by dsimp only; rw [hd5]; exact hp⟩, rfl⟩
          · rw [if_neg (by omega)] at hp
            (simp -dsimp +decide (disch := omega) only [vy, vz, vze, va, vc, vu, vl, Tryd.ty, Tryd.en, ↓reduceIte, Nat.reduceSub, Nat.reduceAdd, Nat.reduceMul, Nat.reduceLT, Int.reduceAdd, Int.reduceSub, Int.reduceToNat, Int.cast_ofNat_Int, vi, getO_i, tg])
            exact ⟨(0, d3), ⟨by omega, by omega, hs3, hp⟩, rfl⟩
    · rintro ⟨z, d5⟩ gy tmpy ⟨h1, h2, h3, h4⟩
      dsimp only at h1 h2 h3 h4
      refine SemA.of (by kernel_rfl) ?_
      (simp -dsimp +decide (disch := omega) only [vy, vz, vze, va, vc, vu, vl, Tryd.ty, Tryd.en, ↓reduceIte, Nat.reduceSub, Nat.reduceAdd, Nat.reduceMul, Nat.reduceLT, Int.reduceAdd, Int.reduceSub, Int.reduceToNat, Int.cast_ofNat_Int, vi, getO_i, tg])
      exact ⟨(s, i2, d5), ⟨⟨by dsimp only; omega, by dsimp only; omega, by dsimp only; omega, h3, h4⟩, by dsimp only; omega⟩, ⟨rfl, by dsimp only; rw [show (5 : Int) - ((s + 1 : Nat) : Int) + 1 = 5 - (s : Int) by omega]⟩, rfl⟩
  · rintro d1 g tmp hd
    (simp -dsimp +decide (disch := omega) only [vy, vz, vze, va, vc, vu, vl, Tryd.ty, Tryd.en, ↓reduceIte, Nat.reduceSub, Nat.reduceAdd, Nat.reduceMul, Nat.reduceLT, Int.reduceAdd, Int.reduceSub, Int.reduceToNat, Int.cast_ofNat_Int, vi, getO_i, tg])
    refine Vw.eff (E' := [(i, false)]) (by simp) ?_
    exact Vw.done ⟨by rw [← hd], by rw [← hd], rfl⟩
end Go.Proofs.YtmcbdlefakjpoaaDoor

set_option linter.unusedSimpArgs false
set_option linter.unusedVariables false
set_option linter.unusedSectionVars false
namespace Go.Proofs.YtmcbdlefakjpoaaDoor
open Go.E
def TX (T : Tbl) (i : Nat) (d : Array UInt64) (r : UInt64) : Tbl := TB T i d ++ [.cells 105 [w64 r]]
theorem TX_get {T : Tbl} {i : Nat} (hi : i < T.length) :
    (∀ d s, (TX T i d s)[i]? = some (.buf 46 1 (D d))) ∧ (∀ d s, (TX T i d s)[T.length]? = some (.cells 105 [w64 s])) ∧ (∀ d s s', (TX T i d s).set T.length (.cells 105 [.p (.int .u64 (UInt64.toNat s' : Int))]) = TX T i d s') ∧
    (∀ d s, (TX T i d s).length = T.length + 1) ∧ (∀ E, rec1 (T.length + 1) T.length false E = (T.length, false) :: E) ∧ (∀ d d' s, (TX T i d s).set i (.buf 46 1 (D d')) = TX T i d' s) := by
  have tg := TB_get hi
  refine ⟨fun d s => tg.2.1 d _, fun d s => ?_, fun d s s' => ?_, fun d s => by simp [TX, tg], fun E => by simp [rec1], fun d d' s => tg.2.2.2.1 d _ d'⟩
  · unfold TX; rw [List.getElem?_append_right (by simp [tg])]; simp [tg]
  · unfold TX; rw [List.set_append_right _ _ (by simp [tg])]; simp [tg]; rfl
set_option maxRecDepth 8000 in
theorem next_ok {T : Tbl} {i : Nat} {d : Array UInt64} {r : UInt64} (hi : i < T.length) :
    CallA Tryd.prog Tryd.G 69 [.ptr T.length 0] (TX T i d r) fun v T' es => (∃ r', v = w64 r' ∧ T' = TX T i d r') ∧ es = [(T.length, false)] := by
  have tg := TX_get hi
  refine CallA.enterV 3 Tryd.func69 Tryd.ntmps69 (congrArg Array.toList Tryd.results69) rfl ⟨by simp, by simp⟩ (by kernel_rfl) (by kernel_rfl) ?_
  (simp -dsimp +decide only [vy, vz, vze, va, vc, vu, vl, Tryd.ty, Tryd.en, ↓reduceIte, Nat.reduceSub, Nat.reduceAdd, Nat.reduceMul, Nat.reduceLT, Int.reduceAdd, Int.reduceSub, Int.reduceToNat, Int.cast_ofNat_Int])
  (simp -dsimp +decide (disch := omega) only [vy, vz, vze, va, vc, vu, vl, Tryd.ty, Tryd.en, ↓reduceIte, Nat.reduceSub, Nat.reduceAdd, Nat.reduceMul, Nat.reduceLT, Int.reduceAdd, Int.reduceSub, Int.reduceToNat, Int.cast_ofNat_Int, vi, getO_i, tg])
  refine SemA.drawS (.fl 0 (.fl 1 (.fl 2 (.fl 3 (.fl 4 (.fl 5 (.fl 6 (.fl 7 (.fl 8 (.sq 9 .nil)))))))))) Tryd.mixed (by kernel_rfl) ?_
  (simp -dsimp +decide (disch := omega) only [vy, vz, vze, va, vc, vu, vl, Tryd.ty, Tryd.en, ↓reduceIte, Nat.reduceSub, Nat.reduceAdd, Nat.reduceMul, Nat.reduceLT, Int.reduceAdd, Int.reduceSub, Int.reduceToNat, Int.cast_ofNat_Int, vi, getO_i, tg])
  refine SemA.drawS (.fl 0 (.fl 1 (.fl 2 (.fl 3 (.fl 4 (.fl 5 (.fl 6 (.fl 7 (.fl 8 (.sq 9 .nil)))))))))) Tryd.mixed (by kernel_rfl) ?_
  (simp -dsimp +decide (disch := omega) only [vy, vz, vze, va, vc, vu, vl, Tryd.ty, Tryd.en, ↓reduceIte, Nat.reduceSub, Nat.reduceAdd, Nat.reduceMul, Nat.reduceLT, Int.reduceAdd, Int.reduceSub, Int.reduceToNat, Int.cast_ofNat_Int, vi, getO_i, tg])
  refine SemA.drawS (.fl 0 (.fl 1 (.fl 2 (.fl 3 (.fl 4 (.fl 5 (.fl 6 (.fl 7 (.fl 8 (.sq 9 .nil)))))))))) Tryd.mixed (by kernel_rfl) ?_
  (simp -dsimp +decide (disch := omega) only [vy, vz, vze, va, vc, vu, vl, Tryd.ty, Tryd.en, ↓reduceIte, Nat.reduceSub, Nat.reduceAdd, Nat.reduceMul, Nat.reduceLT, Int.reduceAdd, Int.reduceSub, Int.reduceToNat, Int.cast_ofNat_Int, vi, getO_i, tg])
  refine Vw.eff (E' := [(T.length, false)]) (by simp) ?_
  exact Vw.done ⟨⟨_, rfl, rfl⟩, rfl⟩
theorem mod_lt {n : Nat} (h8 : 8 ≤ n) (hB : n ≤ 1099511627776) (r : UInt64) : (r &&& (u64_shl 1 (Sort.bitsLen n) - UInt64.ofInt 1)).toNat < 2 * n := by
  have h1 : 2 ^ Sort.bitsLen n ≤ 2 * n := Sort.two_pow_bitsLen_le (by omega)
  have h2 : 0 < 2 ^ Sort.bitsLen n := Nat.two_pow_pos _
  have h40 : Sort.bitsLen n ≤ 41 := (Sort.bitsLen_le_iff n 41).2 (by omega)
  have h3 : (u64_shl 1 (Sort.bitsLen n)).toNat = 2 ^ Sort.bitsLen n := by
    rw [u64_shl, if_pos (by omega), UInt64.toNat_shiftLeft]
    have : (UInt64.ofNat (Sort.bitsLen n)).toNat = Sort.bitsLen n := by simp; omega
    rw [this, Nat.mod_eq_of_lt (a := Sort.bitsLen n) (by omega)]
    show (1 : UInt64).toNat <<< _ % _ = _
    rw [Nat.shiftLeft_eq]
    show 1 * 2 ^ Sort.bitsLen n % _ = _
    rw [Nat.one_mul, Nat.mod_eq_of_lt]
    exact Nat.lt_of_le_of_lt h1 (by omega)
  rw [UInt64.toNat_and]
  refine Nat.lt_of_le_of_lt Nat.and_le_right ?_
  have h4 : (u64_shl 1 (Sort.bitsLen n) - UInt64.ofInt 1).toNat = 2 ^ Sort.bitsLen n - 1 := by
    have h5 : UInt64.ofInt 1 = 1 := rfl
    rw [h5, UInt64.toNat_sub_of_le, h3]
    · rfl
    · rw [UInt64.le_iff_toNat_le, h3]; exact h2
  omega
theorem D_wo (q : Nat → Bool) (d : Array UInt64) : (D d).map (AV.wo q) = D d := by
  unfold D
  rw [List.map_map]
  refine List.map_congr_left fun x _ => ?_
  show AV.wo q (.p _) = _
  rw [AV.wo]; rfl
theorem TB_wo {T : Tbl} {i : Nat} {d : Array UInt64} {q : Nat → Bool} (h : (TB T i d).map (AObj.wo q) = TB T i d) (d' : Array UInt64) : (TB T i d').map (AObj.wo q) = TB T i d' := by
  have e : TB T i d' = (TB T i d).set i (.buf 46 1 (D d')) := by simp [TB]
  rw [e, List.map_set, h]
  congr 1
  show AObj.buf _ _ _ = _
  rw [D_wo]
set_option maxRecDepth 8000 in
theorem brk_ok {T : Tbl} {i a b n : Nat} {d : Array UInt64} (hi : i < T.length) (hn : d.size = n) (hab : a + 12 < b) (hb : b ≤ n) (hB : n ≤ 1099511627776) :
    CallA Tryd.prog Tryd.G 52 [.sl i 0 n, wint (a : Int), wint (b : Int)] (TB T i d) fun v T' es => v = .tu [] ∧ (∃ d', T' = TB T i d' ∧ d'.size = n ∧ Sort.PermIn a b d d') ∧ es = [(i, false)] := by
  have tb := TB_get hi
  have tg := TX_get hi
  have e1 : (b : Int) - (a : Int) = ((b - a : Nat) : Int) := by omega
  have e8 : ((8 : Int) ≤ ((b - a : Nat) : Int)) = True := by simp; omega
  have q4 : ∀ k : Nat, (k : Int).tdiv 4 = ((k / 4 : Nat) : Int) := fun _ => rfl
  have e2 : (a : Int) + (((b - a) / 4 : Nat) : Int) * 2 - 1 = ((a + (b - a) / 4 * 2 - 1 : Nat) : Int) := by omega
  have e3 : (a : Int) + (((b - a) / 4 : Nat) : Int) * 2 + 1 = ((a + (b - a) / 4 * 2 + 1 : Nat) : Int) := by omega
  have htx : ∀ x : UInt64, TB T i d ++ [AObj.cells 105 [.p (.int .u64 (x.toNat : Int))]] = TX T i d x := fun _ => rfl
  refine CallA.wfs fun wf => ?_
  have wt := wf.t.2.1
  have htx0 : TB T i d ++ [AObj.cells 105 [.p (.int .u64 0)]] = TX T i d 0 := rfl
  refine CallA.enterV 11 Tryd.func52 Tryd.ntmps52 (congrArg Array.toList Tryd.results52) rfl ⟨by simp, by simp⟩ (by kernel_rfl) (by kernel_rfl) ?_
  (simp -dsimp +decide only [vy, vz, vze, va, vc, vu, vl, Tryd.ty, Tryd.en, ↓reduceIte, Nat.reduceSub, Nat.reduceAdd, Nat.reduceMul, Nat.reduceLT, Int.reduceAdd, Int.reduceSub, Int.reduceToNat, Int.cast_ofNat_Int])
  (simp -dsimp +decide (disch := omega) only [vy, vz, vze, va, vc, vu, vl, Tryd.ty, Tryd.en, ↓reduceIte, Nat.reduceSub, Nat.reduceAdd, Nat.reduceMul, Nat.reduceLT, Int.reduceAdd, Int.reduceSub, Int.reduceToNat, Int.cast_ofNat_Int, vi, getO_i, tb, tg, htx, htx0, e1, e8])
  refine (npow_ok (n := b - a) (by omega)).det ?_
  (simp -dsimp +decide (disch := omega) only [vy, vz, vze, va, vc, vu, vl, Tryd.ty, Tryd.en, ↓reduceIte, Nat.reduceSub, Nat.reduceAdd, Nat.reduceMul, Nat.reduceLT, Int.reduceAdd, Int.reduceSub, Int.reduceToNat, Int.cast_ofNat_Int, vi, getO_i, tb, tg, e1, q4, e2])
  obtain ⟨mm, hmm⟩ : ∃ mm, mm = u64_shl 1 (Sort.bitsLen (b - a)) := ⟨_, rfl⟩
  rw [← hmm]
  refine SemA.loopE (fun s : Nat × UInt64 × Array UInt64 => [(0, .sl i 0 n), (1, wint (a : Int)), (6, wint ((b - a : Nat) : Int)), (7, .ptr T.length 0), (8, w64 mm), (9, wint (s.1 : Int))]) (fun s => TX T i s.2.2 s.2.1) (fun s => a ≤ s.1 ∧ s.2.2.size = n ∧ Sort.PermIn a b d s.2.2) (fun s => b + 1 - s.1) (a + (b - a) / 4 * 2 - 1, UInt64.ofInt ((b - a : Nat) : Int), d) [(i, false)] 0 (fun s : UInt64 × Array UInt64 => []) (fun s => TX T i s.2 s.1) (fun s => s.2.size = n ∧ Sort.PermIn a b d s.2) ⟨by dsimp only; omega, hn, Sort.permIn_refl _ _ _⟩ (by (simp -dsimp +decide (disch := omega) only [vy, vz, vze, va, vc, vu, vl, Tryd.ty, Tryd.en, ↓reduceIte, Nat.reduceSub, Nat.reduceAdd, Nat.reduceMul, Nat.reduceLT, Int.reduceAdd, Int.reduceSub, Int.reduceToNat, Int.cast_ofNat_Int, vi, getO_i])) rfl (by simp) ?_ ?_
  · rintro ⟨k, r, d1⟩ g ⟨hk, hs1, hp⟩
    dsimp only at hk hs1 hp
    refine SemA.of (by kernel_rfl) ?_
    (simp -dsimp +decide (disch := omega) only [vy, vz, vze, va, vc, vu, vl, Tryd.ty, Tryd.en, ↓reduceIte, Nat.reduceSub, Nat.reduceAdd, Nat.reduceMul, Nat.reduceLT, Int.reduceAdd, Int.reduceSub, Int.reduceToNat, Int.cast_ofNat_Int, vi, getO_i, tg, q4, e3])
    refine CondP.dec (fun hc => ?_) (fun hc => ?_)
    · (simp -dsimp +decide (disch := omega) only [vy, vz, vze, va, vc, vu, vl, Tryd.ty, Tryd.en, ↓reduceIte, Nat.reduceSub, Nat.reduceAdd, Nat.reduceMul, Nat.reduceLT, Int.reduceAdd, Int.reduceSub, Int.reduceToNat, Int.cast_ofNat_Int, vi, getO_i, tg])
      refine (next_ok (d := d1) (r := r) hi).mono ?_
      rintro v T' es ⟨⟨r2, rfl, rfl⟩, rfl⟩
      have hml := mod_lt (n := b - a) (by omega) (by omega) r2
      rw [← hmm] at hml
      have hsub : (mm - UInt64.ofInt 1) = (mm - UInt64.ofInt 1) := rfl
      obtain ⟨ot, hot⟩ : ∃ ot, ot = (r2 &&& (mm - UInt64.ofInt 1)) := ⟨_, rfl⟩
      rw [← hot] at hml
      have hw : IntKind.i64.wrap ((ot.toNat : Nat) : Int) = (ot.toNat : Int) := IntWalk.i64_in _ (by omega)
      (simp -dsimp +decide (disch := omega) only [vy, vz, vze, va, vc, vu, vl, Tryd.ty, Tryd.en, ↓reduceIte, Nat.reduceSub, Nat.reduceAdd, Nat.reduceMul, Nat.reduceLT, Int.reduceAdd, Int.reduceSub, Int.reduceToNat, Int.cast_ofNat_Int, vi, getO_i, tg, ← hot, hw])
      have hidx : k < b := by omega
      refine CondP.dec (fun h => ?_) (fun h => ?_)
      · have e9 : (ot.toNat : Int) - ((b - a : Nat) : Int) = ((ot.toNat - (b - a) : Nat) : Int) := by omega
        obtain ⟨oo, hoo⟩ : ∃ oo, oo = ot.toNat - (b - a) := ⟨_, rfl⟩
        rw [← hoo] at e9
        have hoo2 : a + oo < b := by omega
        (simp -dsimp +decide (disch := omega) only [vy, vz, vze, va, vc, vu, vl, Tryd.ty, Tryd.en, ↓reduceIte, Nat.reduceSub, Nat.reduceAdd, Nat.reduceMul, Nat.reduceLT, Int.reduceAdd, Int.reduceSub, Int.reduceToNat, Int.cast_ofNat_Int, vi, getO_i, tg, e9])
        have hne := D_ne d1 (by omega)
        refine SemA.drawS (.fl 0 (.fl 1 (.fl 2 (.fl 3 (.fl 4 (.fp 5 (.fl 6 (.fl 7 (.fl 8 (.fl 9 (.fl 10 (.fl 11 (.fl 12 (.fl 13 (.fl 14 (.fl 15 (.fl 16 (.sq 17 (.fl 18 (.sq 19 .nil)))))))))))))))))))) Tryd.mixed (by kernel_rfl) ?_
        (simp -dsimp +decide (disch := omega) only [vy, vz, vze, va, vc, vu, vl, Tryd.ty, Tryd.en, ↓reduceIte, Nat.reduceSub, Nat.reduceAdd, Nat.reduceMul, Nat.reduceLT, Int.reduceAdd, Int.reduceSub, Int.reduceToNat, Int.cast_ofNat_Int, vi, getO_i, tg, hne, D_sv, D_ns, D_ls, D_at, D_len, Array.size_setIfInBounds])
        repeat (refine And.intro (by omega) ?_)
        (simp -dsimp +decide (disch := omega) only [vy, vz, vze, va, vc, vu, vl, Tryd.ty, Tryd.en, ↓reduceIte, Nat.reduceSub, Nat.reduceAdd, Nat.reduceMul, Nat.reduceLT, Int.reduceAdd, Int.reduceSub, Int.reduceToNat, Int.cast_ofNat_Int, vi, getO_i, tb, tg, swp_eq'])
        exact ⟨(k + 1, r2, Sort.swp d1 k (a + oo)), ⟨⟨by dsimp only; omega, by rw [Sort.size_swp]; exact hs1, Sort.permIn_trans _ _ _ a b hp (Sort.swp_permIn d1 a b k (a + oo) (by omega) hidx (by omega) hoo2 (by omega))⟩, by dsimp only; omega⟩, rfl, rfl⟩
      · obtain ⟨oo, hoo⟩ : ∃ oo, oo = ot.toNat := ⟨_, rfl⟩
        have hoo2 : a + oo < b := by omega
        (simp -dsimp +decide (disch := omega) only [vy, vz, vze, va, vc, vu, vl, Tryd.ty, Tryd.en, ↓reduceIte, Nat.reduceSub, Nat.reduceAdd, Nat.reduceMul, Nat.reduceLT, Int.reduceAdd, Int.reduceSub, Int.reduceToNat, Int.cast_ofNat_Int, vi, getO_i, tg, ← hoo])
        have hne := D_ne d1 (by omega)
        refine SemA.drawS (.fl 0 (.fl 1 (.fl 2 (.fl 3 (.fl 4 (.fp 5 (.fl 6 (.fl 7 (.fl 8 (.fl 9 (.fl 10 (.fl 11 (.fl 12 (.fl 13 (.fl 14 (.fl 15 (.fl 16 (.sq 17 (.fl 18 (.sq 19 .nil)))))))))))))))))))) Tryd.mixed (by kernel_rfl) ?_
        (simp -dsimp +decide (disch := omega) only [vy, vz, vze, va, vc, vu, vl, Tryd.ty, Tryd.en, ↓reduceIte, Nat.reduceSub, Nat.reduceAdd, Nat.reduceMul, Nat.reduceLT, Int.reduceAdd, Int.reduceSub, Int.reduceToNat, Int.cast_ofNat_Int, vi, getO_i, tg, hne, D_sv, D_ns, D_ls, D_at, D_len, Array.size_setIfInBounds])
        repeat (refine And.intro (by omega) ?_)
        (simp -dsimp +decide (disch := omega) only [vy, vz, vze, va, vc, vu, vl, Tryd.ty, Tryd.en, ↓reduceIte, Nat.reduceSub, Nat.reduceAdd, Nat.reduceMul, Nat.reduceLT, Int.reduceAdd, Int.reduceSub, Int.reduceToNat, Int.cast_ofNat_Int, vi, getO_i, tb, tg, swp_eq'])
        exact ⟨(k + 1, r2, Sort.swp d1 k (a + oo)), ⟨⟨by dsimp only; omega, by rw [Sort.size_swp]; exact hs1, Sort.permIn_trans _ _ _ a b hp (Sort.swp_permIn d1 a b k (a + oo) (by omega) hidx (by omega) hoo2 (by omega))⟩, by dsimp only; omega⟩, rfl, rfl⟩
    · (simp -dsimp +decide (disch := omega) only [vy, vz, vze, va, vc, vu, vl, Tryd.ty, Tryd.en, ↓reduceIte, Nat.reduceSub, Nat.reduceAdd, Nat.reduceMul, Nat.reduceLT, Int.reduceAdd, Int.reduceSub, Int.reduceToNat, Int.cast_ofNat_Int, vi, getO_i, tg])
      exact ⟨(r, d1), ⟨hs1, hp⟩, rfl⟩
  · rintro ⟨r, d1⟩ g tmp ⟨hs1, hp⟩
    dsimp only at hs1 hp
    (simp -dsimp +decide (disch := omega) only [vy, vz, vze, va, vc, vu, vl, Tryd.ty, Tryd.en, ↓reduceIte, Nat.reduceSub, Nat.reduceAdd, Nat.reduceMul, Nat.reduceLT, Int.reduceAdd, Int.reduceSub, Int.reduceToNat, Int.cast_ofNat_Int, vi, getO_i, tg])
    refine Vw.eff (E' := [(i, false)]) (by simp) ?_
    refine Vw.cutN (TB T i d).length (Nat.le_refl _) ?_
    have h1 : (TX T i d1 r).take (TB T i d).length = TB T i d1 := by
      unfold TX
      rw [List.take_append_of_le_length (by simp [TB]), List.take_of_length_le (by simp [TB])]
    rw [h1, TB_wo wt d1]
    exact Vw.done ⟨by simp [AV.wo, AV.woL], ⟨d1, rfl, hs1, hp⟩, rfl⟩
end Go.Proofs.YtmcbdlefakjpoaaDoor

set_option linter.unusedSimpArgs false
set_option linter.unusedVariables false
set_option linter.unusedSectionVars false
namespace Go.Proofs.YtmcbdlefakjpoaaDoor
open Go.E
/-- what a sort of a part leaves -/
def Fin (a b : Nat) (d : Array UInt64) (a1 b1 : Nat) (d1 : Array UInt64) : Prop := ∀ R, Sort.PermIn a1 b1 d1 R → Sort.SortedIn ltU a1 b1 R → Sort.PermIn a b d R ∧ Sort.SortedIn ltU a b R
theorem Fin.perm {a b a1 b1 : Nat} {d d1 d2 : Array UInt64} (h : Fin a b d a1 b1 d1) (hp : Sort.PermIn a1 b1 d1 d2) : Fin a b d a1 b1 d2 := fun R hR hs => h R (Sort.permIn_trans _ _ _ _ _ hp hR) hs
abbrev PSt := Nat × Nat × Int × Bool × Bool × Array UInt64
def LP (i n : Nat) (s : PSt) : List (Nat × AV) := [(0, .sl i 0 n), (1, wint (s.1 : Int)), (2, wint (s.2.1 : Int)), (3, .p (.int .i64 s.2.2.1)), (8, .p (.bool s.2.2.2.1)), (9, .p (.bool s.2.2.2.2.1))]
set_option maxRecDepth 8000 in
theorem pdq_ok : ∀ (m : Nat) {T : Tbl} {i a b n : Nat} {d : Array UInt64} {lim : Int}, b - a ≤ m → i < T.length → d.size = n → a ≤ b → b ≤ n → n ≤ 1099511627776 → Sort.Below ltU a b d →
    CallA Tryd.prog Tryd.G 36 [.sl i 0 n, wint (a : Int), wint (b : Int), .p (.int .i64 lim)] (TB T i d) fun v T' es => v = .tu [] ∧ (∃ d', T' = TB T i d' ∧ d'.size = n ∧ Sort.PermIn a b d d' ∧ Sort.SortedIn ltU a b d') ∧ es = [(i, false)] := by
  intro m
  induction m using Nat.strongRecOn with
  | _ m ih =>
  intro T i a b n d lim hm hi hn hab hb hB hbl
  have tg := TB_get hi
  refine CallA.enterV 19 Tryd.func36 Tryd.ntmps36 (congrArg Array.toList Tryd.results36) rfl ⟨by simp, by simp⟩ (by kernel_rfl) (by kernel_rfl) ?_
  (simp -dsimp +decide only [vy, vz, vze, va, vc, vu, vl, Tryd.ty, Tryd.en, ↓reduceIte, Nat.reduceSub, Nat.reduceAdd, Nat.reduceMul, Nat.reduceLT, Int.reduceAdd, Int.reduceSub, Int.reduceToNat, Int.cast_ofNat_Int])
  (simp -dsimp +decide (disch := omega) only [vy, vz, vze, va, vc, vu, vl, Tryd.ty, Tryd.en, ↓reduceIte, Nat.reduceSub, Nat.reduceAdd, Nat.reduceMul, Nat.reduceLT, Int.reduceAdd, Int.reduceSub, Int.reduceToNat, Int.cast_ofNat_Int, vi, getO_i, tg])
  refine SemA.loopE (fun s : PSt => LP i n s) (fun s => TB T i s.2.2.2.2.2) (fun s => s.1 ≤ s.2.1 ∧ s.2.1 ≤ n ∧ s.2.2.2.2.2.size = n ∧ s.2.1 - s.1 ≤ b - a ∧ Sort.Below ltU s.1 s.2.1 s.2.2.2.2.2 ∧ Fin a b d s.1 s.2.1 s.2.2.2.2.2) (fun s => s.2.1 - s.1) (a, b, lim, true, true, d) [(i, false)] 0 (fun _ : Unit => []) (fun _ => T) (fun _ => False) ⟨hab, hb, hn, Nat.le_refl _, hbl, fun R h1 h2 => ⟨h1, h2⟩⟩ (by (simp -dsimp +decide (disch := omega) only [vy, vz, vze, va, vc, vu, vl, Tryd.ty, Tryd.en, ↓reduceIte, Nat.reduceSub, Nat.reduceAdd, Nat.reduceMul, Nat.reduceLT, Int.reduceAdd, Int.reduceSub, Int.reduceToNat, Int.cast_ofNat_Int, vi, getO_i, LP])) rfl (by simp) ?_ (fun _ _ _ h => h.elim)
  rintro ⟨a1, b1, li, wb, wp, d1⟩ g ⟨h1, h2, hs1, h4, hbl1, hf1⟩
  dsimp only at h1 h2 hs1 h4 hbl1 hf1
  have e1 : (b1 : Int) - (a1 : Int) = ((b1 - a1 : Nat) : Int) := by omega
  refine SemA.blk ?_
  refine SemA.cutAt [] (fun s : Int × Array UInt64 => (10, wint ((b1 - a1 : Nat) : Int)) :: LP i n (a1, b1, s.1, wb, wp, s.2)) (fun s => TB T i s.2) (fun s => a1 + 12 < b1 ∧ s.2.size = n ∧ Sort.PermIn a1 b1 d1 s.2) [(i, false)] 4 rfl (by kernel_rfl) ?_ ?_
  · (simp -dsimp +decide (disch := omega) only [vy, vz, vze, va, vc, vu, vl, Tryd.ty, Tryd.en, ↓reduceIte, Nat.reduceSub, Nat.reduceAdd, Nat.reduceMul, Nat.reduceLT, Int.reduceAdd, Int.reduceSub, Int.reduceToNat, Int.cast_ofNat_Int, vi, getO_i, tg, LP, e1])
    refine CondP.dec (fun h => ?_) (fun h => ?_)
    · (simp -dsimp +decide (disch := omega) only [vy, vz, vze, va, vc, vu, vl, Tryd.ty, Tryd.en, ↓reduceIte, Nat.reduceSub, Nat.reduceAdd, Nat.reduceMul, Nat.reduceLT, Int.reduceAdd, Int.reduceSub, Int.reduceToNat, Int.cast_ofNat_Int, vi, getO_i, tg])
      refine (ins_ok hi hs1 h1 h2 hB).det' ?_
      (simp -dsimp +decide (disch := omega) only [vy, vz, vze, va, vc, vu, vl, Tryd.ty, Tryd.en, ↓reduceIte, Nat.reduceSub, Nat.reduceAdd, Nat.reduceMul, Nat.reduceLT, Int.reduceAdd, Int.reduceSub, Int.reduceToNat, Int.cast_ofNat_Int, vi, getO_i, tg])
      refine Vw.eff (E' := [(i, false)]) (by simp) ?_
      obtain ⟨k1, k2⟩ := Sort.insertionSort_holds swoU d1 a1 b1 h1 (by omega)
      obtain ⟨k3, k4⟩ := hf1 _ k1 k2
      exact Vw.done ⟨rfl, ⟨_, rfl, by rw [k1.1]; exact hs1, k3, k4⟩, rfl⟩
    · have h12 : a1 + 12 < b1 := by omega
      (simp -dsimp +decide (disch := omega) only [vy, vz, vze, va, vc, vu, vl, Tryd.ty, Tryd.en, ↓reduceIte, Nat.reduceSub, Nat.reduceAdd, Nat.reduceMul, Nat.reduceLT, Int.reduceAdd, Int.reduceSub, Int.reduceToNat, Int.cast_ofNat_Int, vi, getO_i, tg])
      refine CondP.dec (fun h => ?_) (fun h => ?_)
      · (simp -dsimp +decide (disch := omega) only [vy, vz, vze, va, vc, vu, vl, Tryd.ty, Tryd.en, ↓reduceIte, Nat.reduceSub, Nat.reduceAdd, Nat.reduceMul, Nat.reduceLT, Int.reduceAdd, Int.reduceSub, Int.reduceToNat, Int.cast_ofNat_Int, vi, getO_i, tg])
        refine (heap_ok hi hs1 (by omega) h2 hB).det' ?_
        (simp -dsimp +decide (disch := omega) only [vy, vz, vze, va, vc, vu, vl, Tryd.ty, Tryd.en, ↓reduceIte, Nat.reduceSub, Nat.reduceAdd, Nat.reduceMul, Nat.reduceLT, Int.reduceAdd, Int.reduceSub, Int.reduceToNat, Int.cast_ofNat_Int, vi, getO_i, tg])
        refine Vw.eff (E' := [(i, false)]) (by simp) ?_
        obtain ⟨k1, k2⟩ := Sort.heapSort_holds swoU d1 a1 b1 h1 (by omega)
        obtain ⟨k3, k4⟩ := hf1 _ k1 k2
        exact Vw.done ⟨rfl, ⟨_, rfl, by rw [k1.1]; exact hs1, k3, k4⟩, rfl⟩
      · (simp -dsimp +decide (disch := omega) only [vy, vz, vze, va, vc, vu, vl, Tryd.ty, Tryd.en, ↓reduceIte, Nat.reduceSub, Nat.reduceAdd, Nat.reduceMul, Nat.reduceLT, Int.reduceAdd, Int.reduceSub, Int.reduceToNat, Int.cast_ofNat_Int, vi, getO_i, tg])
        refine CondP.split (fun h => ?_) (fun h => ?_)
        · (simp -dsimp +decide (disch := omega) only [vy, vz, vze, va, vc, vu, vl, Tryd.ty, Tryd.en, ↓reduceIte, Nat.reduceSub, Nat.reduceAdd, Nat.reduceMul, Nat.reduceLT, Int.reduceAdd, Int.reduceSub, Int.reduceToNat, Int.cast_ofNat_Int, vi, getO_i, tg])
          refine (brk_ok hi hs1 h12 h2 hB).mono ?_
          rintro v T' es ⟨rfl, ⟨d2, rfl, hs2, hp2⟩, rfl⟩
          (simp -dsimp +decide (disch := omega) only [vy, vz, vze, va, vc, vu, vl, Tryd.ty, Tryd.en, ↓reduceIte, Nat.reduceSub, Nat.reduceAdd, Nat.reduceMul, Nat.reduceLT, Int.reduceAdd, Int.reduceSub, Int.reduceToNat, Int.cast_ofNat_Int, vi, getO_i, tg])
          exact ⟨(IntKind.i64.wrap (li - 1), d2), ⟨by omega, hs2, hp2⟩, by first | rfl | (and_intros <;> rfl)⟩
        · (simp -dsimp +decide (disch := omega) only [vy, vz, vze, va, vc, vu, vl, Tryd.ty, Tryd.en, ↓reduceIte, Nat.reduceSub, Nat.reduceAdd, Nat.reduceMul, Nat.reduceLT, Int.reduceAdd, Int.reduceSub, Int.reduceToNat, Int.cast_ofNat_Int, vi, getO_i, tg])
          exact ⟨(li, d1), ⟨by omega, hs1, Sort.permIn_refl _ _ _⟩, by first | rfl | (and_intros <;> rfl)⟩
  rintro ⟨li2, d2⟩ g2 tmp2 ⟨h12, hs2, hp2⟩
  dsimp only at h12 hs2 hp2
  refine SemA.cutAt [] (fun s : Nat × Int × Array UInt64 => (10, wint ((b1 - a1 : Nat) : Int)) :: (11, wint (s.1 : Int)) :: (12, .p (.int .i64 s.2.1)) :: LP i n (a1, b1, li2, wb, wp, s.2.2)) (fun s => TB T i s.2.2) (fun s => a1 ≤ s.1 ∧ s.1 < b1 ∧ s.2.2.size = n ∧ Sort.PermIn a1 b1 d2 s.2.2) [(i, false)] 2 rfl (by kernel_rfl) ?_ ?_
  · (simp -dsimp +decide (disch := omega) only [vy, vz, vze, va, vc, vu, vl, Tryd.ty, Tryd.en, ↓reduceIte, Nat.reduceSub, Nat.reduceAdd, Nat.reduceMul, Nat.reduceLT, Int.reduceAdd, Int.reduceSub, Int.reduceToNat, Int.cast_ofNat_Int, vi, getO_i, tg, LP])
    refine (pivot_ok hi hs2 h12 h2 hB).mono ?_
    rintro v T' es ⟨⟨pv, hh, rfl, hpv1, hpv2⟩, rfl, rfl⟩
    (simp -dsimp +decide (disch := omega) only [vy, vz, vze, va, vc, vu, vl, Tryd.ty, Tryd.en, ↓reduceIte, Nat.reduceSub, Nat.reduceAdd, Nat.reduceMul, Nat.reduceLT, Int.reduceAdd, Int.reduceSub, Int.reduceToNat, Int.cast_ofNat_Int, vi, getO_i, tg, LP])
    refine CondP.split (fun h => ?_) (fun h => ?_)
    · (simp -dsimp +decide (disch := omega) only [vy, vz, vze, va, vc, vu, vl, Tryd.ty, Tryd.en, ↓reduceIte, Nat.reduceSub, Nat.reduceAdd, Nat.reduceMul, Nat.reduceLT, Int.reduceAdd, Int.reduceSub, Int.reduceToNat, Int.cast_ofNat_Int, vi, getO_i, tg])
      refine (rev_ok hi hs2 ⟨by omega, by omega⟩ h2 hB).det' ?_
      have hr := Sort.reverseRange_holds d2 a1 b1 h1 (by omega)
      have e2 : (b1 : Int) - 1 - ((pv : Int) - (a1 : Int)) = ((b1 - 1 - (pv - a1) : Nat) : Int) := by omega
      (simp -dsimp +decide (disch := omega) only [vy, vz, vze, va, vc, vu, vl, Tryd.ty, Tryd.en, ↓reduceIte, Nat.reduceSub, Nat.reduceAdd, Nat.reduceMul, Nat.reduceLT, Int.reduceAdd, Int.reduceSub, Int.reduceToNat, Int.cast_ofNat_Int, vi, getO_i, tg, e2])
      exact ⟨(b1 - 1 - (pv - a1), 1, Sort.reverseRange d2 a1 b1), ⟨by dsimp only; omega, by dsimp only; omega, by rw [hr.1]; exact hs2, hr⟩, by first | rfl | (and_intros <;> rfl)⟩
    · (simp -dsimp +decide (disch := omega) only [vy, vz, vze, va, vc, vu, vl, Tryd.ty, Tryd.en, ↓reduceIte, Nat.reduceSub, Nat.reduceAdd, Nat.reduceMul, Nat.reduceLT, Int.reduceAdd, Int.reduceSub, Int.reduceToNat, Int.cast_ofNat_Int, vi, getO_i, tg])
      exact ⟨(pv, hh, d2), ⟨hpv1, hpv2, hs2, Sort.permIn_refl _ _ _⟩, by first | rfl | (and_intros <;> rfl)⟩
  rintro ⟨pv, hh, d3⟩ g3 tmp3 ⟨hpv1, hpv2, hs3, hp3⟩
  dsimp only at hpv1 hpv2 hs3 hp3
  have hp13 := Sort.permIn_trans _ _ _ _ _ hp2 hp3
  have hf3 := hf1.perm hp13
  have hbl3 := hbl1.perm (by omega) hp13
  refine SemA.cutAt [] (fun d4 : Array UInt64 => (10, wint ((b1 - a1 : Nat) : Int)) :: (11, wint (pv : Int)) :: LP i n (a1, b1, li2, wb, wp, d4)) (fun d4 => TB T i d4) (fun d4 => d4.size = n ∧ Sort.PermIn a1 b1 d3 d4) [(i, false)] 1 rfl (by kernel_rfl) ?_ ?_
  · have skip : ∃ s : Array UInt64, (s.size = n ∧ Sort.PermIn a1 b1 d3 s) ∧ TB T i d3 = TB T i s := ⟨d3, ⟨hs3, Sort.permIn_refl _ _ _⟩, rfl⟩
    cases wb with
    | false =>
      (simp -dsimp +decide (disch := omega) only [vy, vz, vze, va, vc, vu, vl, Tryd.ty, Tryd.en, ↓reduceIte, Nat.reduceSub, Nat.reduceAdd, Nat.reduceMul, Nat.reduceLT, Int.reduceAdd, Int.reduceSub, Int.reduceToNat, Int.cast_ofNat_Int, vi, getO_i, tg, LP])
      exact skip
    | true =>
    cases wp with
    | false =>
      (simp -dsimp +decide (disch := omega) only [vy, vz, vze, va, vc, vu, vl, Tryd.ty, Tryd.en, ↓reduceIte, Nat.reduceSub, Nat.reduceAdd, Nat.reduceMul, Nat.reduceLT, Int.reduceAdd, Int.reduceSub, Int.reduceToNat, Int.cast_ofNat_Int, vi, getO_i, tg, LP])
      exact skip
    | true =>
    (simp -dsimp +decide (disch := omega) only [vy, vz, vze, va, vc, vu, vl, Tryd.ty, Tryd.en, ↓reduceIte, Nat.reduceSub, Nat.reduceAdd, Nat.reduceMul, Nat.reduceLT, Int.reduceAdd, Int.reduceSub, Int.reduceToNat, Int.cast_ofNat_Int, vi, getO_i, tg, LP])
    refine CondP.split (fun h => ?_) (fun h => ?_)
    · (simp -dsimp +decide (disch := omega) only [vy, vz, vze, va, vc, vu, vl, Tryd.ty, Tryd.en, ↓reduceIte, Nat.reduceSub, Nat.reduceAdd, Nat.reduceMul, Nat.reduceLT, Int.reduceAdd, Int.reduceSub, Int.reduceToNat, Int.cast_ofNat_Int, vi, getO_i, tg])
      refine (pins_ok hi hs3 h12 h2 hB).det' ?_
      obtain ⟨k1, k2⟩ := Sort.partialInsertionSort_holds swoU d3 a1 b1 (by omega) (by omega) hbl3
      (simp -dsimp +decide (disch := omega) only [vy, vz, vze, va, vc, vu, vl, Tryd.ty, Tryd.en, ↓reduceIte, Nat.reduceSub, Nat.reduceAdd, Nat.reduceMul, Nat.reduceLT, Int.reduceAdd, Int.reduceSub, Int.reduceToNat, Int.cast_ofNat_Int, vi, getO_i, tg])
      refine CondP.split (fun h => ?_) (fun h => ?_)
      · (simp -dsimp +decide (disch := omega) only [vy, vz, vze, va, vc, vu, vl, Tryd.ty, Tryd.en, ↓reduceIte, Nat.reduceSub, Nat.reduceAdd, Nat.reduceMul, Nat.reduceLT, Int.reduceAdd, Int.reduceSub, Int.reduceToNat, Int.cast_ofNat_Int, vi, getO_i, tg])
        refine Vw.eff (E' := [(i, false)]) (by simp) ?_
        obtain ⟨k3, k4⟩ := hf3 _ k1 (k2 h)
        exact Vw.done ⟨rfl, ⟨_, rfl, by rw [k1.1]; exact hs3, k3, k4⟩, rfl⟩
      · (simp -dsimp +decide (disch := omega) only [vy, vz, vze, va, vc, vu, vl, Tryd.ty, Tryd.en, ↓reduceIte, Nat.reduceSub, Nat.reduceAdd, Nat.reduceMul, Nat.reduceLT, Int.reduceAdd, Int.reduceSub, Int.reduceToNat, Int.cast_ofNat_Int, vi, getO_i, tg])
        exact ⟨(Sort.partialInsertionSort ltU d3 a1 b1).1, ⟨by rw [k1.1]; exact hs3, k1⟩, by first | rfl | (and_intros <;> rfl)⟩
    · (simp -dsimp +decide (disch := omega) only [vy, vz, vze, va, vc, vu, vl, Tryd.ty, Tryd.en, ↓reduceIte, Nat.reduceSub, Nat.reduceAdd, Nat.reduceMul, Nat.reduceLT, Int.reduceAdd, Int.reduceSub, Int.reduceToNat, Int.cast_ofNat_Int, vi, getO_i, tg, LP])
      exact skip
  rintro d4 g4 tmp4 ⟨hs4, hp4⟩
  have hf4 := hf3.perm hp4
  have hbl4 := hbl3.perm (by omega) hp4
  have hne := D_ne d4 (by omega)
  refine SemA.cutAt [] (fun _ : Unit => (10, wint ((b1 - a1 : Nat) : Int)) :: (11, wint (pv : Int)) :: LP i n (a1, b1, li2, wb, wp, d4)) (fun _ => TB T i d4) (fun _ => True) [(i, false)] 1 rfl (by kernel_rfl) ?_ ?_
  · by_cases ha0 : 0 < a1
    · have hgt : ((0 : Int) < (a1 : Int)) = True := by simp; omega
      (simp -dsimp +decide (disch := omega) only [vy, vz, vze, va, vc, vu, vl, Tryd.ty, Tryd.en, ↓reduceIte, Nat.reduceSub, Nat.reduceAdd, Nat.reduceMul, Nat.reduceLT, Int.reduceAdd, Int.reduceSub, Int.reduceToNat, Int.cast_ofNat_Int, vi, getO_i, tg, LP])
      refine SemA.drawS (.fl 0 (.fl 1 (.fl 2 (.fl 3 (.fl 4 (.fl 5 (.fl 6 (.fl 7 (.fl 8 (.fl 9 (.fl 10 (.fl 11 (.sq 12 (.fl 13 (.fl 14 .nil))))))))))))))) Tryd.mixed (by kernel_rfl) ?_
      (simp -dsimp +decide (disch := omega) only [vy, vz, vze, va, vc, vu, vl, Tryd.ty, Tryd.en, ↓reduceIte, Nat.reduceSub, Nat.reduceAdd, Nat.reduceMul, Nat.reduceLT, Int.reduceAdd, Int.reduceSub, Int.reduceToNat, Int.cast_ofNat_Int, vi, getO_i, tg, hgt, hne, D_at])
      repeat (refine And.intro (by omega) ?_)
      refine less_ok.det ?_
      (simp -dsimp +decide (disch := omega) only [vy, vz, vze, va, vc, vu, vl, Tryd.ty, Tryd.en, ↓reduceIte, Nat.reduceSub, Nat.reduceAdd, Nat.reduceMul, Nat.reduceLT, Int.reduceAdd, Int.reduceSub, Int.reduceToNat, Int.cast_ofNat_Int, vi, getO_i, tg])
      by_cases hl : ltU d4[a1 - 1]! d4[pv]! = false
      · rw [hl]
        (simp -dsimp +decide (disch := omega) only [vy, vz, vze, va, vc, vu, vl, Tryd.ty, Tryd.en, ↓reduceIte, Nat.reduceSub, Nat.reduceAdd, Nat.reduceMul, Nat.reduceLT, Int.reduceAdd, Int.reduceSub, Int.reduceToNat, Int.cast_ofNat_Int, vi, getO_i, tg])
        refine (parteq_ok hi hs4 ⟨hpv1, hpv2⟩ h2 hB).det' ?_
        obtain ⟨P, hP⟩ : ∃ P, P = Sort.partitionEqual ltU d4 a1 b1 pv := ⟨_, rfl⟩
        obtain ⟨r1, r2, r3, r4, r5⟩ := Sort.round_eq swoU (Sort.partitionEqual_holds ltU) ha0 hpv1 hpv2 (by omega) hbl4 hl hP.symm
        rw [← hP]
        (simp -dsimp +decide (disch := omega) only [vy, vz, vze, va, vc, vu, vl, Tryd.ty, Tryd.en, ↓reduceIte, Nat.reduceSub, Nat.reduceAdd, Nat.reduceMul, Nat.reduceLT, Int.reduceAdd, Int.reduceSub, Int.reduceToNat, Int.cast_ofNat_Int, vi, getO_i, tg])
        exact ⟨(P.1, b1, li2, wb, wp, P.2), ⟨⟨by dsimp only; omega, h2, by rw [← hs4, ← r3], by dsimp only; omega, r4, fun R hR hs => (r5 R hR hs).elim fun x y => hf4 R x y⟩, by dsimp only; omega⟩, by first | rfl | (and_intros <;> rfl)⟩
      · have hl' : ltU d4[a1 - 1]! d4[pv]! = true := by simpa using hl
        rw [hl']
        (simp -dsimp +decide (disch := omega) only [vy, vz, vze, va, vc, vu, vl, Tryd.ty, Tryd.en, ↓reduceIte, Nat.reduceSub, Nat.reduceAdd, Nat.reduceMul, Nat.reduceLT, Int.reduceAdd, Int.reduceSub, Int.reduceToNat, Int.cast_ofNat_Int, vi, getO_i, tg, LP])
        exact ⟨(), by first | trivial | (and_intros <;> rfl)⟩
    · have hgt : ((0 : Int) < (a1 : Int)) = False := by simp; omega
      (simp -dsimp +decide (disch := omega) only [vy, vz, vze, va, vc, vu, vl, Tryd.ty, Tryd.en, ↓reduceIte, Nat.reduceSub, Nat.reduceAdd, Nat.reduceMul, Nat.reduceLT, Int.reduceAdd, Int.reduceSub, Int.reduceToNat, Int.cast_ofNat_Int, vi, getO_i, tg, LP])
      refine SemA.drawS (.fl 0 (.fl 1 (.fl 2 (.fl 3 (.fl 4 (.fl 5 (.fl 6 (.fl 7 (.fl 8 (.fl 9 (.fl 10 (.fl 11 (.sq 12 (.fl 13 (.fl 14 .nil))))))))))))))) Tryd.mixed (by kernel_rfl) ?_
      (simp -dsimp +decide (disch := omega) only [vy, vz, vze, va, vc, vu, vl, Tryd.ty, Tryd.en, ↓reduceIte, Nat.reduceSub, Nat.reduceAdd, Nat.reduceMul, Nat.reduceLT, Int.reduceAdd, Int.reduceSub, Int.reduceToNat, Int.cast_ofNat_Int, vi, getO_i, tg, hgt, LP])
      exact ⟨(), by first | trivial | (and_intros <;> rfl)⟩
  rintro ⟨⟩ g5 tmp5 -
  refine SemA.of (by kernel_rfl) ?_
  (simp -dsimp +decide (disch := omega) only [vy, vz, vze, va, vc, vu, vl, Tryd.ty, Tryd.en, ↓reduceIte, Nat.reduceSub, Nat.reduceAdd, Nat.reduceMul, Nat.reduceLT, Int.reduceAdd, Int.reduceSub, Int.reduceToNat, Int.cast_ofNat_Int, vi, getO_i, tg, LP])
  refine (part_ok hi hs4 ⟨hpv1, hpv2⟩ h2 hB).det' ?_
  obtain ⟨P, hP⟩ : ∃ P, P = Sort.partition ltU d4 a1 b1 pv := ⟨_, rfl⟩
  obtain ⟨r1, r2, r3, r4, r5, r6, r7⟩ := Sort.round_part swoU (Sort.partition_holds ltU) hpv1 hpv2 (by omega) hbl4 hP.symm
  rw [← hP]
  have e3 : (P.1 : Int) - (a1 : Int) = ((P.1 - a1 : Nat) : Int) := by omega
  have e4 : (b1 : Int) - (P.1 : Int) = ((b1 - P.1 : Nat) : Int) := by omega
  have e5 : (P.1 : Int) + 1 = ((P.1 + 1 : Nat) : Int) := by omega
  have q8 : ∀ k : Nat, (k : Int).tdiv 8 = ((k / 8 : Nat) : Int) := fun _ => rfl
  have hs5 : P.2.2.size = n := by rw [← hs4, ← r3]
  (simp -dsimp +decide (disch := omega) only [vy, vz, vze, va, vc, vu, vl, Tryd.ty, Tryd.en, ↓reduceIte, Nat.reduceSub, Nat.reduceAdd, Nat.reduceMul, Nat.reduceLT, Int.reduceAdd, Int.reduceSub, Int.reduceToNat, Int.cast_ofNat_Int, vi, getO_i, tg, e3, e4, q8])
  refine CondP.dec (fun h => ?_) (fun h => ?_)
  · (simp -dsimp +decide (disch := omega) only [vy, vz, vze, va, vc, vu, vl, Tryd.ty, Tryd.en, ↓reduceIte, Nat.reduceSub, Nat.reduceAdd, Nat.reduceMul, Nat.reduceLT, Int.reduceAdd, Int.reduceSub, Int.reduceToNat, Int.cast_ofNat_Int, vi, getO_i, tg])
    refine (ih (P.1 - a1) (by omega) (i := i) (a := a1) (b := P.1) (n := n) (d := P.2.2) (lim := li2) (by omega) hi hs5 r1 (by omega) hB r4).mono ?_
    rintro v T' es ⟨rfl, ⟨L, rfl, hsL, hpL, hsoL⟩, rfl⟩
    obtain ⟨q1, q2⟩ := r6 L hpL hsoL
    (simp -dsimp +decide (disch := omega) only [vy, vz, vze, va, vc, vu, vl, Tryd.ty, Tryd.en, ↓reduceIte, Nat.reduceSub, Nat.reduceAdd, Nat.reduceMul, Nat.reduceLT, Int.reduceAdd, Int.reduceSub, Int.reduceToNat, Int.cast_ofNat_Int, vi, getO_i, tg, e5])
    exact ⟨(P.1 + 1, b1, li2, _, P.2.1, L), ⟨⟨by dsimp only; omega, h2, hsL, by dsimp only; omega, q1, fun R hR hs => (q2 R hR hs).elim fun x y => hf4 R x y⟩, by dsimp only; omega⟩, by first | rfl | (and_intros <;> rfl)⟩
  · (simp -dsimp +decide (disch := omega) only [vy, vz, vze, va, vc, vu, vl, Tryd.ty, Tryd.en, ↓reduceIte, Nat.reduceSub, Nat.reduceAdd, Nat.reduceMul, Nat.reduceLT, Int.reduceAdd, Int.reduceSub, Int.reduceToNat, Int.cast_ofNat_Int, vi, getO_i, tg, e5])
    refine (ih (b1 - (P.1 + 1)) (by omega) (i := i) (a := P.1 + 1) (b := b1) (n := n) (d := P.2.2) (lim := li2) (by omega) hi hs5 (by omega) h2 hB r5).mono ?_
    rintro v T' es ⟨rfl, ⟨L, rfl, hsL, hpL, hsoL⟩, rfl⟩
    obtain ⟨q1, q2⟩ := r7 L hpL hsoL
    (simp -dsimp +decide (disch := omega) only [vy, vz, vze, va, vc, vu, vl, Tryd.ty, Tryd.en, ↓reduceIte, Nat.reduceSub, Nat.reduceAdd, Nat.reduceMul, Nat.reduceLT, Int.reduceAdd, Int.reduceSub, Int.reduceToNat, Int.cast_ofNat_Int, vi, getO_i, tg])
    exact ⟨(a1, P.1, li2, _, P.2.1, L), ⟨⟨by dsimp only; omega, by dsimp only; omega, hsL, by dsimp only; omega, q1, fun R hR hs => (q2 R hR hs).elim fun x y => hf4 R x y⟩, by dsimp only; omega⟩, by first | rfl | (and_intros <;> rfl)⟩
set_option maxRecDepth 8000 in
theorem sort_ok {T : Tbl} {i n : Nat} {d : Array UInt64} (hi : i < T.length) (hn : d.size = n) (hB : n ≤ 1099511627776) :
    CallA Tryd.prog Tryd.G 20 [.sl i 0 n] (TB T i d) fun v T' es => v = .tu [] ∧ T' = TB T i (Sort.sort ltU d) ∧ es = [(i, false)] := by
  have tg := TB_get hi
  refine CallA.enterV 3 Tryd.func20 Tryd.ntmps20 (congrArg Array.toList Tryd.results20) rfl ⟨by simp, by simp⟩ (by kernel_rfl) (by kernel_rfl) ?_
  (simp -dsimp +decide only [vy, vz, vze, va, vc, vu, vl, Tryd.ty, Tryd.en, ↓reduceIte, Nat.reduceSub, Nat.reduceAdd, Nat.reduceMul, Nat.reduceLT, Int.reduceAdd, Int.reduceSub, Int.reduceToNat, Int.cast_ofNat_Int])
  have h1 : (UInt64.ofInt (n : Int)).toNat = n := by rw [UInt64.ofInt]; simp; omega
  refine (len_ok (x := UInt64.ofInt (n : Int))).det ?_
  (simp -dsimp +decide (disch := omega) only [vy, vz, vze, va, vc, vu, vl, Tryd.ty, Tryd.en, ↓reduceIte, Nat.reduceSub, Nat.reduceAdd, Nat.reduceMul, Nat.reduceLT, Int.reduceAdd, Int.reduceSub, Int.reduceToNat, Int.cast_ofNat_Int, vi, getO_i, tg])
  refine (pdq_ok n (i := i) (a := 0) (b := n) (d := d) (by omega) hi hn (by omega) (by omega) hB (.inl rfl)).mono ?_
  rintro v T' es ⟨rfl, ⟨L, rfl, hsL, hpL, hsoL⟩, rfl⟩
  (simp -dsimp +decide (disch := omega) only [vy, vz, vze, va, vc, vu, vl, Tryd.ty, Tryd.en, ↓reduceIte, Nat.reduceSub, Nat.reduceAdd, Nat.reduceMul, Nat.reduceLT, Int.reduceAdd, Int.reduceSub, Int.reduceToNat, Int.cast_ofNat_Int, vi, getO_i, tg])
  refine Vw.done ⟨rfl, ?_, rfl⟩
  congr 1
  obtain ⟨k1, k2⟩ := Sort.sort_sorts ltU swoU d
  have u1 := Sort.sorted_unique_holds swoU (fun x y h1 h2 => by simp [ltU] at h1 h2; exact UInt64.le_antisymm h2 h1) d L (by rw [hn]; exact hpL) (by rw [hn]; exact hsoL)
  have u2 := Sort.sorted_unique_holds swoU (fun x y h1 h2 => by simp [ltU] at h1 h2; exact UInt64.le_antisymm h2 h1) d _ k1 k2
  exact Array.toList_inj.1 (u1.trans u2.symm)
end Go.Proofs.YtmcbdlefakjpoaaDoor

set_option linter.unusedSimpArgs false
set_option linter.unusedVariables false
set_option linter.unusedSectionVars false
namespace Go.Proofs.YtmcbdlefakjpoaaDoor
open Go.E
theorem srt_unique {n : Nat} {d L : Array UInt64} (hn : d.size = n) (h1 : Sort.PermIn 0 n d L) (h2 : Sort.SortedIn ltU 0 n L) : L = Sort.sort ltU d := by
  subst hn
  obtain ⟨k1, k2⟩ := Sort.sort_sorts ltU swoU d
  have ha : ∀ x y, ltU x y = false → ltU y x = false → x = y := fun x y h1 h2 => by simp [ltU] at h1 h2; exact UInt64.le_antisymm h2 h1
  exact Array.toList_inj.1 ((Sort.sorted_unique_holds swoU ha d L h1 h2).trans (Sort.sorted_unique_holds swoU ha d _ k1 k2).symm)
theorem TB_self {T : Tbl} {i : Nat} {d : Array UInt64} (h : T[i]? = some (.buf 46 1 (D d))) : TB T i d = T := by
  unfold TB
  obtain ⟨h1, h2⟩ := List.getElem?_eq_some_iff.1 h
  rw [← h2, List.set_getElem_self]
theorem sort_at {T : Tbl} {i n : Nat} {d : Array UInt64} (hT : T[i]? = some (.buf 46 1 (D d))) (hn : d.size = n) (hB : n ≤ 1099511627776) :
    CallA Tryd.prog Tryd.G 20 [.sl i 0 n] T fun v T' es => v = .tu [] ∧ T' = T.set i (.buf 46 1 (D (Sort.sort ltU d))) ∧ es = [(i, false)] := by
  have := sort_ok (T := T) (i := i) (d := d) (List.getElem?_eq_some_iff.1 hT).1 hn hB
  rw [TB_self hT] at this
  exact this
theorem swp_comm (d : Array UInt64) {i j : Nat} (h : i ≠ j) : Sort.swp d i j = Sort.swp d j i := by
  unfold Sort.swp
  rw [Array.setIfInBounds_comm _ _ h]
set_option maxRecDepth 8000 in
theorem rising_ok {T : Tbl} {i n : Nat} {d : Array UInt64} (hi : i < T.length) (hn : d.size = n) (hB : n ≤ 1099511627776) :
    CallA Tryd.prog Tryd.G 22 [.sl i 0 n] (TB T i d) fun v T' es => v = .sl i 0 n ∧ T' = TB T i (Sort.sort ltU d) ∧ es = [(i, false)] := by
  have tg := TB_get hi
  refine CallA.enterV 5 Tryd.func22 Tryd.ntmps22 (congrArg Array.toList Tryd.results22) rfl ⟨by simp, by simp⟩ (by kernel_rfl) (by kernel_rfl) ?_
  (simp -dsimp +decide only [vy, vz, vze, va, vc, vu, vl, Tryd.ty, Tryd.en, ↓reduceIte, Nat.reduceSub, Nat.reduceAdd, Nat.reduceMul, Nat.reduceLT, Int.reduceAdd, Int.reduceSub, Int.reduceToNat, Int.cast_ofNat_Int])
  (simp -dsimp +decide (disch := omega) only [vy, vz, vze, va, vc, vu, vl, Tryd.ty, Tryd.en, ↓reduceIte, Nat.reduceSub, Nat.reduceAdd, Nat.reduceMul, Nat.reduceLT, Int.reduceAdd, Int.reduceSub, Int.reduceToNat, Int.cast_ofNat_Int, vi, getO_i, tg])
  refine SemA.loopE (fun s : Nat × Array UInt64 => [(0, .sl i 0 n), (3, wint (s.1 : Int))]) (fun s => TB T i s.2) (fun s => s.1 ≤ n ∧ s.2.size = n ∧ Sort.insOuter ltU 0 n s.1 s.2 = Sort.insOuter ltU 0 n 0 d) (fun s => n - s.1) (0, d) [(i, false)] 0 (fun _ : Unit => [(0, .sl i 0 n)]) (fun _ => TB T i (Sort.insOuter ltU 0 n 0 d)) (fun _ => True) ⟨by simp, hn, rfl⟩ (by (simp -dsimp +decide (disch := omega) only [vy, vz, vze, va, vc, vu, vl, Tryd.ty, Tryd.en, ↓reduceIte, Nat.reduceSub, Nat.reduceAdd, Nat.reduceMul, Nat.reduceLT, Int.reduceAdd, Int.reduceSub, Int.reduceToNat, Int.cast_ofNat_Int, vi, getO_i])) rfl (by simp) ?_ ?_
  · rintro ⟨k, d1⟩ g ⟨hk1, hs, hk⟩
    dsimp only at hk1 hs hk
    refine SemA.of (by kernel_rfl) ?_
    (simp -dsimp +decide (disch := omega) only [vy, vz, vze, va, vc, vu, vl, Tryd.ty, Tryd.en, ↓reduceIte, Nat.reduceSub, Nat.reduceAdd, Nat.reduceMul, Nat.reduceLT, Int.reduceAdd, Int.reduceSub, Int.reduceToNat, Int.cast_ofNat_Int, vi, getO_i, tg])
    refine CondP.dec (fun h => ?_) (fun h => ?_)
    · (simp -dsimp +decide (disch := omega) only [vy, vz, vze, va, vc, vu, vl, Tryd.ty, Tryd.en, ↓reduceIte, Nat.reduceSub, Nat.reduceAdd, Nat.reduceMul, Nat.reduceLT, Int.reduceAdd, Int.reduceSub, Int.reduceToNat, Int.cast_ofNat_Int, vi, getO_i, tg])
      rw [Sort.insOuter, if_pos (by omega)] at hk
      refine SemA.loopE (fun s : Nat × Array UInt64 => [(0, .sl i 0 n), (3, wint (k : Int)), (4, wint (s.1 : Int))]) (fun s => TB T i s.2) (fun s => s.1 ≤ k ∧ s.2.size = n ∧ Sort.insInner ltU 0 s.1 s.2 = Sort.insInner ltU 0 k d1) (fun s => s.1) (k, d1) [(i, false)] 2 (fun d2 : Array UInt64 => [(0, .sl i 0 n), (3, wint (k : Int))]) (fun d2 => TB T i d2) (fun d2 => d2.size = n ∧ d2 = Sort.insInner ltU 0 k d1) ⟨by simp, hs, rfl⟩ (by (simp -dsimp +decide (disch := omega) only [vy, vz, vze, va, vc, vu, vl, Tryd.ty, Tryd.en, ↓reduceIte, Nat.reduceSub, Nat.reduceAdd, Nat.reduceMul, Nat.reduceLT, Int.reduceAdd, Int.reduceSub, Int.reduceToNat, Int.cast_ofNat_Int, vi, getO_i])) rfl (by simp) ?_ ?_
      · rintro ⟨j, d2⟩ g2 ⟨hj1, hs2, hj⟩
        dsimp only at hj1 hs2 hj
        refine SemA.of (by kernel_rfl) ?_
        (simp -dsimp +decide (disch := omega) only [vy, vz, vze, va, vc, vu, vl, Tryd.ty, Tryd.en, ↓reduceIte, Nat.reduceSub, Nat.reduceAdd, Nat.reduceMul, Nat.reduceLT, Int.reduceAdd, Int.reduceSub, Int.reduceToNat, Int.cast_ofNat_Int, vi, getO_i, tg])
        by_cases hja : 0 < j
        · have hgt : ((0 : Int) < (j : Int)) = True := by simp; omega
          have hne := D_ne d2 (by omega)
          have hlt : (((d2[j]!.toNat : Nat) : Int) < ((d2[j - 1]!.toNat : Nat) : Int)) = (ltU d2[j]! d2[j - 1]! = true) := by simp [ltU, UInt64.lt_iff_toNat_lt]
          refine SemA.drawS (.fl 0 (.fl 1 (.fl 2 (.fl 3 (.fl 4 (.fl 5 (.fl 6 (.fl 7 (.fl 8 (.fl 9 (.fl 10 (.fl 11 (.fl 12 (.fl 13 .nil)))))))))))))) Tryd.mixed (by kernel_rfl) ?_
          (simp -dsimp +decide (disch := omega) only [vy, vz, vze, va, vc, vu, vl, Tryd.ty, Tryd.en, ↓reduceIte, Nat.reduceSub, Nat.reduceAdd, Nat.reduceMul, Nat.reduceLT, Int.reduceAdd, Int.reduceSub, Int.reduceToNat, Int.cast_ofNat_Int, vi, getO_i, tg, hgt, hne, D_at, hlt])
          repeat (refine And.intro (by omega) ?_)
          refine CondP.dec (fun hl => ?_) (fun hl => ?_)
          · (simp -dsimp +decide (disch := omega) only [vy, vz, vze, va, vc, vu, vl, Tryd.ty, Tryd.en, ↓reduceIte, Nat.reduceSub, Nat.reduceAdd, Nat.reduceMul, Nat.reduceLT, Int.reduceAdd, Int.reduceSub, Int.reduceToNat, Int.cast_ofNat_Int, vi, getO_i, tg])
            refine SemA.drawS (.fl 0 (.fl 1 (.fl 2 (.fl 3 (.fl 4 (.fl 5 (.fl 6 (.fl 7 (.fl 8 (.fl 9 (.fl 10 (.fl 11 (.fl 12 (.fl 13 (.fl 14 (.sq 15 (.fl 16 (.sq 17 .nil)))))))))))))))))) Tryd.mixed (by kernel_rfl) ?_
            (simp -dsimp +decide (disch := omega) only [vy, vz, vze, va, vc, vu, vl, Tryd.ty, Tryd.en, ↓reduceIte, Nat.reduceSub, Nat.reduceAdd, Nat.reduceMul, Nat.reduceLT, Int.reduceAdd, Int.reduceSub, Int.reduceToNat, Int.cast_ofNat_Int, vi, getO_i, tg, hne, D_sv, D_ns, D_ls, D_at, D_len, Array.size_setIfInBounds])
            repeat (refine And.intro (by omega) ?_)
            (simp -dsimp +decide (disch := omega) only [vy, vz, vze, va, vc, vu, vl, Tryd.ty, Tryd.en, ↓reduceIte, Nat.reduceSub, Nat.reduceAdd, Nat.reduceMul, Nat.reduceLT, Int.reduceAdd, Int.reduceSub, Int.reduceToNat, Int.cast_ofNat_Int, vi, getO_i, tg, swp_eq'])
            exact ⟨(j - 1, Sort.swp d2 (j - 1) j), ⟨⟨by dsimp only; omega, by rw [Sort.size_swp]; exact hs2, by rw [← hj, insInner_step hja hl, swp_comm d2 (show j - 1 ≠ j by omega)]⟩, by dsimp only; omega⟩, by dsimp only; rw [show ((j - 1 : Nat) : Int) = (j : Int) - 1 by omega], rfl⟩
          · (simp -dsimp +decide (disch := omega) only [vy, vz, vze, va, vc, vu, vl, Tryd.ty, Tryd.en, ↓reduceIte, Nat.reduceSub, Nat.reduceAdd, Nat.reduceMul, Nat.reduceLT, Int.reduceAdd, Int.reduceSub, Int.reduceToNat, Int.cast_ofNat_Int, vi, getO_i, tg])
            exact ⟨d2, ⟨hs2, by rw [← hj]; exact (insInner_stop (fun h => hl h.2)).symm⟩, rfl⟩
        · have hgt : ((0 : Int) < (j : Int)) = False := by simp; omega
          refine SemA.drawS (.fl 0 (.fl 1 (.fl 2 (.fl 3 (.fl 4 (.fl 5 (.fl 6 (.fl 7 (.fl 8 (.fl 9 (.fl 10 (.fl 11 (.fl 12 (.fl 13 .nil)))))))))))))) Tryd.mixed (by kernel_rfl) ?_
          (simp -dsimp +decide (disch := omega) only [vy, vz, vze, va, vc, vu, vl, Tryd.ty, Tryd.en, ↓reduceIte, Nat.reduceSub, Nat.reduceAdd, Nat.reduceMul, Nat.reduceLT, Int.reduceAdd, Int.reduceSub, Int.reduceToNat, Int.cast_ofNat_Int, vi, getO_i, tg, hgt])
          exact ⟨d2, ⟨hs2, by rw [← hj]; exact (insInner_stop (fun h => hja h.1)).symm⟩, rfl⟩
      · rintro d2 g2 tmp2 ⟨hs2, hd2⟩
        (simp -dsimp +decide (disch := omega) only [vy, vz, vze, va, vc, vu, vl, Tryd.ty, Tryd.en, ↓reduceIte, Nat.reduceSub, Nat.reduceAdd, Nat.reduceMul, Nat.reduceLT, Int.reduceAdd, Int.reduceSub, Int.reduceToNat, Int.cast_ofNat_Int, vi, getO_i, tg])
        exact ⟨(k + 1, d2), ⟨⟨by dsimp only; omega, hs2, by dsimp only; rw [hd2]; exact hk⟩, by dsimp only; omega⟩, rfl, rfl⟩
    · (simp -dsimp +decide (disch := omega) only [vy, vz, vze, va, vc, vu, vl, Tryd.ty, Tryd.en, ↓reduceIte, Nat.reduceSub, Nat.reduceAdd, Nat.reduceMul, Nat.reduceLT, Int.reduceAdd, Int.reduceSub, Int.reduceToNat, Int.cast_ofNat_Int, vi, getO_i, tg])
      rw [Sort.insOuter, if_neg (by omega)] at hk
      exact ⟨(), by rw [hk]⟩
  · rintro ⟨⟩ g tmp -
    (simp -dsimp +decide (disch := omega) only [vy, vz, vze, va, vc, vu, vl, Tryd.ty, Tryd.en, ↓reduceIte, Nat.reduceSub, Nat.reduceAdd, Nat.reduceMul, Nat.reduceLT, Int.reduceAdd, Int.reduceSub, Int.reduceToNat, Int.cast_ofNat_Int, vi, getO_i, tg])
    refine Vw.eff (E' := [(i, false)]) (by simp) ?_
    refine Vw.done ⟨rfl, ?_, rfl⟩
    congr 1
    have e : Sort.insOuter ltU 0 n 0 d = Sort.insertionSort ltU d 0 n := by
      unfold Sort.insertionSort
      by_cases h0 : 0 < n
      · conv => lhs; rw [Sort.insOuter, if_pos h0]
        rfl
      · rw [Sort.insOuter, if_neg h0, Sort.insOuter, if_neg (by omega)]
    rw [e]
    obtain ⟨k1, k2⟩ := Sort.insertionSort_holds swoU d 0 n (by omega) (by omega)
    exact srt_unique hn k1 k2
theorem rising_at {T : Tbl} {i n : Nat} {d : Array UInt64} (hT : T[i]? = some (.buf 46 1 (D d))) (hn : d.size = n) (hB : n ≤ 1099511627776) :
    CallA Tryd.prog Tryd.G 22 [.sl i 0 n] T fun v T' es => v = .sl i 0 n ∧ T' = T.set i (.buf 46 1 (D (Sort.sort ltU d))) ∧ es = [(i, false)] := by
  have := rising_ok (T := T) (i := i) (d := d) (List.getElem?_eq_some_iff.1 hT).1 hn hB
  rw [TB_self hT] at this
  exact this
end Go.Proofs.YtmcbdlefakjpoaaDoor

set_option linter.unusedSimpArgs false
set_option linter.unusedVariables false
set_option linter.unusedSectionVars false
namespace Go.Proofs.YtmcbdlefakjpoaaDoor
open Go.E
/-- the number of an item, among n -/
def nm (id : List UInt8) (n : Nat) (h : List UInt8) : UInt64 := numS id h (UInt64.ofInt (n : Int))
/-- the numbers, as they come -/
def nums (id : List UInt8) (hs : List (List UInt8)) : List UInt64 := (uniq hs).map (nm id (uniq hs).length)
/-- the numbers, in order -/
def srt (l : List UInt64) : List UInt64 := (Sort.sort ltU l.toArray).toList
theorem srt_len (l : List UInt64) : (srt l).length = l.length := by
  obtain ⟨k1, k2⟩ := Sort.sort_sorts ltU swoU l.toArray
  have := k1.1
  simpa [srt] using this
theorem D_list (l : List UInt64) : D l.toArray = l.map w64 := rfl
theorem D_srt (l : List UInt64) : D (Sort.sort ltU l.toArray) = (srt l).map w64 := rfl
theorem cleanw (l : List UInt64) : ∀ a ∈ l.map w64, a.Clean := by
  intro a ha; obtain ⟨x, _, rfl⟩ := List.mem_map.1 ha; exact .p _
theorem wow (q : Nat → Bool) (l : List UInt64) : (l.map w64).map (AV.wo q) = l.map w64 := by
  rw [List.map_map]
  refine List.map_congr_left fun x _ => ?_
  show AV.wo q (.p _) = _
  rw [AV.wo]; rfl
theorem get_n0 (T : Tbl) (o : AObj) (l : Tbl) : (T ++ o :: l)[T.length]? = some o := by simp
theorem get_n1 (T : Tbl) (a o : AObj) (l : Tbl) : (T ++ a :: o :: l)[T.length + 1]? = some o := by simp
theorem get_n2 (T : Tbl) (a b o : AObj) (l : Tbl) : (T ++ a :: b :: o :: l)[T.length + 2]? = some o := by simp
set_option maxRecDepth 8000 in
theorem numbers_ok {T : Tbl} {a : AV} {id : List UInt8} {hs : List (List UInt8)} (hid : id.length = 32) (hb : Es T 32 H8 a hs) (hl : hs.length ≤ 4096) :
    CallA Tryd.prog Tryd.G 8 [.ag (id.map by8), a] T fun v T' es => v = .tu [.vs ((srt (nums id hs)).map w64) (nums id hs).length, .p (.int .i64 0)] ∧ T' = T ∧ es = [] := by
  have hul : (uniq hs).length ≤ 4096 := Nat.le_trans (uniqF_len hs []) (by simpa using hl)
  have h32 : H32 (uniq hs) := uniq_32 fun x hx => by simpa using hb.wd x hx
  refine CallA.wfs fun wf => ?_
  have wt := wf.t
  have wp := wf.p
  have wa := wf.arg a (by simp)
  have wap := wf.argp a (by simp)
  refine CallA.enterV 18 Tryd.func8 Tryd.ntmps8 (congrArg Array.toList Tryd.results8) rfl ⟨by simp, by simp⟩ (by kernel_rfl) (by kernel_rfl) ?_
  (simp -dsimp +decide only [vy, vz, vze, vy, vz, vze, va, vc, vu, vl, Tryd.ty, Tryd.en, ↓reduceIte, Nat.reduceSub, Nat.reduceAdd, Nat.reduceMul, Nat.reduceLT, Int.reduceAdd, Int.reduceSub, Int.reduceToNat, Int.cast_ofNat_Int])
  refine (unlike_ok (hb.app _) (by omega)).det ?_
  obtain ⟨u, hu⟩ : ∃ u, u = uniq hs := ⟨_, rfl⟩
  rw [← hu] at hul h32 ⊢
  have hbu : ∀ T, Es T 32 H8 (.vs (u.flatMap H8) u.length) u := fun T => Es.vs (h8 h32)
  (simp -dsimp +decide (disch := omega) only [vy, vz, vze, vy, vz, vze, va, vc, vu, vl, Tryd.ty, Tryd.en, ↓reduceIte, Nat.reduceSub, Nat.reduceAdd, Nat.reduceMul, Nat.reduceLT, Int.reduceAdd, Int.reduceSub, Int.reduceToNat, Int.cast_ofNat_Int, vi, getO_i, vt])
  have hgt : ((4096 : Int) < (u.length : Int)) = False := by simp; omega
  (simp -dsimp +decide (disch := omega) only [vy, vz, vze, vy, vz, vze, va, vc, vu, vl, Tryd.ty, Tryd.en, ↓reduceIte, Nat.reduceSub, Nat.reduceAdd, Nat.reduceMul, Nat.reduceLT, Int.reduceAdd, Int.reduceSub, Int.reduceToNat, Int.cast_ofNat_Int, vi, getO_i, hgt])
  refine SemA.adopt 7 46 1 (by decide) rfl ?_
  (simp -dsimp +decide only [vy, vz, vze, vy, vz, vze, va, vc, vu, vl, Tryd.ty, Tryd.en, ↓reduceIte, Nat.reduceSub, Nat.reduceAdd, Nat.reduceMul, Nat.reduceLT, Int.reduceAdd, Int.reduceSub, Int.reduceToNat, Int.cast_ofNat_Int, vt, List.length_append])
  refine SemA.loopC (fun s : Nat => [(2, .ptr T.length 0), (6, .vs (u.flatMap H8) u.length), (7, .sl (T.length + 1) 0 s), (15, .vs (u.flatMap H8) u.length), (16, wint (u.length : Int)), (17, wint (s : Int))]) (fun s => T ++ [.cells 23 (id.map by8), .buf 46 1 (((u.take s).map (nm id u.length)).map w64)]) (fun s => s ≤ u.length) (fun s => u.length - s) (T.length + 2) 0 [] (by kernel_rfl) (by omega) (by omega) (by (simp -dsimp +decide only [vy, vz, vze, vy, vz, vze, va, vc, vu, vl, Tryd.ty, Tryd.en, ↓reduceIte, Nat.reduceSub, Nat.reduceAdd, Nat.reduceMul, Nat.reduceLT, Int.reduceAdd, Int.reduceSub, Int.reduceToNat, Int.cast_ofNat_Int, vt])) (by simp) (by simp) ?_
  rintro i g hi
  (simp -dsimp +decide only [vy, vz, vze, vy, vz, vze, va, vc, vu, vl, Tryd.ty, Tryd.en, ↓reduceIte, Nat.reduceSub, Nat.reduceAdd, Nat.reduceMul, Nat.reduceLT, Int.reduceAdd, Int.reduceSub, Int.reduceToNat, Int.cast_ofNat_Int])
  refine CondP.dec (fun h => ?_) (fun h => ?_)
  · obtain ⟨y, hy⟩ : ∃ y, u[i]? = some y := ⟨u[i]'(by omega), by simp⟩
    have hy32 : y.length = 32 := h32 y (List.mem_of_getElem? hy)
    have hfa := flat_at (f := H8) (h8 h32) hy
    have hwr := wr32 y hy32
    have hon := ones8 y
    (simp -dsimp +decide (disch := omega) only [vy, vz, vze, vy, vz, vze, va, vc, vu, vl, Tryd.ty, Tryd.en, ↓reduceIte, Nat.reduceSub, Nat.reduceAdd, Nat.reduceMul, Nat.reduceLT, Int.reduceAdd, Int.reduceSub, Int.reduceToNat, Int.cast_ofNat_Int, vi, getO_i, vt, wt, hfa, z32_eq, z32_len, hwr, hon, hy32, tk32 y hy32, tk32 id hid, hid])
    have hlu : (u.flatMap H8).length = u.length * 32 := flat_len (h8 h32)
    have hne : List.flatMap H8 u ≠ [] := fun e => by rw [e] at hlu; simp at hlu; omega
    refine ⟨⟨by omega, by omega, hne⟩, by omega, ?_⟩
    refine (number_ok hid hy32 (by omega)).det ?_
    have htl : ((u.take i).map (nm id u.length)).length = i := by simp; omega
    have htk : (u.take (i + 1)).map (nm id u.length) = (u.take i).map (nm id u.length) ++ [nm id u.length y] := by
      rw [List.take_add_one, hy]; simp
    (simp -dsimp +decide (disch := omega) only [vy, vz, vze, vy, vz, vze, va, vc, vu, vl, Tryd.ty, Tryd.en, ↓reduceIte, Nat.reduceSub, Nat.reduceAdd, Nat.reduceMul, Nat.reduceLT, Int.reduceAdd, Int.reduceSub, Int.reduceToNat, Int.cast_ofNat_Int, vi, getO_i, vt, wt, wow, List.length_map, List.length_take])
    repeat (refine And.intro (by omega) ?_)
    refine ⟨i + 1, by omega, by omega, by first | rfl | (and_intros <;> first | rfl | (simp; done)), ?_⟩
    simp only [htk, List.map_append]; rfl
  · have hi : i = u.length := by omega
    subst hi
    rw [List.take_length]
    refine (sort_at (d := (u.map (nm id u.length)).toArray) (get_n1 _ _ _ _) (by simp) (by omega)).det' ?_
    rw [D_srt]
    (simp -dsimp +decide (disch := omega) only [vy, vz, vze, vy, vz, vze, va, vc, vu, vl, Tryd.ty, Tryd.en, ↓reduceIte, Nat.reduceSub, Nat.reduceAdd, Nat.reduceMul, Nat.reduceLT, Int.reduceAdd, Int.reduceSub, Int.reduceToNat, Int.cast_ofNat_Int, vi, getO_i, vt])
    refine Vw.pub (T.length + 1) (o := .buf 46 1 ((srt (u.map (nm id u.length))).map w64)) (by (simp -dsimp +decide only [vy, vz, vze, vy, vz, vze, va, vc, vu, vl, Tryd.ty, Tryd.en, ↓reduceIte, Nat.reduceSub, Nat.reduceAdd, Nat.reduceMul, Nat.reduceLT, Int.reduceAdd, Int.reduceSub, Int.reduceToNat, Int.cast_ofNat_Int])) rfl (cleanw _) ?_
    (simp -dsimp +decide only [vy, vz, vze, vy, vz, vze, va, vc, vu, vl, Tryd.ty, Tryd.en, ↓reduceIte, Nat.reduceSub, Nat.reduceAdd, Nat.reduceMul, Nat.reduceLT, Int.reduceAdd, Int.reduceSub, Int.reduceToNat, Int.cast_ofNat_Int, vt, wp])
    refine Vw.cut ⟨?_, rfl, rfl⟩
    unfold nums
    rw [← hu, List.length_map]; rfl
set_option maxRecDepth 8000 in
theorem rnumbers_ok {T : Tbl} {a : AV} {id : List UInt8} {hs : List (List UInt8)} (hid : id.length = 32) (hb : Es T 32 H8 a hs) (hl : hs.length ≤ 4096) :
    CallA Tryd.prog Tryd.G 9 [.ag (id.map by8), a] T fun v T' es => v = .tu [.vs ((srt (nums id hs)).map w64) (nums id hs).length, .p (.int .i64 0)] ∧ T' = T ∧ es = [] := by
  have hul : (uniq hs).length ≤ 4096 := Nat.le_trans (uniqF_len hs []) (by simpa using hl)
  have h32 : H32 (uniq hs) := uniq_32 fun x hx => by simpa using hb.wd x hx
  refine CallA.wfs fun wf => ?_
  have wt := wf.t
  have wp := wf.p
  have wa := wf.arg a (by simp)
  have wap := wf.argp a (by simp)
  refine CallA.enterV 9 Tryd.func9 Tryd.ntmps9 (congrArg Array.toList Tryd.results9) rfl ⟨by simp, by simp⟩ (by kernel_rfl) (by kernel_rfl) ?_
  (simp -dsimp +decide only [vy, vz, vze, vy, vz, vze, va, vc, vu, vl, Tryd.ty, Tryd.en, ↓reduceIte, Nat.reduceSub, Nat.reduceAdd, Nat.reduceMul, Nat.reduceLT, Int.reduceAdd, Int.reduceSub, Int.reduceToNat, Int.cast_ofNat_Int])
  refine (runlike_ok (hb.app _) (by omega)).det ?_
  obtain ⟨u, hu⟩ : ∃ u, u = uniq hs := ⟨_, rfl⟩
  rw [← hu] at hul h32 ⊢
  have hbu : ∀ T, Es T 32 H8 (.vs (u.flatMap H8) u.length) u := fun T => Es.vs (h8 h32)
  (simp -dsimp +decide (disch := omega) only [vy, vz, vze, vy, vz, vze, va, vc, vu, vl, Tryd.ty, Tryd.en, ↓reduceIte, Nat.reduceSub, Nat.reduceAdd, Nat.reduceMul, Nat.reduceLT, Int.reduceAdd, Int.reduceSub, Int.reduceToNat, Int.cast_ofNat_Int, vi, getO_i, vt])
  have hgt : ((4096 : Int) < (u.length : Int)) = False := by simp; omega
  (simp -dsimp +decide (disch := omega) only [vy, vz, vze, vy, vz, vze, va, vc, vu, vl, Tryd.ty, Tryd.en, ↓reduceIte, Nat.reduceSub, Nat.reduceAdd, Nat.reduceMul, Nat.reduceLT, Int.reduceAdd, Int.reduceSub, Int.reduceToNat, Int.cast_ofNat_Int, vi, getO_i, hgt])
  refine SemA.adopt 7 46 1 (by decide) rfl ?_
  (simp -dsimp +decide only [vy, vz, vze, vy, vz, vze, va, vc, vu, vl, Tryd.ty, Tryd.en, ↓reduceIte, Nat.reduceSub, Nat.reduceAdd, Nat.reduceMul, Nat.reduceLT, Int.reduceAdd, Int.reduceSub, Int.reduceToNat, Int.cast_ofNat_Int, vt, List.length_append])
  refine SemA.loopC (fun s : Nat => [(2, .ptr T.length 0), (6, .vs (u.flatMap H8) u.length), (7, .sl (T.length + 1) 0 s), (8, wint (s : Int))]) (fun s => T ++ [.cells 23 (id.map by8), .buf 46 1 (((u.take s).map (nm id u.length)).map w64)]) (fun s => s ≤ u.length) (fun s => u.length - s) (T.length + 2) 0 [] (by kernel_rfl) (by omega) (by omega) (by (simp -dsimp +decide only [vy, vz, vze, vy, vz, vze, va, vc, vu, vl, Tryd.ty, Tryd.en, ↓reduceIte, Nat.reduceSub, Nat.reduceAdd, Nat.reduceMul, Nat.reduceLT, Int.reduceAdd, Int.reduceSub, Int.reduceToNat, Int.cast_ofNat_Int, vt])) (by simp) (by simp) ?_
  rintro i g hi
  (simp -dsimp +decide only [vy, vz, vze, vy, vz, vze, va, vc, vu, vl, Tryd.ty, Tryd.en, ↓reduceIte, Nat.reduceSub, Nat.reduceAdd, Nat.reduceMul, Nat.reduceLT, Int.reduceAdd, Int.reduceSub, Int.reduceToNat, Int.cast_ofNat_Int])
  refine CondP.dec (fun h => ?_) (fun h => ?_)
  · obtain ⟨y, hy⟩ : ∃ y, u[i]? = some y := ⟨u[i]'(by omega), by simp⟩
    have hy32 : y.length = 32 := h32 y (List.mem_of_getElem? hy)
    have hfa := flat_at (f := H8) (h8 h32) hy
    (simp -dsimp +decide only [vy, vz, vze, vy, vz, vze, va, vc, vu, vl, Tryd.ty, Tryd.en, ↓reduceIte, Nat.reduceSub, Nat.reduceAdd, Nat.reduceMul, Nat.reduceLT, Int.reduceAdd, Int.reduceSub, Int.reduceToNat, Int.cast_ofNat_Int])
    refine SemA.drawS (.fl 0 (.fl 1 (.fl 2 (.fl 3 (.fl 4 (.fl 5 (.fl 6 (.fl 7 (.sq 8 (.sq 9 (.sq 10 (.fl 11 .nil)))))))))))) Tryd.mixed (by kernel_rfl) ?_
    (simp -dsimp +decide (disch := omega) only [vy, vz, vze, vy, vz, vze, va, vc, vu, vl, Tryd.ty, Tryd.en, ↓reduceIte, Nat.reduceSub, Nat.reduceAdd, Nat.reduceMul, Nat.reduceLT, Int.reduceAdd, Int.reduceSub, Int.reduceToNat, Int.cast_ofNat_Int, vi, getO_i, vt, wt, hfa, hy32, tk32 y hy32, tk32 id hid, hid])
    have hlu : (u.flatMap H8).length = u.length * 32 := flat_len (h8 h32)
    have hne : List.flatMap H8 u ≠ [] := fun e => by rw [e] at hlu; simp at hlu; omega
    refine ⟨⟨by omega, by omega, hne⟩, by omega, ?_⟩
    refine (rnumber_ok hid hy32 (by omega)).det ?_
    rw [← numS_eq id y u.length (by omega)]
    have htl : ((u.take i).map (nm id u.length)).length = i := by simp; omega
    have htk : (u.take (i + 1)).map (nm id u.length) = (u.take i).map (nm id u.length) ++ [nm id u.length y] := by
      rw [List.take_add_one, hy]; simp
    (simp -dsimp +decide (disch := omega) only [vy, vz, vze, vy, vz, vze, va, vc, vu, vl, Tryd.ty, Tryd.en, ↓reduceIte, Nat.reduceSub, Nat.reduceAdd, Nat.reduceMul, Nat.reduceLT, Int.reduceAdd, Int.reduceSub, Int.reduceToNat, Int.cast_ofNat_Int, vi, getO_i, vt, wt, wow, List.length_map, List.length_take])
    repeat (refine And.intro (by omega) ?_)
    refine ⟨i + 1, by omega, by omega, by first | rfl | (and_intros <;> first | rfl | (simp; done)), ?_⟩
    simp only [htk, List.map_append]; rfl
  · (simp -dsimp +decide only [vy, vz, vze, vy, vz, vze, va, vc, vu, vl, Tryd.ty, Tryd.en, ↓reduceIte, Nat.reduceSub, Nat.reduceAdd, Nat.reduceMul, Nat.reduceLT, Int.reduceAdd, Int.reduceSub, Int.reduceToNat, Int.cast_ofNat_Int])
    have hi : i = u.length := by omega
    subst hi
    rw [List.take_length]
    refine (rising_at (d := (u.map (nm id u.length)).toArray) (get_n1 _ _ _ _) (by simp) (by omega)).det' ?_
    rw [D_srt]
    (simp -dsimp +decide (disch := omega) only [vy, vz, vze, vy, vz, vze, va, vc, vu, vl, Tryd.ty, Tryd.en, ↓reduceIte, Nat.reduceSub, Nat.reduceAdd, Nat.reduceMul, Nat.reduceLT, Int.reduceAdd, Int.reduceSub, Int.reduceToNat, Int.cast_ofNat_Int, vi, getO_i, vt])
    refine Vw.pub (T.length + 1) (o := .buf 46 1 ((srt (u.map (nm id u.length))).map w64)) (by (simp -dsimp +decide only [vy, vz, vze, vy, vz, vze, va, vc, vu, vl, Tryd.ty, Tryd.en, ↓reduceIte, Nat.reduceSub, Nat.reduceAdd, Nat.reduceMul, Nat.reduceLT, Int.reduceAdd, Int.reduceSub, Int.reduceToNat, Int.cast_ofNat_Int])) rfl (cleanw _) ?_
    (simp -dsimp +decide only [vy, vz, vze, vy, vz, vze, va, vc, vu, vl, Tryd.ty, Tryd.en, ↓reduceIte, Nat.reduceSub, Nat.reduceAdd, Nat.reduceMul, Nat.reduceLT, Int.reduceAdd, Int.reduceSub, Int.reduceToNat, Int.cast_ofNat_Int, vt, wp])
    refine Vw.cut ⟨?_, rfl, rfl⟩
    unfold nums
    rw [← hu, List.length_map]; rfl
/-- a slice of numbers -/
def Ns (T : Tbl) (a : AV) (l : List UInt64) : Prop := Sl T 1 a (l.map w64) l.length
theorem getm (l : List UInt64) (k : Nat) : (l.map w64)[k]? = (l[k]?).map w64 := List.getElem?_map ..
set_option maxRecDepth 8000 in
theorem same_ok {T : Tbl} {a b : AV} {l m : List UInt64} (ha : Ns T a l) (hb : Ns T b m) (hl : l.length ≤ 1099511627776) :
    CallA Tryd.prog Tryd.G 12 [a, b] T fun v T' es => v = .p (.bool (decide (l = m))) ∧ T' = T ∧ es = [] := by
  have hra := Sl.rules ha (by decide)
  have hrb := Sl.rules hb (by decide)
  have hla := Sl.loads ha (P := Tryd.prog) (t := 46) (by (simp -dsimp +decide only [vy, vz, vze, vy, vz, vze, va, vc, vu, vl, Tryd.ty, Tryd.en, ↓reduceIte, Nat.reduceSub, Nat.reduceAdd, Nat.reduceMul, Nat.reduceLT, Int.reduceAdd, Int.reduceSub, Int.reduceToNat, Int.cast_ofNat_Int]))
  have hlb := Sl.loads hb (P := Tryd.prog) (t := 46) (by (simp -dsimp +decide only [vy, vz, vze, vy, vz, vze, va, vc, vu, vl, Tryd.ty, Tryd.en, ↓reduceIte, Nat.reduceSub, Nat.reduceAdd, Nat.reduceMul, Nat.reduceLT, Int.reduceAdd, Int.reduceSub, Int.reduceToNat, Int.cast_ofNat_Int]))
  refine CallA.enterV 6 Tryd.func12 Tryd.ntmps12 (congrArg Array.toList Tryd.results12) rfl ⟨by simp, by simp⟩ (by kernel_rfl) (by kernel_rfl) ?_
  (simp -dsimp +decide only [vy, vz, vze, vy, vz, vze, va, vc, vu, vl, Tryd.ty, Tryd.en, ↓reduceIte, Nat.reduceSub, Nat.reduceAdd, Nat.reduceMul, Nat.reduceLT, Int.reduceAdd, Int.reduceSub, Int.reduceToNat, Int.cast_ofNat_Int])
  (simp -dsimp +decide (disch := omega) only [vy, vz, vze, vy, vz, vze, va, vc, vu, vl, Tryd.ty, Tryd.en, ↓reduceIte, Nat.reduceSub, Nat.reduceAdd, Nat.reduceMul, Nat.reduceLT, Int.reduceAdd, Int.reduceSub, Int.reduceToNat, Int.cast_ofNat_Int, vi, getO_i, hra, hrb])
  refine CondP.split (fun h => ?_) (fun h => ?_)
  · (simp -dsimp +decide (disch := omega) only [vy, vz, vze, vy, vz, vze, va, vc, vu, vl, Tryd.ty, Tryd.en, ↓reduceIte, Nat.reduceSub, Nat.reduceAdd, Nat.reduceMul, Nat.reduceLT, Int.reduceAdd, Int.reduceSub, Int.reduceToNat, Int.cast_ofNat_Int, vi, getO_i])
    refine Vw.done ⟨?_, rfl, rfl⟩
    rw [decide_eq_false]
    rintro rfl; simp at h
  · have hlen : l.length = m.length := by simp at h; omega
    (simp -dsimp +decide (disch := omega) only [vy, vz, vze, vy, vz, vze, va, vc, vu, vl, Tryd.ty, Tryd.en, ↓reduceIte, Nat.reduceSub, Nat.reduceAdd, Nat.reduceMul, Nat.reduceLT, Int.reduceAdd, Int.reduceSub, Int.reduceToNat, Int.cast_ofNat_Int, vi, getO_i])
    refine SemA.loopL (fun i : Nat => [(0, a), (1, b), (5, wint (i : Int))]) (fun _ => T) (fun i => i ≤ l.length ∧ l.take i = m.take i) (fun i => l.length - i) 0 [] (by kernel_rfl) ⟨by omega, by simp⟩ (by (simp -dsimp +decide only [vy, vz, vze, vy, vz, vze, va, vc, vu, vl, Tryd.ty, Tryd.en, ↓reduceIte, Nat.reduceSub, Nat.reduceAdd, Nat.reduceMul, Nat.reduceLT, Int.reduceAdd, Int.reduceSub, Int.reduceToNat, Int.cast_ofNat_Int])) rfl (by simp) ?_
    rintro i g ⟨hi, he⟩
    (simp -dsimp +decide only [vy, vz, vze, vy, vz, vze, va, vc, vu, vl, Tryd.ty, Tryd.en, ↓reduceIte, Nat.reduceSub, Nat.reduceAdd, Nat.reduceMul, Nat.reduceLT, Int.reduceAdd, Int.reduceSub, Int.reduceToNat, Int.cast_ofNat_Int, hra])
    refine CondP.dec (fun h => ?_) (fun h => ?_)
    · obtain ⟨x, hx⟩ : ∃ x, l[i]? = some x := ⟨l[i]'(by omega), by simp⟩
      obtain ⟨y, hy⟩ : ∃ y, m[i]? = some y := ⟨m[i]'(by omega), by simp⟩
      (simp -dsimp +decide only [vy, vz, vze, vy, vz, vze, va, vc, vu, vl, Tryd.ty, Tryd.en, ↓reduceIte, Nat.reduceSub, Nat.reduceAdd, Nat.reduceMul, Nat.reduceLT, Int.reduceAdd, Int.reduceSub, Int.reduceToNat, Int.cast_ofNat_Int])
      refine SemA.drawS (.fl 0 (.fl 1 (.fl 2 (.fl 3 (.fl 4 (.fl 5 (.fl 6 (.fl 7 (.fl 8 .nil))))))))) Tryd.mixed (by kernel_rfl) ?_
      (simp -dsimp +decide (disch := omega) only [vy, vz, vze, vy, vz, vze, va, vc, vu, vl, Tryd.ty, Tryd.en, ↓reduceIte, Nat.reduceSub, Nat.reduceAdd, Nat.reduceMul, Nat.reduceLT, Int.reduceAdd, Int.reduceSub, Int.reduceToNat, Int.cast_ofNat_Int, vi, getO_i, hra, hrb, hla, hlb, getm, hx, hy])
      refine ⟨⟨by omega, by omega⟩, ⟨by omega, by omega⟩, CondP.ndec (fun h => ?_) (fun h => ?_)⟩
      · (simp -dsimp +decide (disch := omega) only [vy, vz, vze, vy, vz, vze, va, vc, vu, vl, Tryd.ty, Tryd.en, ↓reduceIte, Nat.reduceSub, Nat.reduceAdd, Nat.reduceMul, Nat.reduceLT, Int.reduceAdd, Int.reduceSub, Int.reduceToNat, Int.cast_ofNat_Int, vi, getO_i])
        refine Vw.done ⟨?_, rfl, rfl⟩
        rw [decide_eq_false]
        rintro rfl
        rw [hx] at hy; cases hy; exact h rfl
      · have : x = y := UInt64.toNat_inj.1 (by omega)
        (simp -dsimp +decide (disch := omega) only [vy, vz, vze, vy, vz, vze, va, vc, vu, vl, Tryd.ty, Tryd.en, ↓reduceIte, Nat.reduceSub, Nat.reduceAdd, Nat.reduceMul, Nat.reduceLT, Int.reduceAdd, Int.reduceSub, Int.reduceToNat, Int.cast_ofNat_Int, vi, getO_i])
        refine ⟨i + 1, ⟨by omega, ?_⟩, by omega, rfl⟩
        rw [List.take_add_one, List.take_add_one, hx, hy, he, this]
    · (simp -dsimp +decide (disch := omega) only [vy, vz, vze, vy, vz, vze, va, vc, vu, vl, Tryd.ty, Tryd.en, ↓reduceIte, Nat.reduceSub, Nat.reduceAdd, Nat.reduceMul, Nat.reduceLT, Int.reduceAdd, Int.reduceSub, Int.reduceToNat, Int.cast_ofNat_Int, vi, getO_i])
      refine Vw.done ⟨?_, rfl, rfl⟩
      rw [List.take_of_length_le (by omega), List.take_of_length_le (by omega)] at he
      rw [decide_eq_true he]
end Go.Proofs.YtmcbdlefakjpoaaDoor

set_option linter.unusedSimpArgs false
set_option linter.unusedVariables false
set_option linter.unusedSectionVars false
namespace Go.Proofs.YtmcbdlefakjpoaaDoor
open Go.E
/-- a bit is put, the i-th -/
def pk (out : List UInt8) (i : Nat) (bit : UInt8) : List UInt8 :=
  let o := if i % 8 = 0 then out ++ [0] else out
  o.set (o.length - 1) (o[o.length - 1]! ||| u8_shl bit (7 - i % 8))
theorem pk_len (out : List UInt8) (i : Nat) (bit : UInt8) : (pk out i bit).length = if i % 8 = 0 then out.length + 1 else out.length := by
  unfold pk; dsimp only; split <;> simp
theorem set8 (l : List UInt8) (k : Nat) (v : UInt8) : (l.map by8).set k (.p (.int .u8 (v.toNat : Int))) = (l.set k v).map by8 := by
  rw [List.map_set]; rfl
theorem get8 (l : List UInt8) {k : Nat} (h : k < l.length) : (l.map by8)[k]? = some (by8 l[k]!) := by
  rw [List.getElem?_map, getElem!_pos l k h]; simp [h]
def PR (T : Tbl) (o : AObj) (out : List UInt8) (left : Nat) : Tbl := T ++ [o, .buf 5 1 (out.map by8), .cells 53 [.sl (T.length + 1) 0 out.length, wint (left : Int)]]
def EP (T : Tbl) : Eff := [(T.length + 1, true), (T.length + 1, false), (T.length + 2, false)]
structure Wft (T : Tbl) : Prop where
  wf : ∀ q : Nat → Bool, (∀ i, i < T.length → q i = false) → T.map (AObj.wo q) = T
set_option maxRecDepth 8000 in
theorem rput_ok {T : Tbl} {o : AObj} {out : List UInt8} {i : Nat} {bit : UInt64} (hw : Wft T) (hob : ∀ q, o.wo q = o) (ho : i % 8 = 0 ∨ 0 < out.length) (hl : out.length ≤ 1099511627776) :
    CallA Tryd.prog Tryd.G 24 [.ptr (T.length + 2) 0, w64 bit] (PR T o out ((8 - i % 8) % 8)) fun v T' es => v = .tu [] ∧ T' = PR T o (pk out i bit.toUInt8) (7 - i % 8) ∧ es = EP T := by
  have wt : (∀ k, T.map (AObj.wo (fun j => j == T.length + k)) = T) := fun k => hw.wf _ fun i hi => by simp; omega
  have hlen : (PR T o out ((8 - i % 8) % 8)).length = T.length + 3 := by simp [PR]
  have wt3 : T.map (AObj.wo (fun j => decide (T.length + 3 ≤ j))) = T := hw.wf _ fun i hi => by simp; omega
  have hrec : (∀ b E, rec1 (T.length + 3) (T.length + 1) b E = (T.length + 1, b) :: E) ∧ (∀ b E, rec1 (T.length + 3) (T.length + 2) b E = (T.length + 2, b) :: E) := ⟨fun b E => by simp [rec1], fun b E => by simp [rec1]⟩
  by_cases h0 : i % 8 = 0
  · have hpk : pk out i bit.toUInt8 = (out ++ [0]).set out.length ((0 : UInt8) ||| u8_shl bit.toUInt8 7) := by
      unfold pk; simp [h0]
    rw [hpk, h0]
    refine CallA.enterV 4 Tryd.func24 Tryd.ntmps24 (congrArg Array.toList Tryd.results24) rfl ⟨by simp, by simp⟩ (by kernel_rfl) (by kernel_rfl) ?_
    (simp -dsimp +decide only [vy, vz, vze, va, vc, vu, vl, Tryd.ty, Tryd.en, ↓reduceIte, Nat.reduceSub, Nat.reduceAdd, Nat.reduceMul, Nat.reduceLT, Int.reduceAdd, Int.reduceSub, Int.reduceToNat, Int.cast_ofNat_Int])
    unfold PR
    (simp -dsimp +decide (disch := omega) only [vy, vz, vze, va, vc, vu, vl, Tryd.ty, Tryd.en, ↓reduceIte, Nat.reduceSub, Nat.reduceAdd, Nat.reduceMul, Nat.reduceLT, Int.reduceAdd, Int.reduceSub, Int.reduceToNat, Int.cast_ofNat_Int, vi, getO_i, vt, hob, wt])
    refine ⟨by omega, ?_⟩
    refine SemA.drawS (.fl 0 (.fl 1 (.fl 2 (.fl 3 (.fl 4 (.fl 5 (.fl 6 (.fl 7 (.fl 8 (.fl 9 (.fl 10 (.fl 11 (.fl 12 (.fl 13 (.fl 14 (.fl 15 (.fl 16 (.fl 17 (.fl 18 (.fl 19 (.fl 20 (.sq 21 .nil)))))))))))))))))))))) Tryd.mixed (by kernel_rfl) ?_
    have hlo : (out ++ [0]).length = out.length + 1 := by simp
    have hg := get8 (out ++ [0]) (k := out.length) (by simp)
    have hz : (out ++ [(0 : UInt8)])[out.length]! = 0 := by rw [getElem!_pos _ _ (by simp)]; simp
    rw [hz] at hg
    have hmap : List.map by8 out ++ [AV.p (.int .u8 0)] = List.map by8 (out ++ [0]) := by rw [List.map_append]; rfl
    (simp -dsimp +decide (disch := omega) only [vy, vz, vze, va, vc, vu, vl, Tryd.ty, Tryd.en, ↓reduceIte, Nat.reduceSub, Nat.reduceAdd, Nat.reduceMul, Nat.reduceLT, Int.reduceAdd, Int.reduceSub, Int.reduceToNat, Int.cast_ofNat_Int, vi, getO_i, vt, hob, wt, wt3, hrec, hmap, hg, set8, List.length_map, hlo])
    have hne : List.map by8 (out ++ [0]) ≠ [] := by simp
    refine ⟨⟨by omega, by omega, hne⟩, ⟨by omega, by omega, hne⟩, by omega, ?_⟩
    rw [show out.length + 1 - 1 = out.length by omega, hz]
    refine Vw.eff (E' := EP T) (by simp [EP]) ?_
    refine Vw.cutN (T.length + 3) (by simp) ?_
    (simp -dsimp +decide only [vy, vz, vze, va, vc, vu, vl, Tryd.ty, Tryd.en, ↓reduceIte, Nat.reduceSub, Nat.reduceAdd, Nat.reduceMul, Nat.reduceLT, Int.reduceAdd, Int.reduceSub, Int.reduceToNat, Int.cast_ofNat_Int, vt, hob, wt3])
    refine Vw.done ⟨rfl, ?_, rfl⟩
    rw [List.length_set, hlo]; rfl
  · have h8 : (8 - i % 8) % 8 = 8 - i % 8 := by omega
    have ho' : 0 < out.length := by omega
    have hpk : pk out i bit.toUInt8 = out.set (out.length - 1) (out[out.length - 1]! ||| u8_shl bit.toUInt8 (7 - i % 8)) := by
      unfold pk; simp [h0]
    have hl0 : (((8 - i % 8 : Nat) : Int) = 0) = False := by simp; omega
    have hl1 : ((8 - i % 8 : Nat) : Int) - 1 = ((7 - i % 8 : Nat) : Int) := by omega
    rw [hpk, h8]
    have hg := get8 out (k := out.length - 1) (by omega)
    refine CallA.enterV 4 Tryd.func24 Tryd.ntmps24 (congrArg Array.toList Tryd.results24) rfl ⟨by simp, by simp⟩ (by kernel_rfl) (by kernel_rfl) ?_
    (simp -dsimp +decide only [vy, vz, vze, va, vc, vu, vl, Tryd.ty, Tryd.en, ↓reduceIte, Nat.reduceSub, Nat.reduceAdd, Nat.reduceMul, Nat.reduceLT, Int.reduceAdd, Int.reduceSub, Int.reduceToNat, Int.cast_ofNat_Int])
    unfold PR
    (simp -dsimp +decide (disch := omega) only [vy, vz, vze, va, vc, vu, vl, Tryd.ty, Tryd.en, ↓reduceIte, Nat.reduceSub, Nat.reduceAdd, Nat.reduceMul, Nat.reduceLT, Int.reduceAdd, Int.reduceSub, Int.reduceToNat, Int.cast_ofNat_Int, vi, getO_i, vt, hob, wt, hl0, hl1, hrec])
    refine SemA.drawS (.fl 0 (.fl 1 (.fl 2 (.fl 3 (.fl 4 (.fl 5 (.fl 6 (.fl 7 (.fl 8 (.fl 9 (.fl 10 (.fl 11 (.fl 12 (.fl 13 (.fl 14 (.fl 15 (.fl 16 (.fl 17 (.fl 18 (.fl 19 (.fl 20 (.sq 21 .nil)))))))))))))))))))))) Tryd.mixed (by kernel_rfl) ?_
    (simp -dsimp +decide (disch := omega) only [vy, vz, vze, va, vc, vu, vl, Tryd.ty, Tryd.en, ↓reduceIte, Nat.reduceSub, Nat.reduceAdd, Nat.reduceMul, Nat.reduceLT, Int.reduceAdd, Int.reduceSub, Int.reduceToNat, Int.cast_ofNat_Int, vi, getO_i, vt, hob, wt, hg, set8, List.length_map, hrec])
    have hne : List.map by8 out ≠ [] := fun e => by rw [List.map_eq_nil_iff] at e; rw [e] at ho'; simp at ho'
    repeat (refine And.intro (by first | omega | exact ⟨by omega, by omega, hne⟩) ?_)
    refine Vw.eff (E' := EP T) (by simp [EP]) ?_
    refine Vw.done ⟨rfl, ?_, rfl⟩
    rw [List.length_set]; rfl
/-- many bits -/
def pks (out : List UInt8) (i : Nat) : List UInt8 → List UInt8
  | [] => out
  | b :: r => pks (pk out i b) (i + 1) r
theorem pks_append : ∀ (l m out : List UInt8) (i : Nat), pks out i (l ++ m) = pks (pks out i l) (i + l.length) m := by
  intro l
  induction l with
  | nil => intro m out i; simp [pks]
  | cons b r ih => intro m out i; rw [List.cons_append, pks, ih, pks, List.length_cons, show i + 1 + r.length = i + (r.length + 1) by omega]
theorem pks_len : ∀ (l out : List UInt8) (i : Nat), (pks out i l).length = out.length + ((i + l.length + 7) / 8 - (i + 7) / 8)
  | [], out, i => by simp [pks]
  | b :: r, out, i => by
    rw [pks, pks_len r, pk_len, List.length_cons]
    split <;> omega
/-- the bits of a difference -/
def bitD (d : UInt64) : List UInt8 := List.replicate (d.toNat >>> 19) 1 ++ 0 :: (List.range 19).map fun j => (u64_shr d (18 - j) &&& 1).toUInt8
/-- the bits of numbers -/
def bitsF (last : UInt64) : List UInt64 → List UInt8
  | [] => []
  | x :: r => bitD (x - last) ++ bitsF x r
/-- a filter's bytes -/
def filtB (l : List UInt64) : List UInt8 := pks (lbs (UInt64.ofInt (l.length : Int)) 4) 0 (bitsF 0 l)
/-- each difference is below 2^32 -/
def small (last : UInt64) : List UInt64 → Prop
  | [] => True
  | x :: r => (x - last).toNat < 4294967296 ∧ small x r
theorem bitD_len (d : UInt64) (h : d.toNat < 4294967296) : (bitD d).length ≤ 8212 := by
  simp only [bitD, List.length_append, List.length_replicate, List.length_cons, List.length_map, List.length_range]
  rw [Nat.shiftRight_eq_div_pow]; omega
theorem bitsF_len : ∀ (l : List UInt64) (last : UInt64), small last l → (bitsF last l).length ≤ 8212 * l.length
  | [], _, _ => by simp [bitsF]
  | x :: r, last, h => by
    have h1 := bitD_len _ h.1
    have h2 := bitsF_len r x h.2
    rw [bitsF, List.length_append, List.length_cons]; omega
end Go.Proofs.YtmcbdlefakjpoaaDoor
