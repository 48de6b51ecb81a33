/-
  THE ENGINE, PART D: code, loops, ranges over functions, the entry of a function. Over any program. No condition.
-/
import Derived.Test.YtloeiefijmbkiaaEngC
set_option linter.unusedSimpArgs false
set_option linter.unusedVariables false
set_option linter.unusedSectionVars false
namespace Go.E

/-- what a piece of code, not looked into, comes to -/
def SemV (P : Program) (ro : Option Nat) (n m : Nat) (c : Code) (ds : List Nat) (loc : List Value) (tmp : List (Nat × Value)) (w : World) (Q : Exit → Kont) (_ : Tag c := .mk) (_ : Tag Q := .mk) : Prop :=
  ∀ (a : Act), Fits' n m ds loc tmp a → ∀ Qs : Exit → Act → World → Prop, (∀ e ds loc tmp w a, Fits' n m ds loc tmp a → Q e ds loc tmp w → Qs e a w) → c.wpIn (fz ro) 0 P Qs a w

/-- what follows: behind the code; at the exit of a block; at a return -/
def mkQ (N : Kont) (X : Nat → Kont) (R : Kont) : Exit → Kont
  | .normal => N
  | .exit i => X i
  | .ret => R
  | _ => fun _ _ _ _ => False

def codeV (P : Program) (ro : Option Nat) (n m : Nat) : Code → List Nat → List Value → List (Nat × Value) → World → (N : Kont) → (X : Nat → Kont) → (R : Kont) → (_ : Tag N := .mk) → (_ : Tag X := .mk) → (_ : Tag R := .mk) → Prop
  | .skip, ds, loc, tmp, w, N, _, _, _, _, _ => N ds loc tmp w
  | .region id ops draw, ds, loc, _, w, N, X, R, _, _, _ =>
    if draw then SemV P ro n m (.region id ops true) ds loc [] w (mkQ N X R) else ∀ base, opsV P n base ops.toList ds ops.toList loc [] w N
  | .seq a b, ds, loc, tmp, w, N, X, R, _, _, _ => codeV P ro n m a ds loc tmp w (fun ds loc tmp w => codeV P ro n m b ds loc tmp w N X R) X R
  | .cond c t e, ds, loc, tmp, w, N, X, R, _, _, _ => ∀ base, CondP (ev n base loc tmp c) (codeV P ro n m t ds loc tmp w N X R) (codeV P ro n m e ds loc tmp w N X R)
  | .block i c, ds, loc, tmp, w, N, X, R, _, _, _ => codeV P ro n m c ds loc tmp w N (fun j => if j = i then N else X j) R
  | .loop c, ds, loc, _, w, N, X, R, _, _, _ => SemV P ro n m (.loop c) ds loc [] w (mkQ N X R)
  | .exit i, ds, loc, tmp, w, _, X, _, _, _, _ => X i ds loc tmp w
  | .ret, ds, loc, tmp, w, _, _, R, _, _, _ => R ds loc tmp w
  | .rangeFunc f ps a b, ds, loc, tmp, w, N, X, R, _, _, _ => SemV P ro n m (.rangeFunc f ps a b) ds loc tmp w (mkQ N X R)
  | .scope b, ds, loc, tmp, w, N, X, R, _, _, _ => codeV P ro n m b ds loc tmp w N X R
  | .label _, ds, loc, tmp, w, N, _, _, _, _, _ => N ds loc tmp w
  | .goto l, ds, loc, tmp, w, N, X, R, _, _, _ => SemV P ro n m (.goto l) ds loc tmp w (mkQ N X R)
  | .refuse y, ds, loc, tmp, w, N, X, R, _, _, _ => SemV P ro n m (.refuse y) ds loc tmp w (mkQ N X R)

def codeOK (m : Nat) : Code → Bool
  | .region _ ops draw => draw || ops.toList.all (dstIn m)
  | .seq a b => codeOK m a && codeOK m b
  | .cond _ t e => codeOK m t && codeOK m e
  | .block _ c => codeOK m c
  | .scope c => codeOK m c
  | _ => true

section
variable {P : Program} {ro : Option Nat} {n m : Nat} {ds : List Nat} {loc : List Value} {tmp : List (Nat × Value)} {w : World}
theorem SemV.mono {c : Code} {Q Q' : Exit → Kont} (h : SemV P ro n m c ds loc tmp w Q) (hq : ∀ e ds loc tmp w, Q e ds loc tmp w → Q' e ds loc tmp w) : SemV P ro n m c ds loc tmp w Q' :=
  fun a ha Qs hQs => h a ha Qs fun e ds loc tmp w a ha hq' => hQs e ds loc tmp w a ha (hq _ _ _ _ _ hq')

theorem SemV.seq {a b : Code} {N K R : Kont} {X : Nat → Kont} (h : SemV P ro n m a ds loc tmp w (mkQ K X R)) (hb : ∀ ds loc tmp w, K ds loc tmp w → SemV P ro n m b ds loc tmp w (mkQ N X R)) :
    SemV P ro n m (.seq a b) ds loc tmp w (mkQ N X R) := by
  intro act ha Qs hQs
  refine wpIn_seq (h act ha _ fun e ds loc tmp w a ha hq => ?_)
  cases e with
  | normal => exact hb _ _ _ _ hq a ha Qs hQs
  | exit i => exact hQs (.exit i) _ _ _ _ _ ha hq
  | ret => exact hQs .ret _ _ _ _ _ ha hq
  | _ => exact hq.elim

theorem SemV.block {c : Code} {i : Nat} {N R : Kont} {X : Nat → Kont} (h : SemV P ro n m c ds loc tmp w (mkQ N (fun j => if j = i then N else X j) R)) : SemV P ro n m (.block i c) ds loc tmp w (mkQ N X R) := by
  intro act ha Qs hQs
  refine wpIn_block (h act ha _ fun e ds loc tmp w a ha hq => ?_)
  cases e with
  | exit j =>
    simp only [mkQ, Exit.inBlock] at hq ⊢
    split <;> rename_i hj
    · rw [if_pos hj] at hq; exact hQs .normal _ _ _ _ _ ha hq
    · rw [if_neg hj] at hq; exact hQs (.exit j) _ _ _ _ _ ha hq
  | normal => exact hQs .normal _ _ _ _ _ ha hq
  | ret => exact hQs .ret _ _ _ _ _ ha hq
  | _ => exact hq.elim

theorem stepR_scope {b : Frame} {a : Act} {k : List Item} {cs : List Frame} {c : Code} : step P (lone (b.atR a (.code (.scope c) :: k)) cs w) = .next (lone (b.atR a (.code c :: .inScope c :: k)) cs w) :=
  step_lone_go (by simp [stepG, stepG.exec, Frame.atR])
theorem stepR_inScope {b : Frame} {a : Act} {k : List Item} {cs : List Frame} {c : Code} : step P (lone (b.atR a (.inScope c :: k)) cs w) = .next (lone (b.atR a k) cs w) :=
  step_lone_go (by simp [stepG, stepG.exec, Frame.atR])
/-- a scope into which nothing jumps -/
theorem wpIn_scope {F : Fence} {d : Nat} {a : Act} {Q : Exit → Act → World → Prop} {c : Code} (hg : ∀ l a w, ¬ Q (.goto l) a w) (h : c.wpIn F d P Q a w) : (Code.scope c).wpIn F d P Q a w := by
  intro b k cs hro hb hr
  have h0 : (lone (b.atR a (.code (.scope c) :: k)) cs w).fenced P F := fenced_calm hb hr rfl
  obtain ⟨e, a₁, w₁, hq, harr⟩ := h b (.inScope c :: k) cs hro hb hr
  cases e with
  | normal => exact ⟨.normal, a₁, w₁, hq, .head h0 stepR_scope (StepsIn.trans harr (.one (fenced_calm hb hr rfl) stepR_inScope))⟩
  | exit id' =>
    have hx : exitTo id' (.inScope c :: k) = exitTo id' k := by simp [exitTo]
    exact ⟨.exit id', a₁, w₁, hq, fun k' hk => .head h0 stepR_scope (harr.1 k' (by rw [hx]; exact hk)),
      fun hr' hk => let ⟨k₁, h1, h2⟩ := harr.2 hr' (by rw [hx]; exact hk); ⟨k₁, h1, .head h0 stepR_scope h2⟩⟩
  | goto l => exact (hg _ _ _ hq).elim
  | ret => exact ⟨_, a₁, w₁, hq, .of_steps (.one h0 stepR_scope) harr⟩
  | panic ch => exact ⟨_, a₁, w₁, hq, .of_steps (.one h0 stepR_scope) harr⟩
  | outgrown => exact ⟨_, a₁, w₁, hq, .of_steps (.one h0 stepR_scope) harr⟩

theorem SemV.scope {c : Code} {N R : Kont} {X : Nat → Kont} (h : SemV P ro n m c ds loc tmp w (mkQ N X R)) : SemV P ro n m (.scope c) ds loc tmp w (mkQ N X R) := by
  intro act ha Qs hQs
  refine wpIn_mono (Q := fun e a w => ∃ ds loc tmp, Fits' n m ds loc tmp a ∧ mkQ N X R e ds loc tmp w) ?_ (fun e a w ⟨ds, loc, tmp, hf, hq⟩ => hQs _ _ _ _ _ _ hf hq)
  refine wpIn_scope (fun l a w => ?_) (h act ha _ fun e ds loc tmp w a hf hq => ⟨ds, loc, tmp, hf, hq⟩)
  rintro ⟨ds, loc, tmp, hf, hq⟩
  exact hq

theorem SemV.cleared {c : Code} {Q : Exit → Kont} (h : SemV P ro n m c ds loc [] w Q) : SemV P ro n m c ds loc tmp w Q :=
  fun a ha => h a ha.cleared
end

theorem codeV_sem {P : Program} {ro : Option Nat} {n m : Nat} : ∀ (c : Code) (ds : List Nat) (loc : List Value) (tmp : List (Nat × Value)) (w : World) (N : Kont) (X : Nat → Kont) (R : Kont), codeV P ro n m c ds loc tmp w N X R → codeOK m c = true → SemV P ro n m c ds loc tmp w (mkQ N X R)
  | .skip, ds, loc, tmp, w, N, X, R, h, _ => fun a ha Qs hQs => wpIn_skip (hQs .normal _ _ _ _ _ ha h)
  | .region id ops draw, ds, loc, tmp, w, N, X, R, h, hok => by
    simp only [codeV] at h
    cases draw with
    | true => exact SemV.cleared h
    | false =>
      simp only [Bool.false_eq_true, if_false] at h
      simp only [codeOK, Bool.false_or] at hok
      intro a ha Qs hQs
      refine wpIn_region_list ?_
      have := opsV_list (ro := ro) (Q := Qs) ops.toList loc [] w a (h _) ha.clear ha.size ha.defers hok fun loc tmp w a h1 h2 h3 hk => hQs .normal _ _ _ _ _ ⟨⟨_, h1⟩, h2, h3⟩ hk
      simpa using this
  | .seq a b, ds, loc, tmp, w, N, X, R, h, hok => by
    simp only [codeOK, Bool.and_eq_true] at hok
    exact SemV.seq (codeV_sem a ds loc tmp w _ _ _ h hok.1) fun ds loc tmp w hk => codeV_sem b ds loc tmp w N X R hk hok.2
  | .cond c t e, ds, loc, tmp, w, N, X, R, h, hok => by
    simp only [codeOK, Bool.and_eq_true] at hok
    intro a ha Qs hQs
    obtain ⟨base, hb⟩ := ha.base
    obtain ⟨h1, h2, x, hx⟩ := h base
    have hc : a.eval c = .bool x := by rw [hb.ev]; exact hx
    cases x with
    | true => exact wpIn_cond hc (codeV_sem t ds loc tmp w N X R (h1 hx) hok.1 a ha Qs hQs)
    | false => exact wpIn_cond hc (codeV_sem e ds loc tmp w N X R (h2 hx) hok.2 a ha Qs hQs)
  | .block i c, ds, loc, tmp, w, N, X, R, h, hok => SemV.block (codeV_sem c ds loc tmp w _ _ _ h hok)
  | .loop c, ds, loc, tmp, w, N, X, R, h, _ => SemV.cleared h
  | .exit i, ds, loc, tmp, w, N, X, R, h, _ => fun a ha Qs hQs => wpIn_exit (hQs (.exit i) _ _ _ _ _ ha h)
  | .ret, ds, loc, tmp, w, N, X, R, h, _ => fun a ha Qs hQs => wpIn_ret (hQs .ret _ _ _ _ _ ha h)
  | .rangeFunc _ _ _ _, _, _, _, _, _, _, _, h, _ => h
  | .scope c, ds, loc, tmp, w, N, X, R, h, hok => SemV.scope (codeV_sem c ds loc tmp w N X R h hok)
  | .label _, _, _, _, _, _, _, _, h, _ => fun a ha Qs hQs => wpIn_label (hQs .normal _ _ _ _ _ ha h)
  | .goto _, _, _, _, _, _, _, _, h, _ => h
  | .refuse _, _, _, _, _, _, _, _, h, _ => h

section
variable {P : Program} {ro : Option Nat} {n m : Nat} {ds : List Nat} {loc : List Value} {w : World} {N R : Kont} {X : Nat → Kont}

/-- A LOOP: I holds at the head of each round; the measure goes down -/
theorem SemV.loopS {c : Code} (I : List Nat → List Value → World → Prop) (μ : List Value → World → Nat) (h0 : I ds loc w)
    (round : ∀ ds loc w, I ds loc w → SemV P ro n m c ds loc [] w (mkQ (fun ds' loc' _ w' => I ds' loc' w' ∧ μ loc' w' < μ loc w) X R)) : SemV P ro n m (.loop c) ds loc [] w (mkQ N X R) := by
  intro a ha Qs hQs
  refine wpIn_loop (fun a w => ∃ ds loc tmp, Fits' n m ds loc tmp a ∧ I ds loc w) (fun a w => μ (a.tmps.toList.take n) w) ⟨ds, loc, [], ha, h0⟩ ?_
  rintro a w ⟨ds, loc, tmp, ha, hI⟩
  have hloc : ∀ {ds : List Nat} {loc : List Value} {tmp : List (Nat × Value)} {a : Act}, Fits' n m ds loc tmp a → a.tmps.toList.take n = loc := by
    intro ds loc tmp a ha
    obtain ⟨_, h1, h2, h3, _⟩ := ha.base
    refine List.ext_getElem? fun i => ?_
    by_cases hi : i < n
    · have h3' := h3 i hi
      have e1 : loc[i]? = some (loc[i]'(by omega)) := by simp [h1, hi]
      have e2 : a.tmps[i]? = some (a.tmps[i]'(by omega)) := by simp
      simp only [Array.getD_eq_getD_getElem?, List.getD_eq_getElem?_getD, e1, e2, Option.getD_some] at h3'
      rw [List.getElem?_take_of_lt hi, e1, Array.getElem?_toList, e2, h3']
    · rw [List.getElem?_eq_none (by simp; omega), List.getElem?_eq_none (by omega)]
  have hr := round ds loc w hI a ha.cleared
  refine hr _ fun e ds' loc' tmp' w' a' ha' hq => ?_
  cases e with
  | normal => exact ⟨⟨ds', loc', tmp', ha', hq.1⟩, by show μ (a'.tmps.toList.take n) w' < μ (a.tmps.toList.take n) w; rw [hloc ha', hloc ha]; exact hq.2⟩
  | exit i => exact hQs (.exit i) _ _ _ _ _ ha' hq
  | ret => exact hQs .ret _ _ _ _ _ ha' hq
  | _ => exact hq.elim

/-- A LOOP in which no range over a function is begun -/
theorem SemV.loop {c : Code} (I : List Value → World → Prop) (μ : List Value → World → Nat) (hok : codeOK m c = true) (h0 : I loc w)
    (round : ∀ loc w, I loc w → codeV P ro n m c ds loc [] w (fun ds' loc' _ w' => ds' = ds ∧ I loc' w' ∧ μ loc' w' < μ loc w) X R) : SemV P ro n m (.loop c) ds loc [] w (mkQ N X R) := by
  refine SemV.loopS (fun ds' loc w => ds' = ds ∧ I loc w) μ ⟨rfl, h0⟩ ?_
  rintro _ loc w ⟨rfl, hI⟩
  refine (codeV_sem c _ loc [] w _ _ _ (round loc w hI) hok).mono fun e ds' loc' tmp' w' hq => ?_
  cases e with
  | normal => exact ⟨⟨hq.1, hq.2.1⟩, hq.2.2⟩
  | _ => exact hq

theorem SemV.loopD {c : Code} (I : List Nat → List Value → World → Prop) (μ : List Value → World → Nat) (hok : codeOK m c = true) (h0 : I ds loc w)
    (round : ∀ ds loc w, I ds loc w → codeV P ro n m c ds loc [] w (fun ds' loc' _ w' => I ds' loc' w' ∧ μ loc' w' < μ loc w) X R) : SemV P ro n m (.loop c) ds loc [] w (mkQ N X R) :=
  SemV.loopS I μ h0 fun ds loc w hI => codeV_sem c ds loc [] w _ _ _ (round ds loc w hI) hok

/-- A REGION THAT DRAWS ITS ORDER: by a plan; I holds at every world on the way -/
theorem SemV.draw {id : Nat} {ops : Array Oper} (I : World → Prop) (pl : List (Nat × Bool))
    (hm : P.follows .mixedOrders = true) (hok : (Region.noSelect ops && noDefer ops && ops.toList.all (dstIn m) && pl.length == ops.size && planOK ops (clOf ops pl) pl (Array.replicate ops.size false)) = true)
    (hI : ∀ w', Alike w' w → I w')
    (h : ∀ base w', Alike w' w → planV P n base ops.toList I ds pl loc [] w' N) : SemV P ro n m (.region id ops true) ds loc [] w (mkQ N X R) := by
  simp only [Bool.and_eq_true, beq_iff_eq] at hok
  obtain ⟨⟨⟨⟨h1, h0⟩, h2⟩, h3⟩, h4⟩ := hok
  intro a ha Qs hQs
  refine wpIn_mono (Q := fun e a w => ∃ ds loc tmp, Fits' n m ds loc tmp a ∧ mkQ N X R e ds loc tmp w) ?_ (fun e a w ⟨ds, loc, tmp, hf, hq⟩ => hQs _ _ _ _ _ _ hf hq)
  refine wpIn_region_any hm (AnyI.any (cl := clOf ops pl) (I := I) _ _ _ _ ?_)
  have := planV_any (P := P) (ro := ro) (I := I) (Q := fun e a w => ∃ ds loc tmp, Fits' n m ds loc tmp a ∧ mkQ N X R e ds loc tmp w) (l := ops.toList) (K := N) (by simpa using h1) (by simpa using h0) (fun c a a' w ⟨ds, loc, tmp, _, hq⟩ => hq.elim) h2 pl
    (Array.replicate ops.size false) loc [] { w with drawn := w.drawn + 1 } a (h _ _ ⟨rfl, rfl, rfl⟩) (by simpa using h4) (fun _ => hI _ ⟨rfl, rfl, rfl⟩) ha.clear ha.size ha.defers
    (fun loc tmp w a h1 h2 h3 hk => ⟨ds, loc, tmp, ⟨⟨_, h1⟩, h2, h3⟩, hk⟩)
  rw [h3] at this
  simpa using this
end

/-- the results of a function, read at its end, the marks behind it -/
def ResP (P : Program) (fn : Func) (n : Nat) (R : Value → World → Prop) : List Nat → List Value → World → Prop
  | [], loc, w => ∀ look : Nat → Value, (∀ t, t < n → look t = loc.getD t undef) → ∃ v, (∀ tmps : Array Value, (∀ t, tmps.getD t undef = look t) → (results fn tmps).run P w = .ok v w) ∧ R v w
  | d :: ds, loc, w => ∃ w', (Instr.takeDeferred d).run P w = .ok [] w' ∧ ResP P fn n R ds loc w'

def retQ (P : Program) (fn : Func) (n : Nat) (R : Value → World → Prop) : Kont := fun ds loc _ w => ResP P fn n R ds loc w

theorem ResP.leaves {P : Program} {fn : Func} {n : Nat} {R : Value → World → Prop} {tmps : Array Value} : ∀ (ds : List Nat) (loc : List Value) (w : World), ResP P fn n R ds loc w → (∀ t, t < n → tmps.getD t undef = loc.getD t undef) →
    LeavesInM Fence.wide 0 P fn tmps (fun e w' => ∃ v, e = .returned v ∧ R v w') (ds.map markOf) .returning w
  | [], loc, w, h, ht => by
    obtain ⟨v, hv, hR⟩ := h (fun t => tmps.getD t undef) ht
    exact ⟨v, hv tmps (fun _ => rfl), v, rfl, hR⟩
  | d :: ds, loc, w, h, ht => by
    obtain ⟨w', hk, hr⟩ := h
    exact ⟨by simp, .inl ⟨d, w', rfl, hk, ResP.leaves ds loc w' hr ht⟩⟩

theorem Ret.enter {P : Program} {f : FuncId} {fn : Func} {c : Code} {args : Array Value} {w : World} {R : Value → World → Prop} (n : Nat)
    (hf : P.funcs[f]? = some fn) (hb : fn.body = some c) (hn : (args.size ≤ n ∧ n ≤ fn.ntmps)) (hok : codeOK fn.ntmps c = true)
    (h : codeV P none n fn.ntmps c [] (args.toList ++ List.replicate (n - args.size) undef) [] w (retQ P fn n R) (fun _ _ _ _ _ => False) (retQ P fn n R)) : Ret P f args w R := by
  refine callsIn_wide (n := 0).1 (callsIn_of_wp_marks hf hb trivial ?_)
  have hs := codeV_sem c _ _ _ _ _ _ _ h hok { tmps := args ++ Array.replicate (fn.ntmps - args.size) undef, defers := [] }
  refine hs ⟨⟨fun _ => undef, by simp; omega, by simp; omega, fun t ht => ?_, fun t ht => ?_⟩, by simp; omega, rfl⟩ _ ?_
  · simp only [Array.getD_eq_getD_getElem?, List.getD_eq_getElem?_getD]
    by_cases h1 : t < args.size
    · rw [Array.getElem?_append_left h1, List.getElem?_append_left (by simpa using h1), Array.getElem?_toList]
    · rw [Array.getElem?_append_right (by omega), List.getElem?_append_right (by simp; omega)]
      simp only [Array.getElem?_replicate, List.getElem?_replicate, Array.length_toList]
      rw [if_pos (by omega), if_pos (by omega)]
  · simp only [Array.getD_eq_getD_getElem?, lk]
    rw [Array.getElem?_append_right (by omega), Array.getElem?_replicate]
    split <;> rfl
  · intro e ds loc tmp w a ha hq
    have key : ResP P fn n R ds loc w → LeavesInM Fence.wide 0 P fn a.tmps (fun e w' => ∃ v, e = .returned v ∧ R v w') a.defers .returning w := by
      intro hr
      obtain ⟨base, _, _, h3, _⟩ := ha.base
      rw [ha.defers]
      exact hr.leaves _ _ _ h3
    cases e with
    | normal => exact key hq
    | ret => exact key hq
    | _ => exact hq.elim

section
variable {P : Program} {fn : Func} {n : Nat} {ds : List Nat} {loc : List Value} {w : World} {R : Value → World → Prop}
theorem ResP.zero (h : fn.results = #[]) (hR : R (.tuple #[]) w) : ResP P fn n R [] loc w :=
  fun look _ => ⟨_, fun tmps _ => results_none h tmps P w, hR⟩
theorem ResP.one {t : Tmp} (h : fn.results = #[.tmp t]) (ht : t < n) (hR : R (loc.getD t undef) w) : ResP P fn n R [] loc w :=
  fun look hl => ⟨_, fun tmps ht' => by rw [results_tmp h tmps P w, ht' t, hl t ht], hR⟩
theorem ResP.two {t u : Tmp} (h : fn.results = #[.tmp t, .tmp u]) (ht : t < n ∧ u < n) (hR : R (.tuple #[loc.getD t undef, loc.getD u undef]) w) : ResP P fn n R [] loc w :=
  fun look hl => ⟨_, fun tmps ht' => by rw [results_tmp2 h tmps P w, ht' t, ht' u, hl t ht.1, hl u ht.2], hR⟩
theorem ResP.three {t u s : Tmp} (h : fn.results = #[.tmp t, .tmp u, .tmp s]) (ht : t < n ∧ u < n ∧ s < n) (hR : R (.tuple #[loc.getD t undef, loc.getD u undef, loc.getD s undef]) w) : ResP P fn n R [] loc w :=
  fun look hl => ⟨_, fun tmps ht' => by
    have e : (results fn tmps).run P w = .ok (.tuple #[tmps.getD t undef, tmps.getD u undef, tmps.getD s undef]) w := by simp [results, h]
    rw [e, ht' t, ht' u, ht' s, hl t ht.1, hl u ht.2.1, hl s ht.2.2], hR⟩
/-- results that lie in cells: read by their own run -/
theorem ResP.run {v : Value} (h : ∀ tmps : Array Value, (∀ t, t < n → tmps.getD t undef = loc.getD t undef) → (results fn tmps).run P w = .ok v w) (hR : R v w) : ResP P fn n R [] loc w :=
  fun look hl => ⟨v, fun tmps ht' => h tmps fun t ht => by rw [ht' t, hl t ht], hR⟩
end
end Go.E
