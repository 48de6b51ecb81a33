/-
  THE ENGINE, PART G: ranges over functions: the loop, by the iterator's contract. Over any program. No condition.
-/
import Derived.Test.YtloeiefijmbkiaaEngF
import Derived.RangeFuncOwn
set_option linter.unusedSimpArgs false
set_option linter.unusedVariables false
set_option linter.unusedSectionVars false
namespace Go.E

/-- whatever world holds O and L (and more) has vs at a -/
def Rdb (O : List Res) (L : List Fact) (a : Option Addr) (vs : List Value) : Prop := ∀ w L', (∀ φ ∈ L, φ ∈ L') → Ctx w O L' → Rd w a vs
section
variable {P : Program} {w : World} {O : List Res} {L L' : List Fact} {a : Option Addr} {vs : List Value}
theorem Rdb.rd (h : Rdb O L a vs) (hc : Ctx w O L) : Rd w a vs := h w L (fun _ hm => hm) hc
theorem Rdb.of_arr (h : arr a vs ∈ L) : Rdb O L a vs := fun _ _ hs hc => hc.rd (hs _ h)
theorem Rdb.more (h : Rdb O L a vs) (hs : ∀ φ ∈ L, φ ∈ L') : Rdb O L' a vs := fun w L'' hs' hc => h w L'' (fun φ hm => hs' φ (hs φ hm)) hc
theorem Rdb.cons (h : Rdb O L a vs) (r : Res) : Rdb (r :: O) L a vs := fun w L' hs hc => h w L' hs hc.drop
theorem Rdb.append (h : Rdb O L a vs) : ∀ (pre : List Res), Rdb (pre ++ O) L a vs
  | [] => h
  | r :: pre => (h.append pre).cons r
theorem Rdb.swap {r s : Res} (h : Rdb (r :: s :: O) L a vs) : Rdb (s :: r :: O) L a vs := fun w L' hs hc => h w L' hs hc.swap
theorem Rdb.buf {T : TypeId} {size n c : Nat} : Rdb (buf T size a n c vs :: O) L a vs := fun _ _ _ hc => hc.rd_buf
theorem Rdb.cel {b : Nat} {T : TypeId} : Rdb (cel b T vs :: O) L (some ⟨b, 0, none⟩) vs := fun _ _ _ hc => hc.rd_own
theorem Rdb.piece (h : Rdb O L a vs) (k n : Nat) : Rdb O L (sh a k) ((vs.drop k).take n) := fun w L' hs hc => ((h w L' hs hc).drop k).take n
theorem Rdb.take (h : Rdb O L a vs) (n : Nat) : Rdb O L a (vs.take n) := fun w L' hs hc => (h w L' hs hc).take n

theorem Ctx.dropN : ∀ (pre : List Res), Ctx w (pre ++ O) L → Ctx w O L
  | [], h => h
  | _ :: pre, h => Ctx.dropN pre h.drop
theorem Ctx.front {S : List Res} {r : Res} (h : Ctx w (S ++ r :: O) L) : Ctx w (r :: (S ++ O)) L := h.perm List.perm_middle
theorem Ctx.back {S : List Res} {r : Res} (h : Ctx w (r :: (S ++ O)) L) : Ctx w (S ++ r :: O) L := h.perm List.perm_middle.symm
end

section
variable {P : Program} {α ζ : Type}

/-- what a round of the loop does for the iterator: it goes on, or says no more -/
def Yields (P : Program) (l : Nat) (A : α → List Value → List Res → List Fact → Prop) (xs : List α) (S Sx : List α → ζ → List Res × List Fact) (O : List Res) (L : List Fact) : Prop :=
  ∀ (pre : List α) (x : α) (args : List Value) (z : ζ) (w : World) (Oi : List Res) (L' : List Fact), pre ++ [x] <+: xs → (∀ φ ∈ L, φ ∈ L') → Ctx w ((S pre z).1 ++ (Oi ++ O)) ((S pre z).2 ++ L') → A x args (Oi ++ O) L' →
    Yld P l args.toArray w fun v w' => (v = .bool true ∧ ∃ z', Ctx w' ((S (pre ++ [x]) z').1 ++ (Oi ++ O)) ((S (pre ++ [x]) z').2 ++ L')) ∨
      (v = .bool false ∧ ∃ z', Ctx w' ((Sx (pre ++ [x]) z').1 ++ (Oi ++ O)) ((Sx (pre ++ [x]) z').2 ++ L'))

/-- an iterator's contract: xs come, in this order, or a part of them till a round says no more -/
def IterOK (P : Program) (g : FuncId) (caps : List Value) (A : α → List Value → List Res → List Fact → Prop) (xs : List α) (Oi O : List Res) (L : List Fact) : Prop :=
  ∀ (l : Nat) (ζ : Type) (S Sx : List α → ζ → List Res × List Fact) (z : ζ) (w : World), Yields P l A xs S Sx O L → Ctx w ((S [] z).1 ++ (Oi ++ O)) ((S [] z).2 ++ L) →
    Ret P g (.func (.yield l) #[] #[] :: caps).toArray w fun _ w' => (∃ z', Ctx w' ((S xs z').1 ++ O) ((S xs z').2 ++ L)) ∨
      ∃ pre z', pre <+: xs ∧ Ctx w' ((Sx pre z').1 ++ O) ((Sx pre z').2 ++ L)

theorem entered_run {g : FuncId} (he : entered P g = true) (args : Array Value) (w : World) : (callFunc g args).run P w = .ok (.enter g args) w := by
  unfold entered at he
  cases hf : P.funcs[g]? with
  | none => rw [hf] at he; cases he
  | some fn =>
    rw [hf] at he
    simp only [Bool.and_eq_true, bne_iff_ne, ne_eq] at he
    obtain ⟨h1, h2⟩ := he
    have h3 : ¬ fn.body = none := by intro hb; rw [hb] at h2; cases h2
    simp [callFunc, hf, h1, h3]

theorem putObj_own {w : World} {O : List Res} {L : List Fact} {b : Nat} {o : Obj} (o' : Obj) (h : Ctx w (own b o :: O) L) : Ctx (w.putObj b o') (own b o' :: O) L := by
  have hg := h.own_get
  exact h.own_set o' _ (World.putObj_heap_same (Array.getElem?_eq_some_iff.1 hg).1) (fun k hk => World.putObj_heap_other hk) ⟨rfl, rfl⟩

/-- slots that are set one behind the other -/
def putsK (n : Nat) : List (Tmp × Value) → List Value → List (Nat × Value) → List Value × List (Nat × Value)
  | [], loc, tmp => (loc, tmp)
  | (t, v) :: r, loc, tmp => if t < n then putsK n r (loc.set t v) tmp else putsK n r loc ((t, v) :: tmp)

theorem Agree.puts {n : Nat} {base : Nat → Value} : ∀ (l : List (Tmp × Value)) {loc : List Value} {tmp : List (Nat × Value)} {t : Array Value}, Agree n base loc tmp ⟨t, []⟩ → (∀ p ∈ l, p.1 < t.size) →
    Agree n base (putsK n l loc tmp).1 (putsK n l loc tmp).2 ⟨l.foldl (fun t (p, v) => t.setIfInBounds p v) t, []⟩
  | [], _, _, _, h, _ => h
  | (p, v) :: r, loc, tmp, t, h, hl => by
    obtain ⟨loc', tmp', h', e⟩ := h.put (d := some p) (by intro t' e; cases e; exact hl (p, v) (by simp)) v (K := fun loc' tmp' => putsK n ((p, v) :: r) loc tmp = putsK n r loc' tmp') (by simp only [putK, putsK]; split <;> rfl)
    rw [e]
    exact Agree.puts r h' (fun q hq => by simp only [Act.put]; rw [Array.size_setIfInBounds]; exact hl q (by simp [hq]))

theorem size_puts : ∀ (l : List (Tmp × Value)) (t : Array Value), (l.foldl (fun t (p, v) => t.setIfInBounds p v) t).size = t.size
  | [], _ => rfl
  | (p, v) :: r, t => by simp only [List.foldl_cons]; rw [size_puts r]; exact Array.size_setIfInBounds

/-- **A RANGE OVER A FUNCTION**, outside every round -/
theorem SemV.range {n m : Nat} {fo : Operand} {ps : Array Tmp} {assign body : Code} {ds : List Nat} {loc : List Value} {tmp : List (Nat × Value)} {w : World} {N R : Kont} {X : Nat → Kont}
    {g : FuncId} {caps : List Value} {O Oi : List Res} {L : List Fact} {A : α → List Value → List Res → List Fact → Prop} {xs : List α} (U : List α → ζ → List Res × List Fact) (Ux : Code → List α → ζ → List Res × List Fact) (z0 : ζ)
    (hfo : ∀ base, ev n base loc tmp fo = .func (.func g) #[] caps.toArray) (hg : entered P g = true) (hok : (codeOK m assign && codeOK m body && ps.toList.all (· < m)) = true)
    (hA : ∀ x args r O L, A x args O L → A x args (r :: O) L) (hlen : ∀ x args O L, A x args O L → args.length = ps.size)
    (hit : IterOK P g caps A xs Oi O L) (h0 : Ctx w ((U [] z0).1 ++ (Oi ++ O)) ((U [] z0).2 ++ L))
    (hround : ∀ (l : Nat) (pre : List α) (x : α) (args : List Value) (z : ζ) (w : World) (Oy : List Res) (L' : List Fact), pre ++ [x] <+: xs → (∀ φ ∈ L, φ ∈ L') → Ctx w ((U pre z).1 ++ (Oy ++ O)) ((U pre z).2 ++ L') → A x args (Oy ++ O) L' →
      codeV P (some l) n m assign [] (putsK n (ps.toList.zip args) loc tmp).1 (putsK n (ps.toList.zip args) loc tmp).2 w (fun ds1 loc1 tmp1 w1 => ∃ U1 L1, Ctx w1 (U1 ++ (Oy ++ O)) (L1 ++ L') ∧
        ∀ (w2 : World) (O2 : List Res), Ctx w2 (U1 ++ (O2 ++ O)) (L1 ++ L') → A x args (O2 ++ O) L' → codeV P (some l) n m body ds1 loc1 tmp1 w2
          (fun ds2 _ _ w3 => ds2 = [] ∧ ∃ z', Ctx w3 ((U (pre ++ [x]) z').1 ++ (O2 ++ O)) ((U (pre ++ [x]) z').2 ++ L'))
          (fun i ds2 _ _ w3 => ds2 = [] ∧ ∃ z', Ctx w3 ((Ux (.exit i) (pre ++ [x]) z').1 ++ (O2 ++ O)) ((Ux (.exit i) (pre ++ [x]) z').2 ++ L'))
          (fun ds2 _ _ w3 => ds2 = [] ∧ ∃ z', Ctx w3 ((Ux .ret (pre ++ [x]) z').1 ++ (O2 ++ O)) ((Ux .ret (pre ++ [x]) z').2 ++ L'))) (fun _ _ _ _ _ => False) (fun _ _ _ _ => False))
    (hdone : ∀ (D : Nat) (z' : ζ) (w' : World), Ctx w' ((U xs z').1 ++ (own D (.deferred (some [])) :: O)) ((U xs z').2 ++ L) → N (D :: ds) loc tmp w')
    (hstop : ∀ (D : Nat) (c : Code) (pre : List α) (z' : ζ) (w' : World), pre <+: xs → (c = .ret ∨ ∃ i, c = .exit i) → Ctx w' ((Ux c pre z').1 ++ (own D (.deferred (some [])) :: O)) ((Ux c pre z').2 ++ L) → SemV P none n m c (D :: ds) loc tmp w' (mkQ N X R)) :
    SemV P none n m (.rangeFunc fo ps assign body) ds loc tmp w (mkQ N X R) := by
  simp only [Bool.and_eq_true] at hok
  obtain ⟨⟨hok1, hok2⟩, hps⟩ := hok
  intro a ha Qs hQs
  refine wpIn_rangeFunc fun fn hfn => ?_
  obtain ⟨base, hbase⟩ := ha.base
  have hev : a.eval fo = .func (.func g) #[] caps.toArray := by rw [hbase.ev]; exact hfo base
  obtain ⟨rec, hrec⟩ : ∃ rec : LoopState → Option Code → Loop, rec = fun st pe => { state := st, pending := pe, fn, tmps := a.tmps, params := ps, assign, body, defers := w.heap.size } := ⟨_, rfl⟩
  let l := w.heap.size + 1
  have hc1 := (h0.alloc (.deferred (some []))).alloc (.loop (rec .ready none))
  have hsz : (w.alloc (.deferred (some []))).heap.size = w.heap.size + 1 := by simp
  rw [hsz] at hc1
  refine ⟨l, [markOf w.heap.size], (w.alloc (.deferred (some []))).alloc (.loop (rec .ready none)), { target := .fn (.func g) caps.toArray, args := #[.func (.yield l) #[] #[]] }, (w.alloc (.deferred (some []))).alloc (.loop (rec .ready none)), g,
    (.func (.yield l) #[] #[] :: caps).toArray, (w.alloc (.deferred (some []))).alloc (.loop (rec .ready none)), ?_, ?_, fun f' _ => fz_fn f', ?_, fz_depth, ?_⟩
  · rw [hrec]; exact run_enterLoop_outer _ _ _ _ _
  · simp only [resolve, hev, rangeCall]
    simp [Deferred.ofValue, Act.eval]
  · simp only [invoke]
    have := entered_run hg ((.func (.yield l) #[] #[] :: caps).toArray) ((w.alloc (.deferred (some []))).alloc (.loop (rec .ready none)))
    simpa using this
  · -- the iterator
    let S : List α → (ζ × Code) → List Res × List Fact := fun pre z => ((U pre z.1).1 ++ [own l (.loop (rec .ready none)), own w.heap.size (.deferred (some []))], (U pre z.1).2)
    let Sx : List α → (ζ × Code) → List Res × List Fact := fun pre z => ((Ux z.2 pre z.1).1 ++ [own l (.loop (rec .done (some z.2))), own w.heap.size (.deferred (some []))] , (Ux z.2 pre z.1).2 ++ [truth (z.2 = .ret ∨ ∃ i, z.2 = .exit i)])
    have hy : Yields P l A xs S Sx O L := by
      intro pre x args z w1 Oi' L' hpx hL hc hax
      have hc' : Ctx w1 (own l (.loop (rec .ready none)) :: ((U pre z.1).1 ++ (own w.heap.size (.deferred (some [])) :: (Oi' ++ O)))) ((U pre z.1).2 ++ L') := by
        have := hc
        simp only [S, List.append_assoc, List.cons_append, List.nil_append] at this
        exact this.front
      have hl := hc'.own_get
      have hargs : args.toArray.size = (rec .ready none).params.size := by rw [hrec]; simpa using hlen _ _ _ _ hax
      have hyr := run_yield (P := P) (args := args.toArray) hl hargs
      refine ⟨_, _, _, _, hyr, ?_⟩
      rw [hrec]
      refine RoundIn.mono (F := Fence.wide) (R := fun e w' => ∃ v, e = .returned v ∧ ((v = .bool true ∧ ∃ z', Ctx w' ((S (pre ++ [x]) z').1 ++ (Oi' ++ O)) ((S (pre ++ [x]) z').2 ++ L')) ∨
        (v = .bool false ∧ ∃ z', Ctx w' ((Sx (pre ++ [x]) z').1 ++ (Oi' ++ O)) ((Sx (pre ++ [x]) z').2 ++ L')))) ?_ (fun e w' h => h)
      refine roundIn_of_wpIn (F := Fence.wide) trivial ?_
      -- the assignment
      have hstart : Fits' n m [] (putsK n (ps.toList.zip args) loc tmp).1 (putsK n (ps.toList.zip args) loc tmp).2
          { tmps := ((ps.zip args.toArray).foldl (fun tmps (t, a) => tmps.setIfInBounds t a) a.tmps), defers := [] } := by
        have e : (ps.zip args.toArray).foldl (fun tmps (t, a) => tmps.setIfInBounds t a) a.tmps = (ps.toList.zip args).foldl (fun t (p, v) => t.setIfInBounds p v) a.tmps := by
          rw [← Array.foldl_toList]; simp
        rw [e]
        have hb : Agree n base loc tmp ⟨a.tmps, []⟩ := hbase
        refine ⟨⟨base, Agree.puts _ hb fun p hp => ?_⟩, (size_puts _ _).trans ha.size, rfl⟩
        have := List.all_eq_true.1 hps p.1 (List.of_mem_zip hp).1
        rw [ha.size]
        simpa using this
      have hcA : Ctx w1 ((U pre z.1).1 ++ (([own l (.loop (rec .ready none)), own w.heap.size (.deferred (some []))] ++ Oi') ++ O)) ((U pre z.1).2 ++ L') := by
        simpa [S, List.append_assoc] using hc
      have hmono : ∀ (pre : List Res), A x args (pre ++ (Oi' ++ O)) L' := by
        intro pre
        induction pre with
        | nil => exact hax
        | cons r pre ih => exact hA _ _ _ _ _ ih
      have hcv := hround l pre x args z.1 w1 ([own l (.loop (rec .ready none)), own w.heap.size (.deferred (some []))] ++ Oi') L' hpx hL hcA (by rw [List.append_assoc]; exact hmono _)
      have hsem := codeV_sem assign _ _ _ _ _ _ _ hcv hok1 _ hstart
      refine hsem _ ?_
      intro e ds1 loc1 tmp1 w1' a1 ha1 hq
      cases e with
      | normal =>
        obtain ⟨U1, L1, hcU, hbody⟩ := hq
        have hcU' : Ctx w1' (own l (.loop (rec .ready none)) :: (U1 ++ (own w.heap.size (.deferred (some [])) :: (Oi' ++ O)))) (L1 ++ L') := by
          simp only [List.append_assoc, List.cons_append, List.nil_append] at hcU
          exact hcU.front
        have hl1 := hcU'.own_get
        have hbr := run_beginRound (P := P) hl1 (by rw [hrec])
        refine ⟨_, hbr, ?_⟩
        have hcB := (putObj_own (.loop { (rec .ready none) with state := .busy }) hcU').back
        have hcB' : Ctx (w1'.putObj l (.loop { (rec .ready none) with state := .busy })) (U1 ++ (([own l (.loop { (rec .ready none) with state := .busy }), own w.heap.size (.deferred (some []))] ++ Oi') ++ O)) (L1 ++ L') := by
          simpa [List.append_assoc] using hcB
        have hcv2 := hbody _ _ hcB' (by rw [List.append_assoc]; exact hmono _)
        have hsem2 := codeV_sem body _ _ _ _ _ _ _ hcv2 hok2 _ ha1
        refine hsem2 _ ?_
        intro e2 ds2 loc2 tmp2 w3 a3 ha3 hq2
        have fin : ∀ (jump : Option Code) (V : List Res × List Fact), Ctx w3 (V.1 ++ (([own l (.loop { (rec .ready none) with state := .busy }), own w.heap.size (.deferred (some []))] ++ Oi') ++ O)) (V.2 ++ L') →
            ∃ w4, (Instr.endRound l jump).run P w3 = .ok (.bool jump.isNone) w4 ∧ Ctx w4 ((V.1 ++ [own l (.loop (rec (if jump.isNone then .ready else .done) jump)), own w.heap.size (.deferred (some []))]) ++ (Oi' ++ O)) (V.2 ++ L') := by
          intro jump V hV
          have hV' : Ctx w3 (own l (.loop { (rec .ready none) with state := .busy }) :: (V.1 ++ (own w.heap.size (.deferred (some [])) :: (Oi' ++ O)))) (V.2 ++ L') := by
            simp only [List.append_assoc, List.cons_append, List.nil_append] at hV
            exact hV.front
          have hr := run_endRound (P := P) jump hV'.own_get
          refine ⟨_, hr, ?_⟩
          have := (putObj_own (.loop (rec (if jump.isNone then .ready else .done) jump)) hV').back
          rw [hrec] at this ⊢
          simpa [List.append_assoc] using this
        cases e2 with
        | normal =>
          obtain ⟨_, z', hz⟩ := hq2
          obtain ⟨w4, hr, hc4⟩ := fin none (U (pre ++ [x]) z') hz
          exact ⟨_, w4, hr, _, rfl, .inl ⟨rfl, (z', .ret), hc4⟩⟩
        | exit i =>
          obtain ⟨_, z', hz⟩ := hq2
          obtain ⟨w4, hr, hc4⟩ := fin (some (.exit i)) (Ux (.exit i) (pre ++ [x]) z') hz
          refine ⟨_, w4, hr, _, rfl, .inr ⟨rfl, (z', .exit i), ?_⟩⟩
          refine (hc4.add (φ := truth ((Code.exit i) = .ret ∨ ∃ j, (Code.exit i) = .exit j)) fun _ _ _ => .inr ⟨i, rfl⟩).weak fun φ hφ => ?_
          simp only [Sx, List.mem_append, List.mem_cons, List.not_mem_nil, or_false] at hφ ⊢
          rcases hφ with (hφ | hφ) | hφ
          · exact .inr (.inl hφ)
          · exact .inl hφ
          · exact .inr (.inr hφ)
        | ret =>
          obtain ⟨_, z', hz⟩ := hq2
          obtain ⟨w4, hr, hc4⟩ := fin (some .ret) (Ux .ret (pre ++ [x]) z') hz
          refine ⟨_, w4, hr, _, rfl, .inr ⟨rfl, (z', .ret), ?_⟩⟩
          refine (hc4.add (φ := truth (Code.ret = .ret ∨ ∃ j, Code.ret = .exit j)) fun _ _ _ => .inl rfl).weak fun φ hφ => ?_
          simp only [Sx, List.mem_append, List.mem_cons, List.not_mem_nil, or_false] at hφ ⊢
          rcases hφ with (hφ | hφ) | hφ
          · exact .inr (.inl hφ)
          · exact .inl hφ
          · exact .inr (.inr hφ)
        | _ => exact hq2.elim
      | _ => exact hq.elim
    have hstart : Ctx ((w.alloc (.deferred (some []))).alloc (.loop (rec .ready none))) ((S [] (z0, .ret)).1 ++ (Oi ++ O)) ((S [] (z0, .ret)).2 ++ L) := by
      have := (Ctx.perm (List.Perm.swap _ _ _) hc1)
      have h2 : Ctx ((w.alloc (.deferred (some []))).alloc (.loop (rec .ready none))) ((U [] z0).1 ++ (own l (.loop (rec .ready none)) :: own w.heap.size (.deferred (some [])) :: (Oi ++ O))) ((U [] z0).2 ++ L) := by
        refine hc1.perm ?_
        refine List.Perm.trans ?_ List.perm_middle.symm
        exact (List.perm_middle (l₁ := (U [] z0).1) (l₂ := Oi ++ O) (a := own w.heap.size (.deferred (some [])))).symm.cons _
      simpa [S, List.append_assoc] using h2
    have hret := hit l (ζ × Code) S Sx (z0, .ret) _ hy hstart
    have hcall := callsIn_wide (n := 0 - 1).2 hret
    refine CallsIn.mono (F := fz none) hcall fun e w3 hres => ?_
    obtain ⟨v, rfl, hres⟩ := hres
    have hfits : ∀ {V : List Res × List Fact}, Fits' n m (w.heap.size :: ds) loc tmp { a with defers := [markOf w.heap.size] ++ a.defers } := fun {_} =>
      ⟨⟨base, hbase⟩, ha.size, by simp [ha.defers]⟩
    rcases hres with ⟨z', hc3⟩ | ⟨pre, z', hpre, hc3⟩
    · have hc3' : Ctx w3 (own l (.loop (rec .ready none)) :: ((U xs z'.1).1 ++ (own w.heap.size (.deferred (some [])) :: O))) ((U xs z'.1).2 ++ L) := by
        have := hc3
        simp only [S, List.append_assoc, List.cons_append, List.nil_append] at this
        exact this.front
      have hp : (rec .ready none).pending = none := by rw [hrec]
      obtain ⟨w4, hend, hc4⟩ : ∃ w4, (Instr.endLoop l).run P w3 = .ok none w4 ∧ Ctx w4 ((U xs z'.1).1 ++ (own w.heap.size (.deferred (some [])) :: O)) ((U xs z'.1).2 ++ L) :=
        ⟨_, (run_endLoop (P := P) hc3'.own_get (by rw [hrec]; simp)).trans (congrArg (Result.ok · _) hp), (putObj_own (.loop { (rec .ready none) with state := .exhausted }) hc3').drop⟩
      refine ⟨_, _, hend, ?_⟩
      have hk := hdone w.heap.size z'.1 _ hc4
      exact hQs .normal _ _ _ _ _ (hfits (V := U xs z'.1)) hk
    · have hc3' : Ctx w3 (own l (.loop (rec .done (some z'.2))) :: ((Ux z'.2 pre z'.1).1 ++ (own w.heap.size (.deferred (some [])) :: O))) ((Ux z'.2 pre z'.1).2 ++ (truth (z'.2 = .ret ∨ ∃ i, z'.2 = .exit i) :: L)) := by
        have := hc3
        simp only [Sx, List.append_assoc, List.cons_append, List.nil_append] at this
        exact this.front
      have hp : (rec .done (some z'.2)).pending = some z'.2 := by rw [hrec]
      obtain ⟨w4, hend, hc4⟩ : ∃ w4, (Instr.endLoop l).run P w3 = .ok (some z'.2) w4 ∧ Ctx w4 ((Ux z'.2 pre z'.1).1 ++ (own w.heap.size (.deferred (some [])) :: O)) ((Ux z'.2 pre z'.1).2 ++ (truth (z'.2 = .ret ∨ ∃ i, z'.2 = .exit i) :: L)) :=
        ⟨_, (run_endLoop (P := P) hc3'.own_get (by rw [hrec]; simp)).trans (congrArg (Result.ok · _) hp), (putObj_own (.loop { (rec .done (some z'.2)) with state := .exhausted }) hc3').drop⟩
      refine ⟨_, _, hend, ?_⟩
      obtain ⟨_, _, htr⟩ := hc4.fact (φ := truth (z'.2 = .ret ∨ ∃ i, z'.2 = .exit i)) (by simp)
      have hk := hstop w.heap.size z'.2 pre z'.1 _ hpre htr (hc4.weak fun φ hφ => by
        simp only [List.mem_append, List.mem_cons] at hφ ⊢
        rcases hφ with hφ | hφ
        · exact .inl hφ
        · exact .inr (.inr hφ))
      exact hk _ (hfits (V := Ux z'.2 pre z'.1)) Qs hQs
end
end Go.E
