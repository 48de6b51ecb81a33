/-
  Part 3 of the proof: no statement of its own. No condition but those in each theorem.
-/
import Derived.Test.YtfpjalgfnjjcmaaGreatDoorQh2
set_option linter.unusedSimpArgs false
set_option linter.unusedVariables false
set_option linter.unusedSectionVars false
set_option maxRecDepth 8000
set_option maxHeartbeats 4000000
namespace Go.E
def putsA (n : Nat) : List (Tmp × AV) -> List AV -> List (Nat × AV) -> List AV × List (Nat × AV)
 | [], loc, tmp => (loc, tmp)
 | (t, v) :: r, loc, tmp => if t < n then putsA n r (loc.set t v) tmp else putsA n r loc ((t, v) :: tmp)
def recA (n : Nat) (L : List (Nat × AV)) : List AV := mkA (fun _ => .any) L 0 n
def slot1 (es : Eff) (a : AV) : AV := match still es with
 | true => a
 | false => a.wo (moved es)
theorem slots_map (es : Eff) : (∀ l, slots es l = l.map (slot1 es)) /\ (∀ l, slotsT es l = l.map fun p => (p.1, slot1 es p.2)) := by
 refine ⟨fun l => ?_, fun l => ?_⟩
 . cases h : still es
   . have : slot1 es = AV.wo (moved es) := by funext a; simp [slot1, h]
     simp [slots, this, h]
   . have : slot1 es = id := by funext a; simp [slot1, h]
     simp [slots, this, h]
 . cases h : still es
   . have : slot1 es = AV.wo (moved es) := by funext a; simp [slot1, h]
     simp [slotsT, this, h]
   . have : slot1 es = id := by funext a; simp [slot1, h]
     simp [slotsT, this, h]
theorem slot1_eq (es : Eff) : (∀ v, slot1 es (.p v) = .p v) /\ slot1 es .any = .any /\ (∀ cs o, slot1 es (.vp cs o) = .vp cs o) /\ (∀ cs k, slot1 es (.vs cs k) = .vs cs k) /\ (∀ i, moved es i = false -> slot1 es (.yl i) = .yl i) /\ (∀ i o, moved es i = false -> slot1 es (.ptr i o) = .ptr i o) := by
 refine ⟨fun v => ?_, ?_, fun cs o => ?_, fun cs k => ?_, fun i h => ?_, fun i o h => ?_⟩ <;> unfold slot1 <;> split <;> first | rfl | (rw [AV.wo]; done) | (rw [AV.wo, h]; rfl)
theorem subE_rec (k : Nat) (es E : Eff) : subE (recE k es E) es = subE E es := by
 refine propext ⟨fun h x hx => h x (recE_mem.2 (.inr hx)), fun h x hx => ?_⟩
 rcases recE_mem.1 hx with h1 | h1
 . exact h1.1
 . exact h x h1
section
variable {P : Program} {G : Nat -> AV} {Z Z' Z0 : Heap} {ρ ρ' ρ0 : List BI} {T T' T0 : Tbl} {w w' w0 : World} {a b : AV} {u v : Value} {K : AV -> Tbl -> Eff -> Prop} {cs : List AV} {es E : Eff}
variable {N n m : Nat} {ro : Option Nat} {ds loc : List AV} {tmp : List (Nat × AV)} {Nk R : AKont} {X : Nat -> AKont}
theorem putsA_rel {lv : List Value} {tv : List (Nat × Value)} : ∀ (l : List Tmp) {cs : List AV} {vs : List Value} {loc : List AV} {tmp : List (Nat × AV)} {lv : List Value} {tv : List (Nat × Value)}, RelL Z ρ cs vs -> RelL Z ρ loc lv -> RelT Z ρ tmp tv ->
 RelL Z ρ (putsA n (l.zip cs) loc tmp).1 (putsK n (l.zip vs) lv tv).1 /\ RelT Z ρ (putsA n (l.zip cs) loc tmp).2 (putsK n (l.zip vs) lv tv).2
 | [], _, _, _, _, _, _, _, h2, h3 => ⟨h2, h3⟩
 | t :: l, [], vs, _, _, _, _, h1, h2, h3 => by
   cases vs with
   | nil => exact ⟨h2, h3⟩
   | cons v vs => have := h1.1; simp at this
 | t :: l, a :: cs, vs, _, _, _, _, h1, h2, h3 => by
   obtain ⟨v, us, rfl, g1, g2⟩ := h1.uncons
   simp only [List.zip_cons_cons, putsA, putsK]
   split
   . exact putsA_rel (lv := lv) (tv := tv) l g2 (h2.set g1 t) h3
   . exact putsA_rel (lv := lv) (tv := tv) l g2 h2 (.cons g1 h3)
theorem look_or (k : Nat) : ∀ (l : List (Nat × AV)), (∀ d, look k d l = d) ∨ ∃ a, ∀ d, look k d l = a
 | [] => .inl fun _ => rfl
 | (j, a) :: r => by
   by_cases h : k = j
   . exact .inr ⟨a, fun d => by simp [look, h]⟩
   . rcases look_or k r with h1 | ⟨a, h1⟩
     . exact .inl fun d => by simp [look, h, h1]
     . exact .inr ⟨a, fun d => by simp [look, h, h1]⟩
theorem recA_rel {L : List (Nat × AV)} {lv : List Value} (h : Lc n L loc) (hr : RelL Z ρ loc lv) : RelL Z ρ (recA n L) lv := by
 refine ⟨by rw [recA, mkA_len, <- hr.1, h.len], fun k x y hx hy => ?_⟩
 have hk : k < n := by
  have := (List.getElem?_eq_some_iff.1 hx).1
  rwa [recA, mkA_len] at this
 rw [recA, mkA_get _ _ _ _ _ hk, Nat.zero_add] at hx
 have h2 := h.get k hk
 rcases look_or k L with h1 | ⟨a, h1⟩
 . rw [h1] at hx; cases hx; exact .any _
 . rw [h1] at hx h2; cases hx; exact hr.2 k _ y h2 hy
theorem YldI.mono {i : Nat} {args : List AV} {K' : AV -> Tbl -> Eff -> Prop} (h : YldI P G i args T K) (hk : ∀ v T E, K v T E -> K' v T E) : YldI P G i args T K' :=
 fun Z ρ w vs x b h1 h2 h3 h4 h5 => (h Z ρ w vs x b h1 h2 h3 h4 h5).mono fun v w' ⟨Z', ρ', T', es, a, g1, g2, g3, g4⟩ => ⟨Z', ρ', T', es, a, g1, g2, g3, hk _ _ _ g4⟩
def Iter {α : Type} (C : (List α -> Tbl -> Prop) -> Prop) (P : Program) (G : Nat -> AV) (g : FuncId) (cs : List AV) (A : α -> List AV) (xs : List α) (i : Nat) : Prop :=
 ∀ (J Jx : List α -> Tbl -> Prop) (Ei : Eff) (T : Tbl), C J -> moved Ei i = false -> J [] T ->
  (∀ pre x T, pre ++ [x] <+: xs -> J pre T -> YldI P G i (A x) T fun v T' E' => E' = Ei /\ ((v = .p (.bool true) /\ J (pre ++ [x]) T') ∨ (v = .p (.bool false) /\ Jx (pre ++ [x]) T'))) ->
  CallA P G g (.yl i :: cs) T fun _ T' E' => (∀ x ∈ E', x ∈ Ei) /\ (J xs T' ∨ ∃ pre, pre <+: xs /\ Jx pre T')
theorem Frm.setRec {N0 : Nat} {U new : Tbl} {o1 o2 : Obj} {cs : List AV} {vs : List Value} {b : Nat} {x : BI} (h : Frm G Z0 ρ0 T0 w0 Z ρ (U ++ (.raw o1 :: .rcd o2 cs vs :: new)) w E) (hU : U.length = N0) (hx : ρ[N0 + 1]? = some x) (hb : x.blk = some b) (o3 : Obj) :
 w.heap[b]? = some o2 /\ Frm G Z0 ρ0 T0 w0 Z ρ (U ++ (.raw o1 :: .rcd o3 cs vs :: new)) (w.putObj b o3) ((N0 + 1, false) :: E) := by
 subst hU
 have hT : (U ++ (.raw o1 :: .rcd o2 cs vs :: new))[U.length + 1]? = some (.rcd o2 cs vs) := by
  rw [List.getElem?_append_right (by omega), show U.length + 1 - U.length = 1 by omega]; rfl
 obtain ⟨b', g1, g2, g3⟩ := h.st.obj _ _ _ hT hx
 rw [hb] at g1; cases g1
 have hb' : b < w.heap.size := (Array.getElem?_eq_some_iff.1 g2).1
 obtain ⟨k1, k2⟩ := h.st.write (w' := w.putObj b o3) hT hx rfl (.rcd o3 cs vs) rfl (fun k hk => World.putObj_heap_other fun e => hk (by rw [e]; exact hb)) ⟨rfl, rfl⟩ ⟨b, hb, World.putObj_heap_same hb', g3⟩
 have e : (U ++ (.raw o1 :: .rcd o2 cs vs :: new)).set (U.length + 1) (.rcd o3 cs vs) = U ++ (.raw o1 :: .rcd o3 cs vs :: new) := by
  rw [List.set_append, if_neg (by omega), show U.length + 1 - U.length = 1 by omega]; rfl
 rw [e] at k1 k2
 have hf' := h.step k1 k2
 exact ⟨g2, hf'.g, hf'.st, hf'.ext.more fun x hx _ => by
  rcases recE_mem.1 hx with ⟨h1, _⟩ | h1
  . simp at h1; simp [h1]
  . simp [h1]⟩
theorem SemA.range {α ζ : Type} {fo : Operand} {ps : Array Tmp} {assign body : Code} {g : FuncId} {A : α -> List AV} {xs : List α}
 (N0 : Nat) (Ls : List (Nat × AV)) (Ei : Eff) (U : List α -> ζ -> Tbl) (I : List α -> ζ -> Prop) (Ux : Code -> List α -> ζ -> Tbl) (Ix : Code -> List α -> ζ -> Prop) (z0 : ζ)
 (hfo : evA G n loc tmp fo = .fn g cs) (hg : entered P g = true) (hok : (codeOK m assign && codeOK m body && ps.toList.all (· < m)) = true)
 (hA : ∀ x, (A x).length = ps.size) (hL : Lc n Ls loc) (hT : T = U [] z0) (hI : I [] z0) (hN : N <= N0) (hU : ∀ pre z, I pre z -> (U pre z).length = N0) (hUx : ∀ c pre z, Ix c pre z -> (Ux c pre z).length = N0)
 (hEi : moved Ei N0 = false /\ moved Ei (N0 + 1) = false /\ (N0 + 1, false) ∈ Ei) (C : (List α -> Tbl -> Prop) -> Prop) (hit : Iter C P G g cs A xs (N0 + 1)) (hC : ∀ o2 lv, C fun pre T' => ∃ z, I pre z /\ T' = U pre z ++ (.raw (.deferred (some [])) :: .rcd o2 (recA n Ls) lv :: []))
 (round : ∀ (l : Nat) (o1 o2 : Obj) (lv : List Value) pre x z, pre ++ [x] <+: xs -> I pre z ->
  codeA P G (N0 + 2) (some l) n m assign [] (putsA n (ps.toList.zip (A x)) (recA n Ls) []).1 (putsA n (ps.toList.zip (A x)) (recA n Ls) []).2 (U pre z ++ [.raw o1, .rcd o2 (recA n Ls) lv]) []
   (fun ds1 loc1 tmp1 T1 E1 => ∃ new, T1 = U pre z ++ (.raw o1 :: .rcd o2 (recA n Ls) lv :: new) /\ E1 = [] /\ ∀ o3, codeA P G (N0 + 2) (some l) n m body ds1 loc1 tmp1 (U pre z ++ (.raw o1 :: .rcd o3 (recA n Ls) lv :: new)) [(N0 + 1, false)]
    (fun _ _ _ T2 E2 => (∃ z', I (pre ++ [x]) z' /\ (T2.take (N0 + 2)).map (AObj.wo (N0 + 2 <= ·)) = U (pre ++ [x]) z' ++ [.raw o1, .rcd o3 (recA n Ls) lv]) /\ ∀ e ∈ E2, e ∈ Ei)
    (fun i _ _ _ T2 E2 => (∃ z', Ix (.exit i) (pre ++ [x]) z' /\ (T2.take (N0 + 2)).map (AObj.wo (N0 + 2 <= ·)) = Ux (.exit i) (pre ++ [x]) z' ++ [.raw o1, .rcd o3 (recA n Ls) lv]) /\ ∀ e ∈ E2, e ∈ Ei)
    (fun _ _ _ T2 E2 => (∃ z', Ix .ret (pre ++ [x]) z' /\ (T2.take (N0 + 2)).map (AObj.wo (N0 + 2 <= ·)) = Ux .ret (pre ++ [x]) z' ++ [.raw o1, .rcd o3 (recA n Ls) lv]) /\ ∀ e ∈ E2, e ∈ Ei))
   (fun _ _ _ _ _ _ => False) (fun _ _ _ _ _ => False))
 (done : ∀ z' o lv, I xs z' -> Nk (.ptr N0 0 :: slots Ei ds) (slots Ei loc) (slotsT Ei tmp) (U xs z' ++ [.raw (.deferred (some [])), .rcd o (recA n Ls) lv]) (recE N Ei E))
 (stopX : ∀ i pre z' o lv, pre <+: xs -> Ix (.exit i) pre z' -> X i (.ptr N0 0 :: slots Ei ds) (slots Ei loc) (slotsT Ei tmp) (Ux (.exit i) pre z' ++ [.raw (.deferred (some [])), .rcd o (recA n Ls) lv]) (recE N Ei E))
 (stopR : ∀ pre z' o lv, pre <+: xs -> Ix .ret pre z' -> R (.ptr N0 0 :: slots Ei ds) (slots Ei loc) (slotsT Ei tmp) (Ux .ret pre z' ++ [.raw (.deferred (some [])), .rcd o (recA n Ls) lv]) (recE N Ei E)) :
 SemA P G N none n m (.rangeFunc fo ps assign body) ds loc tmp T E Nk X R := by
 simp only [Bool.and_eq_true] at hok
 obtain ⟨⟨hok1, hok2⟩, hps⟩ := hok
 obtain ⟨hE0, hE1, hE2⟩ := hEi
 have hNE0 : (N0, true) ∉ Ei := fun h => by rw [moved_spec.2 h] at hE0; cases hE0
 have hNE1 : (N0 + 1, true) ∉ Ei := fun h => by rw [moved_spec.2 h] at hE1; cases hE1
 intro Z0 ρ0 T0 w0 Z ρ w dv lv tv hN0 hf ha a haa Qs hQs
 refine wpIn_rangeFunc fun fn hfn => ?_
 obtain ⟨base, hbase⟩ := haa.base
 have hTl : T.length = N0 := by rw [hT]; exact hU _ _ hI
 have hρl : ρ.length = N0 := hf.st.len.trans hTl
 have hrf := evA_rel (n := n) (base := base) hf.g ha.loc ha.tmp fo
 rw [hfo] at hrf
 obtain ⟨caps, hev, hcaps⟩ := hrf.fn_inv
 have hev : a.eval fo = .func (.func g) #[] caps.toArray := by rw [hbase.ev]; exact hev
 obtain ⟨rec, hrec⟩ : ∃ rec : LoopState -> Option Code -> Loop, rec = fun st pe => { state := st, pending := pe, fn, tmps := a.tmps, params := ps, assign, body, defers := w.heap.size } := ⟨_, rfl⟩
 let l := w.heap.size + 1
 have hrl : RelL Z ρ (recA n Ls) lv := recA_rel hL ha.loc
 obtain ⟨s1, e1⟩ := hf.st.push (w' := w.alloc (.deferred (some []))) ⟨some w.heap.size, 0, false⟩ (.raw (.deferred (some []))) (alloc_of hf.st _) (alloc_old _) ⟨_, rfl, by rw [heap_alloc, if_pos rfl]⟩ (fun b hb => by cases hb; exact Nat.le_refl _)
 obtain ⟨s2, e2⟩ := s1.push (w' := (w.alloc (.deferred (some []))).alloc (.loop (rec .ready none))) ⟨some l, 0, false⟩ (.rcd (.loop (rec .ready none)) (recA n Ls) lv) (alloc_of s1 _) (alloc_old _)
  ⟨_, rfl, by rw [heap_alloc, if_pos (by simp [l])], (hrl.mono (Heap.le_refl _) (snoc_mono _ _)).mono (Heap.le_refl _) (snoc_mono _ _)⟩ (fun b hb => by cases hb; simp [l])
 have hx1 : (ρ ++ [⟨some w.heap.size, 0, false⟩] ++ [⟨some l, 0, false⟩])[N0]? = some ⟨some w.heap.size, 0, false⟩ := by
  rw [List.append_assoc, List.getElem?_append_right (by omega), hρl, Nat.sub_self]; rfl
 have hx2 : (ρ ++ [⟨some w.heap.size, 0, false⟩] ++ [⟨some l, 0, false⟩])[N0 + 1]? = some ⟨some l, 0, false⟩ := by
  rw [List.append_assoc, List.getElem?_append_right (by omega), hρl, show N0 + 1 - N0 = 1 by omega]; rfl
 have hmono : ∀ (i : Nat) (x : BI), ρ[i]? = some x -> (ρ ++ [⟨some w.heap.size, 0, false⟩] ++ [⟨some l, 0, false⟩])[i]? = some x := fun i x h => snoc_mono _ _ _ _ (snoc_mono _ _ _ _ h)
 have hf2 := (hf.step s1 e1).step s2 e2
 simp only [recE] at hf2
 have ha2 : At Z (ρ ++ [⟨some w.heap.size, 0, false⟩] ++ [⟨some l, 0, false⟩]) ds loc tmp dv lv tv := ⟨ha.ds.mono (Heap.le_refl _) hmono, ha.loc.mono (Heap.le_refl _) hmono, ha.tmp.mono fun a v h => h.mono (Heap.le_refl _) hmono⟩
 refine ⟨l, [markOf w.heap.size], (w.alloc (.deferred (some []))).alloc (.loop (rec .ready none)), { target := .fn (.func g) caps.toArray, args := #[.func (.yield l) #[] #[]] }, (w.alloc (.deferred (some []))).alloc (.loop (rec .ready none)), g,
  (.func (.yield l) #[] #[] :: caps).toArray, (w.alloc (.deferred (some []))).alloc (.loop (rec .ready none)), ?_, ?_, fun f' _ => fz_fn f', ?_, fz_depth, ?_⟩
 . rw [hrec]; exact run_enterLoop_outer _ _ _ _ _
 . simp only [resolve, hev, rangeCall]
   simp [Deferred.ofValue, Act.eval]
 . simp only [invoke]
   have := entered_run hg ((.func (.yield l) #[] #[] :: caps).toArray) ((w.alloc (.deferred (some []))).alloc (.loop (rec .ready none)))
   simpa using this
 . let o1 : Obj := .deferred (some [])
   let J : List α -> Tbl -> Prop := fun pre T' => ∃ z, I pre z /\ T' = U pre z ++ (.raw o1 :: .rcd (.loop (rec .ready none)) (recA n Ls) lv :: [])
   let Jx : List α -> Tbl -> Prop := fun pre T' => ∃ c z, (c = .ret ∨ ∃ i, c = .exit i) /\ Ix c pre z /\ T' = Ux c pre z ++ (.raw o1 :: .rcd (.loop (rec .done (some c))) (recA n Ls) lv :: [])
   have hJ0 : J [] (T ++ [.raw (.deferred (some []))] ++ [.rcd (.loop (rec .ready none)) (recA n Ls) lv]) := ⟨z0, hI, by rw [hT, List.append_assoc]; rfl⟩
   have hy : ∀ pre x T, pre ++ [x] <+: xs -> J pre T -> YldI P G (N0 + 1) (A x) T fun v T' E' => E' = Ei /\ ((v = .p (.bool true) /\ J (pre ++ [x]) T') ∨ (v = .p (.bool false) /\ Jx (pre ++ [x]) T')) := by
    rintro pre x T' hpx ⟨z, hz, rfl⟩ Zr ρr wr vs xb b hGr hsr hvs hxr hbr
    have hlz := hU _ _ hz
    have hfr : Frm G Zr ρr (U pre z ++ (.raw o1 :: .rcd (.loop (rec .ready none)) (recA n Ls) lv :: [])) wr Zr ρr (U pre z ++ (.raw o1 :: .rcd (.loop (rec .ready none)) (recA n Ls) lv :: [])) wr [] := ⟨hGr, hsr, Ext.refl rfl⟩
    have hl := (hfr.setRec hlz hxr hbr (.loop (rec .ready none))).1
    have hrl : RelL Zr ρr (recA n Ls) lv := by
     obtain ⟨_, _, _, h3⟩ := hsr.obj (N0 + 1) _ _ (by rw [List.getElem?_append_right (by omega), hlz, show N0 + 1 - N0 = 1 by omega]; rfl) hxr
     exact h3
    have hρr : ρr.length = N0 + 2 := by rw [hsr.len]; simp [hlz]
    have hargs : vs.toArray.size = (rec .ready none).params.size := by rw [hrec]; simp [<- hvs.1, hA]
    have hyr := run_yield (P := P) (args := vs.toArray) hl hargs
    refine ⟨_, _, _, _, hyr, ?_⟩
    rw [show (rec .ready none).fn = fn by rw [hrec], show (rec .ready none).params = ps by rw [hrec], show (rec .ready none).tmps = a.tmps by rw [hrec], show (rec .ready none).assign = assign by rw [hrec], show (rec .ready none).body = body by rw [hrec]]
    refine RoundIn.mono (F := Fence.wide) (R := fun e w' => ∃ v, e = .returned v /\ Post Zr ρr (U pre z ++ (.raw o1 :: .rcd (.loop (rec .ready none)) (recA n Ls) lv :: [])) wr (fun v T' E' => E' = Ei /\ ((v = .p (.bool true) /\ J (pre ++ [x]) T') ∨ (v = .p (.bool false) /\ Jx (pre ++ [x]) T'))) v w') ?_ (fun e w' h => h)
    refine roundIn_of_wpIn (F := Fence.wide) trivial ?_
    have hstart : Fits' n m [] (putsK n (ps.toList.zip vs) lv []).1 (putsK n (ps.toList.zip vs) lv []).2
     { tmps := ((ps.zip vs.toArray).foldl (fun tmps (t, a) => tmps.setIfInBounds t a) a.tmps), defers := [] } := by
     have e : (ps.zip vs.toArray).foldl (fun tmps (t, a) => tmps.setIfInBounds t a) a.tmps = (ps.toList.zip vs).foldl (fun t (p, v) => t.setIfInBounds p v) a.tmps := by
      rw [<- Array.foldl_toList]; simp
     rw [e]
     have hb : Agree n (fun t => a.tmps.getD t undef) lv [] ⟨a.tmps, []⟩ := haa.clear
     refine ⟨⟨_, Agree.puts _ hb fun p hp => ?_⟩, (size_puts _ _).trans haa.size, rfl⟩
     have := List.all_eq_true.1 hps p.1 (List.of_mem_zip hp).1
     rw [haa.size]
     simpa using this
    have hput := putsA_rel (lv := []) (tv := []) (n := n) ps.toList hvs hrl (RelT.nil (Z := Zr) (ρ := ρr))
    have hcA := round b o1 (.loop (rec .ready none)) lv pre x z hpx hz
    have hsem := codeA_sound assign _ _ _ _ _ _ _ _ hcA hok1 _ _ _ _ _ _ _ [] _ _ hρr hfr ⟨.nil, hput.1, hput.2⟩
    refine hsem _ hstart _ ?_
    intro e ds1 loc1 tmp1 w1 a1 ha1 hq
    cases e with
    | normal =>
      obtain ⟨Z1, ρ1, T1, E1, ds1A, loc1A, tmp1A, hf1, r1, r2, r3, new, rfl, rfl, hbody⟩ := hq
      have hx1 : ρ1[N0 + 1]? = some xb := hf1.ext.place _ _ hxr (by simp)
      obtain ⟨hl1, hf1'⟩ := hf1.setRec hlz hx1 hbr (.loop { (rec .ready none) with state := .busy })
      have hbr1 := run_beginRound (P := P) hl1 (by rw [hrec])
      refine ⟨_, hbr1, ?_⟩
      have hsem2 := codeA_sound body _ _ _ _ _ _ _ _ (hbody (.loop { (rec .ready none) with state := .busy })) hok2 _ _ _ _ _ _ _ _ _ _ hρr hf1' ⟨r1, r2, r3⟩
      refine hsem2 _ ha1 _ ?_
      intro e2 ds2 loc2 tmp2 w3 a3 ha3 hq2
      have fin : ∀ (jump : Option Code) (U' : Tbl) (Z2 : Heap) (ρ2 : List BI) (T2 : Tbl) (E2 : Eff), U'.length = N0 -> Frm G Zr ρr (U pre z ++ (.raw o1 :: .rcd (.loop (rec .ready none)) (recA n Ls) lv :: [])) wr Z2 ρ2 T2 w3 E2 ->
       (T2.take (N0 + 2)).map (AObj.wo (N0 + 2 <= ·)) = U' ++ [.raw o1, .rcd (.loop { (rec .ready none) with state := .busy }) (recA n Ls) lv] -> (∀ e ∈ E2, e ∈ Ei) ->
       ∃ w4 ρ3, (Instr.endRound b jump).run P w3 = .ok (.bool jump.isNone) w4 /\ Frm G Zr ρr (U pre z ++ (.raw o1 :: .rcd (.loop (rec .ready none)) (recA n Ls) lv :: [])) wr Z2 ρ3 (U' ++ [.raw o1, .rcd (.loop (rec (if jump.isNone then .ready else .done) jump)) (recA n Ls) lv]) w4 Ei := by
       intro jump U' Z2 ρ2 T2 E2 hU' hf2 he hsub
       have hc := hf2.cut (N0 + 2) (by omega)
       rw [he] at hc
       have hx2 : (ρ2.take (N0 + 2))[N0 + 1]? = some xb := by
        rw [List.getElem?_take_of_lt (by omega)]; exact hf2.ext.place _ _ hxr fun h => hNE1 (hsub _ h)
       obtain ⟨hl2, hf3⟩ := hc.setRec hU' hx2 hbr (.loop (rec (if jump.isNone then .ready else .done) jump))
       refine ⟨_, _, (run_endRound (P := P) jump hl2).trans ?_, hf3.more fun e he => ?_⟩
       . rw [hrec]
       . rcases List.mem_cons.1 he with rfl | he
         . exact hE2
         . exact hsub _ he
      cases e2 with
      | normal =>
        obtain ⟨Z2, ρ2, T2, E2, _, _, _, hf2, _, _, _, ⟨z', hz', he⟩, hsub⟩ := hq2
        obtain ⟨w4, ρ3, hr, hf3⟩ := fin none _ _ _ _ _ (hU _ _ hz') hf2 he hsub
        exact ⟨_, w4, hr, _, rfl, Z2, ρ3, _, Ei, .p (.bool true), hf3.st, hf3.ext, .p _, rfl, .inl ⟨rfl, z', hz', rfl⟩⟩
      | exit i =>
        obtain ⟨Z2, ρ2, T2, E2, _, _, _, hf2, _, _, _, ⟨z', hz', he⟩, hsub⟩ := hq2
        obtain ⟨w4, ρ3, hr, hf3⟩ := fin (some (.exit i)) _ _ _ _ _ (hUx _ _ _ hz') hf2 he hsub
        exact ⟨_, w4, hr, _, rfl, Z2, ρ3, _, Ei, .p (.bool false), hf3.st, hf3.ext, .p _, rfl, .inr ⟨rfl, _, z', .inr ⟨i, rfl⟩, hz', rfl⟩⟩
      | ret =>
        obtain ⟨Z2, ρ2, T2, E2, _, _, _, hf2, _, _, _, ⟨z', hz', he⟩, hsub⟩ := hq2
        obtain ⟨w4, ρ3, hr, hf3⟩ := fin (some .ret) _ _ _ _ _ (hUx _ _ _ hz') hf2 he hsub
        exact ⟨_, w4, hr, _, rfl, Z2, ρ3, _, Ei, .p (.bool false), hf3.st, hf3.ext, .p _, rfl, .inr ⟨rfl, _, z', .inl rfl, hz', rfl⟩⟩
      | _ => exact hq2.elim
    | exit i => obtain ⟨_, _, _, _, _, _, _, _, _, _, _, hq⟩ := hq; exact hq.elim
    | ret => obtain ⟨_, _, _, _, _, _, _, _, _, _, _, hq⟩ := hq; exact hq.elim
    | _ => exact hq.elim
   have hcall0 := hit J Jx Ei _ (hC _ _) hE1 hJ0 hy _ _ _ (.func (.yield l) #[] #[] :: caps) hf2.g hf2.st (.cons (.yl hx2 rfl) (hcaps.mono (Heap.le_refl _) hmono))
   have hcall := callsIn_wide (n := 0 - 1).2 hcall0
   refine CallsIn.mono (F := fz none) hcall fun e w3 hres => ?_
   obtain ⟨v, rfl, Z3, ρ3, T3, es3, _, s3, e3, _, hsub, hres⟩ := hres
   have e3' := e3.more (e2 := Ei) fun x hx _ => hsub x hx
   have hf3 := hf2.step s3 e3'
   have ha3 := ha2.step e3'
   have hx3 : ρ3[N0 + 1]? = some ⟨some l, 0, false⟩ := e3'.place _ _ hx2 hNE1
   have hx3' : ρ3[N0]? = some ⟨some w.heap.size, 0, false⟩ := e3'.place _ _ hx1 hNE0
   have hfits : Fits' n m (w.heap.size :: dv) lv tv { a with defers := [markOf w.heap.size] ++ a.defers } := ⟨⟨base, hbase⟩, haa.size, by simp [haa.defers]⟩
   have hds : RelL Z3 ρ3 (.ptr N0 0 :: slots Ei ds) ((w.heap.size :: dv).map fun b => .pointer (some ⟨b, 0, none⟩)) := .cons (.ptr hx3' rfl) ha3.ds
   have hEE : ∀ e ∈ (N0 + 1, false) :: recE ρ0.length Ei E, e.1 < ρ0.length -> e ∈ recE N Ei E := by
    intro e he hl
    rcases List.mem_cons.1 he with rfl | he
    . simp only at hl; omega
    . rw [<- hN0]; exact he
   rcases hres with ⟨z', hz', rfl⟩ | ⟨pre, hpre, c, z', hcx, hz', rfl⟩
   . obtain ⟨hl3, hf4⟩ := hf3.setRec (hU _ _ hz') hx3 rfl (.loop { (rec .ready none) with state := .exhausted })
     refine ⟨_, _, (run_endLoop (P := P) hl3 (by rw [hrec]; simp)).trans (congrArg (Result.ok · _) (show (rec .ready none).pending = none by rw [hrec])), ?_⟩
     exact hQs .normal _ _ _ _ _ hfits ⟨Z3, ρ3, _, _, _, _, _, ⟨hf4.g, hf4.st, hf4.ext.more hEE⟩, hds, ha3.loc, ha3.tmp, done z' _ lv hz'⟩
   . obtain ⟨hl3, hf4⟩ := hf3.setRec (hUx _ _ _ hz') hx3 rfl (.loop { (rec .done (some c)) with state := .exhausted })
     refine ⟨_, _, (run_endLoop (P := P) hl3 (by rw [hrec]; simp)).trans (congrArg (Result.ok · _) (show (rec .done (some c)).pending = some c by rw [hrec])), ?_⟩
     rcases hcx with rfl | ⟨i, rfl⟩
     . exact wpIn_ret (hQs .ret _ _ _ _ _ hfits ⟨Z3, ρ3, _, _, _, _, _, ⟨hf4.g, hf4.st, hf4.ext.more hEE⟩, hds, ha3.loc, ha3.tmp, stopR pre z' _ lv hpre hz'⟩)
     . exact wpIn_exit (hQs (.exit i) _ _ _ _ _ hfits ⟨Z3, ρ3, _, _, _, _, _, ⟨hf4.g, hf4.st, hf4.ext.more hEE⟩, hds, ha3.loc, ha3.tmp, stopX i pre z' _ lv hpre hz'⟩)
theorem SemA.adoptC {c : Code} {i k : Nat} {Ec : TypeId} (El : TypeId) (sz : Nat) (h0 : 0 < sz) (hi : N <= i) (hT : T[i]? = some (.cells Ec cs)) (hk : cs[k]? = some (.p (.slice none 0 0)))
 (h : SemA P G N ro n m c ds loc tmp (T.set i (.cells Ec (cs.set k (.sl T.length 0 0))) ++ [.buf El sz []]) E Nk X R) : SemA P G N ro n m c ds loc tmp T E Nk X R := by
 refine SemA.view ?_ h
 intro Z0 ρ0 T0 w0 Z ρ w dv lv tv hN hf ha
 obtain ⟨k1, k2⟩ := hf.st.push (w' := w) ⟨none, 0, true⟩ (.buf El sz []) hf.st.of (fun _ _ => rfl) ⟨⟨rfl, h0⟩, 0, by simp, Nat.le_refl _, .inl ⟨rfl, rfl, rfl⟩⟩ (fun b hb => by cases hb)
 have h1 := hf.step k1 k2
 have h2 := ha.step k2
 have hiT := (List.getElem?_eq_some_iff.1 hT).1
 have hT' : (T ++ [.buf El sz []])[i]? = some (.cells Ec cs) := by rw [List.getElem?_append_left hiT]; exact hT
 obtain ⟨x, hx⟩ : ∃ x, (ρ ++ [⟨none, 0, true⟩])[i]? = some x := ⟨_, List.getElem?_eq_getElem (by have := hf.st.len; simp; omega)⟩
 obtain ⟨h3, b, vs, g1, g2, g3⟩ := k1.obj _ _ _ hT' hx
 obtain ⟨v, hv, hr⟩ := g3.get hk
 have := hr.p_inv; subst this
 have h4 := g3.set (a := .sl T.length 0 0) (v := .slice none 0 0) (.sl (x := ⟨none, 0, true⟩) (by rw [<- hf.st.len]; simp) (fun _ => rfl) (Nat.le_refl _) (fun _ _ => rfl)) k
 have e : vs.set k (.slice none 0 0) = vs := by
  refine List.ext_getElem? fun j => ?_
  rw [List.getElem?_set]
  by_cases hj : k = j
  . subst hj
    obtain ⟨hl, he⟩ := List.getElem?_eq_some_iff.1 hv
    rw [if_pos rfl, if_pos hl, hv]
  . rw [if_neg hj]
 rw [e] at h4
 obtain ⟨k3, k4⟩ := k1.write (w' := w) hT' hx rfl (.cells Ec (cs.set k (.sl T.length 0 0))) rfl (fun _ _ => rfl) ⟨rfl, rfl⟩ ⟨h3, b, vs, g1, g2, h4⟩
 have e2 : (T ++ [AObj.buf El sz []]).set i (.cells Ec (cs.set k (.sl T.length 0 0))) = T.set i (.cells Ec (cs.set k (.sl T.length 0 0))) ++ [.buf El sz []] := List.set_append_left _ _ hiT
 rw [e2] at k3 k4
 have h5 := h1.step k3 k4
 refine ⟨_, _, ⟨h5.g, h5.st, h5.ext.more fun y hy hl => ?_⟩, h2.step k4⟩
 rcases recE_mem.1 hy with ⟨q1, q2⟩ | q1
 . simp only [List.mem_singleton] at q1
   subst q1
   simp only at q2; omega
 . exact q1
end
end Go.E
namespace Go.E
open Go.ChangeShapes Go.WideShapes Go.ChangeAt Go.RowKit
inductive Dat where
 | b (x : Bool)
 | i (k : IntKind) (n : Int)
 | s (x : ByteArray)
 | sl (l : List Dat)
 | ag (l : List Dat)
instance : Inhabited Dat := ⟨.ag []⟩
mutual
def Dat.avs : Dat -> List AV
 | .b x => [.p (.bool x)]
 | .i k n => [.p (.int k n)]
 | .s x => [.p (.string x)]
 | .sl l => [.vs (Dat.avsL l) l.length]
 | .ag l => Dat.avsL l
def Dat.avsL : List Dat -> List AV
 | [] => []
 | d :: r => Dat.avs d ++ Dat.avsL r
end
theorem Dat.avsL_eq : ∀ l : List Dat, Dat.avsL l = l.flatMap Dat.avs
 | [] => by rw [Dat.avsL]; rfl
 | d :: r => by rw [Dat.avsL, Dat.avsL_eq r]; rfl
mutual
def toD {H : Type} : DataW H -> Dat
 | .lit (.bool b) => .b b
 | .lit (.int k n) => .i k n
 | .lit (.string l) => .s ⟨l.toArray⟩
 | .nil => .sl []
 | .slice elems _ => .sl (toDs elems)
 | .agg parts => .ag (toDs parts)
 | _ => .ag []
def toDs {H : Type} : List (DataW H) -> List Dat
 | [] => []
 | d :: r => toD d :: toDs r
end
theorem toDs_eq {H : Type} : ∀ l : List (DataW H), toDs l = l.map toD
 | [] => by rw [toDs]; rfl
 | d :: r => by rw [toDs, toDs_eq r]; rfl
def Dat.arg : Dat -> AV
 | .ag l => .ag (l.flatMap Dat.avs)
 | d => d.avs.headD .any
inductive HasT (P : Program) : TypeId -> Dat -> Prop
 | b {t : TypeId} (h : P.underlying t = some .bool) (x : Bool) : HasT P t (.b x)
 | i {t : TypeId} {k : IntKind} (h : P.underlying t = some (.int k)) (n : Int) (hw : (Lit.int k n).wf = true) : HasT P t (.i k n)
 | s {t : TypeId} (h : P.underlying t = some .string) (x : ByteArray) (hs : x.size <= reachBytes) : HasT P t (.s x)
 | sl {t e : TypeId} (h : P.underlying t = some (.slice e)) (l : List Dat) (hl : l.length * P.bytesOf e <= reachBytes) (ha : ∀ d ∈ l, HasT P e d) : HasT P t (.sl l)
 | ar {t e : TypeId} {n : Nat} (h : P.underlying t = some (.array n e)) (l : List Dat) (hl : l.length = n) (ha : ∀ d ∈ l, HasT P e d) : HasT P t (.ag l)
 | st {t : TypeId} {fs : Array Field} (h : P.underlying t = some (.struct fs)) (l : List Dat) (hl : l.length = fs.size) (ha : ∀ (k : Nat) (f : Field) (d : Dat), fs[k]? = some f -> l[k]? = some d -> HasT P f.type d) : HasT P t (.ag l)
inductive HasTs (P : Program) : List TypeId -> List Dat -> Prop
 | nil : HasTs P [] []
 | cons {t : TypeId} {ts : List TypeId} {d : Dat} {ds : List Dat} (h : HasT P t d) (hs : HasTs P ts ds) : HasTs P (t :: ts) (d :: ds)
def tilesF (P : Program) : Nat -> List Field -> Option Nat
 | off, [] => some off
 | off, f :: r => if f.offset = off then tilesF P (off + P.cellsOf f.type) r else none
def argT (P : Program) (t : TypeId) : Bool := match P.underlying t with
 | some .bool => P.cellsOf t == 1
 | some (.int _) => P.cellsOf t == 1
 | some .string => P.cellsOf t == 1
 | some (.slice e) => P.cellsOf t == 1 && decide (0 < P.cellsOf e)
 | some (.array n e) => P.cellsOf t == n * P.cellsOf e
 | some (.struct fs) => tilesF P 0 fs.toList == some (P.cellsOf t)
 | _ => false
def kidsT (P : Program) (t : TypeId) : List TypeId := match P.underlying t with
 | some (.slice e) => [e]
 | some (.array _ e) => [e]
 | some (.struct fs) => fs.toList.map (·.type)
 | _ => []
def closedT (P : Program) (ts : List TypeId) : Bool := ts.all fun t => argT P t && (kidsT P t).all fun k => ts.contains k
def wholeH (W : World) : Heap := ⟨fun b => W.heap[b]?, W.os, W.output⟩
theorem wholeH_of (W : World) : (wholeH W).of W := ⟨fun _ _ h => h, rfl, rfl⟩
theorem wholeH_whole (W : World) : (whole W).holds (wholeH W) := ⟨fun _ _ h => h, rfl, rfl⟩
theorem rel_row {Z : Heap} {ρ : List BI} {cs : List AV} {vs : List Value} {a : Option Addr} {n m : Nat} (h : RelL Z [] cs vs) (hn : n <= m) (ha : (arr a vs).holds Z) : Rel Z ρ (.vs cs n) (.slice a n m) := by
 rcases ha with rfl | ⟨p, c, T, fr, rfl, h1, h2, h3⟩
 . exact .vs0 (.inl (List.eq_nil_of_length_eq_zero h.1)) hn
 . obtain ⟨b, o, s⟩ := p
   simp only at h1 h2 h3
   subst h1
   refine .vs (f := fun k => vs.getD k undef) hn h2 (fun k hk => ?_) fun k hk => ?_
   . have hk' : k < vs.length := by rw [<- h.1]; exact hk
     exact h3 k _ (by simp [List.getD, hk'])
   . have hk' : k < vs.length := by rw [<- h.1]; exact hk
     exact h.2 k _ _ (by simp [hk]) (by simp [List.getD, hk'])
theorem rel_vp0 {Z : Heap} {ρ : List BI} {cs : List AV} {vs : List Value} {b : Nat} (h : RelL Z [] cs vs) (hne : vs ≠ []) (ha : (arr (some ⟨b, 0, none⟩) vs).holds Z) : Rel Z ρ (.vp cs 0) (.pointer (some ⟨b, 0, none⟩)) := by
 rcases ha with rfl | ⟨p, c, T, fr, hp, h1, h2, h3⟩
 . exact absurd rfl hne
 . cases hp
   refine .vp (o := 0) (off := 0) (f := fun k => vs.getD k undef) h2 (fun k hk => ?_) fun k hk => ?_
   . have hk' : k < vs.length := by rw [<- h.1]; exact hk
     exact h3 k _ (by simp [List.getD, hk'])
   . have hk' : k < vs.length := by rw [<- h.1]; exact hk
     exact h.2 k _ _ (by simp [hk]) (by simp [List.getD, hk'])
section
variable {H : Type} {enc : TypeId × Value -> H} {P : Program} {W : World} {base : Nat} {sp : Nat -> Bool} {held : Bool}
theorem weightsAll_each {e : TypeId} {l : List (DataW H)} {B : Nat} (h : ∀ n ∈ DataW.weightsAll P e l, n <= B) {d : DataW H} (hd : d ∈ l) : ∀ n ∈ d.weights P e, n <= B := fun n hn => h n (weightsAll_mem hd n hn)
theorem weightsEach_at : ∀ {ts : List TypeId} {l : List (DataW H)} {k : Nat} {t : TypeId} {d : DataW H}, ts[k]? = some t -> l[k]? = some d -> ∀ n ∈ d.weights P t, n ∈ DataW.weightsEach P ts l
 | [], _, _, _, _, h, _ => by simp at h
 | _ :: _, [], _, _, _, _, h => by simp at h
 | t :: ts, d :: l, 0, _, _, h, h' => by
   simp at h h'; subst h; subst h'
   intro n hn; simp [DataW.weightsEach, hn]
 | t :: ts, d :: l, k + 1, _, _, h, h' => by
   intro n hn
   simp only [DataW.weightsEach, List.mem_append]
   exact .inr (weightsEach_at (by simpa using h) (by simpa using h') n hn)
theorem RelL.flat {Z : Heap} {ρ : List BI} : ∀ {l : List Dat} {vss : List (List Value)}, l.length = vss.length -> (∀ (k : Nat) (d : Dat) (vs : List Value), l[k]? = some d -> vss[k]? = some vs -> RelL Z ρ d.avs vs) -> RelL Z ρ (l.flatMap Dat.avs) vss.flatten
 | [], [], _, _ => by simpa using RelL.nil
 | d :: l, vs :: vss, hl, h => by
   rw [List.flatMap_cons, List.flatten_cons]
   exact (h 0 d vs rfl rfl).append (RelL.flat (by simpa using hl) fun k d' vs' h1 h2 => h (k + 1) d' vs' (by simpa using h1) (by simpa using h2))
theorem trod_dat {ts : List TypeId} (hc : closedT P ts = true) : ∀ (fuel : Nat) (t : TypeId) (cs : List Value) (x : DataW H × List MemPlace), t ∈ ts -> DataW.trod enc P W base sp held fuel t cs = some x -> (∀ n ∈ x.1.weights P t, n <= reachBytes) ->
 ∃ d : Dat, HasT P t d /\ RelL (wholeH W) [] d.avs cs /\ cs.length = P.cellsOf t /\ d = toD x.1 := by
 intro fuel
 induction fuel with
 | zero => intro t cs x _ h; simp [DataW.trod] at h
 | succ fuel ih =>
   intro t cs x ht h hz
   have hct := List.all_eq_true.1 hc t ht
   rw [Bool.and_eq_true] at hct
   obtain ⟨hA, hK⟩ := hct
   have hKid : ∀ k ∈ kidsT P t, k ∈ ts := fun k hk => by simpa using List.all_eq_true.1 hK k hk
   unfold argT at hA
   unfold kidsT at hKid
   cases hu : P.underlying t with
   | none => simp [hu] at hA
   | some D =>
     rw [hu] at hA hKid
     cases D with
     | bool =>
       obtain ⟨b, rfl, rfl⟩ := DataW.trod_bool hu h
       exact ⟨.b b, .b hu b, by rw [Dat.avs]; exact .cons (.p _) .nil, by simp at hA; simp [hA], by rw [toD]⟩
     | int k =>
       obtain ⟨n, rfl, rfl, hw⟩ := DataW.trod_int hu h
       exact ⟨.i k n, .i hu n hw, by rw [Dat.avs]; exact .cons (.p _) .nil, by simp at hA; simp [hA], by rw [toD]⟩
     | string =>
       obtain ⟨s, rfl, rfl, hs⟩ := DataW.trod_string hu h
       refine ⟨.s s, .s hu s ?_, by rw [Dat.avs]; exact .cons (.p _) .nil, by simp at hA; simp [hA], by rw [toD]⟩
       have := hz s.data.toList.length (by simp [DataW.weights])
       simpa using this
     | slice e =>
       simp only [Bool.and_eq_true, beq_iff_eq, decide_eq_true_eq] at hA
       have hks := hKid e (by simp)
       rcases DataW.trod_slice hu h with ⟨rfl, rfl⟩ | ⟨a, len, cap, elems, rest, n, hn, rfl, rfl, hb, hlc, hcm, hlen, hel, hsp, hns⟩
       . exact ⟨.sl [], .sl hu [] (by simp) (by simp), by rw [Dat.avs, Dat.avsL]; exact .cons (.vs0 (.inl rfl) (Nat.le_refl _)) .nil, by simp [hA.1], by rw [toD]⟩
       . cases hn
         have hw : (elems.length + rest.length) * P.bytesOf e <= reachBytes /\ ∀ d ∈ elems.map (·.1), ∀ n ∈ d.weights P e, n <= reachBytes := by
          simp only [DataW.weights, hu, List.mem_cons, List.mem_append] at hz
          refine ⟨?_, fun d hd n hn => hz n (.inr (.inl (weightsAll_mem hd n hn)))⟩
          have := hz _ (.inl rfl)
          simpa using this
         have each : ∀ i, i < len -> ∃ y : Dat × List Value, W.cells? base (a.add (i * P.cellsOf e)) (P.cellsOf e) = some y.2 /\ HasT P e y.1 /\ RelL (wholeH W) [] y.1.avs y.2 /\ y.2.length = P.cellsOf e /\ elems[i]?.map (fun z => toD z.1) = some y.1 := by
          intro i hi
          have := hel i hi
          rw [List.getElem?_eq_getElem (by omega)] at this
          obtain ⟨cs', h1, h2⟩ := Option.bind_eq_some_iff.1 this
          obtain ⟨d, g1, g2, g3, g4⟩ := ih e cs' _ hks h2 (hw.2 _ (List.mem_map.2 ⟨_, List.getElem_mem _, rfl⟩))
          exact ⟨(d, cs'), h1, g1, g2, g3, by rw [List.getElem?_eq_getElem (by omega), Option.map_some, g4]⟩
         obtain ⟨F, hF⟩ := Deep.choose_lt each
         refine ⟨.sl ((List.range len).map fun i => (F i).1), .sl hu _ ?_ ?_, ?_, by simp [hA.1], ?_⟩
         . refine Nat.le_trans (Nat.mul_le_mul_right _ ?_) hw.1
           simp; omega
         . intro d hd
           obtain ⟨i, hi, rfl⟩ := List.mem_map.1 hd
           exact (hF i (by simpa using hi)).2.1
         . rw [Dat.avs, Dat.avsL_eq]
           have e1 : ((List.range len).map fun i => (F i).1).length = len := by simp
           rw [e1]
           refine .cons (rel_row (vs := ((List.range len).map fun i => (F i).2).flatten) (.flat (by simp) fun k d vs h1 h2 => ?_) hlc (arr_holds (wholeH_whole W) ?_)) .nil
           . simp only [List.getElem?_map, Option.map_eq_some_iff] at h1 h2
             obtain ⟨k1, g1, rfl⟩ := h1
             obtain ⟨k2, g2, rfl⟩ := h2
             rw [g1] at g2; cases g2
             have hk : k1 < len := by
              have := List.mem_of_getElem? g1; simpa using this
             exact (hF k1 hk).2.2.1
           . by_cases hl0 : len = 0
             . subst hl0; exact .inl (by simp)
             . obtain ⟨q1, q2, q3⟩ := World.cells?_some (hF 0 (by omega)).1
               have hspot : a.spot = none := by
                have := q3 0 hA.2
                obtain ⟨v, hv⟩ : ∃ v, (F 0).2[0]? = some v := ⟨_, List.getElem?_eq_getElem (by rw [q2]; exact hA.2)⟩
                rw [hv] at this
                have := spot_none this
                simpa [Addr.add] using this
               refine .inr ⟨a, rfl, hspot, fun k v hk => ?_⟩
               have hsz : 0 < P.cellsOf e := hA.2
               have key : ∀ (n : Nat), (∀ i, i < n -> ((F i).2).length = P.cellsOf e) -> ∀ k : Nat, (((List.range n).map fun i => (F i).2).flatten)[k]? = if k < n * P.cellsOf e then (F (k / P.cellsOf e)).2[k % P.cellsOf e]? else none := by
                intro n
                induction n with
                | zero => intro _ k; simp
                | succ n ihn =>
                  intro hh k
                  have hl2 : (((List.range n).map fun i => (F i).2).flatten).length = n * P.cellsOf e := by
                   clear ihn
                   induction n with
                   | zero => simp
                   | succ n ihm =>
                     rw [List.range_succ, List.map_append, List.flatten_append, List.length_append, ihm fun i hi => hh i (by omega)]
                     simp [hh n (by omega), Nat.succ_mul]
                  rw [List.range_succ, List.map_append, List.flatten_append, List.getElem?_append, hl2]
                  by_cases hkn : k < n * P.cellsOf e
                  . rw [if_pos hkn, ihn (fun i hi => hh i (by omega)), if_pos hkn, if_pos (by rw [Nat.succ_mul]; omega)]
                  . rw [if_neg hkn]
                    simp only [List.map_cons, List.map_nil, List.flatten_cons, List.flatten_nil, List.append_nil]
                    by_cases hkn2 : k < (n + 1) * P.cellsOf e
                    . rw [if_pos hkn2]
                      rw [Nat.succ_mul] at hkn2
                      have hd : k / P.cellsOf e = n := by
                       refine Nat.div_eq_of_lt_le (by omega) (by rw [Nat.succ_mul]; omega)
                      have hm : k % P.cellsOf e = k - n * P.cellsOf e := by
                       have := Nat.div_add_mod k (P.cellsOf e)
                       rw [hd, Nat.mul_comm] at this; omega
                      rw [hd, hm]
                    . rw [if_neg hkn2, List.getElem?_eq_none]
                      rw [hh n (by omega)]; rw [Nat.succ_mul] at hkn2; omega
               rw [key len (fun i hi => (hF i hi).2.2.2.1)] at hk
               split at hk
               . rename_i hkl
                 have hi : k / P.cellsOf e < len := Nat.div_lt_of_lt_mul (by rw [Nat.mul_comm]; exact hkl)
                 obtain ⟨_, _, g3⟩ := World.cells?_some (hF _ hi).1
                 have := g3 (k % P.cellsOf e) (Nat.mod_lt _ hsz)
                 rw [hk, Deep.add_add] at this
                 rwa [show k / P.cellsOf e * P.cellsOf e + k % P.cellsOf e = k by rw [Nat.mul_comm]; exact Nat.div_add_mod _ _] at this
               . cases hk
         . rw [toD, toDs_eq, List.map_map]
           refine congrArg Dat.sl (List.ext_getElem? fun i => ?_)
           by_cases hi : i < len
           . have := (hF i hi).2.2.2.2
             rw [List.getElem?_map, List.getElem?_map, List.getElem?_range hi]
             exact this.symm
           . rw [List.getElem?_eq_none (by simp; omega), List.getElem?_eq_none (by simp; omega)]
     | array n e =>
       simp only [beq_iff_eq] at hA
       have hks := hKid e (by simp)
       obtain ⟨xs, m, hm, rfl, hl, hlx, hel⟩ := DataW.trod_array hu h
       cases hm
       have hw : ∀ d ∈ xs.map (·.1), ∀ n ∈ d.weights P e, n <= reachBytes := by
        simp only [DataW.weights, hu] at hz
        exact fun d hd => weightsAll_each hz hd
       have each : ∀ i, i < n -> ∃ d : Dat, (HasT P e d /\ RelL (wholeH W) [] d.avs ((cs.drop (i * P.cellsOf e)).take (P.cellsOf e))) /\ xs[i]?.map (fun z => toD z.1) = some d := by
        intro i hi
        have := hel i hi
        rw [List.getElem?_eq_getElem (by omega)] at this
        obtain ⟨d, g1, g2, g3, g4⟩ := ih e _ _ hks this (hw _ (List.mem_map.2 ⟨_, List.getElem_mem _, rfl⟩))
        exact ⟨d, ⟨g1, g2⟩, by rw [List.getElem?_eq_getElem (by omega), Option.map_some, g4]⟩
       obtain ⟨F, hF'⟩ := Deep.choose_lt each
       have hF := fun i hi => (hF' i hi).1
       refine ⟨.ag ((List.range n).map F), .ar hu _ (by simp) ?_, ?_, hl, ?_⟩
       . intro d hd
         obtain ⟨i, hi, rfl⟩ := List.mem_map.1 hd
         exact (hF i (by simpa using hi)).1
       . rw [Dat.avs, Dat.avsL_eq]
         have e2 : cs = ((List.range n).map fun i => (cs.drop (i * P.cellsOf e)).take (P.cellsOf e)).flatten := by
          have : ∀ n : Nat, cs.take (n * P.cellsOf e) = ((List.range n).map fun i => (cs.drop (i * P.cellsOf e)).take (P.cellsOf e)).flatten := by
           intro n
           induction n with
           | zero => simp
           | succ n ihn => rw [List.range_succ, List.map_append, List.flatten_append, <- ihn, Nat.succ_mul, List.take_add]; simp
          rw [<- this n, List.take_of_length_le (by omega)]
         rw [e2]
         refine .flat (by simp) fun k d vs h1 h2 => ?_
         simp only [List.getElem?_map, Option.map_eq_some_iff] at h1 h2
         obtain ⟨k1, g1, rfl⟩ := h1
         obtain ⟨k2, g2, rfl⟩ := h2
         rw [g1] at g2; cases g2
         have hk : k1 < n := by
          have := List.mem_of_getElem? g1; simpa using this
         exact (hF k1 hk).2
       . rw [toD, toDs_eq, List.map_map]
         refine congrArg Dat.ag (List.ext_getElem? fun i => ?_)
         by_cases hi : i < n
         . have := (hF' i hi).2
           rw [List.getElem?_map, List.getElem?_map, List.getElem?_range hi]
           exact this.symm
         . rw [List.getElem?_eq_none (by simp; omega), List.getElem?_eq_none (by simp; omega)]
     | struct fs =>
       simp only [beq_iff_eq] at hA
       obtain ⟨xs, m, hm, rfl, hl, hlx, hel⟩ := DataW.trod_struct hu h
       cases hm
       have hw : ∀ (k : Nat) (f : Field) (d : DataW H), fs[k]? = some f -> (xs.map (·.1))[k]? = some d -> ∀ n ∈ d.weights P f.type, n <= reachBytes := by
        simp only [DataW.weights, hu] at hz
        intro k f d hf hd n hn
        exact hz n (weightsEach_at (k := k) (by rw [List.getElem?_map]; simp [hf]) hd n hn)
       have each : ∀ i, i < fs.size -> ∃ d : Dat, (∀ f, fs[i]? = some f -> HasT P f.type d /\ RelL (wholeH W) [] d.avs ((cs.drop f.offset).take (P.cellsOf f.type))) /\ xs[i]?.map (fun z => toD z.1) = some d := by
        intro i hi
        have hf : fs[i]? = some fs[i] := by simp [hi]
        have := hel i fs[i] hf
        have hx : xs[i]? = some (xs[i]'(by omega)) := List.getElem?_eq_getElem (by omega)
        rw [hx] at this
        obtain ⟨d, g1, g2, g3, g4⟩ := ih fs[i].type _ _ (hKid _ (List.mem_map.2 ⟨fs[i], by simp, rfl⟩)) this (hw i _ _ hf (by rw [List.getElem?_map, hx]; rfl))
        refine ⟨d, fun f hf' => ?_, by rw [hx, Option.map_some, g4]⟩
        rw [hf] at hf'; cases hf'
        exact ⟨g1, g2⟩
       obtain ⟨F, hF'⟩ := Deep.choose_lt each
       have hF := fun i hi => (hF' i hi).1
       refine ⟨.ag ((List.range fs.size).map F), .st hu _ (by simp) ?_, ?_, hl, ?_⟩
       . intro k f d hf hd
         simp only [List.getElem?_map, Option.map_eq_some_iff] at hd
         obtain ⟨k1, g1, rfl⟩ := hd
         have hk : k < fs.size := (Array.getElem?_eq_some_iff.1 hf).1
         have : k1 = k := by simpa [hk] using g1.symm
         subst this
         exact (hF k1 hk f hf).1
       . rw [Dat.avs, Dat.avsL_eq]
         have key : ∀ (l : List Field) (F : Nat -> Dat) (off : Nat), tilesF P off l = some (P.cellsOf t) -> off <= cs.length -> (∀ (i : Nat) (f : Field), l[i]? = some f -> RelL (wholeH W) [] (F i).avs ((cs.drop f.offset).take (P.cellsOf f.type))) ->
          RelL (wholeH W) [] (((List.range l.length).map F).flatMap Dat.avs) (cs.drop off) := by
          intro l
          induction l with
          | nil =>
            intro F off ht ho _
            simp only [tilesF, Option.some.injEq] at ht
            rw [List.drop_of_length_le (by omega)]
            simpa using RelL.nil
          | cons f l ihl =>
            intro F off ht ho hh
            simp only [tilesF] at ht
            split at ht
            . rename_i hfo
              have h0 := hh 0 f rfl
              have hle : off + P.cellsOf f.type <= cs.length := by
               have mono : ∀ (l : List Field) (o r : Nat), tilesF P o l = some r -> o <= r := by
                intro l
                induction l with
                | nil => intro o r h; simp [tilesF] at h; omega
                | cons g l ihg =>
                  intro o r h
                  simp only [tilesF] at h
                  split at h
                  . have := ihg _ _ h; omega
                  . cases h
               have := mono _ _ _ ht
               omega
              have h1 := ihl (fun i => F (i + 1)) _ ht hle fun i f' hf' => hh (i + 1) f' (by simpa using hf')
              rw [List.length_cons, List.range_succ_eq_map, List.map_cons, List.flatMap_cons, List.map_map]
              have e3 : cs.drop off = (cs.drop off).take (P.cellsOf f.type) ++ cs.drop (off + P.cellsOf f.type) := by
               rw [<- List.drop_drop, List.take_append_drop]
              rw [e3]
              rw [hfo] at h0
              exact h0.append h1
            . cases ht
         have := key fs.toList F 0 hA (Nat.zero_le _) fun i f hf => (hF i (by have := (List.getElem?_eq_some_iff.1 hf).1; simpa using this) f (by simpa using hf)).2
         simpa using this
       . rw [toD, toDs_eq, List.map_map]
         refine congrArg Dat.ag (List.ext_getElem? fun i => ?_)
         by_cases hi : i < fs.size
         . have := (hF' i hi).2
           rw [List.getElem?_map, List.getElem?_map, List.getElem?_range hi]
           exact this.symm
         . rw [List.getElem?_eq_none (by simp; omega), List.getElem?_eq_none (by simp; omega)]
     | _ => simp at hA
theorem arg_dat {ts : List TypeId} (hc : closedT P ts = true) {t : TypeId} {v : Value} {d : DataW H} {p : List MemPlace} {r : Reach} {b0 : Nat} (ht : t ∈ ts) (hv : Value.okWide P W r b0 t v) (h : DataW.Trod enc P W base sp held t v d p)
 (hz : ∀ n ∈ d.weights P t, n <= reachBytes) : ∃ x : Dat, (HasT P t x /\ Rel (wholeH W) [] x.arg v) /\ x = toD d := by
 obtain ⟨fuel, h⟩ := h
 obtain ⟨x, h1, h2, h3, h4⟩ := trod_dat hc fuel t _ _ ht h hz
 refine ⟨x, ⟨h1, ?_⟩, h4⟩
 clear h4
 have one : ∀ {a : AV}, RelL (wholeH W) [] [a] v.cells.toList -> v.cells = #[v] -> Rel (wholeH W) [] a v := by
  intro a h e
  rw [e] at h
  exact h.2 0 _ _ rfl rfl
 cases h1 with
 | b hu x => rw [Dat.avs] at h2; obtain ⟨b, rfl⟩ := okWide_bool hu hv; simp only [Dat.arg, Dat.avs]; exact one h2 rfl
 | i hu n hw => rw [Dat.avs] at h2; obtain ⟨b, rfl⟩ := okWide_int hu hv; simp only [Dat.arg, Dat.avs]; exact one h2 rfl
 | s hu x hs => rw [Dat.avs] at h2; obtain ⟨b, rfl⟩ := okWide_string hu hv; simp only [Dat.arg, Dat.avs]; exact one h2 rfl
 | sl hu l hl ha => rw [Dat.avs] at h2; obtain ⟨a, n, c, rfl⟩ := okWide_slice hu hv; simp only [Dat.arg, Dat.avs]; exact one h2 rfl
 | ar hu l hl ha =>
   rw [Dat.avs, Dat.avsL_eq] at h2
   unfold Value.okWide at hv
   rw [hu] at hv
   obtain ⟨cs, rfl, _⟩ := hv
   simp only [Dat.arg]
   have := Rel.ag' h2
   simpa [Value.cells] using this
 | st hu l hl ha =>
   rw [Dat.avs, Dat.avsL_eq] at h2
   unfold Value.okWide at hv
   rw [hu] at hv
   obtain ⟨cs, rfl, _⟩ := hv
   simp only [Dat.arg]
   have := Rel.ag' h2
   simpa [Value.cells] using this
theorem args_dat {tys : List TypeId} (hc : closedT P tys = true) {r : Reach} {b0 : Nat} : ∀ {ts : List TypeId} {vs : List Value} {ds : List (DataW H)} {ps : List MemPlace}, (ts.all fun t => tys.contains t) = true -> DataW.TrodAll enc P W base sp held ts vs ds ps ->
 (∀ (j : Nat) (t : TypeId) (v : Value), ts[j]? = some t -> vs[j]? = some v -> Value.okWide P W r b0 t v) -> (∀ n ∈ DataW.weightsEach P ts ds, n <= reachBytes) -> ∃ xs : List Dat, (HasTs P ts xs /\ RelL (wholeH W) [] (xs.map Dat.arg) vs) /\ xs = ds.map toD
 | [], vs, ds, ps, _, h, _, _ => by obtain ⟨rfl, rfl, rfl⟩ := trodAll_nil h; exact ⟨[], ⟨.nil, .nil⟩, rfl⟩
 | t :: ts, vs, ds, ps, hr, h, hv, hz => by
   obtain ⟨v, vs', d, ds', p, q, rfl, rfl, rfl, h0, r0⟩ := trodAll_cons h
   simp only [List.all_cons, Bool.and_eq_true] at hr
   simp only [DataW.weightsEach, List.mem_append] at hz
   obtain ⟨x, ⟨g1, g2⟩, g5⟩ := arg_dat hc (by simpa using hr.1) (hv 0 _ _ rfl rfl) h0 fun n hn => hz n (.inl hn)
   obtain ⟨xs, ⟨g3, g4⟩, g6⟩ := args_dat hc hr.2 r0 (fun j t' v' h1 h2 => hv (j + 1) t' v' (by simpa using h1) (by simpa using h2)) fun n hn => hz n (.inr hn)
   exact ⟨x :: xs, ⟨.cons g1 g3, by simpa using RelL.cons g2 g4⟩, by rw [List.map_cons, g5, g6]⟩
theorem st_begin (W : World) : St (wholeH W) [] [] W := ⟨wholeH_of W, rfl, fun i o x h => by simp at h, fun i o x b h => by simp at h⟩
theorem law_callsU {f : FuncId} {fn : Func} {s : ChangeSpec} {args : Array Value} {ds gs : List (DataW H)} {before : List MemPlace} {G : Nat -> AV} {tys : List TypeId} {r : Reach} {b0 : Nat} (tb : TypeId) (hl : laidOutB P = true) (hr : (fn.params.toList.all fun t => P.readableRec t && decide (t < P.types.size)) = true)
 (hres : fn.resultTypes = #[tb]) (htb : P.underlying tb = some .bool) (hvars : s.vars = []) (hfn : s.fn H (ds ++ gs) = { results := [.lit (.bool true)], args := ds })
 (hW : DataW.Whole enc P fn.params.toList s.vars false W args.toList ds gs before) (hc : closedT P tys = true) (hp : (fn.params.toList.all fun t => tys.contains t) = true)
 (hval : ∀ (j : Nat) t v, fn.params[j]? = some t -> args[j]? = some v -> Value.okWide P W r b0 t v)
 (hz : (DataW.weightsEach P (fn.params.toList ++ s.plain.varTypes P) (ds ++ gs)).all (· <= reachBytes) = true)
 (hG : GOK G (wholeH W)) (h : ∀ xs : List Dat, HasTs P fn.params.toList xs -> xs = ds.map toD -> CallA P G f (xs.map Dat.arg) [] fun v _ _ => v = .p (.bool true)) :
 Calls P f args W fun e W' => ∃ v, e = .returned v /\ s.post enc P fn false true false false W args v W' := by
 refine law_calls tb hl hr hres htb hvars hfn hW ?_
 obtain ⟨p, q, hA, hV, rfl, hfz, hnd⟩ := hW
 rw [hvars] at hV
 obtain ⟨rfl, rfl⟩ := trodVars_none hV
 have hz' : ∀ n ∈ DataW.weightsEach P fn.params.toList ds, n <= reachBytes := by
  have e : s.plain.varTypes P = [] := by
   simp [DataSpec.varTypes, ChangeSpec.plain, hvars]
  rw [e, List.append_nil, List.append_nil] at hz
  intro n hn
  simpa using List.all_eq_true.1 hz n hn
 obtain ⟨xs, ⟨h1, h2⟩, h3⟩ := args_dat hc hp hA (fun j t v h1 h2 => hval j t v (by simpa using h1) (by simpa using h2)) hz'
 have := h xs h1 h3 (wholeH W) [] W args.toList hG (st_begin W) h2
 rw [Array.toArray_toList] at this
 refine this.mono ?_
 rintro v w' ⟨Z', ρ', T', es, a, k1, k2, k3, rfl⟩
 exact ⟨k3.p_inv, [], [whole W], ⟨Z', [], k1.of, trivial, by simp, by simp, fun φ hφ => by
  simp only [List.mem_singleton] at hφ; subst hφ; exact (whole W).mono _ _ k2.le (wholeH_whole W)⟩, by simp⟩
theorem law_callsA {f : FuncId} {fn : Func} {s : ChangeSpec} {args : Array Value} {ds gs : List (DataW H)} {before : List MemPlace} {G : Nat -> AV} {tys : List TypeId} {r : Reach} {b0 : Nat} (tb : TypeId) (hl : laidOutB P = true) (hr : (fn.params.toList.all fun t => P.readableRec t && decide (t < P.types.size)) = true)
 (hres : fn.resultTypes = #[tb]) (htb : P.underlying tb = some .bool) (hvars : s.vars = []) (hfn : s.fn H (ds ++ gs) = { results := [.lit (.bool true)], args := ds })
 (hW : DataW.Whole enc P fn.params.toList s.vars false W args.toList ds gs before) (hc : closedT P tys = true) (hp : (fn.params.toList.all fun t => tys.contains t) = true)
 (hval : ∀ (j : Nat) t v, fn.params[j]? = some t -> args[j]? = some v -> Value.okWide P W r b0 t v)
 (hz : (DataW.weightsEach P (fn.params.toList ++ s.plain.varTypes P) (ds ++ gs)).all (· <= reachBytes) = true)
 (hG : GOK G (wholeH W)) (h : ∀ xs : List Dat, HasTs P fn.params.toList xs -> CallA P G f (xs.map Dat.arg) [] fun v _ _ => v = .p (.bool true)) :
 Calls P f args W fun e W' => ∃ v, e = .returned v /\ s.post enc P fn false true false false W args v W' :=
 law_callsU tb hl hr hres htb hvars hfn hW hc hp hval hz hG fun xs h1 _ => h xs h1
end
theorem HasT.int {P : Program} {t : TypeId} {k : IntKind} {d : Dat} (h : HasT P t d) (hu : P.underlying t = some (.int k)) : ∃ n : Int, d = .i k n /\ (Lit.int k n).wf = true := by
 cases h with
 | i h' n hw => rw [hu] at h'; cases h'; exact ⟨n, rfl, hw⟩
 | b h' x => rw [hu] at h'; cases h'
 | s h' x hs => rw [hu] at h'; cases h'
 | sl h' l hl ha => rw [hu] at h'; cases h'
 | ar h' l hl ha => rw [hu] at h'; cases h'
 | st h' l hl ha => rw [hu] at h'; cases h'
theorem HasT.slice {P : Program} {t e : TypeId} {d : Dat} (h : HasT P t d) (hu : P.underlying t = some (.slice e)) : ∃ l : List Dat, d = .sl l /\ l.length * P.bytesOf e <= reachBytes /\ ∀ x ∈ l, HasT P e x := by
 cases h with
 | sl h' l hl ha => rw [hu] at h'; cases h'; exact ⟨l, rfl, hl, ha⟩
 | b h' x => rw [hu] at h'; cases h'
 | i h' n hw => rw [hu] at h'; cases h'
 | s h' x hs => rw [hu] at h'; cases h'
 | ar h' l hl ha => rw [hu] at h'; cases h'
 | st h' l hl ha => rw [hu] at h'; cases h'
theorem HasT.struct {P : Program} {t : TypeId} {fs : Array Field} {d : Dat} (h : HasT P t d) (hu : P.underlying t = some (.struct fs)) :
 ∃ l : List Dat, d = .ag l /\ l.length = fs.size /\ ∀ (k : Nat) (f : Field) (d : Dat), fs[k]? = some f -> l[k]? = some d -> HasT P f.type d := by
 cases h with
 | st h' l hl ha => rw [hu] at h'; cases h'; exact ⟨l, rfl, hl, ha⟩
 | b h' x => rw [hu] at h'; cases h'
 | i h' n hw => rw [hu] at h'; cases h'
 | s h' x hs => rw [hu] at h'; cases h'
 | sl h' l hl ha => rw [hu] at h'; cases h'
 | ar h' l hl ha => rw [hu] at h'; cases h'
theorem open_u8 {P : Program} {e : TypeId} (hu : P.underlying e = some (.int .u8)) (d : Dat) (h : HasT P e d) : ∃ a : UInt8, d = .i .u8 (a.toNat : Int) := by
 obtain ⟨n, rfl, hw⟩ := h.int hu
 have hz : 0 <= n /\ n <= 255 := by simpa [Lit.wf, IntKind.min, IntKind.max, IntKind.signed, IntKind.bits] using hw
 exact ⟨UInt8.ofNat n.toNat, by rw [UInt8.toNat_ofNat']; congr 1; omega⟩
theorem open_u16 {P : Program} {e : TypeId} (hu : P.underlying e = some (.int .u16)) (d : Dat) (h : HasT P e d) : ∃ a : UInt16, d = .i .u16 (a.toNat : Int) := by
 obtain ⟨n, rfl, hw⟩ := h.int hu
 have hz : 0 <= n /\ n <= 65535 := by simpa [Lit.wf, IntKind.min, IntKind.max, IntKind.signed, IntKind.bits] using hw
 exact ⟨UInt16.ofNat n.toNat, by rw [UInt16.toNat_ofNat']; congr 1; omega⟩
theorem trod_lits {H : Type} {enc : TypeId × Value -> H} {P : Program} {W : World} {base : Nat} {sp : Nat -> Bool} {held : Bool} {t e : TypeId} {n : Nat} {k : IntKind} {fuel : Nat} {cs : List Value} {p : List MemPlace} {zs : List Int}
 (hu : P.underlying t = some (.array n e)) (he : P.underlying e = some (.int k)) (hc : P.cellsOf e = 1) (hct : P.cellsOf t = n) (h : DataW.trod enc P W base sp held fuel t cs = some (.agg (zs.map fun z => .lit (.int k z)), p)) : cs = zs.map (Value.int k) := by
 obtain ⟨xs, m, hm, hx, hl, hlx, hel⟩ := DataW.trod_array hu h
 rw [hc] at hel
 simp only [Prod.mk.injEq, DataW.agg.injEq] at hx
 have hzl : zs.length = n := by
  have := congrArg List.length hx.1; simp at this; omega
 refine List.ext_getElem? fun i => ?_
 by_cases hi : i < n
 . have h0 := hel i hi
   rw [List.getElem?_eq_getElem (by omega)] at h0
   obtain ⟨z, e1, e2, _⟩ := DataW.trod_int he h0
   have h3 := congrArg (fun l => l[i]?) hx.1
   simp only [List.getElem?_map, List.getElem?_eq_getElem (show i < zs.length by omega), List.getElem?_eq_getElem (show i < xs.length by omega), Option.map_some, Option.some.injEq] at h3
   rw [e2] at h3
   have hz : zs[i]'(by omega) = z := by simpa using h3
   have h4 := congrArg (fun l => l[0]?) e1
   simp only [Nat.mul_one, List.getElem?_take_of_lt (show 0 < 1 by omega), List.getElem?_drop, Nat.add_zero] at h4
   rw [h4]
   simp [hzl, hi, hz]
 . rw [List.getElem?_eq_none (by omega), List.getElem?_eq_none (by simp; omega)]
end Go.E
namespace Go.E
theorem Dat.avs_sl (l : List Dat) : (Dat.sl l).avs = [.vs (l.flatMap Dat.avs) l.length] := by rw [Dat.avs, Dat.avsL_eq]
theorem Dat.avs_ag (l : List Dat) : (Dat.ag l).avs = l.flatMap Dat.avs := by rw [Dat.avs, Dat.avsL_eq]
theorem open_all {α : Type} {f : α -> List AV} {Ok : α -> Prop} : ∀ {l : List Dat}, (∀ d ∈ l, ∃ x : α, d.avs = f x /\ Ok x) -> ∃ xs : List α, l.flatMap Dat.avs = xs.flatMap f /\ xs.length = l.length /\ ∀ x ∈ xs, Ok x
 | [], _ => ⟨[], rfl, rfl, fun _ h => nomatch h⟩
 | d :: r, h => by
   obtain ⟨x, h1, h2⟩ := h d (by simp)
   obtain ⟨xs, h3, h4, h5⟩ := open_all (l := r) fun y hy => h y (by simp [hy])
   refine ⟨x :: xs, by rw [List.flatMap_cons, List.flatMap_cons, h1, h3], by simp [h4], fun y hy => ?_⟩
   rcases List.mem_cons.1 hy with rfl | hy
   . exact h2
   . exact h5 y hy
end Go.E
namespace Go.E
section
variable {P : Program} {G : Nat -> AV} {Z Z' Z0 : Heap} {ρ ρ' ρ0 : List BI} {T T' T0 : Tbl} {w w' w0 : World} {a b : AV} {u v : Value} {K : AV -> Tbl -> Eff -> Prop} {cs : List AV} {es E : Eff}
variable {N n m : Nat} {ro : Option Nat} {ds loc : List AV} {tmp : List (Nat × AV)} {Nk R : AKont} {X : Nat -> AKont}
inductive PU where
 | nil : PU
 | st : Nat -> Bool -> PU -> PU
 | alt : Nat -> PU -> Nat -> PU -> PU
 | al3 : Nat -> PU -> Nat -> PU -> Nat -> PU -> PU
def PU.len : PU -> Nat
 | .nil => 0
 | .st _ _ r => r.len + 1
 | .alt _ r _ _ => r.len + 1
 | .al3 _ r _ _ _ _ => r.len + 1
def PU.isNil : PU -> Bool
 | .nil => true
 | _ => false
def planOKU (ops : Array Oper) (cl : Nat) (o : Option Nat) : PU -> Array Bool -> Bool
 | .nil, listed => (Region.ready .any ops listed).isEmpty
 | .st i fl r, listed =>
   (if fl then (Region.ready .any ops listed).contains i && Region.free .any ops listed i && (cl != i && ((match ops[i]? with | none => false | some oi => pureOp oi.op) || blocks ops cl i listed))
    else Region.ready .any ops listed == [i] && (if r.isNil || some i == o then i == cl && decide (i < listed.size) else !(listed.getD cl false) && i != cl)) &&
   planOKU ops cl o r (listed.setIfInBounds i true)
 | .alt i r j s, listed => Region.ready .any ops listed == [i, j] && !(listed.getD cl false) && i != cl && j != cl && r.len == s.len && planOKU ops cl o r (listed.setIfInBounds i true) && planOKU ops cl o s (listed.setIfInBounds j true)
 | .al3 i r j s k t, listed => Region.ready .any ops listed == [i, j, k] && !(listed.getD cl false) && i != cl && j != cl && k != cl && r.len == s.len && r.len == t.len && planOKU ops cl o r (listed.setIfInBounds i true) && planOKU ops cl o s (listed.setIfInBounds j true) && planOKU ops cl o t (listed.setIfInBounds k true)
def planU (P : Program) (n : Nat) (base : Nat -> Value) (ops : List Oper) (cl : Option Nat) (I : World -> Prop) (ds : List Nat) : PU -> List Value -> List (Nat × Value) -> World -> (K : Kont) -> Prop
 | .nil, loc, tmp, w, K => K ds loc tmp w
 | .st i true r, loc, tmp, w, K => planO n base ops ops[i]? loc tmp
   (fun o => floatV P (ev n base loc tmp) o.op o.type I fun v => putK n o.dst v loc tmp fun loc tmp => planU P n base ops cl I ds r loc tmp w K)
   (fun o => putK n o.dst undef loc tmp fun loc tmp => planU P n base ops cl I ds r loc tmp w K)
 | .st i false r, loc, tmp, w, K => planO n base ops ops[i]? loc tmp
   (fun o => opV P (ev n base loc tmp) o.op o.type w fun v w' => putK n o.dst v loc tmp fun loc tmp => ∃ I', (r.isNil = false -> some i ≠ cl -> I' w' /\ ∀ w, I' w -> I w) /\ planU P n base ops cl I' ds r loc tmp w' K)
   (fun o => putK n o.dst undef loc tmp fun loc tmp => planU P n base ops cl I ds r loc tmp w K)
 | .alt i r j s, loc, tmp, w, K =>
   planO n base ops ops[i]? loc tmp
    (fun o => opV P (ev n base loc tmp) o.op o.type w fun v w' => putK n o.dst v loc tmp fun loc tmp => ∃ I', (I' w' /\ ∀ w, I' w -> I w) /\ planU P n base ops cl I' ds r loc tmp w' K)
    (fun o => putK n o.dst undef loc tmp fun loc tmp => planU P n base ops cl I ds r loc tmp w K) /\
   planO n base ops ops[j]? loc tmp
    (fun o => opV P (ev n base loc tmp) o.op o.type w fun v w' => putK n o.dst v loc tmp fun loc tmp => ∃ I', (I' w' /\ ∀ w, I' w -> I w) /\ planU P n base ops cl I' ds s loc tmp w' K)
    (fun o => putK n o.dst undef loc tmp fun loc tmp => planU P n base ops cl I ds s loc tmp w K)
 | .al3 i r j s k t, loc, tmp, w, K =>
   planO n base ops ops[i]? loc tmp
    (fun o => opV P (ev n base loc tmp) o.op o.type w fun v w' => putK n o.dst v loc tmp fun loc tmp => ∃ I', (I' w' /\ ∀ w, I' w -> I w) /\ planU P n base ops cl I' ds r loc tmp w' K)
    (fun o => putK n o.dst undef loc tmp fun loc tmp => planU P n base ops cl I ds r loc tmp w K) /\
   planO n base ops ops[j]? loc tmp
    (fun o => opV P (ev n base loc tmp) o.op o.type w fun v w' => putK n o.dst v loc tmp fun loc tmp => ∃ I', (I' w' /\ ∀ w, I' w -> I w) /\ planU P n base ops cl I' ds s loc tmp w' K)
    (fun o => putK n o.dst undef loc tmp fun loc tmp => planU P n base ops cl I ds s loc tmp w K) /\
   planO n base ops ops[k]? loc tmp
    (fun o => opV P (ev n base loc tmp) o.op o.type w fun v w' => putK n o.dst v loc tmp fun loc tmp => ∃ I', (I' w' /\ ∀ w, I' w -> I w) /\ planU P n base ops cl I' ds t loc tmp w' K)
    (fun o => putK n o.dst undef loc tmp fun loc tmp => planU P n base ops cl I ds t loc tmp w K)
theorem planU_any {Q : Exit -> Act -> World -> Prop} {n m cl : Nat} {oc : Option Nat} {base : Nat -> Value} {l : List Oper} {ds : List Nat} {K : Kont} (hsel : Region.noSelect l.toArray = true) (hdef : noDefer l.toArray = true) (hQ : ∀ c (a a' : Act) w, Q (.panic c) a w -> Q (.panic c) a' w) (hall : l.all (dstIn m) = true) :
 ∀ (pl : PU) (listed : Array Bool) (I : World -> Prop) (loc : List Value) (tmp : List (Nat × Value)) (w : World) (a : Act), planU P n base l oc I ds pl loc tmp w K -> planOKU l.toArray cl oc pl listed = true -> (listed.getD cl false = false -> I w) ->
  Agree n base loc tmp a -> a.tmps.size = m -> a.defers = ds.map markOf ->
  (∀ loc tmp w a, Agree n base loc tmp a -> a.tmps.size = m -> a.defers = ds.map markOf -> K ds loc tmp w -> Q .normal a w) -> AnyI ro P l.toArray Q cl I pl.len listed a w
 | .nil, listed, I, loc, tmp, w, a, h, hpl, hI, ha, hs, hd, hK => by
   simp only [planOKU, List.isEmpty_iff] at hpl
   exact ⟨hI, hpl, hK loc tmp w a ha hs hd h⟩
 | .st i fl r, listed, I, loc, tmp, w, a, h, hpl, hI, ha, hs, hd, hK => by
   rw [planOKU, Bool.and_eq_true] at hpl
   obtain ⟨hpl1, hpl2⟩ := hpl
   cases ho : l[i]? with
   | none => cases fl <;> (simp only [planU, ho, planO] at h)
   | some o =>
     have hoi : l.toArray[i]? = some o := by simpa using ho
     have hmem : o ∈ l := List.mem_of_getElem? ho
     have hd1 : dstIn m o = true := List.all_eq_true.1 hall o hmem
     have hdst : ∀ t, o.dst = some t -> t < a.tmps.size := by rw [hs]; exact dstIn_spec hd1
     have hnext : ∀ (I' : World -> Prop) v w', ((listed.setIfInBounds i true).getD cl false = false -> I' w') -> (putK n o.dst v loc tmp fun loc tmp => planU P n base l oc I' ds r loc tmp w' K) -> AnyI ro P l.toArray Q cl I' r.len (listed.setIfInBounds i true) (a.put o.dst v) w' := by
      intro I' v w' hI' hv
      obtain ⟨loc', tmp', ha', hv'⟩ := ha.put hdst v hv
      exact planU_any hsel hdef hQ hall r _ I' loc' tmp' w' _ hv' hpl2 hI' ha' (by cases o.dst <;> simp [Act.put, hs]) (by cases o.dst <;> simp [Act.put, hd]) hK
     cases fl with
     | true =>
       simp only [planU, ho, planO] at h
       rw [<- ha.ev] at h
       simp only [if_true, Bool.and_eq_true, List.contains_iff_mem, Bool.or_eq_true, Bool.not_eq_true', bne_iff_ne, ne_eq, hoi] at hpl1
       obtain ⟨⟨hp1, hp2⟩, hp4, hp3⟩ := hpl1
       have hnext' : ∀ v, (putK n o.dst v loc tmp fun loc tmp => planU P n base l oc I ds r loc tmp w K) -> AnyI ro P l.toArray Q cl I r.len (listed.setIfInBounds i true) (a.put o.dst v) w := fun v hk =>
        hnext I v w (fun hl => hI (by rw [getD_set_ne false (Ne.symm hp4)] at hl; exact hl)) hk
       rcases hp3 with hp3 | hp3
       . have hgive : ∃ v, GivesI P l.toArray (fun _ => True) o v a /\ putK n o.dst v loc tmp fun loc tmp => planU P n base l oc I ds r loc tmp w K := by
          rcases grdV_wanted h with ⟨hw, h⟩ | ⟨hw, h⟩
          . obtain ⟨v, hv, hk⟩ := floatV_run (floatV_pure hp3 h)
            exact ⟨v, .inl ⟨hw, hv⟩, hk⟩
          . exact ⟨undef, .inr ⟨hw, rfl⟩, h⟩
         obtain ⟨v, hg, hk⟩ := hgive
         exact AnyI_first2 [] (.inl fun _ => trivial) hp4 hoi (Region.noSelect_spec hsel) (noDefer_spec hdef) (fun c a w => hQ c _ _ w) r.len listed a w (fun j oj hj hne hun hno => Region.free_spec hoi hp2 j oj hj hne hun hno) (.inl fun _ => trivial) hp1 hg (hnext' v hk)
       . have hgive : ∃ v, GivesI P l.toArray I o v a /\ putK n o.dst v loc tmp fun loc tmp => planU P n base l oc I ds r loc tmp w K := by
          rcases grdV_wanted h with ⟨hw, h⟩ | ⟨hw, h⟩
          . obtain ⟨v, hv, hk⟩ := floatV_run h
            exact ⟨v, .inl ⟨hw, hv⟩, hk⟩
          . exact ⟨undef, .inr ⟨hw, rfl⟩, h⟩
         obtain ⟨v, hg, hk⟩ := hgive
         simp only [blocks, Bool.and_eq_true, Bool.or_eq_true, Bool.not_eq_true', List.contains_iff_mem, List.all_eq_true] at hp3
         obtain ⟨⟨⟨hb1, hb2⟩, hb3⟩, hb4⟩ := hp3
         refine AnyI_first2 (waitsFor l.toArray i) (.inr ⟨fun _ h => h, ?_, fun j hj oj hoj => ?_⟩) hp4 hoi (Region.noSelect_spec hsel) (noDefer_spec hdef) (fun c a w => hQ c _ _ w) r.len listed a w (fun j oj hj hne hun hno => Region.free_spec hoi hp2 j oj hj hne hun hno) (.inr ⟨hb3, hb4⟩) hp1 hg (hnext' v hk)
         . rcases hb2 with h | h
           . exact .inl h
           . right
             split at h
             . assumption
             . cases h
         . have := List.all_eq_true.1 hb1 j hj
           rw [hoj] at this
           obtain ⟨k, hk, hk'⟩ := Array.any_eq_true.1 this
           simp only [Bool.and_eq_true, Bool.or_eq_true, beq_iff_eq, List.contains_iff_mem] at hk'
           exact ⟨_, Array.getElem_mem hk, hk'⟩
     | false =>
       simp only [Bool.false_eq_true, if_false, beq_iff_eq, Bool.and_eq_true] at hpl1
       obtain ⟨hp1, hp2⟩ := hpl1
       refine ⟨hI, fun e => (by rw [e] at hp1; cases hp1), fun j hj => ?_⟩
       rw [hp1, List.mem_singleton] at hj
       subst hj
       unfold wpOpIn
       simp only [hoi]
       simp only [planU, ho, planO] at h
       rw [<- ha.ev] at h
       by_cases hcl : r.isNil = true ∨ some j = oc
       . have hcl' : (r.isNil || some j == oc) = true := by
          rcases hcl with h | h
          . simp [h]
          . simp [h]
         rw [hcl', if_pos rfl, Bool.and_eq_true, beq_iff_eq, decide_eq_true_eq] at hp2
         have hset : (listed.setIfInBounds j true).getD cl false = true := by
          rw [<- hp2.1]; simp [hp2.2]
         have hfin : ∀ (I' : World -> Prop) v w', (putK n o.dst v loc tmp fun loc tmp => planU P n base l oc I' ds r loc tmp w' K) -> AnyI ro P l.toArray Q cl I r.len (listed.setIfInBounds j true) (a.put o.dst v) w' := fun I' v w' hv =>
          (hnext I' v w' (fun hf => by rw [hset] at hf; cases hf) hv).listed _ _ _ _ hset
         rcases grdV_wanted h with ⟨hw, h⟩ | ⟨hw, h⟩
         . rw [if_pos hw]
           refine (opV_step h).wp fun v w' hv => ?_
           obtain ⟨loc', tmp', ha', I', hI', hv'⟩ := ha.put hdst v hv
           exact (planU_any hsel hdef hQ hall r _ I' loc' tmp' w' _ hv' hpl2 (fun hf => by rw [hset] at hf; cases hf) ha' (by cases o.dst <;> simp [Act.put, hs]) (by cases o.dst <;> simp [Act.put, hd]) hK).listed _ _ _ _ hset
         . rw [if_neg (by rw [hw]; simp)]
           exact ⟨fun f _ => fz_fn f, hfin I _ _ h⟩
       . have hcl' : (r.isNil || some j == oc) = false := by
          rw [not_or] at hcl
          simp [hcl.1, hcl.2]
         rw [hcl'] at hp2
         simp only [Bool.false_eq_true, if_false, Bool.and_eq_true, Bool.not_eq_true', bne_iff_ne, ne_eq] at hp2
         rw [not_or] at hcl
         have hfin : ∀ v w', (putK n o.dst v loc tmp fun loc tmp => ∃ I', (r.isNil = false -> some j ≠ oc -> I' w' /\ ∀ w, I' w -> I w) /\ planU P n base l oc I' ds r loc tmp w' K) -> AnyI ro P l.toArray Q cl I r.len (listed.setIfInBounds j true) (a.put o.dst v) w' := by
          intro v w' hv
          obtain ⟨loc', tmp', ha', I', hI', hv'⟩ := ha.put hdst v hv
          have hi' := hI' (by simpa using hcl.1) hcl.2
          exact (planU_any hsel hdef hQ hall r _ I' loc' tmp' w' (a.put o.dst v) hv' hpl2 (fun _ => hi'.1) ha' (by cases o.dst <;> simp [Act.put, hs]) (by cases o.dst <;> simp [Act.put, hd]) hK).mono hi'.2
         rcases grdV_wanted h with ⟨hw, h⟩ | ⟨hw, h⟩
         . rw [if_pos hw]
           exact (opV_step h).wp hfin
         . rw [if_neg (by rw [hw]; simp)]
           exact ⟨fun f _ => fz_fn f, hnext I _ _ (fun _ => hI hp2.1) h⟩
 | .alt i r j s, listed, I, loc, tmp, w, a, h, hpl, hI, ha, hs, hd, hK => by
   simp only [planOKU, Bool.and_eq_true, beq_iff_eq, Bool.not_eq_true', bne_iff_ne, ne_eq] at hpl
   obtain ⟨⟨⟨⟨⟨⟨hp1, hp2⟩, hp3⟩, hp4⟩, hp5⟩, hp6⟩, hp7⟩ := hpl
   obtain ⟨h1, h2⟩ := h
   refine ⟨hI, fun e => (by rw [e] at hp1; cases hp1), fun k hk => ?_⟩
   rw [hp1] at hk
   rcases List.mem_cons.1 hk with rfl | hk
   . exact stepT hall h1 ha hs hd (hI hp2) (fun I' loc tmp w a hf hi' ha hs hd => planU_any hsel hdef hQ hall r _ I' loc tmp w a hf hp6 (fun _ => hi') ha hs hd hK)
   . rw [List.mem_singleton] at hk
     subst hk
     have := stepT hall h2 ha hs hd (hI hp2) (fun I' loc tmp w a hf hi' ha hs hd => planU_any hsel hdef hQ hall s _ I' loc tmp w a hf hp7 (fun _ => hi') ha hs hd hK)
     rw [hp5]
     exact this
 | .al3 i r j s k2 t, listed, I, loc, tmp, w, a, h, hpl, hI, ha, hs, hd, hK => by
   simp only [planOKU, Bool.and_eq_true, beq_iff_eq, Bool.not_eq_true', bne_iff_ne, ne_eq] at hpl
   obtain ⟨⟨⟨⟨⟨⟨⟨⟨⟨hp1, hp2⟩, hp3⟩, hp4⟩, hp4'⟩, hp5⟩, hp5'⟩, hp6⟩, hp7⟩, hp8⟩ := hpl
   obtain ⟨h1, h2, h3⟩ := h
   refine ⟨hI, fun e => (by rw [e] at hp1; cases hp1), fun k hk => ?_⟩
   rw [hp1] at hk
   rcases List.mem_cons.1 hk with rfl | hk
   . exact stepT hall h1 ha hs hd (hI hp2) (fun I' loc tmp w a hf hi' ha hs hd => planU_any hsel hdef hQ hall r _ I' loc tmp w a hf hp6 (fun _ => hi') ha hs hd hK)
   . rcases List.mem_cons.1 hk with rfl | hk
     . have := stepT hall h2 ha hs hd (hI hp2) (fun I' loc tmp w a hf hi' ha hs hd => planU_any hsel hdef hQ hall s _ I' loc tmp w a hf hp7 (fun _ => hi') ha hs hd hK)
       rw [hp5]
       exact this
     . rw [List.mem_singleton] at hk
       subst hk
       have := stepT hall h3 ha hs hd (hI hp2) (fun I' loc tmp w a hf hi' ha hs hd => planU_any hsel hdef hQ hall t _ I' loc tmp w a hf hp8 (fun _ => hi') ha hs hd hK)
       rw [hp5']
       exact this
def planUA (P : Program) (G : Nat -> AV) (N n : Nat) (ops : List Oper) (cl : Option Nat) (keep : Nat -> Bool) : List AV -> PU -> List AV -> List (Nat × AV) -> Tbl -> Eff -> (K : AKont) -> Prop
 | ds, .nil, loc, tmp, T, E, K => K ds loc tmp T E
 | ds, .st i true r, loc, tmp, T, E, K => planOA ops ops[i]? (evA G n loc tmp)
  (fun o => rdF P (evA G n loc tmp) o.op o.type (keepT keep T) fun v => putA n o.dst v loc tmp fun loc tmp => planUA P G N n ops cl keep ds r loc tmp T E K)
  (fun o => putA n o.dst (.p undef) loc tmp fun loc tmp => planUA P G N n ops cl keep ds r loc tmp T E K)
 | ds, .st i false r, loc, tmp, T, E, K => planOA ops ops[i]? (evA G n loc tmp)
  (fun o => opA P G (evA G n loc tmp) o.op o.type T fun v T' es => putA n o.dst v (slots es loc) (slotsT es tmp) fun loc tmp => (keepOK keep es = true ∨ r.isNil = true ∨ some i = cl) /\ planUA P G N n ops cl keep (slots es ds) r loc tmp T' (recE N es E) K)
  (fun o => putA n o.dst (.p undef) loc tmp fun loc tmp => planUA P G N n ops cl keep ds r loc tmp T E K)
 | ds, .alt i r j s, loc, tmp, T, E, K => planOA ops ops[i]? (evA G n loc tmp)
  (fun o => opA P G (evA G n loc tmp) o.op o.type T fun v T' es => putA n o.dst v (slots es loc) (slotsT es tmp) fun loc tmp => (keepOK keep es = true) /\ planUA P G N n ops cl keep (slots es ds) r loc tmp T' (recE N es E) K)
  (fun o => putA n o.dst (.p undef) loc tmp fun loc tmp => planUA P G N n ops cl keep ds r loc tmp T E K) /\
   planOA ops ops[j]? (evA G n loc tmp)
    (fun o => opA P G (evA G n loc tmp) o.op o.type T fun v T' es => putA n o.dst v (slots es loc) (slotsT es tmp) fun loc tmp => (keepOK keep es = true) /\ planUA P G N n ops cl keep (slots es ds) s loc tmp T' (recE N es E) K)
    (fun o => putA n o.dst (.p undef) loc tmp fun loc tmp => planUA P G N n ops cl keep ds s loc tmp T E K)
 | ds, .al3 i r j s k t, loc, tmp, T, E, K => planOA ops ops[i]? (evA G n loc tmp)
  (fun o => opA P G (evA G n loc tmp) o.op o.type T fun v T' es => putA n o.dst v (slots es loc) (slotsT es tmp) fun loc tmp => (keepOK keep es = true) /\ planUA P G N n ops cl keep (slots es ds) r loc tmp T' (recE N es E) K)
  (fun o => putA n o.dst (.p undef) loc tmp fun loc tmp => planUA P G N n ops cl keep ds r loc tmp T E K) /\
   planOA ops ops[j]? (evA G n loc tmp)
    (fun o => opA P G (evA G n loc tmp) o.op o.type T fun v T' es => putA n o.dst v (slots es loc) (slotsT es tmp) fun loc tmp => (keepOK keep es = true) /\ planUA P G N n ops cl keep (slots es ds) s loc tmp T' (recE N es E) K)
    (fun o => putA n o.dst (.p undef) loc tmp fun loc tmp => planUA P G N n ops cl keep ds s loc tmp T E K) /\
   planOA ops ops[k]? (evA G n loc tmp)
    (fun o => opA P G (evA G n loc tmp) o.op o.type T fun v T' es => putA n o.dst v (slots es loc) (slotsT es tmp) fun loc tmp => (keepOK keep es = true) /\ planUA P G N n ops cl keep (slots es ds) t loc tmp T' (recE N es E) K)
    (fun o => putA n o.dst (.p undef) loc tmp fun loc tmp => planUA P G N n ops cl keep ds t loc tmp T E K)
theorem planUA_sound {n : Nat} {base : Nat -> Value} {ops : List Oper} {cl : Option Nat} {keep : Nat -> Bool} {K : AKont} : ∀ (pl : PU) (ds loc : List AV) (tmp : List (Nat × AV)) (dv : List Nat) (lv : List Value) (tv : List (Nat × Value)) (Z : Heap) (ρ : List BI) (T : Tbl) (w : World) (E : Eff),
 planUA P G ρ0.length n ops cl keep ds pl loc tmp T E K -> Frm G Z0 ρ0 T0 w0 Z ρ T w E -> At Z ρ ds loc tmp dv lv tv -> planU P n base ops cl (Agr Z ρ (keepT keep T) w) dv pl lv tv w (LK G Z0 ρ0 T0 w0 K)
 | .nil, ds, loc, tmp, dv, lv, tv, Z, ρ, T, w, E, h, hf, ha => ⟨Z, ρ, T, E, ds, loc, tmp, hf, ha.ds, ha.loc, ha.tmp, h⟩
 | .st i true r, ds, loc, tmp, dv, lv, tv, Z, ρ, T, w, E, h, hf, ha => by
   simp only [planUA, planOA] at h
   simp only [planU, planO]
   have he := evA_rel (n := n) (base := base) hf.g ha.loc ha.tmp
   cases ho : ops[i]? with
   | none => rw [ho] at h; exact h.elim
   | some o =>
     rw [ho] at h
     simp only at h ⊢
     refine grdA_sound h he (fun h => ?_) (fun h => ?_)
     . refine valV_mono (rdF_sound (hf.st.keepT keep) he h) (fun _ _ h => h) (fun s h => FloatP.mono h (fun _ h => h) ?_) ?_
       all_goals
        rintro v ⟨a, h1, h2⟩
        exact putA_sound h2 h1 ha fun loc tmp lv tv hk hat => planUA_sound r _ _ _ _ _ _ _ _ _ _ _ hk hf hat
     . exact putA_sound h (.p _) ha fun loc tmp lv tv hk hat => planUA_sound r _ _ _ _ _ _ _ _ _ _ _ hk hf hat
 | .st i false r, ds, loc, tmp, dv, lv, tv, Z, ρ, T, w, E, h, hf, ha => by
   simp only [planUA, planOA] at h
   simp only [planU, planO]
   have he := evA_rel (n := n) (base := base) hf.g ha.loc ha.tmp
   cases ho : ops[i]? with
   | none => rw [ho] at h; exact h.elim
   | some o =>
     rw [ho] at h
     simp only at h ⊢
     refine grdA_sound h he (fun h => ?_) (fun h => ?_)
     . refine opV_mono (opA_sound hf.g hf.st he h) fun v w' h2 => ?_
       obtain ⟨Z', ρ', T', es, a, k1, k2, k3, k4⟩ := h2
       refine putA_sound k4 k3 (ha.step k2) fun loc tmp lv tv hk hat => ⟨Agr Z' ρ' (keepT keep T') w', fun hr hc => ?_, planUA_sound r _ _ _ _ _ _ _ _ _ _ _ hk.2 (hf.step k1 k2) hat⟩
       exact ⟨agr_self (k1.keepT keep), agr_step k2 (hk.1.resolve_right (fun h => h.elim (fun h => by rw [hr] at h; cases h) hc))⟩
     . exact putA_sound h (.p _) ha fun loc tmp lv tv hk hat => planUA_sound r _ _ _ _ _ _ _ _ _ _ _ hk hf hat
 | .alt i r j s, ds, loc, tmp, dv, lv, tv, Z, ρ, T, w, E, h, hf, ha => by
   simp only [planUA, planOA] at h
   simp only [planU, planO]
   have he := evA_rel (n := n) (base := base) hf.g ha.loc ha.tmp
   refine ⟨?_, ?_⟩
   . have h := h.1
     cases ho : ops[i]? with
     | none => rw [ho] at h; exact h.elim
     | some o =>
       rw [ho] at h
       simp only at h ⊢
       refine grdA_sound h he (fun h => ?_) (fun h => ?_)
       . refine opV_mono (opA_sound hf.g hf.st he h) fun v w' h2 => ?_
         obtain ⟨Z', ρ', T', es, a, k1, k2, k3, k4⟩ := h2
         refine putA_sound k4 k3 (ha.step k2) fun loc tmp lv tv hk hat => ⟨Agr Z' ρ' (keepT keep T') w', ⟨agr_self (k1.keepT keep), agr_step k2 hk.1⟩, planUA_sound r _ _ _ _ _ _ _ _ _ _ _ hk.2 (hf.step k1 k2) hat⟩
       . exact putA_sound h (.p _) ha fun loc tmp lv tv hk hat => planUA_sound r _ _ _ _ _ _ _ _ _ _ _ hk hf hat
   . have h := h.2
     cases ho : ops[j]? with
     | none => rw [ho] at h; exact h.elim
     | some o =>
       rw [ho] at h
       simp only at h ⊢
       refine grdA_sound h he (fun h => ?_) (fun h => ?_)
       . refine opV_mono (opA_sound hf.g hf.st he h) fun v w' h2 => ?_
         obtain ⟨Z', ρ', T', es, a, k1, k2, k3, k4⟩ := h2
         refine putA_sound k4 k3 (ha.step k2) fun loc tmp lv tv hk hat => ⟨Agr Z' ρ' (keepT keep T') w', ⟨agr_self (k1.keepT keep), agr_step k2 hk.1⟩, planUA_sound s _ _ _ _ _ _ _ _ _ _ _ hk.2 (hf.step k1 k2) hat⟩
       . exact putA_sound h (.p _) ha fun loc tmp lv tv hk hat => planUA_sound s _ _ _ _ _ _ _ _ _ _ _ hk hf hat
 | .al3 i r j s k3 t, ds, loc, tmp, dv, lv, tv, Z, ρ, T, w, E, h, hf, ha => by
   simp only [planUA, planOA] at h
   simp only [planU, planO]
   have he := evA_rel (n := n) (base := base) hf.g ha.loc ha.tmp
   refine ⟨?_, ?_, ?_⟩
   . have h := h.1
     cases ho : ops[i]? with
     | none => rw [ho] at h; exact h.elim
     | some o =>
       rw [ho] at h
       simp only at h ⊢
       refine grdA_sound h he (fun h => ?_) (fun h => ?_)
       . refine opV_mono (opA_sound hf.g hf.st he h) fun v w' h2 => ?_
         obtain ⟨Z', ρ', T', es, a, k1, k2, k3, k4⟩ := h2
         refine putA_sound k4 k3 (ha.step k2) fun loc tmp lv tv hk hat => ⟨Agr Z' ρ' (keepT keep T') w', ⟨agr_self (k1.keepT keep), agr_step k2 hk.1⟩, planUA_sound r _ _ _ _ _ _ _ _ _ _ _ hk.2 (hf.step k1 k2) hat⟩
       . exact putA_sound h (.p _) ha fun loc tmp lv tv hk hat => planUA_sound r _ _ _ _ _ _ _ _ _ _ _ hk hf hat
   . have h := h.2.1
     cases ho : ops[j]? with
     | none => rw [ho] at h; exact h.elim
     | some o =>
       rw [ho] at h
       simp only at h ⊢
       refine grdA_sound h he (fun h => ?_) (fun h => ?_)
       . refine opV_mono (opA_sound hf.g hf.st he h) fun v w' h2 => ?_
         obtain ⟨Z', ρ', T', es, a, k1, k2, k3, k4⟩ := h2
         refine putA_sound k4 k3 (ha.step k2) fun loc tmp lv tv hk hat => ⟨Agr Z' ρ' (keepT keep T') w', ⟨agr_self (k1.keepT keep), agr_step k2 hk.1⟩, planUA_sound s _ _ _ _ _ _ _ _ _ _ _ hk.2 (hf.step k1 k2) hat⟩
       . exact putA_sound h (.p _) ha fun loc tmp lv tv hk hat => planUA_sound s _ _ _ _ _ _ _ _ _ _ _ hk hf hat
   . have h := h.2.2
     cases ho : ops[k3]? with
     | none => rw [ho] at h; exact h.elim
     | some o =>
       rw [ho] at h
       simp only at h ⊢
       refine grdA_sound h he (fun h => ?_) (fun h => ?_)
       . refine opV_mono (opA_sound hf.g hf.st he h) fun v w' h2 => ?_
         obtain ⟨Z', ρ', T', es, a, k1, k2, k3, k4⟩ := h2
         refine putA_sound k4 k3 (ha.step k2) fun loc tmp lv tv hk hat => ⟨Agr Z' ρ' (keepT keep T') w', ⟨agr_self (k1.keepT keep), agr_step k2 hk.1⟩, planUA_sound t _ _ _ _ _ _ _ _ _ _ _ hk.2 (hf.step k1 k2) hat⟩
       . exact putA_sound h (.p _) ha fun loc tmp lv tv hk hat => planUA_sound t _ _ _ _ _ _ _ _ _ _ _ hk hf hat
theorem SemA.drawU0 {id : Nat} {ops : Array Oper} (cl : Nat) (oc : Option Nat) (keep : Nat -> Bool) (pl : PU) (hm : P.follows .mixedOrders = true)
 (hok : (Region.noSelect ops && noDefer ops && ops.toList.all (dstIn m) && pl.len == ops.size && planOKU ops cl oc pl (Array.replicate ops.size false)) = true)
 (h : planUA P G N n ops.toList oc keep ds pl loc [] T E Nk) : SemA P G N ro n m (.region id ops true) ds loc tmp T E Nk X R := by
 simp only [Bool.and_eq_true, beq_iff_eq] at hok
 obtain ⟨⟨⟨⟨h1, h0⟩, h2⟩, h3⟩, h4⟩ := hok
 intro Z0 ρ0 T0 w0 Z ρ w dv lv tv hN hf ha
 refine SemV.cleared ?_
 intro a haa Qs hQs
 refine wpIn_mono (Q := fun e a w => ∃ dv lv tv, Fits' n m dv lv tv a /\ mkQ (LK G Z0 ρ0 T0 w0 Nk) (fun i => LK G Z0 ρ0 T0 w0 (X i)) (LK G Z0 ρ0 T0 w0 R) e dv lv tv w) ?_ (fun e a w ⟨ds, loc, tmp, hf, hq⟩ => hQs _ _ _ _ _ _ hf hq)
 have hdr : Alike { w with drawn := w.drawn + 1 } w := ⟨rfl, rfl, rfl⟩
 have hf' := hf.same hdr
 subst hN
 refine wpIn_region_any hm (AnyI.any (cl := cl) (I := Agr Z ρ (keepT keep T) { w with drawn := w.drawn + 1 }) _ _ _ _ ?_)
 have := planU_any (P := P) (cl := cl) (oc := oc) (ro := ro) (Q := fun e a w => ∃ dv lv tv, Fits' n m dv lv tv a /\ mkQ (LK G Z0 ρ0 T0 w0 Nk) (fun i => LK G Z0 ρ0 T0 w0 (X i)) (LK G Z0 ρ0 T0 w0 R) e dv lv tv w) (l := ops.toList) (K := LK G Z0 ρ0 T0 w0 Nk) (by simpa using h1) (by simpa using h0) (fun c a a' w ⟨ds, loc, tmp, _, hq⟩ => hq.elim) h2 pl
  (Array.replicate ops.size false) (Agr Z ρ (keepT keep T) { w with drawn := w.drawn + 1 }) lv [] { w with drawn := w.drawn + 1 } a (planUA_sound pl ds loc [] dv lv [] Z ρ T _ E h hf' ha.clear) (by simpa using h4) (fun _ => agr_self (hf'.st.keepT keep)) haa.clear haa.size haa.defers
  (fun loc tmp w a h1 h2 h3 hk => ⟨dv, loc, tmp, ⟨⟨_, h1⟩, h2, h3⟩, hk⟩)
 rw [h3] at this
 simpa using this
theorem SemA.drawU {id : Nat} {ops : Array Oper} (L : List (Nat × AV)) (Tb : Tbl) (Ei : Eff) (cl : Nat) (keep : Nat -> Bool) (pl : PU) (hm : P.follows .mixedOrders = true)
 (hok : (Region.noSelect ops && noDefer ops && ops.toList.all (dstIn m) && pl.len == ops.size && planOKU ops cl (some cl) pl (Array.replicate ops.size false)) = true)
 (h : planUA P G N n ops.toList (some cl) keep ds pl loc [] T E (fun ds' loc' _ T' E' => SeeL G N n ds' loc' T' E' ds L Tb Ei)) (next : ∀ g tmp, Nk ds (mkA g L 0 n) tmp Tb Ei) : SemA P G N ro n m (.region id ops true) ds loc tmp T E Nk X R := by
 have h0 := SemA.drawU0 (ro := ro) (X := X) (R := R) (tmp := tmp) (id := id) cl (some cl) keep pl hm hok h
 intro Z0 ρ0 T0 w0 Z ρ w dv lv tv hN hf ha
 refine (h0 Z0 ρ0 T0 w0 Z ρ w dv lv tv hN hf ha).mono fun e dv lv tv w hq => ?_
 cases e with
 | normal =>
   obtain ⟨Z1, ρ1, T1, E1, ds1, loc1, tmp1, g1, g2, g3, g4, hv⟩ := hq
   obtain ⟨Z2, ρ2, loc2, k1, k2, k3⟩ := hv Z0 ρ0 T0 w0 Z1 ρ1 w dv lv hN g1 ⟨g2, g3, .nil⟩
   obtain ⟨g, rfl⟩ := k3.elim
   exact ⟨Z2, ρ2, Tb, Ei, ds, _, _, k1, k2.ds, k2.loc, RelT.all tv, next g _⟩
 | exit i => exact hq
 | ret => exact hq
 | _ => exact hq.elim
theorem vpu :
 (∀ (P : Program) (G : Nat -> AV) (N n : Nat) (ops : List Oper) (cl : Option Nat) (keep : Nat -> Bool) (ds : List AV) (loc : List AV) (tmp : List (Nat × AV)) (T : Tbl) (E : Eff) (K : AKont), planUA P G N n ops cl keep ds .nil loc tmp T E K = K ds loc tmp T E) /\
 (∀ (P : Program) (G : Nat -> AV) (N n : Nat) (ops : List Oper) (cl : Option Nat) (keep : Nat -> Bool) (ds : List AV) (loc : List AV) (tmp : List (Nat × AV)) (T : Tbl) (E : Eff) (K : AKont) (i : Nat) (r : PU), planUA P G N n ops cl keep ds (.st i true r) loc tmp T E K = (planOA ops ops[i]? (evA G n loc tmp)
     (fun o => rdF P (evA G n loc tmp) o.op o.type (keepT keep T) fun v => putA n o.dst v loc tmp fun loc tmp => planUA P G N n ops cl keep ds r loc tmp T E K)
     (fun o => putA n o.dst (.p undef) loc tmp fun loc tmp => planUA P G N n ops cl keep ds r loc tmp T E K))) /\
 (∀ (P : Program) (G : Nat -> AV) (N n : Nat) (ops : List Oper) (cl : Option Nat) (keep : Nat -> Bool) (ds : List AV) (loc : List AV) (tmp : List (Nat × AV)) (T : Tbl) (E : Eff) (K : AKont) (i : Nat) (r : PU), planUA P G N n ops cl keep ds (.st i false r) loc tmp T E K = (planOA ops ops[i]? (evA G n loc tmp)
     (fun o => opA P G (evA G n loc tmp) o.op o.type T fun v T' es => putA n o.dst v (slots es loc) (slotsT es tmp) fun loc tmp => (keepOK keep es = true ∨ r.isNil = true ∨ some i = cl) /\ planUA P G N n ops cl keep (slots es ds) r loc tmp T' (recE N es E) K)
     (fun o => putA n o.dst (.p undef) loc tmp fun loc tmp => planUA P G N n ops cl keep ds r loc tmp T E K))) /\
 (∀ (P : Program) (G : Nat -> AV) (N n : Nat) (ops : List Oper) (cl : Option Nat) (keep : Nat -> Bool) (ds : List AV) (loc : List AV) (tmp : List (Nat × AV)) (T : Tbl) (E : Eff) (K : AKont) (i : Nat) (r : PU) (j : Nat) (s : PU), planUA P G N n ops cl keep ds (.alt i r j s) loc tmp T E K = (planOA ops ops[i]? (evA G n loc tmp)
     (fun o => opA P G (evA G n loc tmp) o.op o.type T fun v T' es => putA n o.dst v (slots es loc) (slotsT es tmp) fun loc tmp => (keepOK keep es = true) /\ planUA P G N n ops cl keep (slots es ds) r loc tmp T' (recE N es E) K)
     (fun o => putA n o.dst (.p undef) loc tmp fun loc tmp => planUA P G N n ops cl keep ds r loc tmp T E K) /\
  planOA ops ops[j]? (evA G n loc tmp)
   (fun o => opA P G (evA G n loc tmp) o.op o.type T fun v T' es => putA n o.dst v (slots es loc) (slotsT es tmp) fun loc tmp => (keepOK keep es = true) /\ planUA P G N n ops cl keep (slots es ds) s loc tmp T' (recE N es E) K)
   (fun o => putA n o.dst (.p undef) loc tmp fun loc tmp => planUA P G N n ops cl keep ds s loc tmp T E K))) /\
  (∀ (P : Program) (G : Nat -> AV) (N n : Nat) (ops : List Oper) (cl : Option Nat) (keep : Nat -> Bool) (ds : List AV) (loc : List AV) (tmp : List (Nat × AV)) (T : Tbl) (E : Eff) (K : AKont) (i : Nat) (r : PU) (j : Nat) (s : PU) (k : Nat) (t : PU), planUA P G N n ops cl keep ds (.al3 i r j s k t) loc tmp T E K = (planOA ops ops[i]? (evA G n loc tmp)
   (fun o => opA P G (evA G n loc tmp) o.op o.type T fun v T' es => putA n o.dst v (slots es loc) (slotsT es tmp) fun loc tmp => (keepOK keep es = true) /\ planUA P G N n ops cl keep (slots es ds) r loc tmp T' (recE N es E) K)
   (fun o => putA n o.dst (.p undef) loc tmp fun loc tmp => planUA P G N n ops cl keep ds r loc tmp T E K) /\
  planOA ops ops[j]? (evA G n loc tmp)
   (fun o => opA P G (evA G n loc tmp) o.op o.type T fun v T' es => putA n o.dst v (slots es loc) (slotsT es tmp) fun loc tmp => (keepOK keep es = true) /\ planUA P G N n ops cl keep (slots es ds) s loc tmp T' (recE N es E) K)
   (fun o => putA n o.dst (.p undef) loc tmp fun loc tmp => planUA P G N n ops cl keep ds s loc tmp T E K) /\
  planOA ops ops[k]? (evA G n loc tmp)
   (fun o => opA P G (evA G n loc tmp) o.op o.type T fun v T' es => putA n o.dst v (slots es loc) (slotsT es tmp) fun loc tmp => (keepOK keep es = true) /\ planUA P G N n ops cl keep (slots es ds) t loc tmp T' (recE N es E) K)
   (fun o => putA n o.dst (.p undef) loc tmp fun loc tmp => planUA P G N n ops cl keep ds t loc tmp T E K))) /\ (PU.nil.isNil = true) /\ (∀ i b r, (PU.st i b r).isNil = false) /\ (∀ i r j s, (PU.alt i r j s).isNil = false) /\ (∀ i r j s k t, (PU.al3 i r j s k t).isNil = false) :=
 ⟨fun _ _ _ _ _ _ _ _ _ _ _ _ _ => rfl, fun _ _ _ _ _ _ _ _ _ _ _ _ _ _ _ => rfl, fun _ _ _ _ _ _ _ _ _ _ _ _ _ _ _ => rfl, fun _ _ _ _ _ _ _ _ _ _ _ _ _ _ _ _ _ => rfl, fun _ _ _ _ _ _ _ _ _ _ _ _ _ _ _ _ _ _ _ => rfl, rfl, fun _ _ _ => rfl, fun _ _ _ _ => rfl, fun _ _ _ _ _ _ => rfl⟩
end
end Go.E
namespace Go.E
section
variable {P : Program} {t : TypeId}
end
end Go.E
namespace Go.E
section
variable {P : Program} {G : Nat -> AV} {Z Z' Z0 : Heap} {ρ ρ' ρ0 : List BI} {T T' T0 : Tbl} {w w' w0 : World} {a b : AV} {u v : Value} {K : AV -> Tbl -> Eff -> Prop} {cs : List AV} {es E : Eff}
variable {N n m : Nat} {ro : Option Nat} {ds loc : List AV} {tmp : List (Nat × AV)} {Nk R : AKont} {X : Nat -> AKont}
def CtD {σ : Type} (N n : Nat) (k : σ -> Nat) (D : σ -> List AV) (L : σ -> List (Nat × AV)) (Tb : σ -> Tbl) (Q : σ -> Prop) (Ei : Eff) : AKont := fun ds' loc' _ T' E' =>
 ∃ s, Q s /\ N <= k s /\ ds'.map (AV.wo (k s <= ·)) = D s /\ Lc n (L s) (loc'.map (AV.wo (k s <= ·))) /\ (T'.take (k s)).map (AObj.wo (k s <= ·)) = Tb s /\ subE E' Ei
section
variable {σ τ : Type} {k : σ -> Nat} {D : σ -> List AV} {L : σ -> List (Nat × AV)} {Tb : σ -> Tbl} {Q : σ -> Prop} {Ei : Eff}
theorem CtD.elim {dv : List Nat} {lv : List Value} {tv : List (Nat × Value)} (h : LK G Z0 ρ0 T0 w0 (CtD ρ0.length n k D L Tb Q Ei) dv lv tv w) :
 ∃ s loc Z ρ, Q s /\ Lc n (L s) loc /\ Frm G Z0 ρ0 T0 w0 Z ρ (Tb s) w Ei /\ At Z ρ (D s) loc (tv.map fun p => (p.1, AV.p p.2)) dv lv tv := by
 obtain ⟨Z, ρ, T, E, ds, loc, tmp, hf, h1, h2, h3, s, hs, hk, hd, hl, ht, hE⟩ := h
 have hc := (hf.more hE).cut (k s) hk
 have hw := (hf.st.cut (k s)).2
 rw [ht] at hc
 exact ⟨s, _, Z, _, hs, hl, hc, ⟨hd ▸ h1.wo hw, h2.wo hw, RelT.all tv⟩⟩
theorem SemA.loopD {c : Code} (k : σ -> Nat) (D : σ -> List AV) (L : σ -> List (Nat × AV)) (Tb : σ -> Tbl) (Q : σ -> Prop) (μ : σ -> Nat) (s0 : σ) (Ei : Eff) (xi : Nat) (ke : τ -> Nat) (De : τ -> List AV) (Le : τ -> List (Nat × AV)) (Te : τ -> Tbl) (Qe : τ -> Prop) (hQ : Q s0) (hD : ds = D s0) (hL : Lc n (L s0) loc) (hT : T = Tb s0) (hE : ∀ x ∈ E, x ∈ Ei)
 (round : ∀ s g, Q s -> SemA P G N ro n m c (D s) (mkA g (L s) 0 n) [] (Tb s) Ei (CtD N n k D L Tb (fun s' => Q s' /\ μ s' < μ s) Ei) (fun j => if j = xi then CtD N n ke De Le Te Qe Ei else X j) R)
 (exit : ∀ s g tmp, Qe s -> X xi (De s) (mkA g (Le s) 0 n) tmp (Te s) Ei) : SemA P G N ro n m (.loop c) ds loc [] T E Nk X R := by
 intro Z0 ρ0 T0 w0 Z ρ w dv lv tv hN hf ha a haa Qs hQs
 subst hN
 refine wpIn_loop_ghost (fun k a w => ∃ (Z : Heap) (ρ : List BI) (s : σ) (loc : List AV) (dv : List Nat) (lv : List Value) (tv : List (Nat × Value)), Fits' n m dv lv tv a /\ Frm G Z0 ρ0 T0 w0 Z ρ (Tb s) w Ei /\ At Z ρ (D s) loc [] dv lv [] /\ (Q s /\ Lc n (L s) loc) /\ μ s = k)
  (μ s0) ⟨Z, ρ, s0, loc, dv, lv, tv, haa, hT ▸ hf.more hE, hD ▸ ha.clear, ⟨hQ, hL⟩, rfl⟩ ?_
 rintro k' a w ⟨Z, ρ, s, loc, dv, lv, tv, haa, hf, hat, ⟨hI, hL⟩, rfl⟩
 obtain ⟨g, rfl⟩ := hL.elim
 have hr := round s g hI Z0 ρ0 T0 w0 Z ρ w dv lv [] rfl hf hat
 refine hr a haa.cleared _ fun e dv' lv' tv' w' a' haa' hq => ?_
 cases e with
 | normal =>
   obtain ⟨s', loc', Z', ρ', ⟨h1, h2⟩, hl', h3, h4⟩ := CtD.elim hq
   exact ⟨_, h2, Z', ρ', s', _, dv', lv', tv', haa', h3, ⟨h4.ds, h4.loc, .nil⟩, ⟨h1, hl'⟩, rfl⟩
 | exit i =>
   simp only [mkQ] at hq
   split at hq
   . rename_i hi; subst hi
     obtain ⟨s', loc', Z', ρ', h1, hl', h3, h4⟩ := CtD.elim hq
     obtain ⟨g', rfl⟩ := hl'.elim
     exact hQs (.exit _) _ _ _ _ _ haa' ⟨Z', ρ', _, _, _, _, _, h3, h4.ds, h4.loc, h4.tmp, exit s' g' _ h1⟩
   . exact hQs (.exit i) _ _ _ _ _ haa' hq
 | ret => exact hQs .ret _ _ _ _ _ haa' hq
 | _ => exact hq.elim
end
theorem Vw.keep {v : AV} (keep : Nat -> Bool) (hk : ∀ i, i < T0.length -> keep i = true) (h : Vw G T0 K v (keepT keep T) E) : Vw G T0 K v T E := by
 intro Z0 ρ0 w0 Z ρ w x hs hf hr
 refine h Z0 ρ0 w0 Z ρ w x hs ⟨hf.g, hf.st.keepT keep, ⟨hf.ext.le, hf.ext.place, fun i y o b h1 h2 h3 h4 h5 => ?_⟩⟩ hr
 obtain ⟨g1, o', g2, g3⟩ := hf.ext.same i y o b h1 h2 h3 h4 h5
 have hi : i < T0.length := by rw [<- hs.len]; exact (List.getElem?_eq_some_iff.1 h3).1
 exact ⟨g1, o', by rw [keepT_get, g2]; simp only [Option.map_some, keepO, hk i hi], g3⟩
def retM (N : Nat) (P : Program) (rs : List ResultVar) (K : AV -> Tbl -> Eff -> Prop) : AKont := fun ds loc _ T E => match ds with
 | [] => resA P rs loc T fun v => K v T E
 | ds => ∃ n0, N <= n0 /\ (∀ a ∈ ds, ∃ i, a = .ptr i 0 /\ n0 <= i /\ T[i]? = some (.raw (.deferred (some [])))) /\ ds.Nodup /\ ∀ T', T'.length = T.length -> T'.take n0 = T.take n0 -> resA P rs loc T' fun v => K v T' E
theorem retMs_sound {fn : Func} (hn : rsLt n fn.results.toList = true) {n0 : Nat} (h0 : ρ0.length <= n0) : ∀ (ds : List AV) {Z : Heap} {ρ : List BI} {T : Tbl} {w : World} {dv : List Nat} {lv : List Value}, Frm G Z0 ρ0 T0 w0 Z ρ T w E -> RelL Z ρ ds (dv.map fun b => .pointer (some ⟨b, 0, none⟩)) -> RelL Z ρ loc lv ->
 (∀ a ∈ ds, ∃ i, a = .ptr i 0 /\ n0 <= i /\ T[i]? = some (.raw (.deferred (some [])))) -> ds.Nodup -> (∀ T', T'.length = T.length -> T'.take n0 = T.take n0 -> resA P fn.results.toList loc T' fun v => K v T' E) ->
 ResP P fn n (Post Z0 ρ0 T0 w0 K) dv lv w
 | [], Z, ρ, T, w, dv, lv, hf, hd, hl, hm, hnd, h => by
   have hdv : dv = [] := by have := hd.unnil; simpa using this
   subst hdv
   exact resA_sound hf hl hn (h T rfl rfl)
 | d :: ds, Z, ρ, T, w, dv, lv, hf, hd, hl, hm, hnd, h => by
   obtain ⟨i, rfl, hi0, hT⟩ := hm d (by simp)
   obtain ⟨v, us, hv, hr, hrs⟩ := hd.uncons
   obtain ⟨b, dv', rfl, rfl, rfl⟩ : ∃ b dv', dv = b :: dv' /\ v = .pointer (some ⟨b, 0, none⟩) /\ us = dv'.map fun b => .pointer (some ⟨b, 0, none⟩) := by
    cases dv with
    | nil => cases hv
    | cons b r => simp at hv; exact ⟨b, r, rfl, hv.1.symm, hv.2.symm⟩
   cases hr with
   | @ptr _ _ _ _ x hx hb =>
   obtain ⟨b', g1, g2⟩ := hf.st.obj _ _ _ hT hx
   rw [hb] at g1; cases g1
   have hb' : b < w.heap.size := (Array.getElem?_eq_some_iff.1 g2).1
   refine ⟨_, run_takeDeferred g2, ?_⟩
   obtain ⟨k1, k2⟩ := hf.st.write (w' := w.putObj b (.deferred none)) hT hx rfl (.raw (.deferred none)) rfl (fun k hk => World.putObj_heap_other fun e => hk (by rw [e]; exact hb)) ⟨rfl, rfl⟩ ⟨b, hb, World.putObj_heap_same hb'⟩
   have hf' := hf.step k1 k2
   have hE : Frm G Z0 ρ0 T0 w0 Z ρ (T.set i (.raw (.deferred none))) (w.putObj b (.deferred none)) E := ⟨hf'.g, hf'.st, hf'.ext.more fun x hx hl => by
    rcases recE_mem.1 hx with ⟨h1, _⟩ | h1
    . simp at h1; rw [h1] at hl; simp only at hl; omega
    . exact h1⟩
   obtain ⟨hnd1, hnd2⟩ := List.nodup_cons.1 hnd
   refine retMs_sound hn h0 ds hE hrs hl (fun a ha => ?_) hnd2 fun T' h1 h2 => h T' (by rw [h1, List.length_set]) (by rw [h2, List.take_set_of_le hi0])
   obtain ⟨j, rfl, hj0, hj⟩ := hm a (by simp [ha])
   exact ⟨j, rfl, hj0, by rw [List.getElem?_set_ne (fun e => hnd1 (by rw [e]; exact ha))]; exact hj⟩
theorem retM_sound {fn : Func} (hf : Frm G Z0 ρ0 T0 w0 Z ρ T w E) {dv : List Nat} {lv : List Value} (hd : RelL Z ρ ds (dv.map fun b => .pointer (some ⟨b, 0, none⟩))) (hl : RelL Z ρ loc lv) (hn : rsLt n fn.results.toList = true) (h : retM ρ0.length P fn.results.toList K ds loc tmp T E) :
 ResP P fn n (Post Z0 ρ0 T0 w0 K) dv lv w := by
 unfold retM at h
 split at h
 . have hdv : dv = [] := by have := hd.unnil; simpa using this
   subst hdv
   exact resA_sound hf hl hn h
 . obtain ⟨n0, h0, h1, h2, h3⟩ := h
   exact retMs_sound hn h0 _ hf hd hl h1 h2 h3
theorem vrm (N : Nat) (P : Program) (rs : List ResultVar) (K : AV -> Tbl -> Eff -> Prop) (loc : List AV) (tmp : List (Nat × AV)) (T : Tbl) (E : Eff) : retM N P rs K [] loc tmp T E = resA P rs loc T fun v => K v T E := rfl
theorem _root_.Go.E.sqax {P Q : Prop} (q : Q) (h : Q -> P := by intro q; simp -dsimp +decide only [v5q, ↓reduceIte, Nat.reduceSub, Nat.reduceAdd, Nat.reduceMul, Nat.reduceLT, Int.reduceAdd, Int.reduceSub, Int.reduceToNat, ci]; exact q) : P := h q
theorem _root_.Go.E.sqay {P Q : Prop} (q : Q) (h : Q -> P := by intro q; simp -dsimp +decide (disch := omega) only [v5q, ↓reduceIte, Nat.reduceSub, Nat.reduceAdd, Nat.reduceMul, Nat.reduceLT, Int.reduceAdd, Int.reduceSub, Int.reduceToNat, v4q]; exact q) : P := h q
theorem _root_.Go.E.sqaz {P Q : Prop} (q : Q) (h : Q -> P := by intro q; simp -dsimp +decide (disch := omega) only [v5q, ↓reduceIte, Nat.reduceSub, Nat.reduceAdd, Nat.reduceMul, Nat.reduceLT, Int.reduceAdd, Int.reduceSub, Int.reduceToNat, v2q]; exact q) : P := h q
theorem _root_.Go.E.sqbx {P Q : Prop} (q : Q) (h : Q -> P := by intro q; simp -dsimp +decide only [v1q, ↓reduceIte, Nat.reduceSub, Nat.reduceAdd, Nat.reduceMul, Nat.reduceLT, Int.reduceAdd, Int.reduceSub, Int.reduceToNat, ci]; exact q) : P := h q
theorem _root_.Go.E.sqby {P Q : Prop} (q : Q) (h : Q -> P := by intro q; simp -dsimp +decide (disch := omega) only [v1q, ↓reduceIte, Nat.reduceSub, Nat.reduceAdd, Nat.reduceMul, Nat.reduceLT, Int.reduceAdd, Int.reduceSub, Int.reduceToNat, v4q]; exact q) : P := h q
theorem _root_.Go.E.sqbz {P Q : Prop} (q : Q) (h : Q -> P := by intro q; simp -dsimp +decide (disch := omega) only [v1q, ↓reduceIte, Nat.reduceSub, Nat.reduceAdd, Nat.reduceMul, Nat.reduceLT, Int.reduceAdd, Int.reduceSub, Int.reduceToNat, v2q]; exact q) : P := h q
theorem _root_.Go.E.sqcx {P Q : Prop} (q : Q) (h : Q -> P := by intro q; simp -dsimp +decide only [vt2, v1q, ↓reduceIte, Nat.reduceSub, Nat.reduceAdd, Nat.reduceMul, Nat.reduceLT, Int.reduceAdd, Int.reduceSub, Int.reduceToNat, ci]; exact q) : P := h q
theorem _root_.Go.E.sqcy {P Q : Prop} (q : Q) (h : Q -> P := by intro q; simp -dsimp +decide (disch := omega) only [vt2, v1q, ↓reduceIte, Nat.reduceSub, Nat.reduceAdd, Nat.reduceMul, Nat.reduceLT, Int.reduceAdd, Int.reduceSub, Int.reduceToNat, v4q]; exact q) : P := h q
theorem _root_.Go.E.sqcz {P Q : Prop} (q : Q) (h : Q -> P := by intro q; simp -dsimp +decide (disch := omega) only [vt2, v1q, ↓reduceIte, Nat.reduceSub, Nat.reduceAdd, Nat.reduceMul, Nat.reduceLT, Int.reduceAdd, Int.reduceSub, Int.reduceToNat, v2q]; exact q) : P := h q
theorem _root_.Go.E.sqdx {P Q : Prop} (q : Q) (h : Q -> P := by intro q; simp -dsimp +decide only [vsk, v5q, ↓reduceIte, Nat.reduceSub, Nat.reduceAdd, Nat.reduceMul, Nat.reduceLT, Int.reduceAdd, Int.reduceSub, Int.reduceToNat, ci]; exact q) : P := h q
theorem _root_.Go.E.sqdz {P Q : Prop} (q : Q) (h : Q -> P := by intro q; simp -dsimp +decide (disch := omega) only [vsk, v5q, ↓reduceIte, Nat.reduceSub, Nat.reduceAdd, Nat.reduceMul, Nat.reduceLT, Int.reduceAdd, Int.reduceSub, Int.reduceToNat, v2q]; exact q) : P := h q
theorem _root_.Go.E.tqax {R P Q : Prop} (r : R) (q : Q) (h : R -> Q -> P := by intro r q; simp -dsimp +decide only [v5q, ↓reduceIte, Nat.reduceSub, Nat.reduceAdd, Nat.reduceMul, Nat.reduceLT, Int.reduceAdd, Int.reduceSub, Int.reduceToNat, ci, r]; exact q) : P := h r q
theorem _root_.Go.E.tqay {R P Q : Prop} (r : R) (q : Q) (h : R -> Q -> P := by intro r q; simp -dsimp +decide (disch := omega) only [v5q, ↓reduceIte, Nat.reduceSub, Nat.reduceAdd, Nat.reduceMul, Nat.reduceLT, Int.reduceAdd, Int.reduceSub, Int.reduceToNat, v4q, r]; exact q) : P := h r q
theorem _root_.Go.E.tqaz {R P Q : Prop} (r : R) (q : Q) (h : R -> Q -> P := by intro r q; simp -dsimp +decide (disch := omega) only [v5q, ↓reduceIte, Nat.reduceSub, Nat.reduceAdd, Nat.reduceMul, Nat.reduceLT, Int.reduceAdd, Int.reduceSub, Int.reduceToNat, v2q, r]; exact q) : P := h r q
theorem _root_.Go.E.tqbx {R P Q : Prop} (r : R) (q : Q) (h : R -> Q -> P := by intro r q; simp -dsimp +decide only [v1q, ↓reduceIte, Nat.reduceSub, Nat.reduceAdd, Nat.reduceMul, Nat.reduceLT, Int.reduceAdd, Int.reduceSub, Int.reduceToNat, ci, r]; exact q) : P := h r q
theorem _root_.Go.E.tqby {R P Q : Prop} (r : R) (q : Q) (h : R -> Q -> P := by intro r q; simp -dsimp +decide (disch := omega) only [v1q, ↓reduceIte, Nat.reduceSub, Nat.reduceAdd, Nat.reduceMul, Nat.reduceLT, Int.reduceAdd, Int.reduceSub, Int.reduceToNat, v4q, r]; exact q) : P := h r q
theorem _root_.Go.E.tqbz {R P Q : Prop} (r : R) (q : Q) (h : R -> Q -> P := by intro r q; simp -dsimp +decide (disch := omega) only [v1q, ↓reduceIte, Nat.reduceSub, Nat.reduceAdd, Nat.reduceMul, Nat.reduceLT, Int.reduceAdd, Int.reduceSub, Int.reduceToNat, v2q, r]; exact q) : P := h r q
theorem _root_.Go.E.tqcx {R P Q : Prop} (r : R) (q : Q) (h : R -> Q -> P := by intro r q; simp -dsimp +decide only [vt2, v1q, ↓reduceIte, Nat.reduceSub, Nat.reduceAdd, Nat.reduceMul, Nat.reduceLT, Int.reduceAdd, Int.reduceSub, Int.reduceToNat, ci, r]; exact q) : P := h r q
theorem _root_.Go.E.tqcy {R P Q : Prop} (r : R) (q : Q) (h : R -> Q -> P := by intro r q; simp -dsimp +decide (disch := omega) only [vt2, v1q, ↓reduceIte, Nat.reduceSub, Nat.reduceAdd, Nat.reduceMul, Nat.reduceLT, Int.reduceAdd, Int.reduceSub, Int.reduceToNat, v4q, r]; exact q) : P := h r q
theorem _root_.Go.E.tqcz {R P Q : Prop} (r : R) (q : Q) (h : R -> Q -> P := by intro r q; simp -dsimp +decide (disch := omega) only [vt2, v1q, ↓reduceIte, Nat.reduceSub, Nat.reduceAdd, Nat.reduceMul, Nat.reduceLT, Int.reduceAdd, Int.reduceSub, Int.reduceToNat, v2q, r]; exact q) : P := h r q
theorem _root_.Go.E.tqdx {R P Q : Prop} (r : R) (q : Q) (h : R -> Q -> P := by intro r q; simp -dsimp +decide only [vsk, v5q, ↓reduceIte, Nat.reduceSub, Nat.reduceAdd, Nat.reduceMul, Nat.reduceLT, Int.reduceAdd, Int.reduceSub, Int.reduceToNat, ci, r]; exact q) : P := h r q
theorem _root_.Go.E.tqdz {R P Q : Prop} (r : R) (q : Q) (h : R -> Q -> P := by intro r q; simp -dsimp +decide (disch := omega) only [vsk, v5q, ↓reduceIte, Nat.reduceSub, Nat.reduceAdd, Nat.reduceMul, Nat.reduceLT, Int.reduceAdd, Int.reduceSub, Int.reduceToNat, v2q, r]; exact q) : P := h r q
theorem _root_.Go.E.tqey {R P Q : Prop} (r : R) (q : Q) (h : R -> Q -> P := by intro r q; simp -dsimp +decide (disch := omega) only [vrm, vt2, v1q, ↓reduceIte, Nat.reduceSub, Nat.reduceAdd, Nat.reduceMul, Nat.reduceLT, Int.reduceAdd, Int.reduceSub, Int.reduceToNat, v4q, r]; exact q) : P := h r q
theorem _root_.Go.E.tqez {R P Q : Prop} (r : R) (q : Q) (h : R -> Q -> P := by intro r q; simp -dsimp +decide (disch := omega) only [vrm, vt2, v1q, ↓reduceIte, Nat.reduceSub, Nat.reduceAdd, Nat.reduceMul, Nat.reduceLT, Int.reduceAdd, Int.reduceSub, Int.reduceToNat, v2q, r]; exact q) : P := h r q
theorem _root_.Go.E.cj2 {A0 A1 : Prop} (x0 : A0) (x1 : A1) : A0 /\ A1 := And.intro x0 x1
theorem _root_.Go.E.cj3 {A0 A1 A2 : Prop} (x0 : A0) (x1 : A1) (x2 : A2) : A0 /\ A1 /\ A2 := And.intro x0 (And.intro x1 x2)
theorem _root_.Go.E.cj4 {A0 A1 A2 A3 : Prop} (x0 : A0) (x1 : A1) (x2 : A2) (x3 : A3) : A0 /\ A1 /\ A2 /\ A3 := And.intro x0 (And.intro x1 (And.intro x2 x3))
theorem _root_.Go.E.cj5 {A0 A1 A2 A3 A4 : Prop} (x0 : A0) (x1 : A1) (x2 : A2) (x3 : A3) (x4 : A4) : A0 /\ A1 /\ A2 /\ A3 /\ A4 := And.intro x0 (And.intro x1 (And.intro x2 (And.intro x3 x4)))
theorem _root_.Go.E.cj6 {A0 A1 A2 A3 A4 A5 : Prop} (x0 : A0) (x1 : A1) (x2 : A2) (x3 : A3) (x4 : A4) (x5 : A5) : A0 /\ A1 /\ A2 /\ A3 /\ A4 /\ A5 := And.intro x0 (And.intro x1 (And.intro x2 (And.intro x3 (And.intro x4 x5))))
theorem _root_.Go.E.cj7 {A0 A1 A2 A3 A4 A5 A6 : Prop} (x0 : A0) (x1 : A1) (x2 : A2) (x3 : A3) (x4 : A4) (x5 : A5) (x6 : A6) : A0 /\ A1 /\ A2 /\ A3 /\ A4 /\ A5 /\ A6 := And.intro x0 (And.intro x1 (And.intro x2 (And.intro x3 (And.intro x4 (And.intro x5 x6)))))
theorem _root_.Go.E.cj8 {A0 A1 A2 A3 A4 A5 A6 A7 : Prop} (x0 : A0) (x1 : A1) (x2 : A2) (x3 : A3) (x4 : A4) (x5 : A5) (x6 : A6) (x7 : A7) : A0 /\ A1 /\ A2 /\ A3 /\ A4 /\ A5 /\ A6 /\ A7 := And.intro x0 (And.intro x1 (And.intro x2 (And.intro x3 (And.intro x4 (And.intro x5 (And.intro x6 x7))))))
theorem _root_.Go.E.cj9 {A0 A1 A2 A3 A4 A5 A6 A7 A8 : Prop} (x0 : A0) (x1 : A1) (x2 : A2) (x3 : A3) (x4 : A4) (x5 : A5) (x6 : A6) (x7 : A7) (x8 : A8) : A0 /\ A1 /\ A2 /\ A3 /\ A4 /\ A5 /\ A6 /\ A7 /\ A8 := And.intro x0 (And.intro x1 (And.intro x2 (And.intro x3 (And.intro x4 (And.intro x5 (And.intro x6 (And.intro x7 x8)))))))
theorem _root_.Go.E.cj10 {A0 A1 A2 A3 A4 A5 A6 A7 A8 A9 : Prop} (x0 : A0) (x1 : A1) (x2 : A2) (x3 : A3) (x4 : A4) (x5 : A5) (x6 : A6) (x7 : A7) (x8 : A8) (x9 : A9) : A0 /\ A1 /\ A2 /\ A3 /\ A4 /\ A5 /\ A6 /\ A7 /\ A8 /\ A9 := And.intro x0 (And.intro x1 (And.intro x2 (And.intro x3 (And.intro x4 (And.intro x5 (And.intro x6 (And.intro x7 (And.intro x8 x9))))))))
theorem _root_.Go.E.cj11 {A0 A1 A2 A3 A4 A5 A6 A7 A8 A9 A10 : Prop} (x0 : A0) (x1 : A1) (x2 : A2) (x3 : A3) (x4 : A4) (x5 : A5) (x6 : A6) (x7 : A7) (x8 : A8) (x9 : A9) (x10 : A10) : A0 /\ A1 /\ A2 /\ A3 /\ A4 /\ A5 /\ A6 /\ A7 /\ A8 /\ A9 /\ A10 := And.intro x0 (And.intro x1 (And.intro x2 (And.intro x3 (And.intro x4 (And.intro x5 (And.intro x6 (And.intro x7 (And.intro x8 (And.intro x9 x10)))))))))
theorem _root_.Go.E.cj12 {A0 A1 A2 A3 A4 A5 A6 A7 A8 A9 A10 A11 : Prop} (x0 : A0) (x1 : A1) (x2 : A2) (x3 : A3) (x4 : A4) (x5 : A5) (x6 : A6) (x7 : A7) (x8 : A8) (x9 : A9) (x10 : A10) (x11 : A11) : A0 /\ A1 /\ A2 /\ A3 /\ A4 /\ A5 /\ A6 /\ A7 /\ A8 /\ A9 /\ A10 /\ A11 := And.intro x0 (And.intro x1 (And.intro x2 (And.intro x3 (And.intro x4 (And.intro x5 (And.intro x6 (And.intro x7 (And.intro x8 (And.intro x9 (And.intro x10 x11))))))))))
theorem _root_.Go.E.cj13 {A0 A1 A2 A3 A4 A5 A6 A7 A8 A9 A10 A11 A12 : Prop} (x0 : A0) (x1 : A1) (x2 : A2) (x3 : A3) (x4 : A4) (x5 : A5) (x6 : A6) (x7 : A7) (x8 : A8) (x9 : A9) (x10 : A10) (x11 : A11) (x12 : A12) : A0 /\ A1 /\ A2 /\ A3 /\ A4 /\ A5 /\ A6 /\ A7 /\ A8 /\ A9 /\ A10 /\ A11 /\ A12 := And.intro x0 (And.intro x1 (And.intro x2 (And.intro x3 (And.intro x4 (And.intro x5 (And.intro x6 (And.intro x7 (And.intro x8 (And.intro x9 (And.intro x10 (And.intro x11 x12)))))))))))
theorem _root_.Go.E.cj14 {A0 A1 A2 A3 A4 A5 A6 A7 A8 A9 A10 A11 A12 A13 : Prop} (x0 : A0) (x1 : A1) (x2 : A2) (x3 : A3) (x4 : A4) (x5 : A5) (x6 : A6) (x7 : A7) (x8 : A8) (x9 : A9) (x10 : A10) (x11 : A11) (x12 : A12) (x13 : A13) : A0 /\ A1 /\ A2 /\ A3 /\ A4 /\ A5 /\ A6 /\ A7 /\ A8 /\ A9 /\ A10 /\ A11 /\ A12 /\ A13 := And.intro x0 (And.intro x1 (And.intro x2 (And.intro x3 (And.intro x4 (And.intro x5 (And.intro x6 (And.intro x7 (And.intro x8 (And.intro x9 (And.intro x10 (And.intro x11 (And.intro x12 x13))))))))))))
theorem _root_.Go.E.cj15 {A0 A1 A2 A3 A4 A5 A6 A7 A8 A9 A10 A11 A12 A13 A14 : Prop} (x0 : A0) (x1 : A1) (x2 : A2) (x3 : A3) (x4 : A4) (x5 : A5) (x6 : A6) (x7 : A7) (x8 : A8) (x9 : A9) (x10 : A10) (x11 : A11) (x12 : A12) (x13 : A13) (x14 : A14) : A0 /\ A1 /\ A2 /\ A3 /\ A4 /\ A5 /\ A6 /\ A7 /\ A8 /\ A9 /\ A10 /\ A11 /\ A12 /\ A13 /\ A14 := And.intro x0 (And.intro x1 (And.intro x2 (And.intro x3 (And.intro x4 (And.intro x5 (And.intro x6 (And.intro x7 (And.intro x8 (And.intro x9 (And.intro x10 (And.intro x11 (And.intro x12 (And.intro x13 x14)))))))))))))
theorem _root_.Go.E.cj16 {A0 A1 A2 A3 A4 A5 A6 A7 A8 A9 A10 A11 A12 A13 A14 A15 : Prop} (x0 : A0) (x1 : A1) (x2 : A2) (x3 : A3) (x4 : A4) (x5 : A5) (x6 : A6) (x7 : A7) (x8 : A8) (x9 : A9) (x10 : A10) (x11 : A11) (x12 : A12) (x13 : A13) (x14 : A14) (x15 : A15) : A0 /\ A1 /\ A2 /\ A3 /\ A4 /\ A5 /\ A6 /\ A7 /\ A8 /\ A9 /\ A10 /\ A11 /\ A12 /\ A13 /\ A14 /\ A15 := And.intro x0 (And.intro x1 (And.intro x2 (And.intro x3 (And.intro x4 (And.intro x5 (And.intro x6 (And.intro x7 (And.intro x8 (And.intro x9 (And.intro x10 (And.intro x11 (And.intro x12 (And.intro x13 (And.intro x14 x15))))))))))))))
theorem _root_.Go.E.cj17 {A0 A1 A2 A3 A4 A5 A6 A7 A8 A9 A10 A11 A12 A13 A14 A15 A16 : Prop} (x0 : A0) (x1 : A1) (x2 : A2) (x3 : A3) (x4 : A4) (x5 : A5) (x6 : A6) (x7 : A7) (x8 : A8) (x9 : A9) (x10 : A10) (x11 : A11) (x12 : A12) (x13 : A13) (x14 : A14) (x15 : A15) (x16 : A16) : A0 /\ A1 /\ A2 /\ A3 /\ A4 /\ A5 /\ A6 /\ A7 /\ A8 /\ A9 /\ A10 /\ A11 /\ A12 /\ A13 /\ A14 /\ A15 /\ A16 := And.intro x0 (And.intro x1 (And.intro x2 (And.intro x3 (And.intro x4 (And.intro x5 (And.intro x6 (And.intro x7 (And.intro x8 (And.intro x9 (And.intro x10 (And.intro x11 (And.intro x12 (And.intro x13 (And.intro x14 (And.intro x15 x16)))))))))))))))
theorem _root_.Go.E.cj18 {A0 A1 A2 A3 A4 A5 A6 A7 A8 A9 A10 A11 A12 A13 A14 A15 A16 A17 : Prop} (x0 : A0) (x1 : A1) (x2 : A2) (x3 : A3) (x4 : A4) (x5 : A5) (x6 : A6) (x7 : A7) (x8 : A8) (x9 : A9) (x10 : A10) (x11 : A11) (x12 : A12) (x13 : A13) (x14 : A14) (x15 : A15) (x16 : A16) (x17 : A17) : A0 /\ A1 /\ A2 /\ A3 /\ A4 /\ A5 /\ A6 /\ A7 /\ A8 /\ A9 /\ A10 /\ A11 /\ A12 /\ A13 /\ A14 /\ A15 /\ A16 /\ A17 := And.intro x0 (And.intro x1 (And.intro x2 (And.intro x3 (And.intro x4 (And.intro x5 (And.intro x6 (And.intro x7 (And.intro x8 (And.intro x9 (And.intro x10 (And.intro x11 (And.intro x12 (And.intro x13 (And.intro x14 (And.intro x15 (And.intro x16 x17))))))))))))))))
theorem _root_.Go.E.cj19 {A0 A1 A2 A3 A4 A5 A6 A7 A8 A9 A10 A11 A12 A13 A14 A15 A16 A17 A18 : Prop} (x0 : A0) (x1 : A1) (x2 : A2) (x3 : A3) (x4 : A4) (x5 : A5) (x6 : A6) (x7 : A7) (x8 : A8) (x9 : A9) (x10 : A10) (x11 : A11) (x12 : A12) (x13 : A13) (x14 : A14) (x15 : A15) (x16 : A16) (x17 : A17) (x18 : A18) : A0 /\ A1 /\ A2 /\ A3 /\ A4 /\ A5 /\ A6 /\ A7 /\ A8 /\ A9 /\ A10 /\ A11 /\ A12 /\ A13 /\ A14 /\ A15 /\ A16 /\ A17 /\ A18 := And.intro x0 (And.intro x1 (And.intro x2 (And.intro x3 (And.intro x4 (And.intro x5 (And.intro x6 (And.intro x7 (And.intro x8 (And.intro x9 (And.intro x10 (And.intro x11 (And.intro x12 (And.intro x13 (And.intro x14 (And.intro x15 (And.intro x16 (And.intro x17 x18)))))))))))))))))
theorem _root_.Go.E.cj20 {A0 A1 A2 A3 A4 A5 A6 A7 A8 A9 A10 A11 A12 A13 A14 A15 A16 A17 A18 A19 : Prop} (x0 : A0) (x1 : A1) (x2 : A2) (x3 : A3) (x4 : A4) (x5 : A5) (x6 : A6) (x7 : A7) (x8 : A8) (x9 : A9) (x10 : A10) (x11 : A11) (x12 : A12) (x13 : A13) (x14 : A14) (x15 : A15) (x16 : A16) (x17 : A17) (x18 : A18) (x19 : A19) : A0 /\ A1 /\ A2 /\ A3 /\ A4 /\ A5 /\ A6 /\ A7 /\ A8 /\ A9 /\ A10 /\ A11 /\ A12 /\ A13 /\ A14 /\ A15 /\ A16 /\ A17 /\ A18 /\ A19 := And.intro x0 (And.intro x1 (And.intro x2 (And.intro x3 (And.intro x4 (And.intro x5 (And.intro x6 (And.intro x7 (And.intro x8 (And.intro x9 (And.intro x10 (And.intro x11 (And.intro x12 (And.intro x13 (And.intro x14 (And.intro x15 (And.intro x16 (And.intro x17 (And.intro x18 x19))))))))))))))))))
theorem _root_.Go.E.cj21 {A0 A1 A2 A3 A4 A5 A6 A7 A8 A9 A10 A11 A12 A13 A14 A15 A16 A17 A18 A19 A20 : Prop} (x0 : A0) (x1 : A1) (x2 : A2) (x3 : A3) (x4 : A4) (x5 : A5) (x6 : A6) (x7 : A7) (x8 : A8) (x9 : A9) (x10 : A10) (x11 : A11) (x12 : A12) (x13 : A13) (x14 : A14) (x15 : A15) (x16 : A16) (x17 : A17) (x18 : A18) (x19 : A19) (x20 : A20) : A0 /\ A1 /\ A2 /\ A3 /\ A4 /\ A5 /\ A6 /\ A7 /\ A8 /\ A9 /\ A10 /\ A11 /\ A12 /\ A13 /\ A14 /\ A15 /\ A16 /\ A17 /\ A18 /\ A19 /\ A20 := And.intro x0 (And.intro x1 (And.intro x2 (And.intro x3 (And.intro x4 (And.intro x5 (And.intro x6 (And.intro x7 (And.intro x8 (And.intro x9 (And.intro x10 (And.intro x11 (And.intro x12 (And.intro x13 (And.intro x14 (And.intro x15 (And.intro x16 (And.intro x17 (And.intro x18 (And.intro x19 x20)))))))))))))))))))
theorem _root_.Go.E.cj22 {A0 A1 A2 A3 A4 A5 A6 A7 A8 A9 A10 A11 A12 A13 A14 A15 A16 A17 A18 A19 A20 A21 : Prop} (x0 : A0) (x1 : A1) (x2 : A2) (x3 : A3) (x4 : A4) (x5 : A5) (x6 : A6) (x7 : A7) (x8 : A8) (x9 : A9) (x10 : A10) (x11 : A11) (x12 : A12) (x13 : A13) (x14 : A14) (x15 : A15) (x16 : A16) (x17 : A17) (x18 : A18) (x19 : A19) (x20 : A20) (x21 : A21) : A0 /\ A1 /\ A2 /\ A3 /\ A4 /\ A5 /\ A6 /\ A7 /\ A8 /\ A9 /\ A10 /\ A11 /\ A12 /\ A13 /\ A14 /\ A15 /\ A16 /\ A17 /\ A18 /\ A19 /\ A20 /\ A21 := And.intro x0 (And.intro x1 (And.intro x2 (And.intro x3 (And.intro x4 (And.intro x5 (And.intro x6 (And.intro x7 (And.intro x8 (And.intro x9 (And.intro x10 (And.intro x11 (And.intro x12 (And.intro x13 (And.intro x14 (And.intro x15 (And.intro x16 (And.intro x17 (And.intro x18 (And.intro x19 (And.intro x20 x21))))))))))))))))))))
theorem _root_.Go.E.cj23 {A0 A1 A2 A3 A4 A5 A6 A7 A8 A9 A10 A11 A12 A13 A14 A15 A16 A17 A18 A19 A20 A21 A22 : Prop} (x0 : A0) (x1 : A1) (x2 : A2) (x3 : A3) (x4 : A4) (x5 : A5) (x6 : A6) (x7 : A7) (x8 : A8) (x9 : A9) (x10 : A10) (x11 : A11) (x12 : A12) (x13 : A13) (x14 : A14) (x15 : A15) (x16 : A16) (x17 : A17) (x18 : A18) (x19 : A19) (x20 : A20) (x21 : A21) (x22 : A22) : A0 /\ A1 /\ A2 /\ A3 /\ A4 /\ A5 /\ A6 /\ A7 /\ A8 /\ A9 /\ A10 /\ A11 /\ A12 /\ A13 /\ A14 /\ A15 /\ A16 /\ A17 /\ A18 /\ A19 /\ A20 /\ A21 /\ A22 := And.intro x0 (And.intro x1 (And.intro x2 (And.intro x3 (And.intro x4 (And.intro x5 (And.intro x6 (And.intro x7 (And.intro x8 (And.intro x9 (And.intro x10 (And.intro x11 (And.intro x12 (And.intro x13 (And.intro x14 (And.intro x15 (And.intro x16 (And.intro x17 (And.intro x18 (And.intro x19 (And.intro x20 (And.intro x21 x22)))))))))))))))))))))
theorem retM.of {N : Nat} {rs : List ResultVar} (n0 : Nat) (h0 : N <= n0) (h1 : ∀ a ∈ ds, ∃ i, a = .ptr i 0 /\ n0 <= i /\ T[i]? = some (.raw (.deferred (some [])))) (h2 : ds.Nodup) (h3 : ∀ T', T'.length = T.length -> T'.take n0 = T.take n0 -> resA P rs loc T' fun v => K v T' E) : retM N P rs K ds loc tmp T E := by
 cases ds with
 | nil => exact h3 T rfl rfl
 | cons d r => exact ⟨n0, h0, h1, h2, h3⟩
theorem CallA.enterM {f : FuncId} {fn : Func} {c : Code} {args : List AV} {m : Nat} {rs : List ResultVar} (n : Nat) (hf : P.funcs[f]? = some fn) (hm : fn.ntmps = m) (hrs : fn.results.toList = rs) (hb : fn.body = some c) (hn : (args.length <= n /\ n <= m)) (hr : rsLt n rs = true)
 (h : SemA P G T.length none n m c [] (args ++ List.replicate (n - args.length) (.p undef)) [] T [] (retM T.length P rs (Vw G T K)) (fun _ _ _ _ _ _ => False) (retM T.length P rs (Vw G T K))) : CallA P G f args T K := by
 subst hm; subst hrs
 have this : CallA P G f args T (Vw G T K) := by
  intro Z ρ w vs hG hs ha
  have hl := ha.1
  refine Ret.enterS n hf hb ⟨by simp; omega, hn.2⟩ ?_
  have hsem := h Z ρ T w Z ρ w [] (vs ++ List.replicate (n - vs.length) undef) [] hs.len ⟨hG, hs, Ext.refl rfl⟩ ⟨.nil, ha.append (by rw [hl]; have := RelL.ps (Z := Z) (ρ := ρ) (List.replicate (n - vs.length) undef); rwa [List.map_replicate] at this), .nil⟩
  have e : (vs.toArray.toList ++ List.replicate (n - vs.toArray.size) undef) = vs ++ List.replicate (n - vs.length) undef := by simp
  rw [e]
  refine hsem.mono fun e dv lv tv w' hq => ?_
  cases e with
  | normal => obtain ⟨Z', ρ', T', E', ds', loc', tmp', g1, g2, g3, g4, g5⟩ := hq; exact retM_sound g1 g2 g3 hr (by rw [hs.len]; exact g5)
  | ret => obtain ⟨Z', ρ', T', E', ds', loc', tmp', g1, g2, g3, g4, g5⟩ := hq; exact retM_sound g1 g2 g3 hr (by rw [hs.len]; exact g5)
  | exit i => obtain ⟨Z', ρ', T', E', ds', loc', tmp', g1, g2, g3, g4, g5⟩ := hq; exact g5.elim
  | _ => exact hq.elim
 intro Z ρ w vs hG hs ha
 refine (this Z ρ w vs hG hs ha).mono fun x w' ⟨Z', ρ', T', es, a, h1, h2, h3, h4⟩ => ?_
 exact h4 Z ρ w Z' ρ' w' x hs ⟨hG.mono h2.le, h1, h2⟩ h3
end
end Go.E
namespace Go.E
def limb (x j : Nat) : UInt64 := UInt64.ofNat (x / 2 ^ (64 * j))
abbrev lw (x j : Nat) : AV := .p (.int .u64 ((limb x j).toNat : Int))
def Bg (x : Nat) : List AV := [lw x 0, lw x 1, lw x 2, lw x 3]
theorem Bg_len (x : Nat) : (Bg x).length = 4 := rfl
theorem limb_nat (x j : Nat) : (limb x j).toNat = x / 2 ^ (64 * j) % 2 ^ 64 := by rw [limb, UInt64.toNat_ofNat']
theorem limb_bit (x j i : Nat) : (limb x j).toNat.testBit i = (decide (i < 64) && x.testBit (64 * j + i)) := by
 rw [limb_nat, Nat.testBit_mod_two_pow, Nat.testBit_div_two_pow, Nat.add_comm]
theorem limb_ext {u : UInt64} {x j : Nat} (h : ∀ i, i < 64 -> u.toNat.testBit i = x.testBit (64 * j + i)) : u = limb x j := by
 apply UInt64.toNat_inj.1
 refine Nat.eq_of_testBit_eq fun i => ?_
 rw [limb_bit]
 by_cases hi : i < 64
 . rw [h i hi]; simp [hi]
 . rw [Nat.testBit_lt_two_pow (Nat.lt_of_lt_of_le u.toNat_lt (Nat.pow_le_pow_right (by decide) (by omega)))]
   simp [hi]
theorem Bg_inj {x y : Nat} (hx : x < 2 ^ 256) (hy : y < 2 ^ 256) (h : Bg x = Bg y) : x = y := by
 simp only [Bg, List.cons.injEq, AV.p.injEq, Value.int.injEq, true_and, and_true, Int.natCast_inj, limb_nat, Nat.mul_zero, Nat.pow_zero, Nat.div_one, Nat.mul_one, Nat.reduceMul] at h
 omega
theorem Bg_get (x : Nat) {j : Nat} (hj : j < 4) : (Bg x)[j]? = some (lw x j) := by
 match j, hj with
 | 0, _ => rfl
 | 1, _ => rfl
 | 2, _ => rfl
 | 3, _ => rfl
theorem Bg_wo (q : Nat -> Bool) (x : Nat) : (Bg x).map (AV.wo q) = Bg x := by
 simp only [Bg, List.map_cons, List.map_nil, AV.wo]
theorem Bg_pub (i : Nat) (cs : List AV) (x : Nat) : (Bg x).map (AV.pub i cs) = Bg x := by
 simp only [Bg, List.map_cons, List.map_nil, AV.pub]
theorem Bg_ones (x : Nat) : ones (Bg x) = true := rfl
theorem Bg_set {x y j : Nat} {u : UInt64} (hj : j < 4) (hu : u = limb y j) (ho : ∀ i, i < 4 -> i ≠ j -> limb y i = limb x i) : (Bg x).set j (.p (.int .u64 (u.toNat : Int))) = Bg y := by
 subst hu
 match j, hj with
 | 0, _ => simp only [Bg, lw, List.set_cons_zero, ho 1 (by omega) (by omega), ho 2 (by omega) (by omega), ho 3 (by omega) (by omega)]
 | 1, _ => simp only [Bg, lw, List.set_cons_zero, List.set_cons_succ, ho 0 (by omega) (by omega), ho 2 (by omega) (by omega), ho 3 (by omega) (by omega)]
 | 2, _ => simp only [Bg, lw, List.set_cons_zero, List.set_cons_succ, ho 0 (by omega) (by omega), ho 1 (by omega) (by omega), ho 3 (by omega) (by omega)]
 | 3, _ => simp only [Bg, lw, List.set_cons_zero, List.set_cons_succ, ho 0 (by omega) (by omega), ho 1 (by omega) (by omega), ho 2 (by omega) (by omega)]
theorem limb_or {x k j : Nat} (hk : k < 256) (hj : j < 4) : limb (x ||| 2 ^ k) j = if j = k / 64 then limb x j ||| u64_shl 1 (k % 64) else limb x j := by
 symm
 split
 . rename_i h
   refine limb_ext fun i hi => ?_
   have hs : (u64_shl 1 (k % 64)).toNat = 2 ^ (k % 64) := by
    rw [u64_shl, if_pos (by omega), UInt64.toNat_shiftLeft]
    show 1 <<< ((UInt64.ofNat (k % 64)).toNat % 64) % 2 ^ 64 = _
    rw [UInt64.toNat_ofNat', Nat.mod_eq_of_lt (a := k % 64) (b := 2 ^ 64) (by omega), Nat.mod_mod, Nat.shiftLeft_eq, Nat.one_mul, Nat.mod_eq_of_lt (Nat.pow_lt_pow_right (by decide) (by omega))]
   rw [UInt64.toNat_or, Nat.testBit_or, limb_bit, hs, Nat.testBit_or, Nat.testBit_two_pow, Nat.testBit_two_pow]
   have e : decide (k % 64 = i) = decide (k = 64 * j + i) := by
    rw [decide_eq_decide]; omega
   rw [e]; simp [hi]
 . rename_i h
   refine limb_ext fun i hi => ?_
   rw [limb_bit, Nat.testBit_or, Nat.testBit_two_pow]
   have e : decide (k = 64 * j + i) = false := by
    rw [decide_eq_false_iff_not]; omega
   rw [e]; simp [hi]
theorem Bg_or {x k : Nat} (hk : k < 256) : (Bg x).set (k / 64) (.p (.int .u64 ((limb x (k / 64) ||| u64_shl 1 (k % 64)).toNat : Int))) = Bg (x ||| 2 ^ k) := by
 have hj : k / 64 < 4 := by omega
 refine Bg_set hj ?_ fun i hi hn => ?_
 . rw [limb_or hk hj, if_pos rfl]
 . rw [limb_or hk hi, if_neg hn]
def bitN (x i : Nat) : Nat := x / 2 ^ i % 2
theorem bitN_lt (x i : Nat) : bitN x i < 2 := Nat.mod_lt _ (by decide)
theorem limb_bitN (x k : Nat) (hk : k < 256) : (u64_shr (limb x (k / 64)) (k % 64) &&& 1).toNat = bitN x k := by
 rw [UInt64.toNat_and, u64_shr, if_pos (by omega), UInt64.toNat_shiftRight]
 show (limb x (k / 64)).toNat >>> ((UInt64.ofNat (k % 64)).toNat % 64) &&& 1 = _
 rw [UInt64.toNat_ofNat', Nat.mod_eq_of_lt (a := k % 64) (b := 2 ^ 64) (by omega), Nat.mod_mod, Nat.shiftRight_eq_div_pow, Nat.and_one_is_mod, limb_nat, bitN]
 have h1 : x / 2 ^ (64 * (k / 64)) % 2 ^ 64 / 2 ^ (k % 64) % 2 = x / 2 ^ (64 * (k / 64)) / 2 ^ (k % 64) % 2 := by
  have e : 2 ^ 64 = 2 ^ (k % 64) * 2 ^ (64 - k % 64) := by rw [<- Nat.pow_add]; congr 1; omega
  rw [e, Nat.mod_mul_right_div_self]
  have e2 : 2 ^ (64 - k % 64) = 2 * 2 ^ (63 - k % 64) := by rw [<- Nat.pow_succ']; congr 1; omega
  rw [e2, Nat.mod_mul_right_mod]
 rw [h1, Nat.div_div_eq_div_mul, <- Nat.pow_add, Nat.div_add_mod]
def fromZ : List Int -> Nat
 | [] => 0
 | b :: r => (if b = 1 then 1 else 0) + 2 * fromZ r
theorem fromZ_lt : ∀ l : List Int, fromZ l < 2 ^ l.length
 | [] => by simp [fromZ]
 | b :: r => by
   have := fromZ_lt r
   rw [fromZ, List.length_cons, Nat.pow_succ]
   split <;> omega
theorem fromZ_snoc : ∀ (l : List Int) (b : Int), fromZ (l ++ [b]) = fromZ l + (if b = 1 then 2 ^ l.length else 0)
 | [], b => by simp [fromZ]
 | c :: l, b => by
   rw [List.cons_append, fromZ, fromZ_snoc l b, fromZ, List.length_cons, Nat.pow_succ]
   split <;> split <;> omega
def bitsZ (x n : Nat) : List Int := (List.range n).map fun i => (bitN x i : Int)
theorem bitsZ_len (x n : Nat) : (bitsZ x n).length = n := by simp [bitsZ]
theorem bitsZ_next (x n : Nat) : bitsZ x (n + 1) = bitsZ x n ++ [(bitN x n : Int)] := by simp [bitsZ, List.range_succ]
theorem from_bits (x : Nat) : ∀ n, fromZ (bitsZ x n) = x % 2 ^ n
 | 0 => by simp [bitsZ, fromZ, Nat.mod_one]
 | n + 1 => by
   rw [bitsZ_next, fromZ_snoc, from_bits x n, bitsZ_len, Nat.pow_succ, Nat.mod_mul, bitN]
   have h : x / 2 ^ n % 2 < 2 := Nat.mod_lt _ (by decide)
   by_cases h1 : x / 2 ^ n % 2 = 1
   . rw [h1]; simp
   . have h0 : x / 2 ^ n % 2 = 0 := by omega
     rw [h0]; simp
theorem bitsZ_get (x : Nat) {n i : Nat} (h : i < n) : (bitsZ x n)[i]? = some (bitN x i : Int) := by simp [bitsZ, h]
theorem gn0 (T : Tbl) (o : AObj) (l : Tbl) : (T ++ o :: l)[T.length]? = some o := by simp
theorem gn1 (T : Tbl) (a o : AObj) (l : Tbl) : (T ++ a :: o :: l)[T.length + 1]? = some o := by simp
theorem gn2 (T : Tbl) (a b o : AObj) (l : Tbl) : (T ++ a :: b :: o :: l)[T.length + 2]? = some o := by simp
theorem gn3 (T : Tbl) (a b c o : AObj) (l : Tbl) : (T ++ a :: b :: c :: o :: l)[T.length + 3]? = some o := by simp
theorem gn4 (T : Tbl) (a b c d o : AObj) (l : Tbl) : (T ++ a :: b :: c :: d :: o :: l)[T.length + 4]? = some o := by simp
theorem gn6 (T : Tbl) (a b c d e f o : AObj) (l : Tbl) : (T ++ a :: b :: c :: d :: e :: f :: o :: l)[T.length + 6]? = some o := by simp
theorem vres (P : Program) (loc : List AV) (T : Tbl) :
 (∀ a b rs (K : AV -> Prop), resA P (a :: b :: rs) loc T K = rsA P loc T (a :: b :: rs) fun l => oneA l K) /\ (∀ K : List AV -> Prop, rsA P loc T [] K = K []) /\
 (∀ t r (K : List AV -> Prop), rsA P loc T (.tmp t :: r) K = rsA P loc T r fun l => K (loc.getD t .any :: l)) /\
 (∀ t ty r (K : List AV -> Prop), rsA P loc T (.cell t ty :: r) K = loadA P ty (loc.getD t .any) T fun v => rsA P loc T r fun l => K (v :: l)) /\
 (∀ a b l (K : AV -> Prop), oneA (a :: b :: l) K = K (.tu (a :: b :: l))) := ⟨fun _ _ _ _ => rfl, fun _ => rfl, fun _ _ _ => rfl, fun _ _ _ _ => rfl, fun _ _ _ _ => rfl⟩
end Go.E
namespace Go.Proofs.YtfpjalgfnjjcmaaGreatDoor
open Go.E Go.Proofs.YtfpjalgfnjjcmaaGreatDoor.Tryz Go.Proofs.Tryz
def tbl : List UInt32 := [1116352408, 1899447441, 3049323471, 3921009573, 961987163, 1508970993, 2453635748, 2870763221, 3624381080, 310598401, 607225278, 1426881987, 1925078388, 2162078206, 2614888103, 3248222580, 3835390401, 4022224774, 264347078, 604807628, 770255983, 1249150122, 1555081692, 1996064986, 2554220882, 2821834349, 2952996808, 3210313671, 3336571891, 3584528711, 113926993, 338241895, 666307205, 773529912, 1294757372, 1396182291, 1695183700, 1986661051, 2177026350, 2456956037, 2730485921, 2820302411, 3259730800, 3345764771, 3516065817, 3600352804, 4094571909, 275423344, 430227734, 506948616, 659060556, 883997877, 958139571, 1322822218, 1537002063, 1747873779, 1955562222, 2024104815, 2227730452, 2361852424, 2428436474, 2756734187, 3204031479, 3329325298]
theorem tbl_len : tbl.length = 64 := rfl
noncomputable def Tryz.G : Nat -> AV := fun g => if g = 2 then .vp (tbl.map w32) 0 else .p (.pointer (some ⟨g, 0, none⟩))
theorem G0 : G 2 = .vp (tbl.map w32) 0 := rfl
def rotr (x : UInt32) (k : Nat) : UInt32 := u32_shr x k ||| u32_shl x (32 - k)
theorem rot_num : ∀ k : Nat, k < 32 -> 0 < k -> (UInt64.ofInt (IntKind.i64.wrap (0 - (k : Int))) &&& UInt64.ofInt 31).toNat = 32 - k /\ (UInt64.ofInt 32 - (UInt64.ofInt (IntKind.i64.wrap (0 - (k : Int))) &&& UInt64.ofInt 31)).toNat = k /\ (UInt64.ofInt 32 - UInt64.ofInt (k : Int)).toNat = 32 - k := by decide +kernel
theorem rot_ok {T : Tbl} {x : UInt32} {k : Int} : CallA prog G 143 [.p (.int .u32 (x.toNat : Int)), .p (.int .i64 k)] T fun v T' es => v = .p (.int .u32 ((u32_shl x (UInt64.ofInt k &&& UInt64.ofInt 31).toNat ||| u32_shr x (UInt64.ofInt 32 - (UInt64.ofInt k &&& UInt64.ofInt 31)).toNat).toNat : Int)) /\ T' = T /\ es = [] := by
 refine CallA.eV 6 func143 ntmps143 results143 ?_
 refine sqax ?_
 exact Vw.done ⟨rfl, rfl, rfl⟩
theorem right_ok {T : Tbl} {x : UInt32} (k : Nat) (h0 : 0 < k) (h1 : k < 32) : CallA prog G 136 [.p (.int .u32 (x.toNat : Int)), .p (.int .i64 (k : Int))] T fun v T' es => v = .p (.int .u32 ((rotr x k).toNat : Int)) /\ T' = T /\ es = [] := by
 refine CallA.eV 5 func136 ntmps136 results136 ?_
 refine sqax ?_
 refine rot_ok.mono ?_
 rintro v T' es ⟨rfl, rfl, rfl⟩
 refine sqax ?_
 refine Vw.done ⟨?_, rfl, rfl⟩
 obtain ⟨e1, e2, _⟩ := rot_num k h1 h0
 rw [e1, e2, rotr, UInt32.or_comm]
theorem rright_ok {T : Tbl} {x : UInt32} (k : Nat) (h0 : 0 < k) (h1 : k < 32) : CallA prog G 106 [.p (.int .u32 (x.toNat : Int)), .p (.int .u64 (k : Int))] T fun v T' es => v = .p (.int .u32 ((rotr x k).toNat : Int)) /\ T' = T /\ es = [] := by
 refine CallA.eV 5 func106 ntmps106 results106 ?_
 refine sqax ?_
 refine ⟨by omega, Vw.done ⟨?_, rfl, rfl⟩⟩
 rw [(rot_num k h1 h0).2.2, rotr]
def sg0 (x : UInt32) : UInt32 := rotr x 7 ^^^ rotr x 18 ^^^ u32_shr x 3
def sg1 (x : UInt32) : UInt32 := rotr x 17 ^^^ rotr x 19 ^^^ u32_shr x 10
def be32 (p : List UInt8) (t : Nat) : Nat -> UInt32
 | 0 => 0
 | j + 1 => u32_shl (be32 p t j) 8 ||| (p[4 * t + j]!).toUInt32
def nextW (p : List UInt8) (l : List UInt32) : UInt32 := if l.length < 16 then be32 p l.length 4 else l[l.length - 16]! + l[l.length - 7]! + (sg0 l[l.length - 15]!) + (sg1 l[l.length - 2]!)
def sch (p : List UInt8) : Nat -> List UInt32
 | 0 => []
 | t + 1 => sch p t ++ [nextW p (sch p t)]
theorem sch_len (p : List UInt8) : ∀ t, (sch p t).length = t
 | 0 => rfl
 | t + 1 => by rw [sch, List.length_append, sch_len p t]; rfl
theorem at_mid (p : List UInt8) (t : Nat) (x : UInt32) (r : List UInt32) : (sch p t ++ x :: r)[t]? = some x := by simp [sch_len]
theorem at_pre (p : List UInt8) (t : Nat) (r : List UInt32) (k : Nat) (h : k < t) : (sch p t ++ r)[k]? = some (sch p t)[k]! := by
 rw [List.getElem?_append_left (by rw [sch_len]; exact h), getElem!_pos _ _ (by rw [sch_len]; exact h), List.getElem?_eq_getElem]
theorem set_mid (p : List UInt8) (t : Nat) (x y : UInt32) (r : List UInt32) : (sch p t ++ x :: r).set t y = sch p t ++ y :: r := by rw [List.set_append]; simp [sch_len]
theorem schedule_ok {T : Tbl} {i off : Nat} {E : TypeId} {cs : List AV} {p : List UInt8} (hT : T[i]? = some (.cells E cs)) (hp : p.length = 64) (hc : ∀ k, k < 64 -> cs[off + k]? = some (by8 p[k]!)) :
 CallA prog G 135 [.ptr i off] T fun v T' es => v = .ag ((sch p 64).map w32) /\ T' = T /\ es = [] := by
 have hT' := get_old hT
 have hne : cs ≠ [] := by rintro rfl; simpa using hc 0
 refine CallA.eV 23 func135 ntmps135 results135 ?_
 refine sqax ?_
 refine SemA.loopL (fun t : Nat => [(0, .ptr i off), (2, .ptr T.length 0), (8, .p (.int .i64 t))]) (fun t => T ++ [.cells 178 ((sch p t ++ List.replicate (64 - t) 0).map w32)]) (fun t => t <= 64) (fun t => 64 - t) 0 [] (by kernel_rfl) (by omega) (by (simp -dsimp +decide only [v5q, ↓reduceIte, Nat.reduceSub, Nat.reduceAdd, Nat.reduceMul, Nat.reduceLT, Int.reduceAdd, Int.reduceSub, Int.reduceToNat, ci])) rfl (by simp) ?_
 rintro t g ht
 refine sqax ?_
 refine CondP.dec (fun h => ?_) (fun h => ?_)
 . refine sqax ?_
   refine CondP.dec (fun h1 => ?_) (fun h1 => ?_)
   . refine tqay @hT' ?_
     rw [show 4 * t + 4 - 4 * t = 4 by omega]
     refine ⟨by omega, by omega, by omega, ?_⟩
     refine SemA.loopL (fun j : Nat => [(0, .ptr i off), (2, .ptr T.length 0), (3, .p (.int .i64 t)), (8, .p (.int .i64 t)), (20, .sl i (off + 4 * t) 4), (21, .p (.int .i64 4)), (22, .p (.int .i64 j))]) (fun j => T ++ [.cells 178 ((sch p t ++ be32 p t j :: List.replicate (63 - t) 0).map w32)]) (fun j => j <= 4) (fun j => 4 - j) 0 [] (by kernel_rfl) (by omega) (by (simp -dsimp +decide only [v5q, ↓reduceIte, Nat.reduceSub, Nat.reduceAdd, Nat.reduceMul, Nat.reduceLT, Int.reduceAdd, Int.reduceSub, Int.reduceToNat, ci])) ?_ (by simp) ?_
     . rw [show 64 - t = (63 - t) + 1 by omega]; rfl
     rintro j g ht
     refine sqax ?_
     refine CondP.dec (fun h => ?_) (fun h => ?_)
     . simp -dsimp +decide (disch := omega) only [v5q, ↓reduceIte, Nat.reduceSub, Nat.reduceAdd, Nat.reduceMul, Nat.reduceLT, Int.reduceAdd, Int.reduceSub, Int.reduceToNat, v4q, hT', hne, hc (4 * t + j) (by omega), at_mid p t, set_mid p t]
       refine ⟨⟨by omega, by omega, hne⟩, ⟨by omega, by omega⟩, ⟨by omega, by omega⟩, by simp [sch_len], j + 1, by omega, by omega, rfl, rfl⟩
     . have hj : j = 4 := by omega
       subst hj
       refine sqay ?_
       refine ⟨t + 1, by omega, by omega, rfl, ?_⟩
       rw [sch, nextW, sch_len, if_pos (by omega), show 64 - (t + 1) = 63 - t by omega, List.append_assoc]; rfl
   . rw [show 64 - t = (63 - t) + 1 by omega, List.replicate_succ]
     refine sqax ?_
     refine SemA.draw (fun _ => true) [(0, true), (1, true), (2, true), (3, true), (4, true), (5, true), (6, true), (7, true), (8, true), (9, true)] mixed (by kernel_rfl) ?_
     refine tqay @at_pre ?_
     refine ⟨by omega, by omega, ?_⟩
     refine SemA.draw (fun _ => true) [(0, true), (1, true), (2, true), (3, true), (4, true), (5, true), (6, true), (7, true), (8, true), (9, true), (10, true), (12, true), (15, true), (16, true), (19, true), (21, true), (24, true), (25, true), (11, false), (13, false), (14, true), (17, true), (18, true), (20, false), (22, false), (23, true), (26, true), (27, true), (28, true), (29, false)] mixed (by kernel_rfl) ?_
     refine tqay @at_pre ?_
     refine ⟨by omega, by omega, ?_⟩
     refine (right_ok 7 (by omega) (by omega)).det ?_
     refine tqay @at_pre ?_
     refine (right_ok 18 (by omega) (by omega)).det ?_
     refine tqay @at_pre ?_
     refine (right_ok 17 (by omega) (by omega)).det ?_
     refine tqay @at_pre ?_
     refine (right_ok 19 (by omega) (by omega)).det ?_
     simp -dsimp +decide (disch := omega) only [v5q, ↓reduceIte, Nat.reduceSub, Nat.reduceAdd, Nat.reduceMul, Nat.reduceLT, Int.reduceAdd, Int.reduceSub, Int.reduceToNat, v4q, at_pre, set_mid p t]
     refine ⟨by omega, by simp [sch_len], t + 1, by omega, by omega, rfl, ?_⟩
     rw [sch, nextW, sch_len, if_neg (by omega), show 64 - (t + 1) = 63 - t by omega, List.append_assoc]; rfl
 . have ht : t = 64 := by omega
   subst ht
   refine sqax ?_
   rw [wrA_eq (by simp [sch_len])]
   refine ⟨by simp [sch_len], ⟨by simp [sch_len], by simp [sch_len], by simp [sch_len]⟩, by simp [sch_len], Vw.cut ⟨?_, rfl, rfl⟩⟩
   simp [sch_len]
   rw [List.take_of_length_le (by simp [sch_len])]
   simp -dsimp +decide only [v5q, ↓reduceIte, Nat.reduceSub, Nat.reduceAdd, Nat.reduceMul, Nat.reduceLT, Int.reduceAdd, Int.reduceSub, Int.reduceToNat, ci]
theorem n64 : (∀ a : Nat, (a : Int).tmod 64 = ((a % 64 : Nat) : Int)) /\ (∀ a : Nat, (a : Int).tdiv 64 = ((a / 64 : Nat) : Int)) := ⟨fun _ => rfl, fun _ => rfl⟩
theorem ofInt_lt {n : Nat} (h : n < 18446744073709551616) : (UInt64.ofInt (n : Int)).toNat = n := by
 rw [UInt64.ofInt]; simp; omega
def bitI (x : Nat) (i : Int) : Nat := if 0 <= i /\ i < 256 then bitN x i.toNat else 0
theorem bitI_nat (x i : Nat) (h : i < 256) : bitI x (i : Int) = bitN x i := by rw [bitI, if_pos (by omega), Int.toNat_natCast]
theorem bit02_ok {T : Tbl} {x : Nat} {i : Int} : CallA prog G 46 [.ag (Bg x), wint i] T fun v T' es => v = wint (bitI x i : Int) /\ T' = T /\ es = [] := by
 refine CallA.wfs fun wf => ?_
 have wt := wf.t
 refine CallA.eV 5 func46 ntmps46 results46 ?_
 refine sqbx ?_
 by_cases h1 : i < 0
 . have e : bitI x i = 0 := by rw [bitI, if_neg (by omega)]
   rw [e]
   refine tqbz @h1 ?_
   exact Vw.cut ⟨rfl, rfl, rfl⟩
 by_cases h2 : i < 256
 . obtain ⟨k, rfl⟩ : ∃ k : Nat, i = k := ⟨i.toNat, by omega⟩
   have hk : k < 256 := by omega
   rw [bitI_nat x k hk]
   have hg := Bg_get x (j := k / 64) (by omega)
   have h3 : ((256 : Int) <= (k : Int)) = False := by simp; omega
   refine tqbz (cj5 @h1 @h3 @n64 @hg @Bg_len) ?_
   refine ⟨⟨by omega, by omega⟩, ?_⟩
   have hb := bitN_lt x k
   rw [show (UInt64.ofInt ((k % 64 : Nat) : Int)).toNat = k % 64 from ofInt_lt (by omega), show UInt64.ofInt 1 = 1 from rfl, limb_bitN x k hk]
   refine sqbz ?_
   exact Vw.cut ⟨rfl, rfl, rfl⟩
 . have e : bitI x i = 0 := by rw [bitI, if_neg (by omega)]
   rw [e]
   have h3 : ((256 : Int) <= i) = True := by simp; omega
   refine tqbz (cj2 @h1 @h3) ?_
   exact Vw.cut ⟨rfl, rfl, rfl⟩
theorem from02_ok {T : Tbl} {a : AV} {l : List Int} (hb : Sl T 1 a (l.map wint) l.length) (hl : l.length <= 1000000) : CallA prog G 91 [a] T fun v T' es => v = .ag (Bg (fromZ (l.take 256))) /\ T' = T /\ es = [] := by
 have hr := Sl.rules hb (by decide)
 have hld := Sl.loads hb (P := prog) (t := 3) (by (simp -dsimp +decide only [v1q, ↓reduceIte, Nat.reduceSub, Nat.reduceAdd, Nat.reduceMul, Nat.reduceLT, Int.reduceAdd, Int.reduceSub, Int.reduceToNat, ci]))
 refine CallA.wfs fun wf => ?_
 have wt := wf.t
 have wa := wf.arg a (by simp)
 refine CallA.eV 5 func91 ntmps91 results91 ?_
 refine sqbx ?_
 refine SemA.loopE (fun k : Nat => [(0, a), (2, .ptr T.length 0), (3, .ptr (T.length + 1) 0), (4, wint (k : Int))]) (fun k => T ++ [.cells 47 (Bg 0), .cells 47 (Bg (fromZ (l.take k)))]) (fun k => k <= l.length /\ k <= 256) (fun k => l.length - k) 0 [] 0 (fun _ : Unit => [(2, .ptr T.length 0), (3, .ptr (T.length + 1) 0)]) (fun _ => T ++ [.cells 47 (Bg 0), .cells 47 (Bg (fromZ (l.take 256)))]) (fun _ => True) ⟨by omega, by omega⟩ (by (simp -dsimp +decide (disch := omega) only [v1q, ↓reduceIte, Nat.reduceSub, Nat.reduceAdd, Nat.reduceMul, Nat.reduceLT, Int.reduceAdd, Int.reduceSub, Int.reduceToNat, v4q]); first | rfl | done) (by rw [List.take_zero]; rfl) (by simp) ?_ ?_
 . rintro k g ⟨hk, hk2⟩
   refine SemA.o ?_
   refine tqby @hr ?_
   by_cases h1 : ((k : Int) < (l.length : Int))
   . by_cases h2 : ((k : Int) < 256)
     . obtain ⟨z, hz⟩ : ∃ z, l[k]? = some z := ⟨l[k]'(by omega), by simp⟩
       have hzg : (l.map wint)[k]? = some (wint z) := by rw [List.getElem?_map, hz]; rfl
       have hg := Bg_get (fromZ (l.take k)) (j := k / 64) (by omega)
       have hlt := fromZ_lt (l.take k)
       rw [List.length_take, Nat.min_eq_left hk] at hlt
       have hnx : fromZ (l.take (k + 1)) = fromZ (l.take k) + if z = 1 then 2 ^ k else 0 := by
        rw [List.take_add_one, hz]
        have := fromZ_snoc (l.take k) z
        rw [List.length_take, Nat.min_eq_left hk] at this
        exact this
       by_cases hz1 : z = 1
       . rw [if_pos hz1] at hnx
         have hor : fromZ (l.take k) ||| 2 ^ k = fromZ (l.take (k + 1)) := by
          rw [hnx, Nat.or_comm, <- Nat.mul_one (2 ^ k), <- Nat.two_pow_add_eq_or_of_lt hlt, Nat.mul_one, Nat.add_comm]
         refine tqby (cj8 @hr @hld @h1 @h2 @hzg @hz1 @n64 @hg) ?_
         repeat (refine And.intro (by first | omega | exact ⟨by omega, by omega⟩ | (rw [Bg_len]; omega)) ?_)
         rw [show (UInt64.ofInt ((k % 64 : Nat) : Int)).toNat = k % 64 from ofInt_lt (by omega), show UInt64.ofInt 1 = 1 from rfl, Bg_or (by omega), hor]
         exact ⟨k + 1, ⟨⟨by omega, by omega⟩, by omega⟩, rfl, rfl⟩
       . simp only [if_neg hz1, Nat.add_zero] at hnx
         refine tqby (cj6 @hr @hld @h1 @h2 @hzg @hz1) ?_
         repeat (refine And.intro (by first | omega | exact ⟨by omega, by omega⟩) ?_)
         exact ⟨k + 1, ⟨⟨by omega, by omega⟩, by omega⟩, rfl, by rw [hnx]⟩
     . have e : l.take 256 = l.take k := by rw [show k = 256 by omega]
       rw [e]
       refine tqby (cj3 @hr @h1 @h2) ?_
       exact ⟨(), trivial⟩
   . have e : l.take 256 = l.take k := by rw [List.take_of_length_le (by omega), List.take_of_length_le (by omega)]
     rw [e]
     refine tqby (cj2 @hr @h1) ?_
     exact ⟨(), trivial⟩
 . rintro _ g tmp -
   refine tqby @Bg_len ?_
   obtain ⟨o, ho⟩ : ∃ o, o = fromZ (l.take 256) := ⟨_, rfl⟩
   rw [<- ho, show List.take 4 (Bg o) = Bg o from rfl, wrA_all (by rw [Bg_len, Bg_len]), show List.take 4 (Bg o) = Bg o from rfl]
   refine ⟨⟨rfl, by rw [Bg_len]; decide, Nat.le_refl _, rfl⟩, Nat.le_refl _, ?_⟩
   exact Vw.cut ⟨by rw [AV.wo, AV.woL_eq, Bg_wo], rfl, rfl⟩
theorem tkB' (x : Nat) : List.take 4 (Bg x) = Bg x := rfl
theorem vbg : (∀ x, List.take 4 (List.drop 0 (Bg x)) = Bg x) /\ (∀ x, List.take 4 (Bg x) = Bg x) /\ (∀ x, (Bg x).length = 4) /\ (keepOK (fun _ => true) [] = true) /\ (∀ T, keepT (fun _ => true) T = T) /\ (∀ p : Prop, (True ∨ p) = True) /\ (∀ p : Prop, (True /\ p) = p) /\
 (∀ q x, (Bg x).map (AV.wo q) = Bg x) /\ (∀ i cs x, (Bg x).map (AV.pub i cs) = Bg x) /\ (∀ x, ones (Bg x) = true) /\ (∀ x y, wrA (Bg x) 0 (Bg y) = Bg y) :=
 ⟨fun _ => rfl, fun _ => rfl, Bg_len, rfl, keep_all, fun _ => true_or _, fun _ => true_and _, Bg_wo, Bg_pub, Bg_ones, fun x y => wrA_all (by rw [Bg_len, Bg_len])⟩
theorem kallT (T : Tbl) : keepT (fun _ => true) T = T := keep_all T
theorem half (x k : Nat) : x / 2 ^ k = 2 * (x / 2 ^ (k + 1)) + bitN x k := by
 rw [bitN, Nat.pow_succ, <- Nat.div_div_eq_div_mul]; omega
theorem top0 {x : Nat} (hx : x < 2 ^ 256) : x / 2 ^ 256 = 0 := Nat.div_eq_of_lt hx
theorem bit_top {x : Nat} (hx : x < 2 ^ 256) {i : Nat} (h : 256 <= i) : bitN x i = 0 := by
 rw [bitN, Nat.div_eq_of_lt (Nat.lt_of_lt_of_le hx (Nat.pow_le_pow_right (by decide) h))]
theorem less02_ok {T : Tbl} {x y : Nat} (hx : x < 2 ^ 256) (hy : y < 2 ^ 256) : CallA prog G 13 [.ag (Bg x), .ag (Bg y)] T fun v T' es => v = .p (.bool (decide (x < y))) /\ T' = T /\ es = [] := by
 refine CallA.wfs fun wf => ?_
 have wt := wf.t
 refine CallA.eV 6 func13 ntmps13 results13 ?_
 refine sqbx ?_
 have g0 := fun l => gn0 T (.cells 47 (Bg x)) l
 have g1 := fun a l => gn1 T a (.cells 47 (Bg y)) l
 refine SemA.loopE (fun k : Nat => [(2, .ptr T.length 0), (3, .ptr (T.length + 1) 0), (5, wint (255 - (k : Int)))]) (fun _ => T ++ [.cells 47 (Bg x), .cells 47 (Bg y)]) (fun k => k <= 256 /\ x / 2 ^ (256 - k) = y / 2 ^ (256 - k)) (fun k => 256 - k) 0 [] 0 (fun _ : Unit => []) (fun _ => T ++ [.cells 47 (Bg x), .cells 47 (Bg y)]) (fun _ => x = y) ⟨by omega, by rw [top0 hx, top0 hy]⟩ (by (simp -dsimp +decide (disch := omega) only [v1q, ↓reduceIte, Nat.reduceSub, Nat.reduceAdd, Nat.reduceMul, Nat.reduceLT, Int.reduceAdd, Int.reduceSub, Int.reduceToNat, v4q]); first | rfl | done) rfl (by simp) ?_ ?_
 . rintro k g ⟨hk, he⟩
   refine SemA.o ?_
   refine sqby ?_
   refine CondP.dec (fun h => ?_) (fun h => ?_)
   . have hc : (255 - (k : Int)) = ((255 - k : Nat) : Int) := by omega
     have hxh := half x (255 - k)
     have hyh := half y (255 - k)
     rw [show 255 - k + 1 = 256 - k by omega] at hxh hyh
     have hbx := bitI_nat x (255 - k) (by omega)
     have hby := bitI_nat y (255 - k) (by omega)
     have lx := bitN_lt x (255 - k)
     have ly := bitN_lt y (255 - k)
     rw [hc]
     refine SemA.draw (fun i => true) [(0, true), (1, true), (3, true), (4, true), (2, false), (5, false), (6, true)] mixed (by kernel_rfl) ?_
     refine tqbz (cj3 @vbg @g0 @g1) ?_
     refine bit02_ok.det' ?_
     refine tqbz (cj3 @vbg @g0 @g1) ?_
     refine bit02_ok.det' ?_
     rw [hbx, hby]
     refine tqbz (cj3 @vbg @g0 @g1) ?_
     refine CondP.ndec (fun h2 => ?_) (fun h2 => ?_)
     . have hlt : decide (((bitN x (255 - k) : Nat) : Int) < ((bitN y (255 - k) : Nat) : Int)) = decide (x < y) := by
        rw [decide_eq_decide]
        constructor
        . intro hl
          exact Nat.lt_of_not_le fun hle => by
           have := Nat.div_le_div_right (c := 2 ^ (255 - k)) hle
           omega
        . intro hl
          have := Nat.div_le_div_right (c := 2 ^ (255 - k)) (Nat.le_of_lt hl)
          omega
       refine SemA.draw (fun i => true) [(0, true), (1, true), (3, true), (4, true), (2, false), (5, false), (6, true), (7, true)] mixed (by kernel_rfl) ?_
       refine tqbz (cj3 @vbg @g0 @g1) ?_
       refine bit02_ok.det' ?_
       refine tqbz (cj3 @vbg @g0 @g1) ?_
       refine bit02_ok.det' ?_
       rw [hbx, hby]
       refine tqbz (cj4 @vbg @g0 @g1 @hlt) ?_
       exact Vw.cut ⟨rfl, rfl, rfl⟩
     . refine tqbz (cj3 @vbg @g0 @g1) ?_
       exact ⟨k + 1, ⟨⟨by omega, by rw [show 256 - (k + 1) = 255 - k by omega]; omega⟩, by omega⟩, by rw [show (255 - ((k + 1 : Nat) : Int)) = ((255 - k : Nat) : Int) - 1 by omega]⟩
   . have e : k = 256 := by omega
     subst e
     refine sqby ?_
     exact ⟨(), by simpa using he⟩
 . rintro _ g tmp hq
   have e : decide (x < y) = false := by simp [hq]
   rw [e]
   refine sqby ?_
   exact Vw.cut ⟨rfl, rfl, rfl⟩
def isLen (x n : Nat) : Prop := x < 2 ^ n /\ (n = 0 ∨ 2 ^ (n - 1) <= x)
theorem bits02_ok {T : Tbl} {x : Nat} (hx : x < 2 ^ 256) : CallA prog G 89 [.ag (Bg x)] T fun v T' es => (∃ n : Nat, v = wint (n : Int) /\ isLen x n /\ n <= 256) /\ T' = T /\ es = [] := by
 refine CallA.wfs fun wf => ?_
 have wt := wf.t
 refine CallA.eV 5 func89 ntmps89 results89 ?_
 refine sqbx ?_
 have g0 := fun l => gn0 T (.cells 47 (Bg x)) l
 refine SemA.loopE (fun s : Nat × Nat => [(1, .ptr T.length 0), (3, wint (s.2 : Int)), (4, wint (s.1 : Int))]) (fun _ => T ++ [.cells 47 (Bg x)]) (fun s => s.1 <= 256 /\ s.2 <= s.1 /\ isLen (x % 2 ^ s.1) s.2) (fun s => 256 - s.1) (0, 0) [] 0 (fun n : Nat => [(3, wint (n : Int))]) (fun _ => T ++ [.cells 47 (Bg x)]) (fun n => isLen x n /\ n <= 256) ⟨by simp, by simp, by simp [isLen, Nat.mod_one]⟩ (by (simp -dsimp +decide (disch := omega) only [v1q, ↓reduceIte, Nat.reduceSub, Nat.reduceAdd, Nat.reduceMul, Nat.reduceLT, Int.reduceAdd, Int.reduceSub, Int.reduceToNat, v4q]); first | rfl | done) rfl (by simp) ?_ ?_
 . rintro ⟨k, n⟩ g ⟨hk, hn, hl⟩
   dsimp only at hk hn hl
   refine SemA.o ?_
   refine sqby ?_
   refine CondP.dec (fun h => ?_) (fun h => ?_)
   . have hb := bitI_nat x k (by omega)
     have hlt := bitN_lt x k
     have hm : x % 2 ^ (k + 1) = x % 2 ^ k + 2 ^ k * bitN x k := by rw [bitN, Nat.pow_succ, Nat.mod_mul]
     have hmk : x % 2 ^ k < 2 ^ k := Nat.mod_lt _ (Nat.two_pow_pos k)
     refine tqbz (cj2 @vbg @g0) ?_
     refine bit02_ok.det' ?_
     rw [hb]
     refine tqbz (cj2 @vbg @g0) ?_
     refine CondP.dec (fun h2 => ?_) (fun h2 => ?_)
     . have h1 : bitN x k = 1 := by omega
       rw [h1, Nat.mul_one] at hm
       refine tqbz (cj2 @vbg @g0) ?_
       refine ⟨(k + 1, k + 1), ⟨⟨by dsimp only; omega, Nat.le_refl _, ?_⟩, by dsimp only; omega⟩, ⟨rfl, rfl⟩⟩
       refine ⟨?_, .inr ?_⟩
       . dsimp only; rw [hm, Nat.pow_succ]; omega
       . dsimp only; rw [hm]; simp
     . have h1 : bitN x k = 0 := by omega
       rw [h1, Nat.mul_zero, Nat.add_zero] at hm
       refine tqbz (cj2 @vbg @g0) ?_
       refine ⟨(k + 1, n), ⟨⟨by dsimp only; omega, by dsimp only; omega, ?_⟩, by dsimp only; omega⟩, ⟨rfl, rfl⟩⟩
       dsimp only; rw [hm]; exact hl
   . have e : k = 256 := by omega
     subst e
     rw [Nat.mod_eq_of_lt hx] at hl
     refine sqby ?_
     exact ⟨n, ⟨hl, hn⟩, rfl⟩
 . rintro n g tmp ⟨hl, hn⟩
   refine sqby ?_
   exact Vw.cut ⟨⟨n, rfl, hl, hn⟩, rfl, rfl⟩
theorem half2 (x k : Nat) : x / 2 ^ (k + 1) = x / 2 ^ k / 2 := by rw [Nat.pow_succ, <- Nat.div_div_eq_div_mul]
theorem woI (q : Nat -> Bool) (l : List Int) : (l.map wint).map (AV.wo q) = l.map wint := by
 rw [List.map_map]
 refine List.map_congr_left fun x _ => ?_
 show AV.wo q (.p _) = _
 rw [AV.wo]; rfl
theorem onesI (l : List Int) : ones (l.map wint) = true := by
 refine List.all_eq_true.2 fun a ha => ?_
 obtain ⟨x, _, rfl⟩ := List.mem_map.1 ha
 rfl
theorem sl_bits {T l : Tbl} {x n k : Nat} (h : (T ++ l)[T.length + k]? = some (.buf 3 1 ((bitsZ x n).map wint))) : Sl (T ++ l) 1 (.sl (T.length + k) 0 n) ((bitsZ x n).map wint) (bitsZ x n).length := by
 have := Sl.obj (T := T ++ l) (sz := 1) (n := n) h rfl (by rw [List.length_map, bitsZ_len, Nat.mul_one])
 rwa [bitsZ_len]
theorem from_bits256 (z : Nat) : fromZ ((bitsZ z 256).take 256) = z % 2 ^ 256 := by
 rw [List.take_of_length_le (by rw [bitsZ_len]; omega), from_bits]
theorem add02_ok {T : Tbl} {x y : Nat} (hx : x < 2 ^ 256) (hy : y < 2 ^ 256) : CallA prog G 47 [.ag (Bg x), .ag (Bg y)] T fun v T' es => v = .tu [.ag (Bg ((x + y) % 2 ^ 256)), .p (.bool (decide (2 ^ 256 <= x + y)))] /\ T' = T /\ es = [] := by
 refine CallA.wfs fun wf => ?_
 have wt := wf.t
 refine CallA.eV 10 func47 ntmps47 results47 ?_
 refine sqcx ?_
 have g0 := fun l => gn0 T (.cells 47 (Bg x)) l
 have g1 := fun a l => gn1 T a (.cells 47 (Bg y)) l
 refine SemA.adopt 6 3 1 (by decide) rfl ?_
 refine tqcx @vt ?_
 refine SemA.loopK (T.length + 4) (fun s : Nat × Nat => [(2, .ptr T.length 0), (3, .ptr (T.length + 1) 0), (4, .ptr (T.length + 2) 0), (6, .sl (T.length + 3) 0 s.1), (7, wint (s.2 : Int)), (8, wint (s.1 : Int))]) (fun s => T ++ [.cells 47 (Bg x), .cells 47 (Bg y), .cells 47 (Bg 0), .buf 3 1 ((bitsZ (x + y) s.1).map wint)]) (fun s => s.1 <= 256 /\ s.2 <= 1 /\ (x + y) / 2 ^ s.1 = x / 2 ^ s.1 + y / 2 ^ s.1 + s.2) (fun s => 256 - s.1) (0, 0) [] 0 (fun c : Nat => [(4, .ptr (T.length + 2) 0), (6, .sl (T.length + 3) 0 256), (7, wint (c : Int))]) (fun _ => T ++ [.cells 47 (Bg x), .cells 47 (Bg y), .cells 47 (Bg 0), .buf 3 1 ((bitsZ (x + y) 256).map wint)]) (fun c => c <= 1 /\ (x + y) / 2 ^ 256 = c) (by omega) ⟨by simp, by simp, by simp⟩ (by (simp -dsimp +decide (disch := omega) only [vt2, v1q, ↓reduceIte, Nat.reduceSub, Nat.reduceAdd, Nat.reduceMul, Nat.reduceLT, Int.reduceAdd, Int.reduceSub, Int.reduceToNat, v4q]); first | rfl | done) rfl (by simp) ?_ ?_
 . rintro ⟨k, c⟩ g ⟨hk, hc, he⟩
   dsimp only at hk hc he
   refine SemA.o ?_
   refine sqcy ?_
   refine CondP.dec (fun h => ?_) (fun h => ?_)
   . have hbx := bitI_nat x k (by omega)
     have hby := bitI_nat y k (by omega)
     have lx := bitN_lt x k
     have ly := bitN_lt y k
     have hn1 := half2 x k
     have hn2 := half2 y k
     have hn3 := half2 (x + y) k
     have b1 : bitN x k = x / 2 ^ k % 2 := rfl
     have b2 : bitN y k = y / 2 ^ k % 2 := rfl
     have b3 : bitN (x + y) k = (x + y) / 2 ^ k % 2 := rfl
     have hrem : ((bitN x k : Int) + (bitN y k : Int) + (c : Int)).tmod 2 = (bitN (x + y) k : Int) := by
      rw [Int.tmod_eq_emod_of_nonneg (by omega)]; omega
     have hquo : ((bitN x k : Int) + (bitN y k : Int) + (c : Int)).tdiv 2 = (((bitN x k + bitN y k + c) / 2 : Nat) : Int) := by
      rw [Int.tdiv_eq_ediv_of_nonneg (by omega)]; omega
     refine SemA.draw (fun i => true) [(0, true), (1, true), (3, true), (4, true), (7, true), (2, false), (5, false), (6, true), (8, true), (9, true)] mixed (by kernel_rfl) ?_
     refine tqcz (cj3 @vbg @g0 @g1) ?_
     refine bit02_ok.det' ?_
     refine tqcz (cj3 @vbg @g0 @g1) ?_
     refine bit02_ok.det' ?_
     rw [hbx, hby]
     refine tqcz (cj8 @wt @vbg @g0 @g1 @hrem @hquo @woI @onesI) ?_
     refine ⟨⟨bitsZ_len _ _, by omega, by omega⟩, (k + 1, (bitN x k + (bitN y k + c)) / 2), ⟨⟨by dsimp only; omega, by dsimp only; omega, by dsimp only; omega⟩, by dsimp only; omega⟩, ⟨rfl, rfl, rfl⟩, by rw [bitsZ_next]⟩
   . have e : k = 256 := by omega
     subst e
     rw [top0 hx, top0 hy, Nat.add_zero, Nat.zero_add] at he
     refine tqcz (cj3 @wt @vbg @woI) ?_
     exact ⟨c, ⟨hc, he⟩, rfl⟩
 . rintro c g tmp ⟨hc, he⟩
   refine tqcz @vbg ?_
   refine (from02_ok (sl_bits (gn3 T _ _ _ _ [])) (by rw [bitsZ_len]; omega)).det' ?_
   rw [from_bits256]
   have hd : decide ((c : Int) = 1) = decide (2 ^ 256 <= x + y) := by rw [decide_eq_decide]; omega
   refine tqcz (cj4 @wt @vbg @vres @hd) ?_
   exact Vw.cut ⟨by rw [AV.wo, AV.woL_eq]; simp only [List.map_cons, List.map_nil, AV.wo, AV.woL_eq, Bg_wo], rfl, rfl⟩
theorem sub02_ok {T : Tbl} {x y : Nat} (hx : x < 2 ^ 256) (hy : y < 2 ^ 256) : CallA prog G 92 [.ag (Bg x), .ag (Bg y)] T fun v T' es => v = .tu [.ag (Bg ((x + 2 ^ 256 - y) % 2 ^ 256)), .p (.bool (decide (x < y)))] /\ T' = T /\ es = [] := by
 refine CallA.wfs fun wf => ?_
 have wt := wf.t
 refine CallA.eV 10 func92 ntmps92 results92 ?_
 refine sqcx ?_
 have g0 := fun l => gn0 T (.cells 47 (Bg x)) l
 have g1 := fun a l => gn1 T a (.cells 47 (Bg y)) l
 obtain ⟨z, hz⟩ : ∃ z, z = x + 2 ^ 256 - y := ⟨_, rfl⟩
 rw [<- hz]
 refine SemA.adopt 6 3 1 (by decide) rfl ?_
 refine tqcx @vt ?_
 refine SemA.loopK (T.length + 4) (fun s : Nat × Nat => [(2, .ptr T.length 0), (3, .ptr (T.length + 1) 0), (4, .ptr (T.length + 2) 0), (6, .sl (T.length + 3) 0 s.1), (7, wint (s.2 : Int)), (8, wint (s.1 : Int))]) (fun s => T ++ [.cells 47 (Bg x), .cells 47 (Bg y), .cells 47 (Bg 0), .buf 3 1 ((bitsZ z s.1).map wint)]) (fun s => s.1 <= 256 /\ s.2 <= 1 /\ z / 2 ^ s.1 + y / 2 ^ s.1 + s.2 = x / 2 ^ s.1 + 2 ^ (256 - s.1)) (fun s => 256 - s.1) (0, 0) [] 0 (fun c : Nat => [(4, .ptr (T.length + 2) 0), (6, .sl (T.length + 3) 0 256), (7, wint (c : Int))]) (fun _ => T ++ [.cells 47 (Bg x), .cells 47 (Bg y), .cells 47 (Bg 0), .buf 3 1 ((bitsZ z 256).map wint)]) (fun c => c <= 1 /\ z / 2 ^ 256 + c = 1) (by omega) ⟨by simp, by simp, by simp only [Nat.pow_zero, Nat.div_one, Nat.sub_zero]; omega⟩ (by (simp -dsimp +decide (disch := omega) only [vt2, v1q, ↓reduceIte, Nat.reduceSub, Nat.reduceAdd, Nat.reduceMul, Nat.reduceLT, Int.reduceAdd, Int.reduceSub, Int.reduceToNat, v4q]); first | rfl | done) rfl (by simp) ?_ ?_
 . rintro ⟨k, c⟩ g ⟨hk, hc, he⟩
   dsimp only at hk hc he
   refine SemA.o ?_
   refine sqcy ?_
   refine CondP.dec (fun h => ?_) (fun h => ?_)
   . have hbx := bitI_nat x k (by omega)
     have hby := bitI_nat y k (by omega)
     have lx := bitN_lt x k
     have ly := bitN_lt y k
     have hn1 := half2 x k
     have hn2 := half2 y k
     have hn3 := half2 z k
     have b1 : bitN x k = x / 2 ^ k % 2 := rfl
     have b2 : bitN y k = y / 2 ^ k % 2 := rfl
     have b3 : bitN z k = z / 2 ^ k % 2 := rfl
     have hw : 2 ^ (256 - k) = 2 * 2 ^ (255 - k) := by rw [show 256 - k = (255 - k) + 1 by omega, Nat.pow_succ, Nat.mul_comm]
     refine SemA.draw (fun i => true) [(0, true), (1, true), (3, true), (4, true), (7, true), (2, false), (5, false), (6, true), (8, true), (9, true)] mixed (by kernel_rfl) ?_
     refine tqcz (cj3 @vbg @g0 @g1) ?_
     refine bit02_ok.det' ?_
     refine tqcz (cj3 @vbg @g0 @g1) ?_
     refine bit02_ok.det' ?_
     rw [hbx, hby]
     refine tqcz (cj6 @wt @vbg @g0 @g1 @woI @onesI) ?_
     refine CondP.dec (fun h2 => ?_) (fun h2 => ?_)
     . have hs : (bitN x k : Int) - (bitN y k : Int) - (c : Int) + 2 = (bitN z k : Int) := by omega
       refine tqcz (cj7 @wt @vbg @g0 @g1 @woI @onesI @hs) ?_
       refine ⟨⟨bitsZ_len _ _, by omega, by omega⟩, (k + 1, 1), ⟨⟨by dsimp only; omega, by dsimp only; omega, by dsimp only; rw [show 256 - (k + 1) = 255 - k by omega]; omega⟩, by dsimp only; omega⟩, ⟨rfl, rfl, rfl⟩, by rw [bitsZ_next]⟩
     . have hs : (bitN x k : Int) - (bitN y k : Int) - (c : Int) = (bitN z k : Int) := by omega
       refine tqcz (cj7 @wt @vbg @g0 @g1 @woI @onesI @hs) ?_
       refine ⟨⟨bitsZ_len _ _, by omega, by omega⟩, (k + 1, 0), ⟨⟨by dsimp only; omega, by dsimp only; omega, by dsimp only; rw [show 256 - (k + 1) = 255 - k by omega]; omega⟩, by dsimp only; omega⟩, ⟨rfl, rfl, rfl⟩, by rw [bitsZ_next]⟩
   . have e : k = 256 := by omega
     subst e
     rw [top0 hx, top0 hy, Nat.add_zero, Nat.zero_add] at he
     refine tqcz (cj3 @wt @vbg @woI) ?_
     exact ⟨c, ⟨hc, he⟩, rfl⟩
 . rintro c g tmp ⟨hc, he⟩
   refine tqcz @vbg ?_
   refine (from02_ok (sl_bits (gn3 T _ _ _ _ [])) (by rw [bitsZ_len]; omega)).det' ?_
   rw [from_bits256]
   have hd : decide ((c : Int) = 1) = decide (x < y) := by rw [decide_eq_decide]; omega
   refine tqcz (cj4 @wt @vbg @vres @hd) ?_
   exact Vw.cut ⟨by rw [AV.wo, AV.woL_eq]; simp only [List.map_cons, List.map_nil, AV.wo, AV.woL_eq, Bg_wo], rfl, rfl⟩
theorem bitN_mul (x n i : Nat) : bitN (x * 2 ^ n) i = if i < n then 0 else bitN x (i - n) := by
 split
 . rename_i h
   rw [bitN, show n = i + ((n - i - 1) + 1) by omega, Nat.pow_add, <- Nat.mul_assoc, Nat.mul_right_comm, Nat.mul_div_cancel _ (Nat.two_pow_pos i), Nat.pow_succ, <- Nat.mul_assoc, Nat.mul_mod_left]
 . rename_i h
   have e : 2 ^ i = 2 ^ (i - n) * 2 ^ n := by rw [<- Nat.pow_add]; congr 1; omega
   rw [bitN, bitN, e, Nat.mul_div_mul_right _ _ (Nat.two_pow_pos n)]
theorem bitN_div (x n i : Nat) : bitN (x / 2 ^ n) i = bitN x (i + n) := by
 rw [bitN, bitN, Nat.div_div_eq_div_mul, <- Nat.pow_add, Nat.add_comm]
theorem bitI_up {x n i : Nat} (hi : i < 256) (hn : n <= 256) : bitI x ((i : Int) - (n : Int)) = bitN (x * 2 ^ n) i := by
 rw [bitN_mul, bitI]
 by_cases h : i < n
 . rw [if_pos h, if_neg (by omega)]
 . rw [if_neg h, if_pos (by omega), show ((i : Int) - (n : Int)).toNat = i - n by omega]
theorem bitI_down {x n i : Nat} (hx : x < 2 ^ 256) : bitI x ((i : Int) + (n : Int)) = bitN (x / 2 ^ n) i := by
 rw [bitN_div, bitI]
 by_cases h : i + n < 256
 . rw [if_pos (by omega), show ((i : Int) + (n : Int)).toNat = i + n by omega]
 . rw [if_neg (by omega), bit_top hx (by omega)]
theorem up02_ok {T : Tbl} {x n : Nat} (hx : x < 2 ^ 256) (hn : n <= 1000000) : CallA prog G 88 [.ag (Bg x), wint (n : Int)] T fun v T' es => v = .ag (Bg (x * 2 ^ n % 2 ^ 256)) /\ T' = T /\ es = [] := by
 refine CallA.wfs fun wf => ?_
 have wt := wf.t
 refine CallA.eV 7 func88 ntmps88 results88 ?_
 refine sqcx ?_
 have g0 := fun l => gn0 T (.cells 47 (Bg x)) l
 have ez : [oQ, oQ, oQ, oQ] = Bg 0 := rfl
 by_cases h0 : n = 0
 . subst h0
   rw [Nat.pow_zero, Nat.mul_one, Nat.mod_eq_of_lt hx]
   have h1 : (((0 : Nat) : Int) <= 0) = True := by simp
   refine tqcz (cj4 @vbg @ez @g0 @h1) ?_
   exact Vw.cut ⟨by rw [AV.wo, AV.woL_eq, Bg_wo], rfl, rfl⟩
 have h1 : ((n : Int) <= 0) = False := by simp; omega
 refine tqcz (cj4 @vbg @ez @g0 @h1) ?_
 refine SemA.adopt 5 3 1 (by decide) rfl ?_
 refine tqcx @vt ?_
 refine SemA.loopK (T.length + 3) (fun k : Nat => [(2, .ptr T.length 0), (1, wint (n : Int)), (4, .ptr (T.length + 1) 0), (5, .sl (T.length + 2) 0 k), (6, wint (k : Int))]) (fun k => T ++ [.cells 47 (Bg x), .cells 47 (Bg 0), .buf 3 1 ((bitsZ (x * 2 ^ n) k).map wint)]) (fun k => k <= 256) (fun k => 256 - k) 0 [] 0 (fun _ : Unit => [(4, .ptr (T.length + 1) 0), (5, .sl (T.length + 2) 0 256)]) (fun _ => T ++ [.cells 47 (Bg x), .cells 47 (Bg 0), .buf 3 1 ((bitsZ (x * 2 ^ n) 256).map wint)]) (fun _ => True) (by omega) (by simp) (by (simp -dsimp +decide (disch := omega) only [vt2, v1q, ↓reduceIte, Nat.reduceSub, Nat.reduceAdd, Nat.reduceMul, Nat.reduceLT, Int.reduceAdd, Int.reduceSub, Int.reduceToNat, v4q]); first | rfl | done) rfl (by simp) ?_ ?_
 . rintro k g hk
   refine SemA.o ?_
   refine sqcy ?_
   refine CondP.dec (fun h => ?_) (fun h => ?_)
   . by_cases h2 : (256 : Int) < (n : Int)
     . have hz : (0 : Int) = (bitN (x * 2 ^ n) k : Int) := by rw [bitN_mul, if_pos (by omega)]; rfl
       refine tqcz (cj6 @wt @vbg @g0 @h2 @woI @onesI) ?_
       exact ⟨⟨bitsZ_len _ _, by omega, by omega⟩, k + 1, ⟨by omega, by omega⟩, ⟨rfl, rfl⟩, by rw [bitsZ_next, <- hz]⟩
     . have hb := bitI_up (x := x) (n := n) (i := k) (by omega) (by omega)
       refine tqcz (cj6 @wt @vbg @g0 @h2 @woI @onesI) ?_
       refine bit02_ok.det' ?_
       rw [hb]
       refine tqcz (cj6 @wt @vbg @g0 @h2 @woI @onesI) ?_
       exact ⟨⟨bitsZ_len _ _, by omega, by omega⟩, k + 1, ⟨by omega, by omega⟩, ⟨rfl, rfl⟩, by rw [bitsZ_next]⟩
   . have e : k = 256 := by omega
     subst e
     refine tqcz (cj3 @wt @vbg @woI) ?_
     exact ⟨(), trivial⟩
 . rintro _ g tmp -
   refine tqcz @vbg ?_
   refine (from02_ok (sl_bits (gn2 T _ _ _ [])) (by rw [bitsZ_len]; omega)).det' ?_
   rw [from_bits256]
   refine tqcz (cj3 @wt @vbg @vres) ?_
   exact Vw.cut ⟨by rw [AV.wo, AV.woL_eq, Bg_wo], rfl, rfl⟩
theorem down02_ok {T : Tbl} {x n : Nat} (hx : x < 2 ^ 256) (hn : n <= 1000000) : CallA prog G 87 [.ag (Bg x), wint (n : Int)] T fun v T' es => v = .ag (Bg (x / 2 ^ n)) /\ T' = T /\ es = [] := by
 refine CallA.wfs fun wf => ?_
 have wt := wf.t
 refine CallA.eV 7 func87 ntmps87 results87 ?_
 refine sqcx ?_
 have g0 := fun l => gn0 T (.cells 47 (Bg x)) l
 have ez : [oQ, oQ, oQ, oQ] = Bg 0 := rfl
 by_cases h0 : n = 0
 . subst h0
   rw [Nat.pow_zero, Nat.div_one]
   have h1 : (((0 : Nat) : Int) <= 0) = True := by simp
   refine tqcz (cj4 @vbg @ez @g0 @h1) ?_
   exact Vw.cut ⟨by rw [AV.wo, AV.woL_eq, Bg_wo], rfl, rfl⟩
 have h1 : ((n : Int) <= 0) = False := by simp; omega
 refine tqcz (cj4 @vbg @ez @g0 @h1) ?_
 refine SemA.adopt 5 3 1 (by decide) rfl ?_
 refine tqcx @vt ?_
 refine SemA.loopK (T.length + 3) (fun k : Nat => [(2, .ptr T.length 0), (1, wint (n : Int)), (4, .ptr (T.length + 1) 0), (5, .sl (T.length + 2) 0 k), (6, wint (k : Int))]) (fun k => T ++ [.cells 47 (Bg x), .cells 47 (Bg 0), .buf 3 1 ((bitsZ (x / 2 ^ n) k).map wint)]) (fun k => k <= 256) (fun k => 256 - k) 0 [] 0 (fun _ : Unit => [(4, .ptr (T.length + 1) 0), (5, .sl (T.length + 2) 0 256)]) (fun _ => T ++ [.cells 47 (Bg x), .cells 47 (Bg 0), .buf 3 1 ((bitsZ (x / 2 ^ n) 256).map wint)]) (fun _ => True) (by omega) (by simp) (by (simp -dsimp +decide (disch := omega) only [vt2, v1q, ↓reduceIte, Nat.reduceSub, Nat.reduceAdd, Nat.reduceMul, Nat.reduceLT, Int.reduceAdd, Int.reduceSub, Int.reduceToNat, v4q]); first | rfl | done) rfl (by simp) ?_ ?_
 . rintro k g hk
   refine SemA.o ?_
   refine sqcy ?_
   refine CondP.dec (fun h => ?_) (fun h => ?_)
   . by_cases h2 : (256 : Int) < (n : Int)
     . have hz : (0 : Int) = (bitN (x / 2 ^ n) k : Int) := by rw [bitN_div, bit_top hx (by omega)]; rfl
       refine tqcz (cj6 @wt @vbg @g0 @h2 @woI @onesI) ?_
       exact ⟨⟨bitsZ_len _ _, by omega, by omega⟩, k + 1, ⟨by omega, by omega⟩, ⟨rfl, rfl⟩, by rw [bitsZ_next, <- hz]⟩
     . have hb := bitI_down (n := n) (i := k) hx
       refine tqcz (cj6 @wt @vbg @g0 @h2 @woI @onesI) ?_
       refine bit02_ok.det' ?_
       rw [hb]
       refine tqcz (cj6 @wt @vbg @g0 @h2 @woI @onesI) ?_
       exact ⟨⟨bitsZ_len _ _, by omega, by omega⟩, k + 1, ⟨by omega, by omega⟩, ⟨rfl, rfl⟩, by rw [bitsZ_next]⟩
   . have e : k = 256 := by omega
     subst e
     refine tqcz (cj3 @wt @vbg @woI) ?_
     exact ⟨(), trivial⟩
 . rintro _ g tmp -
   refine tqcz @vbg ?_
   refine (from02_ok (sl_bits (gn2 T _ _ _ [])) (by rw [bitsZ_len]; omega)).det' ?_
   rw [from_bits256, Nat.mod_eq_of_lt (Nat.lt_of_le_of_lt (Nat.div_le_self _ _) hx)]
   refine tqcz (cj3 @wt @vbg @vres) ?_
   exact Vw.cut ⟨by rw [AV.wo, AV.woL_eq, Bg_wo], rfl, rfl⟩
theorem u8_bit (b : UInt8) {j : Nat} (hj : j < 8) : (u8_shr b j &&& 1).toNat = b.toNat / 2 ^ j % 2 := by
 rw [UInt8.toNat_and, u8_shr, if_pos hj, UInt8.toNat_shiftRight]
 show b.toNat >>> ((UInt8.ofNat j).toNat % 8) &&& 1 = _
 rw [UInt8.toNat_ofNat', Nat.mod_eq_of_lt (a := j) (b := 2 ^ 8) (by omega), Nat.mod_eq_of_lt hj, Nat.shiftRight_eq_div_pow, Nat.and_one_is_mod]
theorem i64_small {n : Nat} (h : n < 9223372036854775808) : IntKind.i64.wrap (n : Int) = (n : Int) := by
 simp -dsimp +decide (disch := omega) only [vi]
def hN : List UInt8 -> Nat
 | [] => 0
 | b :: r => b.toNat + 256 * hN r
theorem hN_lt : ∀ l : List UInt8, hN l < 2 ^ (8 * l.length)
 | [] => by simp [hN]
 | b :: r => by
   have h1 := hN_lt r
   have h2 := b.toNat_lt
   rw [hN, List.length_cons, show 8 * (r.length + 1) = 8 * r.length + 8 by omega, Nat.pow_add]
   omega
theorem hN_bit : ∀ (l : List UInt8) (i : Nat), bitN (hN l) i = match l[i / 8]? with | none => 0 | some b => b.toNat / 2 ^ (i % 8) % 2
 | [], i => by simp [hN, bitN]
 | b :: r, i => by
   have h2 := b.toNat_lt
   rw [hN, bitN]
   by_cases h : i < 8
   . rw [show i / 8 = 0 by omega, show i % 8 = i by omega]
     show (b.toNat + 256 * hN r) / 2 ^ i % 2 = b.toNat / 2 ^ i % 2
     rw [show 256 = 2 ^ i * (2 * 2 ^ (7 - i)) by rw [<- Nat.pow_succ', <- Nat.pow_add, show i + (7 - i + 1) = 8 by omega], Nat.mul_assoc, Nat.add_mul_div_left _ _ (Nat.two_pow_pos i), Nat.mul_assoc, Nat.add_mul_mod_self_left]
   . have e : 2 ^ i = 256 * 2 ^ (i - 8) := by rw [show (256 : Nat) = 2 ^ 8 from rfl, <- Nat.pow_add, show 8 + (i - 8) = i by omega]
     have e2 : (b.toNat + 256 * hN r) / 256 = hN r := by omega
     rw [e, <- Nat.div_div_eq_div_mul, e2]
     have := hN_bit r (i - 8)
     rw [bitN] at this
     rw [this, show i / 8 = (i - 8) / 8 + 1 by omega, List.getElem?_cons_succ, show (i - 8) % 8 = i % 8 by omega]
theorem ofhash02_ok {T : Tbl} {h : List UInt8} (hh : h.length = 32) : CallA prog G 90 [.ag (h.map by8)] T fun v T' es => v = .ag (Bg (hN h)) /\ T' = T /\ es = [] := by
 refine CallA.wfs fun wf => ?_
 have wt := wf.t
 refine CallA.eV 5 func90 ntmps90 results90 ?_
 refine sqcx ?_
 have g0 := fun l => gn0 T (.cells 26 (h.map by8)) l
 have hlt : hN h < 2 ^ 256 := by have := hN_lt h; rwa [hh] at this
 refine SemA.adopt 3 3 1 (by decide) rfl ?_
 refine tqcx @vt ?_
 refine SemA.loopK (T.length + 3) (fun k : Nat => [(1, .ptr T.length 0), (2, .ptr (T.length + 1) 0), (3, .sl (T.length + 2) 0 k), (4, wint (k : Int))]) (fun k => T ++ [.cells 26 (h.map by8), .cells 47 (Bg 0), .buf 3 1 ((bitsZ (hN h) k).map wint)]) (fun k => k <= 256) (fun k => 256 - k) 0 [] 0 (fun _ : Unit => [(2, .ptr (T.length + 1) 0), (3, .sl (T.length + 2) 0 256)]) (fun _ => T ++ [.cells 26 (h.map by8), .cells 47 (Bg 0), .buf 3 1 ((bitsZ (hN h) 256).map wint)]) (fun _ => True) (by omega) (by simp) (by (simp -dsimp +decide (disch := omega) only [vt2, v1q, ↓reduceIte, Nat.reduceSub, Nat.reduceAdd, Nat.reduceMul, Nat.reduceLT, Int.reduceAdd, Int.reduceSub, Int.reduceToNat, v4q]); first | rfl | done) rfl (by simp) ?_ ?_
 . rintro k g hk
   refine SemA.o ?_
   refine sqcy ?_
   refine CondP.dec (fun h1 => ?_) (fun h1 => ?_)
   . obtain ⟨b, hb⟩ : ∃ b, h[k / 8]? = some b := ⟨h[k / 8]'(by omega), by simp⟩
     have hbg : (h.map by8)[k / 8]? = some (by8 b) := by rw [List.getElem?_map, hb]; rfl
     have hbit := hN_bit h k
     rw [hb] at hbit
     dsimp only at hbit
     have t8 : (∀ a : Nat, (a : Int).tmod 8 = ((a % 8 : Nat) : Int)) /\ (∀ a : Nat, (a : Int).tdiv 8 = ((a / 8 : Nat) : Int)) := ⟨fun _ => rfl, fun _ => rfl⟩
     refine tqcz (cj10 @wt @vbg @g0 @t8 @hbg @hb @woI @onesI @List.length_map.{0, 0} @hh) ?_
     have hj : (u8_shr b (UInt64.ofInt ((k % 8 : Nat) : Int)).toNat &&& UInt8.ofInt 1).toNat = bitN (hN h) k := by
      rw [show (UInt64.ofInt ((k % 8 : Nat) : Int)).toNat = k % 8 from ofInt_lt (by omega), show UInt8.ofInt 1 = 1 from rfl, hbit, u8_bit _ (by omega)]
     have hlt2 := bitN_lt (hN h) k
     rw [hj, i64_small (by omega)]
     exact ⟨⟨by omega, by omega⟩, ⟨bitsZ_len _ _, by omega, by omega⟩, k + 1, ⟨by omega, by omega⟩, ⟨rfl, rfl⟩, by rw [bitsZ_next]⟩
   . have e : k = 256 := by omega
     subst e
     refine tqcz (cj3 @wt @vbg @woI) ?_
     exact ⟨(), trivial⟩
 . rintro _ g tmp -
   refine tqcz @vbg ?_
   refine (from02_ok (sl_bits (gn2 T _ _ _ [])) (by rw [bitsZ_len]; omega)).det' ?_
   rw [from_bits256, Nat.mod_eq_of_lt hlt]
   refine tqcz (cj3 @wt @vbg @vres) ?_
   exact Vw.cut ⟨by rw [AV.wo, AV.woL_eq, Bg_wo], rfl, rfl⟩
theorem bitI_up' {x k i : Nat} (hx : x < 2 ^ 256) : bitI x ((i : Int) - (k : Int)) = bitN (x * 2 ^ k) i := by
 rw [bitN_mul, bitI]
 by_cases h : i < k
 . rw [if_pos h, if_neg (by omega)]
 . rw [if_neg h]
   by_cases h2 : i - k < 256
   . rw [if_pos (by omega), show ((i : Int) - (k : Int)).toNat = i - k by omega]
   . rw [if_neg (by omega), bit_top hx (by omega)]
def mixZ (a b i n : Nat) : List Int := bitsZ a i ++ (bitsZ b n).drop i
theorem mixZ_len {a b i n : Nat} (h : i <= n) : (mixZ a b i n).length = n := by simp [mixZ, bitsZ_len]; omega
theorem mixZ_get {a b i n : Nat} (h : i < n) : (mixZ a b i n)[i]? = some (bitN b i : Int) := by
 rw [mixZ, List.getElem?_append_right (by rw [bitsZ_len]; omega), bitsZ_len, Nat.sub_self, List.getElem?_drop, Nat.add_zero, bitsZ_get b h]
theorem mixZ_set {a b i n : Nat} (h : i < n) : (mixZ a b i n).set i (bitN a i : Int) = mixZ a b (i + 1) n := by
 rw [mixZ, List.set_append_right _ _ (by rw [bitsZ_len]; omega), bitsZ_len, Nat.sub_self, mixZ, bitsZ_next, List.append_assoc]
 congr 1
 have hl : i < (bitsZ b n).length := by rw [bitsZ_len]; exact h
 rw [List.drop_eq_getElem_cons hl, List.set_cons_zero]; rfl
theorem mixZ_end {a b n : Nat} : mixZ a b n n = bitsZ a n := by
 rw [mixZ, List.drop_of_length_le (by rw [bitsZ_len]; omega), List.append_nil]
theorem bitsZ_same {a b k : Nat} (h : ∀ i, i < k -> bitN a i = bitN b i) : bitsZ a k = bitsZ b k := List.map_congr_left fun i hi => by rw [h i (by simpa using hi)]
theorem mixZ_begin {a b k n : Nat} (hk : k <= n) (h : ∀ i, i < k -> bitN a i = bitN b i) : bitsZ b n = mixZ a b k n := by
 rw [mixZ, bitsZ_same h]
 have : bitsZ b k = (bitsZ b n).take k := by
  rw [bitsZ, bitsZ, <- List.map_take, List.take_range, Nat.min_eq_left hk]
 rw [this, List.take_append_drop]
theorem bitN_addmul (u x k i : Nat) (h : i < k) : bitN (u + x * 2 ^ k) i = bitN u i := by
 rw [bitN, show k = i + ((k - i - 1) + 1) by omega, Nat.pow_add, <- Nat.mul_assoc, Nat.mul_right_comm, Nat.mul_comm _ (2 ^ i), Nat.add_mul_div_left _ _ (Nat.two_pow_pos i), Nat.pow_succ, <- Nat.mul_assoc, Nat.add_mul_mod_self_right]; rfl
theorem div_addmul (u x k : Nat) : (u + x * 2 ^ k) / 2 ^ k = u / 2 ^ k + x := by
 rw [Nat.mul_comm, Nat.add_mul_div_left _ _ (Nat.two_pow_pos k)]
theorem mulstep (x n k : Nat) : x * (n % 2 ^ (k + 1)) = x * (n % 2 ^ k) + bitN n k * (x * 2 ^ k) := by
 rw [bitN, Nat.pow_succ, Nat.mod_mul, Nat.mul_add]
 congr 1
 rw [Nat.mul_comm (2 ^ k), Nat.mul_left_comm]
theorem u64_bit (b : UInt64) {j : Nat} (hj : j < 64) : (u64_shr b j &&& 1).toNat = bitN b.toNat j := by
 rw [UInt64.toNat_and, u64_shr, if_pos hj, UInt64.toNat_shiftRight, bitN]
 show b.toNat >>> ((UInt64.ofNat j).toNat % 64) &&& 1 = _
 rw [UInt64.toNat_ofNat', Nat.mod_eq_of_lt (a := j) (b := 2 ^ 64) (by omega), Nat.mod_eq_of_lt hj, Nat.shiftRight_eq_div_pow, Nat.and_one_is_mod]
theorem zeros_bits (n : Nat) : (bitsZ 0 n).map wint = List.replicate n (wint 0) := by
 rw [bitsZ, List.map_map]
 refine List.ext_getElem (by simp) fun i h1 h2 => ?_
 simp [bitN]
theorem or_next {Q k : Nat} (hk : k < 64) : UInt64.ofNat (Q % 2 ^ k) ||| u64_shl (UInt64.ofInt (bitN Q k : Int)) k = UInt64.ofNat (Q % 2 ^ (k + 1)) := by
 have hb := bitN_lt Q k
 have h1 : 2 ^ k <= 2 ^ 63 := Nat.pow_le_pow_right (by decide) (by omega)
 have h2 : Q % 2 ^ k < 2 ^ k := Nat.mod_lt _ (Nat.two_pow_pos k)
 have h3 : Q % 2 ^ (k + 1) < 2 ^ (k + 1) := Nat.mod_lt _ (Nat.two_pow_pos _)
 have h4 : 2 ^ k * bitN Q k <= 2 ^ k := by
  calc 2 ^ k * bitN Q k <= 2 ^ k * 1 := Nat.mul_le_mul_left _ (by omega)
   _ = 2 ^ k := Nat.mul_one _
 have h5 : Q % 2 ^ (k + 1) = Q % 2 ^ k + 2 ^ k * bitN Q k := by rw [bitN, Nat.pow_succ, Nat.mod_mul]
 apply UInt64.toNat_inj.1
 rw [UInt64.toNat_or, UInt64.toNat_ofNat', UInt64.toNat_ofNat', u64_shl, if_pos hk, UInt64.toNat_shiftLeft, ofInt_lt (by omega)]
 show Q % 2 ^ k % 2 ^ 64 ||| bitN Q k <<< ((UInt64.ofNat k).toNat % 64) % 2 ^ 64 = _
 rw [UInt64.toNat_ofNat', Nat.mod_eq_of_lt (a := k) (b := 2 ^ 64) (by omega), Nat.mod_eq_of_lt hk, Nat.shiftLeft_eq, Nat.mul_comm (bitN Q k), Nat.mod_eq_of_lt (a := Q % 2 ^ k) (by omega), Nat.mod_eq_of_lt (a := 2 ^ k * bitN Q k) (by omega), Nat.or_comm, <- Nat.two_pow_add_eq_or_of_lt h2, h5, Nat.mod_eq_of_lt (a := Q % 2 ^ k + 2 ^ k * bitN Q k) (b := 2 ^ 64) (by omega), Nat.add_comm]
theorem mul02_ok {T : Tbl} {x : Nat} {n : UInt64} (hx : x < 2 ^ 256) : CallA prog G 112 [.ag (Bg x), w64 n] T fun v T' es => v = .tu [.ag (Bg (x * n.toNat % 2 ^ 256)), w64 (UInt64.ofNat (x * n.toNat / 2 ^ 256))] /\ T' = T /\ es = [] := by
 refine CallA.wfs fun wf => ?_
 have wt := wf.t
 refine CallA.eV 13 func112 ntmps112 results112 ?_
 refine sqbx ?_
 have g0 := fun l => gn0 T (.cells 47 (Bg x)) l
 have ez : [oQ, oQ, oQ, oQ] = Bg 0 := rfl
 refine tqbx (cj2 @vt @ez) ?_
 refine SemA.loopE (fun k : Nat => [(1, w64 n), (2, .ptr T.length 0), (4, .ptr (T.length + 1) 0), (6, .sl (T.length + 2) 0 320), (7, wint (k : Int))]) (fun k => T ++ [.cells 47 (Bg x), .cells 47 (Bg 0), .buf 3 1 ((bitsZ (x * (n.toNat % 2 ^ k)) 320).map wint)]) (fun k => k <= 64) (fun k => 64 - k) 0 [] 0 (fun _ : Unit => [(4, .ptr (T.length + 1) 0), (6, .sl (T.length + 2) 0 320)]) (fun _ => T ++ [.cells 47 (Bg x), .cells 47 (Bg 0), .buf 3 1 ((bitsZ (x * n.toNat) 320).map wint)]) (fun _ => True) (by omega) (by (simp -dsimp +decide (disch := omega) only [v1q, ↓reduceIte, Nat.reduceSub, Nat.reduceAdd, Nat.reduceMul, Nat.reduceLT, Int.reduceAdd, Int.reduceSub, Int.reduceToNat, v4q]); first | rfl | done) (by rw [Nat.pow_zero, Nat.mod_one, Nat.mul_zero, zeros_bits]; rfl) (by simp) ?_ ?_
 . rintro k g hk
   refine SemA.o ?_
   refine sqby ?_
   refine CondP.dec (fun h => ?_) (fun h => ?_)
   . have hb : (u64_shr n (UInt64.ofInt (k : Int)).toNat &&& UInt64.ofInt 1).toNat = bitN n.toNat k := by
      rw [ofInt_lt (by omega), show UInt64.ofInt 1 = 1 from rfl, u64_bit n (by omega)]
     have hbl := bitN_lt n.toNat k
     have hst := mulstep x n.toNat k
     refine tqbz (cj2 @vbg @hb) ?_
     refine CondP.dec (fun h2 => ?_) (fun h2 => ?_)
     . have hb0 : bitN n.toNat k = 0 := by omega
       simp only [hb0, Nat.zero_mul, Nat.add_zero] at hst
       refine tqbz @vbg ?_
       exact ⟨k + 1, ⟨by omega, by omega⟩, rfl, by rw [hst]⟩
     . have hb1 : bitN n.toNat k = 1 := by omega
       rw [hb1, Nat.one_mul] at hst
       obtain ⟨u, hu⟩ : ∃ u, u = x * (n.toNat % 2 ^ k) := ⟨_, rfl⟩
       rw [<- hu] at hst ⊢
       refine tqbz @vbg ?_
       refine SemA.loopE (fun s : Nat × Nat => [(1, w64 n), (2, .ptr T.length 0), (4, .ptr (T.length + 1) 0), (6, .sl (T.length + 2) 0 320), (7, wint (k : Int)), (8, wint (s.2 : Int)), (9, wint (s.1 : Int))]) (fun s => T ++ [.cells 47 (Bg x), .cells 47 (Bg 0), .buf 3 1 ((mixZ (u + x * 2 ^ k) u s.1 320).map wint)]) (fun s => k <= s.1 /\ s.1 <= 320 /\ s.2 <= 1 /\ (u + x * 2 ^ k) / 2 ^ s.1 = u / 2 ^ s.1 + x * 2 ^ k / 2 ^ s.1 + s.2) (fun s => 320 - s.1) (k, 0) [] 2 (fun _ : Unit => [(1, w64 n), (2, .ptr T.length 0), (4, .ptr (T.length + 1) 0), (6, .sl (T.length + 2) 0 320), (7, wint (k : Int))]) (fun _ => T ++ [.cells 47 (Bg x), .cells 47 (Bg 0), .buf 3 1 ((bitsZ (u + x * 2 ^ k) 320).map wint)]) (fun _ => True) ⟨Nat.le_refl _, by dsimp only; omega, by simp, by dsimp only; rw [div_addmul, Nat.mul_div_cancel _ (Nat.two_pow_pos k), Nat.add_zero]⟩ (by (simp -dsimp +decide (disch := omega) only [v1q, ↓reduceIte, Nat.reduceSub, Nat.reduceAdd, Nat.reduceMul, Nat.reduceLT, Int.reduceAdd, Int.reduceSub, Int.reduceToNat, v4q]); first | rfl | done) (by dsimp only; rw [mixZ_begin (a := u + x * 2 ^ k) (k := k) (by omega) fun i hi => bitN_addmul u x k i hi]) (by simp) ?_ ?_
       . rintro ⟨i, c⟩ g1 ⟨hki, hi, hc, he⟩
         dsimp only at hki hi hc he
         refine SemA.o ?_
         refine sqby ?_
         refine CondP.dec (fun h3 => ?_) (fun h3 => ?_)
         . have hbx := bitI_up' (k := k) (i := i) hx
           have hg : ((mixZ (u + x * 2 ^ k) u i 320).map wint)[i]? = some (wint (bitN u i)) := by rw [List.getElem?_map, mixZ_get (by omega)]; rfl
           have hml : (mixZ (u + x * 2 ^ k) u i 320).length = 320 := mixZ_len (by omega)
           have lx := bitN_lt u i
           have ly := bitN_lt (x * 2 ^ k) i
           have hn1 := half2 u i
           have hn2 := half2 (x * 2 ^ k) i
           have hn3 := half2 (u + x * 2 ^ k) i
           have b1 : bitN u i = u / 2 ^ i % 2 := rfl
           have b2 : bitN (x * 2 ^ k) i = x * 2 ^ k / 2 ^ i % 2 := rfl
           have b3 : bitN (u + x * 2 ^ k) i = (u + x * 2 ^ k) / 2 ^ i % 2 := rfl
           have hrem : ((bitN u i : Int) + (bitN (x * 2 ^ k) i : Int) + (c : Int)).tmod 2 = (bitN (u + x * 2 ^ k) i : Int) := by
            rw [Int.tmod_eq_emod_of_nonneg (by omega)]; omega
           have hquo : ((bitN u i : Int) + (bitN (x * 2 ^ k) i : Int) + (c : Int)).tdiv 2 = (((bitN u i + bitN (x * 2 ^ k) i + c) / 2 : Nat) : Int) := by
            rw [Int.tdiv_eq_ediv_of_nonneg (by omega)]; omega
           refine SemA.draw (fun i => true) [(0, true), (1, true), (2, true), (3, true), (4, true), (5, true), (6, true), (7, true), (10, true), (8, false), (9, true), (11, true), (12, true)] mixed (by kernel_rfl) ?_
           refine tqbz (cj3 @vbg @g0 @hg) ?_
           have hne : List.map wint (mixZ (u + x * 2 ^ k) u i 320) ≠ [] := fun e => by rw [e] at hg; simp at hg
           refine ⟨⟨by omega, by omega, hne⟩, ?_⟩
           refine bit02_ok.det' ?_
           rw [hbx]
           refine tqbz (cj7 @vbg @g0 @hg @hrem @hquo @List.length_map.{0, 0} @hml) ?_
           exact ⟨⟨by omega, by omega, hne⟩, by omega, (i + 1, (bitN u i + (bitN (x * 2 ^ k) i + c)) / 2), ⟨⟨by dsimp only; omega, by dsimp only; omega, by dsimp only; omega, by dsimp only; omega⟩, by dsimp only; omega⟩, ⟨rfl, rfl⟩, by rw [mixZ_set (by omega)]⟩
         . have e : i = 320 := by omega
           subst e
           rw [mixZ_end]
           refine sqby ?_
           exact ⟨(), trivial⟩
       . rintro _ g1 tmp1 -
         refine tqbz @vbg ?_
         exact ⟨k + 1, ⟨by omega, by omega⟩, rfl, by rw [hst]⟩
   . have e : k = 64 := by omega
     subst e
     rw [Nat.mod_eq_of_lt n.toNat_lt]
     refine sqby ?_
     exact ⟨(), trivial⟩
 . rintro _ g tmp -
   refine tqbz @vbg ?_
   obtain ⟨P, hP⟩ : ∃ P, P = x * n.toNat := ⟨_, rfl⟩
   rw [<- hP]
   refine SemA.loopE (fun k : Nat => [(4, .ptr (T.length + 1) 0), (6, .sl (T.length + 2) 0 320), (11, w64 (UInt64.ofNat (P / 2 ^ 256 % 2 ^ k))), (12, wint (k : Int))]) (fun _ => T ++ [.cells 47 (Bg x), .cells 47 (Bg 0), .buf 3 1 ((bitsZ P 320).map wint)]) (fun k => k <= 64) (fun k => 64 - k) 0 [] 4 (fun _ : Unit => [(4, .ptr (T.length + 1) 0), (6, .sl (T.length + 2) 0 320), (11, w64 (UInt64.ofNat (P / 2 ^ 256)))]) (fun _ => T ++ [.cells 47 (Bg x), .cells 47 (Bg 0), .buf 3 1 ((bitsZ P 320).map wint)]) (fun _ => True) (by omega) (by (simp -dsimp +decide (disch := omega) only [v1q, ↓reduceIte, Nat.reduceSub, Nat.reduceAdd, Nat.reduceMul, Nat.reduceLT, Int.reduceAdd, Int.reduceSub, Int.reduceToNat, v4q]); rw [Nat.pow_zero, Nat.mod_one]; rfl) rfl (by simp) ?_ ?_
   . rintro k g1 hk
     refine SemA.o ?_
     refine sqby ?_
     refine CondP.dec (fun h => ?_) (fun h => ?_)
     . have hg : ((bitsZ P 320).map wint)[256 + k]? = some (wint (bitN P (256 + k))) := by rw [List.getElem?_map, bitsZ_get P (by omega)]; rfl
       have hbl := bitN_lt P (256 + k)
       have hne : List.map wint (bitsZ P 320) ≠ [] := fun e => by rw [e] at hg; simp at hg
       have hor := or_next (Q := P / 2 ^ 256) (k := k) (by omega)
       rw [bitN_div, Nat.add_comm k 256] at hor
       refine tqbz (cj2 @vbg @hg) ?_
       refine ⟨⟨by omega, by omega, hne⟩, ?_⟩
       rw [ofInt_lt (n := k) (by omega), hor]
       exact ⟨k + 1, ⟨by omega, by omega⟩, rfl, rfl⟩
     . have e : k = 64 := by omega
       subst e
       have hPl : P / 2 ^ 256 < 2 ^ 64 := by
        rw [Nat.div_lt_iff_lt_mul (by decide), hP]
        have h1 := n.toNat_lt
        calc x * n.toNat <= 2 ^ 256 * n.toNat := Nat.mul_le_mul_right _ (by omega)
         _ < 2 ^ 64 * 2 ^ 256 := by rw [Nat.mul_comm]; exact Nat.mul_lt_mul_of_pos_right h1 (by decide)
       rw [Nat.mod_eq_of_lt hPl]
       refine sqby ?_
       exact ⟨(), trivial⟩
   . rintro _ g1 tmp1 -
     refine tqbz @vbg ?_
     refine (from02_ok (sl_bits (gn2 T _ _ _ [])) (by rw [bitsZ_len]; omega)).det' ?_
     rw [show (bitsZ P 320).take 256 = bitsZ P 256 by rw [bitsZ, bitsZ, <- List.map_take, List.take_range]; rfl, from_bits]
     refine tqbz (cj3 @wt @vbg @vres) ?_
     exact Vw.cut ⟨by rw [AV.wo, AV.woL_eq]; simp only [List.map_cons, List.map_nil, AV.wo, AV.woL_eq, Bg_wo, w64], rfl, rfl⟩
open Classical in
theorem KT.eqA {P : Program} {k : TypeId} {ls : List Lf} (h : KT P k ls) {xs ys : List Value} (hx : FitL ls xs) (hy : FitL ls ys) (xo yo : Operand) (K : AV -> Prop) : binA P .eql k (.ag (xs.map .p)) (.ag (ys.map .p)) xo yo K = K (.p (.bool (decide (xs = ys)))) := by
 show getO (plains (xs.map .p)) (fun _ => getO (AV.flat (.ag (ys.map .p))) fun b => _) = _
 rw [plains_map]
 show getO (AV.flat (.ag (ys.map .p))) (fun b => _) = _
 simp only [AV.flat, plains_map, Option.map_some, getO]
 rw [h.eql hx hy]
open Classical in
theorem KT.neA {P : Program} {k : TypeId} {ls : List Lf} (h : KT P k ls) {xs ys : List Value} (hx : FitL ls xs) (hy : FitL ls ys) (xo yo : Operand) (K : AV -> Prop) : binA P .neq k (.ag (xs.map .p)) (.ag (ys.map .p)) xo yo K = K (.p (.bool (!decide (xs = ys)))) := by
 show getO (plains (xs.map .p)) (fun _ => getO (AV.flat (.ag (ys.map .p))) fun b => _) = _
 rw [plains_map]
 show getO (AV.flat (.ag (ys.map .p))) (fun b => _) = _
 simp only [AV.flat, plains_map, Option.map_some, getO]
 rw [h.neq hx hy]
def lf4 : List Lf := List.replicate 4 (.i .u64)
theorem ktB : KT prog 47 lf4 := ⟨(by kernel_rfl), (by kernel_rfl), (by kernel_rfl), (by kernel_rfl), Nat.le_of_ble_eq_true (by kernel_rfl), (by kernel_rfl)⟩
def bgV (x : Nat) : List Value := [.int .u64 ((limb x 0).toNat : Int), .int .u64 ((limb x 1).toNat : Int), .int .u64 ((limb x 2).toNat : Int), .int .u64 ((limb x 3).toNat : Int)]
theorem bgV_p (x : Nat) : Bg x = (bgV x).map .p := rfl
theorem fitB (x : Nat) : FitL lf4 (bgV x) := by
 have h : ∀ j, (Lit.int .u64 ((limb x j).toNat : Int)).wf = true := fun j => by
  have := (limb x j).toNat_lt
  simp [Lit.wf, IntKind.min, IntKind.max, IntKind.bits, IntKind.signed]; omega
 exact .cons ⟨rfl, h 0⟩ (.cons ⟨rfl, h 1⟩ (.cons ⟨rfl, h 2⟩ (.cons ⟨rfl, h 3⟩ .nil)))
theorem bgV_eq {x y : Nat} (hx : x < 2 ^ 256) (hy : y < 2 ^ 256) : bgV x = bgV y ↔ x = y :=
 ⟨fun h => Bg_inj hx hy (by rw [bgV_p, bgV_p, h]), fun h => by rw [h]⟩
open Classical in
theorem eqB {x y : Nat} (hx : x < 2 ^ 256) (hy : y < 2 ^ 256) (xo yo : Operand) (K : AV -> Prop) : binA prog .eql 47 (.ag (Bg x)) (.ag (Bg y)) xo yo K = K (.p (.bool (decide (x = y)))) := by
 rw [bgV_p, bgV_p, KT.eqA ktB (fitB x) (fitB y)]
 congr 3
 rw [Bool.eq_iff_iff, decide_eq_true_iff, decide_eq_true_iff]; exact bgV_eq hx hy
open Classical in
theorem neB {x y : Nat} (hx : x < 2 ^ 256) (hy : y < 2 ^ 256) (xo yo : Operand) (K : AV -> Prop) : binA prog .neq 47 (.ag (Bg x)) (.ag (Bg y)) xo yo K = K (.p (.bool (!decide (x = y)))) := by
 rw [bgV_p, bgV_p, KT.neA ktB (fitB x) (fitB y)]
 congr 4
 rw [Bool.eq_iff_iff, decide_eq_true_iff, decide_eq_true_iff]; exact bgV_eq hx hy
theorem bg_small (n : UInt64) : Bg n.toNat = [.p (.int .u64 (n.toNat : Int)), .p (.int .u64 0), .p (.int .u64 0), .p (.int .u64 0)] := by
 have h := n.toNat_lt
 have e0 : lw n.toNat 0 = .p (.int .u64 (n.toNat : Int)) := by unfold lw; rw [limb_nat, Nat.mul_zero, Nat.pow_zero, Nat.div_one, Nat.mod_eq_of_lt h]
 have e : ∀ j, 0 < j -> lw n.toNat j = .p (.int .u64 0) := fun j hj => by
  unfold lw
  rw [limb_nat, Nat.div_eq_of_lt (Nat.lt_of_lt_of_le h (Nat.pow_le_pow_right (by decide) (by omega)))]; rfl
 unfold Bg
 rw [e0, e 1 (by omega), e 2 (by omega), e 3 (by omega)]
theorem of02_ok {T : Tbl} {n : UInt64} : CallA prog G 86 [w64 n] T fun v T' es => v = .ag (Bg n.toNat) /\ T' = T /\ es = [] := by
 refine CallA.wfs fun wf => ?_
 have wt := wf.t
 refine CallA.eV 3 func86 ntmps86 results86 ?_
 refine sqbx ?_
 rw [wrA_all (by rfl)]
 refine ⟨Nat.le_refl 4, ?_⟩
 refine Vw.cut ⟨?_, rfl, rfl⟩
 rw [<- bg_small, tkB', AV.wo, AV.woL_eq, Bg_wo]
theorem mixZ_down1 {q j n : Nat} (h : j < n) (hb : bitN q j = 1) : (mixZ 0 q (j + 1) n).set j 1 = mixZ 0 q j n := by
 have hl : j < (bitsZ q n).length := by rw [bitsZ_len]; exact h
 rw [mixZ, bitsZ_next, List.append_assoc, List.set_append_right _ _ (by rw [bitsZ_len]; omega), bitsZ_len, Nat.sub_self, List.singleton_append, List.set_cons_zero, mixZ, List.drop_eq_getElem_cons hl]
 have := bitsZ_get q h
 rw [List.getElem?_eq_getElem hl] at this
 rw [Option.some.inj this, hb]; rfl
theorem mixZ_down0 {q j n : Nat} (h : j < n) (hb : bitN q j = 0) : mixZ 0 q (j + 1) n = mixZ 0 q j n := by
 have hl : j < (bitsZ q n).length := by rw [bitsZ_len]; exact h
 rw [mixZ, bitsZ_next, List.append_assoc, mixZ, List.drop_eq_getElem_cons hl]
 have := bitsZ_get q h
 rw [List.getElem?_eq_getElem hl] at this
 rw [Option.some.inj this, hb, show bitN 0 j = 0 by simp [bitN]]; rfl
theorem divstep (N y b : Nat) (h0 : 0 < y) (hb : b < 2) : (2 * N + b) / y = 2 * (N / y) + (if y <= 2 * (N % y) + b then 1 else 0) /\ (2 * N + b) % y = 2 * (N % y) + b - (if y <= 2 * (N % y) + b then y else 0) := by
 have hm := Nat.mod_lt N h0
 have hd := Nat.div_add_mod N y
 generalize N / y = q at *
 generalize N % y = r at *
 subst hd
 split
 . rename_i h
   have e : 2 * (y * q + r) + b = (2 * r + b - y) + y * (2 * q + 1) := by rw [Nat.mul_add y, Nat.mul_add 2, Nat.mul_left_comm, Nat.mul_one]; omega
   rw [e, Nat.add_mul_div_left _ _ h0, Nat.add_mul_mod_self_left, Nat.div_eq_of_lt (by omega), Nat.mod_eq_of_lt (by omega)]
   omega
 . rename_i h
   have e : 2 * (y * q + r) + b = (2 * r + b) + y * (2 * q) := by rw [Nat.mul_add 2, Nat.mul_left_comm]; omega
   rw [e, Nat.add_mul_div_left _ _ h0, Nat.add_mul_mod_self_left, Nat.div_eq_of_lt (by omega), Nat.mod_eq_of_lt (by omega)]
   omega
theorem Bg_low {z b : Nat} (hz : z % 2 = 0) (hb : b < 2) : (Bg z).set 0 (.p (.int .u64 ((limb z 0 ||| UInt64.ofInt (b : Int)).toNat : Int))) = Bg (z + b) := by
 rcases (show b = 0 ∨ b = 1 by omega) with rfl | rfl
 . rw [show UInt64.ofInt ((0 : Nat) : Int) = 0 from rfl, UInt64.or_zero, Nat.add_zero]; rfl
 . have h := Bg_or (x := z) (k := 0) (by decide)
   have e : z ||| 2 ^ 0 = z + 1 := by
    have h2 := Nat.two_pow_add_eq_or_of_lt (i := 1) (b := 1) (by decide) (z / 2)
    rw [show 2 ^ 1 * (z / 2) = z by omega] at h2
    rw [Nat.pow_zero, <- h2]
   rw [e] at h
   exact h
theorem vone (a b : AV) (l : List AV) (K : AV -> Prop) : oneA (a :: b :: l) K = K (.tu (a :: b :: l)) := rfl
theorem bb2 : ((false || false) = false) /\ ((false || true) = true) /\ ((true || false) = true) /\ ((true || true) = true) /\ ((!false) = true) /\ ((!true) = false) /\ ((false == false) = true) /\ ((true == true) = true) /\ ((true == false) = false) /\ ((false == true) = false) := by decide
theorem div02_ok {T : Tbl} {x y : Nat} (hx : x < 2 ^ 256) (hy : y < 2 ^ 256) (h0 : 0 < y) : CallA prog G 93 [.ag (Bg x), .ag (Bg y)] T fun v T' es => v = .tu [.ag (Bg (x / y)), .ag (Bg (x % y)), .p (.int .i64 0)] /\ T' = T /\ es = [] := by
 refine CallA.wfs fun wf => ?_
 have wt := wf.t
 refine CallA.eV 12 func93 ntmps93 results93 ?_
 refine sqbx ?_
 have ez : [oQ, oQ, oQ, oQ] = Bg 0 := rfl
 have hne : (y = 0) = False := by simp; omega
 simp -dsimp +decide (disch := omega) only [v1q, ↓reduceIte, Nat.reduceSub, Nat.reduceAdd, Nat.reduceMul, Nat.reduceLT, Int.reduceAdd, Int.reduceSub, Int.reduceToNat, v2q, vbg, ez, eqB hy (show 0 < 2 ^ 256 by decide), hne]
 have g0 := fun l => gn0 T (.cells 47 (Bg x)) l
 have g1 := fun a l => gn1 T a (.cells 47 (Bg y)) l
 have hq256 : x / y < 2 ^ 256 := Nat.lt_of_le_of_lt (Nat.div_le_self _ _) hx
 refine SemA.loopE (fun k : Nat => [(2, .ptr T.length 0), (3, .ptr (T.length + 1) 0), (4, .ptr (T.length + 2) 0), (5, .ptr (T.length + 3) 0), (8, .ptr (T.length + 5) 0), (9, .sl (T.length + 6) 0 256), (10, wint (255 - (k : Int)))]) (fun k => T ++ [.cells 47 (Bg x), .cells 47 (Bg y), .cells 47 (Bg 0), .cells 47 (Bg 0), .cells 47 (Bg 0), .cells 47 (Bg (x / 2 ^ (256 - k) % y)), .buf 3 1 ((mixZ 0 (x / y) (256 - k) 256).map wint)]) (fun k => k <= 256) (fun k => 256 - k) 0 [] 0 (fun _ : Unit => [(4, .ptr (T.length + 2) 0), (5, .ptr (T.length + 3) 0), (8, .ptr (T.length + 5) 0), (9, .sl (T.length + 6) 0 256)]) (fun _ => T ++ [.cells 47 (Bg x), .cells 47 (Bg y), .cells 47 (Bg 0), .cells 47 (Bg 0), .cells 47 (Bg 0), .cells 47 (Bg (x % y)), .buf 3 1 ((bitsZ (x / y) 256).map wint)]) (fun _ => True) (by omega) (by (simp -dsimp +decide (disch := omega) only [v1q, ↓reduceIte, Nat.reduceSub, Nat.reduceAdd, Nat.reduceMul, Nat.reduceLT, Int.reduceAdd, Int.reduceSub, Int.reduceToNat, v4q]); first | rfl | done) (by rw [Nat.sub_zero, top0 hx, Nat.zero_mod, mixZ_end, zeros_bits]; rfl) (by simp) ?_ ?_
 . rintro k g hk
   refine SemA.o ?_
   refine sqby ?_
   refine CondP.dec (fun h => ?_) (fun h => ?_)
   . obtain ⟨j, hj⟩ : ∃ j, j = 255 - k := ⟨_, rfl⟩
     have hc : (255 - (k : Int)) = (j : Int) := by omega
     have hj1 : 256 - k = j + 1 := by omega
     rw [hc, hj1]
     obtain ⟨N, hN⟩ : ∃ N, N = x / 2 ^ (j + 1) := ⟨_, rfl⟩
     have hxh := half x j
     rw [<- hN] at hxh ⊢
     have hbx := bitI_nat x j (by omega)
     have lb := bitN_lt x j
     obtain ⟨hd1, hd2⟩ := divstep N y (bitN x j) h0 lb
     rw [<- hxh] at hd1 hd2
     have hm := Nat.mod_lt N h0
     obtain ⟨R, hR⟩ : ∃ R, R = N % y := ⟨_, rfl⟩
     rw [<- hR] at hd1 hd2 hm ⊢
     have hRx : R < 2 ^ 256 := by omega
     have hqb : bitN (x / y) j = x / 2 ^ j / y % 2 := by rw [bitN, Nat.div_div_eq_div_mul, Nat.mul_comm, <- Nat.div_div_eq_div_mul]
     have htop := bitI_nat R 255 (by omega)
     have htv : bitN R 255 = if 2 ^ 255 <= R then 1 else 0 := by
      rw [bitN]
      have : R / 2 ^ 255 < 2 := by rw [Nat.div_lt_iff_lt_mul (by decide)]; omega
      split
      . have : 1 <= R / 2 ^ 255 := by rw [Nat.le_div_iff_mul_le (by decide)]; omega
        omega
      . rw [Nat.div_eq_of_lt (by omega)]
     refine tqbz @vbg ?_
     refine bit02_ok.det' ?_
     rw [show ((255 : Int)) = ((255 : Nat) : Int) from rfl, htop]
     refine tqbz @vbg ?_
     refine (up02_ok (n := 1) hRx (by omega)).det' ?_
     rw [Nat.pow_one]
     refine tqbz @vbg ?_
     refine SemA.drawE 8 (fun _ => true) [(0, true), (1, true), (2, true), (3, true), (4, false), (5, true), (6, true), (7, true), (8, false)] mixed (by kernel_rfl) ?_
     have hg2 := Bg_get (R * 2 % 2 ^ 256) (j := 0) (by omega)
     refine tqbz (cj3 @vbg @g0 @hg2) ?_
     refine bit02_ok.det' ?_
     rw [hbx]
     obtain ⟨M, hM⟩ : ∃ M, M = R * 2 % 2 ^ 256 + bitN x j := ⟨_, rfl⟩
     have hlow := Bg_low (z := R * 2 % 2 ^ 256) (b := bitN x j) (by omega) lb
     rw [<- hM] at hlow
     have hMx : M < 2 ^ 256 := by omega
     have hsub : (if y <= 2 * R + bitN x j then (M + 2 ^ 256 - y) % 2 ^ 256 else M) = x / 2 ^ j % y := by
      rw [hd2]; split <;> split at htv <;> omega
     have hml : (mixZ 0 (x / y) (j + 1) 256).length = 256 := mixZ_len (by omega)
     have hnil : List.map wint (mixZ 0 (x / y) (j + 1) 256) ≠ [] := fun e => by
      have := congrArg List.length e
      rw [List.length_map, hml] at this; simp at this
     refine tqbz (cj5 @vbg @g0 @g1 @hg2 @hlow) ?_
     by_cases ht : 2 ^ 255 <= R
     . have hb1 : bitN R 255 = 1 := by rw [htv, if_pos ht]
       have hge : y <= 2 * R + bitN x j := by omega
       rw [if_pos hge] at hsub hd1
       refine tqbz (cj4 @vbg @g0 @g1 @hb1) ?_
       refine (sub02_ok hMx hy).det' ?_
       rw [hsub]
       refine tqbz (cj5 @vbg @g0 @g1 @List.length_map.{0, 0} @hml) ?_
       exact ⟨⟨by omega, by omega, hnil⟩, by omega, k + 1, ⟨by omega, by omega⟩, by rw [show ((j : Int) - 1) = 255 - ((k + 1 : Nat) : Int) by omega], by rw [show 256 - (k + 1) = j by omega, mixZ_down1 (by omega) (by rw [hqb]; omega)]⟩
     . have hb1 : bitN R 255 = 0 := by rw [htv, if_neg ht]
       refine tqbz (cj4 @vbg @g0 @g1 @hb1) ?_
       refine (less02_ok hMx hy).det' ?_
       by_cases hge : y <= M
       . have hge2 : y <= 2 * R + bitN x j := by omega
         rw [if_pos hge2] at hsub hd1
         rw [show decide (M < y) = false by simp; omega]
         refine tqbz (cj4 @vbg @g0 @g1 @bb2) ?_
         refine (sub02_ok hMx hy).det' ?_
         rw [hsub]
         refine tqbz (cj5 @vbg @g0 @g1 @List.length_map.{0, 0} @hml) ?_
         exact ⟨⟨by omega, by omega, hnil⟩, by omega, k + 1, ⟨by omega, by omega⟩, by rw [show ((j : Int) - 1) = 255 - ((k + 1 : Nat) : Int) by omega], by rw [show 256 - (k + 1) = j by omega, mixZ_down1 (by omega) (by rw [hqb]; omega)]⟩
       . have hge2 : ¬ y <= 2 * R + bitN x j := by omega
         rw [if_neg hge2] at hsub hd1
         rw [show decide (M < y) = true by simp; omega, hsub]
         refine tqbz (cj4 @vbg @g0 @g1 @bb2) ?_
         exact ⟨k + 1, ⟨by omega, by omega⟩, by rw [show ((j : Int) - 1) = 255 - ((k + 1 : Nat) : Int) by omega], by rw [show 256 - (k + 1) = j by omega, mixZ_down0 (by omega) (by rw [hqb]; omega)]⟩
   . have e : k = 256 := by omega
     subst e
     rw [Nat.sub_self, Nat.pow_zero, Nat.div_one, show mixZ 0 (x / y) 0 256 = bitsZ (x / y) 256 from rfl]
     refine sqby ?_
     exact ⟨(), trivial⟩
 . rintro _ g tmp -
   refine SemA.draw (fun i => decide (i = T.length + 5)) [(0, true), (2, true), (1, false), (3, false), (4, false), (5, true)] mixed (by kernel_rfl) ?_
   simp -dsimp +decide (disch := omega) only [v1q, ↓reduceIte, Nat.reduceSub, Nat.reduceAdd, Nat.reduceMul, Nat.reduceLT, Int.reduceAdd, Int.reduceSub, Int.reduceToNat, v2q, vbg, keepT_get, keepO]
   refine (from02_ok (sl_bits (gn6 T _ _ _ _ _ _ _ [])) (by rw [bitsZ_len]; omega)).det' ?_
   rw [from_bits256, Nat.mod_eq_of_lt hq256]
   simp -dsimp +decide (disch := omega) only [v1q, ↓reduceIte, Nat.reduceSub, Nat.reduceAdd, Nat.reduceMul, Nat.reduceLT, Int.reduceAdd, Int.reduceSub, Int.reduceToNat, v2q, wt, vbg, vres, vone, keepT_get, keepO]
   exact Vw.cut ⟨by rw [AV.wo, AV.woL_eq]; simp only [List.map_cons, List.map_nil, AV.wo, AV.woL_eq, Bg_wo], rfl, rfl⟩
structure W8 where
 (a b c d e f g h : UInt32)
def rnd (s : W8) (k w : UInt32) : W8 :=
 let one := s.h + (rotr s.e 6 ^^^ rotr s.e 11 ^^^ rotr s.e 25) + (s.g ^^^ s.e &&& (s.f ^^^ s.g)) + k + w
 let two := (rotr s.a 2 ^^^ rotr s.a 13 ^^^ rotr s.a 22) + (s.a &&& s.b ||| s.c &&& (s.a ||| s.b))
 ⟨one + two, s.a, s.b, s.c, s.d + one, s.e, s.f, s.g⟩
def rnds (ws : List UInt32) (s : W8) : Nat -> W8
 | 0 => s
 | t + 1 => rnd (rnds ws s t) tbl[t]! ws[t]!
def W8.l (s : W8) : List UInt32 := [s.a, s.b, s.c, s.d, s.e, s.f, s.g, s.h]
def W8.of (l : List UInt32) : W8 := ⟨l[0]!, l[1]!, l[2]!, l[3]!, l[4]!, l[5]!, l[6]!, l[7]!⟩
def piece (hl : List UInt32) (p : List UInt8) : List UInt32 := List.zipWith (· + ·) hl (rnds (sch p 64) (W8.of hl) 64).l
theorem step_get {α : Type} [Inhabited α] (z l : List α) (i : Nat) (hz : i < z.length) (hl : i < l.length) : (z.take i ++ l.drop i)[i]? = some l[i]! := by
 rw [List.getElem?_append_right (by simp; omega), List.length_take, Nat.min_eq_left (by omega), Nat.sub_self, List.getElem?_drop, Nat.add_zero, getElem!_pos l i hl, List.getElem?_eq_getElem hl]
theorem step_set {α : Type} [Inhabited α] (z l : List α) (i : Nat) (hz : i < z.length) (hl : i < l.length) (y : α) (hy : z[i]! = y) : (z.take i ++ l.drop i).set i y = z.take (i + 1) ++ l.drop (i + 1) := by
 subst hy
 rw [List.set_append, if_neg (by simp; omega), List.length_take, Nat.min_eq_left (by omega), Nat.sub_self, List.drop_eq_getElem_cons hl, List.set_cons_zero, getElem!_pos z i hz]
 have := List.take_succ_eq_append_getElem hz
 rw [this, List.append_assoc]
 rfl
theorem with_ok {T : Tbl} {i off : Nat} {E : TypeId} {cs : List AV} {p : List UInt8} {hl : List UInt32} (hT : T[i]? = some (.cells E cs)) (hp : p.length = 64) (hc : ∀ k, k < 64 -> cs[off + k]? = some (by8 p[k]!)) (hh : hl.length = 8) :
 CallA prog G 122 [.ag (hl.map w32), .ptr i off] T fun v T' es => v = .ag ((piece hl p).map w32) /\ T' = T /\ es = [] := by
 have hT' := get_old hT
 have hs := sch_len p 64
 have htb := tbl_len
 have hne : cs ≠ [] := by rintro rfl; simpa using hc 0
 refine CallA.eV 108 func122 ntmps122 results122 ?_
 refine sqax ?_
 refine SemA.draw (fun _ => true) [(0, true), (1, true), (2, true), (3, true), (4, true), (5, true), (6, true), (7, true), (8, true), (9, true), (10, true), (11, true), (12, true), (13, true), (14, true), (15, true), (16, true), (17, true), (18, true), (19, true), (20, true), (21, true), (22, true), (23, true)] mixed (by kernel_rfl) ?_
 refine sqay ?_
 refine (schedule_ok (hT' _) hp hc).det ?_
 refine tqay @G0 ?_
 rw [wrA_all (by simp [sch_len])]
 refine ⟨by simp [sch_len], ?_⟩
 refine SemA.loopL (fun t : Nat => [(2, .ptr T.length 0), (4, .ptr (T.length + 1) 0), (5, w32 (rnds (sch p 64) (W8.of hl) t).a), (6, w32 (rnds (sch p 64) (W8.of hl) t).b), (7, w32 (rnds (sch p 64) (W8.of hl) t).c), (8, w32 (rnds (sch p 64) (W8.of hl) t).d), (9, w32 (rnds (sch p 64) (W8.of hl) t).e), (10, w32 (rnds (sch p 64) (W8.of hl) t).f), (11, w32 (rnds (sch p 64) (W8.of hl) t).g), (12, w32 (rnds (sch p 64) (W8.of hl) t).h), (13, .ptr (T.length + 2) 0), (38, .ag (tbl.map w32)), (39, wint t)])
  (fun _ => T ++ [.cells 152 (hl.map w32), .cells 152 ((List.replicate 8 (0 : UInt32)).map w32), .cells 178 ((sch p 64).map w32)]) (fun t => t <= 64) (fun t => 64 - t) 0 [] (by kernel_rfl) (by omega) ?_ ?_ ?_ ?_
 . refine sqax ?_
   exact ⟨rfl, rfl, rfl, rfl, rfl, rfl, rfl, rfl, rfl⟩
 . rfl
 . simp
 rintro t g ht
 refine sqax ?_
 refine CondP.dec (fun h => ?_) (fun h => ?_)
 . refine sqay ?_
   refine ⟨by omega, ?_⟩
   refine SemA.draw (fun _ => true) [(0, true), (1, true), (3, true), (6, true), (10, true), (11, true), (12, true), (13, true), (14, true), (15, true), (16, true), (18, true), (20, true), (21, true), (22, true), (2, false), (4, false), (5, true), (7, false), (8, true), (9, true), (17, true), (19, true), (23, true), (24, true)] mixed (by kernel_rfl) ?_
   refine sqay ?_
   refine ⟨by omega, ?_⟩
   refine (right_ok 6 (by omega) (by omega)).det ?_
   refine sqay ?_
   refine (right_ok 11 (by omega) (by omega)).det ?_
   refine sqay ?_
   refine (right_ok 25 (by omega) (by omega)).det ?_
   refine sqay ?_
   refine (right_ok 2 (by omega) (by omega)).det ?_
   refine sqay ?_
   refine (right_ok 13 (by omega) (by omega)).det ?_
   refine sqay ?_
   refine (right_ok 22 (by omega) (by omega)).det ?_
   refine sqay ?_
   exact ⟨t + 1, by omega, by omega, rfl, rfl, rfl, rfl, rfl, rfl, rfl, rfl, rfl⟩
 . have ht : t = 64 := by omega
   subst ht
   refine sqay ?_
   obtain ⟨x, hx⟩ : ∃ x, x = (rnds (sch p 64) (W8.of hl) 64).l := ⟨_, rfl⟩
   have hxl : x.length = 8 := by rw [hx]; rfl
   obtain ⟨z, hz⟩ : ∃ z, z = List.zipWith (· + ·) hl x := ⟨_, rfl⟩
   have hzl : z.length = 8 := by rw [hz, List.length_zipWith, hh, hxl]; rfl
   refine SemA.loopL (fun i : Nat => [(2, .ptr T.length 0), (4, .ptr (T.length + 1) 0), (106, .ag (x.map w32)), (107, wint i)])
    (fun i => T ++ [.cells 152 ((z.take i ++ hl.drop i).map w32), .cells 152 ((List.replicate 8 (0 : UInt32)).map w32), .cells 178 ((sch p 64).map w32)]) (fun t => t <= 8) (fun t => 8 - t) 0 [] (by kernel_rfl) (by omega) ?_ ?_ ?_ ?_
   . refine sqax ?_
     rw [hx]
     rfl
   . rfl
   . simp
   rintro i g ht
   refine sqax ?_
   refine CondP.dec (fun h => ?_) (fun h => ?_)
   . have hzi : z[i]! = hl[i]! + x[i]! := by
      rw [hz, getElem!_pos _ i (by rw [<- hz]; omega), getElem!_pos hl i (by omega), getElem!_pos x i (by omega)]; simp
     simp -dsimp +decide (disch := omega) only [v5q, ↓reduceIte, Nat.reduceSub, Nat.reduceAdd, Nat.reduceMul, Nat.reduceLT, Int.reduceAdd, Int.reduceSub, Int.reduceToNat, v4q, step_get z hl i (by omega) (by omega), step_set z hl i (by omega) (by omega) _ hzi]
     exact ⟨by omega, by omega, by omega, by simp; omega, i + 1, by omega, by omega, rfl, rfl⟩
   . have ht : i = 8 := by omega
     subst ht
     refine sqay ?_
     rw [show List.take 8 z ++ List.drop 8 hl = z by rw [List.take_of_length_le (by omega), List.drop_of_length_le (by omega), List.append_nil], List.drop_zero, List.take_of_length_le (show z.length <= 8 by omega), wrA_all (by simp [hzl])]
     refine ⟨by omega, ⟨by omega, by omega, by simp [hzl]⟩, by simp [hzl], Vw.cut ⟨?_, rfl, rfl⟩⟩
     rw [List.take_of_length_le (by simp [hzl])]
     refine sqax ?_
     rw [piece, <- hx, <- hz]
end Go.Proofs.YtfpjalgfnjjcmaaGreatDoor
namespace Go.Proofs.YtfpjalgfnjjcmaaGreatDoor
open Go.E Go.Proofs.YtfpjalgfnjjcmaaGreatDoor.Tryz Go.Proofs.Tryz
def init : List UInt32 := [1779033703, 3144134277, 1013904242, 2773480762, 1359893119, 2600822924, 528734635, 1541459225]
structure Sa where
 (h : List UInt32) (pc : List UInt8) (n : UInt64)
def Sa.ok (s : Sa) : Prop := s.h.length = 8 /\ s.pc.length = 64
def Sa.put (s : Sa) (x : UInt8) : Sa :=
 let pc := s.pc.set (s.n.toNat % 64) x
 ⟨if (s.n + 1).toNat % 64 = 0 then piece s.h pc else s.h, pc, s.n + 1⟩
def Sa.puts (s : Sa) (l : List UInt8) : Sa := l.foldl Sa.put s
def Sa.zero : Sa := ⟨init, List.replicate 64 0, 0⟩
def Sa.c (s : Sa) : List AV := .p (.bool true) :: (s.h.map w32 ++ (s.pc.map by8 ++ [w64 s.n]))
theorem start_ok {T : Tbl} : CallA prog G 121 [] T fun v T' es => v = .ag (init.map w32) /\ T' = T /\ es = [] := by
 refine CallA.eV 2 func121 ntmps121 results121 ?_
 refine sqax ?_
 rw [wrA_all (by simp)]
 exact Vw.cut ⟨rfl, rfl, rfl⟩
theorem begin_ok {T : Tbl} : CallA prog G 114 [] T fun v T' es => v = .ag Sa.zero.c /\ T' = T /\ es = [] := by
 refine CallA.eV 3 func114 ntmps114 results114 ?_
 refine sqax ?_
 refine start_ok.det ?_
 refine sqax ?_
 exact Vw.cut ⟨rfl, rfl, rfl⟩
theorem Sa.wo (s : Sa) (q : Nat -> Bool) : s.c.map (AV.wo q) = s.c := by
 rw [Sa.c, List.map_cons, List.map_append, List.map_append]
 simp -dsimp +decide only [v5q, ↓reduceIte, Nat.reduceSub, Nat.reduceAdd, Nat.reduceMul, Nat.reduceLT, Int.reduceAdd, Int.reduceSub, Int.reduceToNat, ci]
theorem Sa.ones (s : Sa) : ones s.c = true := by
 have h1 : ∀ a b : List AV, E.ones (a ++ b) = (E.ones a && E.ones b) := fun a b => List.all_append
 rw [Sa.c]
 simp -dsimp +decide only [v5q, ↓reduceIte, Nat.reduceSub, Nat.reduceAdd, Nat.reduceMul, Nat.reduceLT, Int.reduceAdd, Int.reduceSub, Int.reduceToNat, ci, h1]
def zst : List AV := .p (.bool false) :: ((List.replicate 8 (0 : UInt32)).map w32 ++ ((List.replicate 64 (0 : UInt8)).map by8 ++ [w64 0]))
section
variable {s : Sa} (hs : s.ok)
include hs
theorem Sa.len : s.c.length = 74 := by simp [Sa.c, hs.1, hs.2]
theorem Sa.get_n : s.c[73]? = some (w64 s.n) := by
 obtain ⟨h1, h2⟩ := hs
 rw [Sa.c, List.getElem?_cons_succ, List.getElem?_append_right (by simp; omega), List.getElem?_append_right (by simp; omega)]
 simp [h1, h2]
theorem Sa.set_n (n : UInt64) : s.c.set 73 (.p (.int .u64 (n.toNat : Int))) = (⟨s.h, s.pc, n⟩ : Sa).c := by
 obtain ⟨h1, h2⟩ := hs
 rw [Sa.c, List.set_cons_succ, List.set_append, if_neg (by simp; omega), List.set_append, if_neg (by simp; omega)]
 simp [h1, h2, Sa.c]; rfl
theorem Sa.wr_pc (r : Nat) (x : List UInt8) (h : r + x.length <= 64) : wrA s.c (9 + r) (x.map by8) = (⟨s.h, s.pc.take r ++ x ++ s.pc.drop (r + x.length), s.n⟩ : Sa).c := by
 have hl := Sa.len hs
 obtain ⟨h1, h2⟩ := hs
 rw [wrA_eq (by simp; omega), Sa.c, Sa.c, show 9 + r = (8 + r) + 1 by omega, List.take_succ_cons, show 8 + r + 1 + (x.map by8).length = (8 + (r + x.length)) + 1 by simp; omega, List.drop_succ_cons,
  List.take_append, List.take_append, List.drop_append, List.drop_append]
 simp only [List.length_map, h1, h2, List.length_append, List.map_append, List.map_take, List.map_drop]
 rw [List.take_of_length_le (by simp; omega), show 8 + r - 8 = r by omega, show r - 64 = 0 by omega, List.drop_of_length_le (by simp; omega), show 8 + (r + x.length) - 8 = r + x.length by omega, show r + x.length - 64 = 0 by omega]
 simp
theorem Sa.wr_h (h : List UInt32) (hh : h.length = 8) : wrA s.c 1 (h.map w32) = (⟨h, s.pc, s.n⟩ : Sa).c := by
 have hl := Sa.len hs
 obtain ⟨h1, h2⟩ := hs
 rw [wrA_eq (by simp; omega), Sa.c, Sa.c, List.take_succ_cons, List.take_zero, show 1 + (h.map w32).length = 8 + 1 by simp; omega, List.drop_succ_cons, List.drop_append_of_le_length (by simp; omega), List.drop_of_length_le (by simp; omega)]
 simp
theorem Sa.get_h : (s.c.drop 1).take 8 = s.h.map w32 := by
 obtain ⟨h1, h2⟩ := hs
 rw [Sa.c, List.drop_succ_cons, List.drop_zero, List.take_append_of_le_length (by simp; omega), List.take_of_length_le (by simp; omega)]
theorem Sa.get_hk (k : Nat) (hk : k < 8) : s.c[1 + k]? = some (.p (.int .u32 (s.h[k]!.toNat : Int))) := by
 obtain ⟨h1, h2⟩ := hs
 rw [Sa.c, show 1 + k = k + 1 by omega, List.getElem?_cons_succ, List.getElem?_append_left (by simp; omega)]
 simp [getElem!_pos s.h k (by omega), List.getElem?_eq_getElem (show k < s.h.length by omega), w32]
theorem Sa.get_pc (k : Nat) (hk : k < 64) : s.c[9 + k]? = some (by8 s.pc[k]!) := by
 obtain ⟨h1, h2⟩ := hs
 rw [Sa.c, show 9 + k = (8 + k) + 1 by omega, List.getElem?_cons_succ, List.getElem?_append_right (by simp; omega), List.getElem?_append_left (by simp; omega)]
 simp [h1, getElem!_pos s.pc k (by omega), List.getElem?_eq_getElem (show k < s.pc.length by omega)]
theorem Sa.put_ok (x : UInt8) : (s.put x).ok := by
 obtain ⟨h1, h2⟩ := hs
 refine ⟨?_, by simp [Sa.put, h2]⟩
 simp only [Sa.put]
 split
 . rw [piece, List.length_zipWith, h1]; rfl
 . exact h1
end
theorem Sa.puts_ok (l : List UInt8) : ∀ {s : Sa}, s.ok -> (s.puts l).ok := by
 induction l with
 | nil => exact fun h => h
 | cons x l ih => exact fun h => ih (Sa.put_ok h x)
theorem of_succ (n : UInt64) (k : Nat) : n + UInt64.ofInt ((k + 1 : Nat) : Int) = n + 1 + UInt64.ofInt (k : Int) := by
 rw [UInt64.add_assoc]
 congr 1
 rw [Int.natCast_succ, UInt64.ofInt_add, UInt64.add_comm]; rfl
theorem mod_succ (n : UInt64) : (n + 1).toNat % 64 = (n.toNat % 64 + 1) % 64 := by
 rw [UInt64.toNat_add]; simp
theorem absorb (x : List UInt8) : ∀ (s : Sa), s.n.toNat % 64 + x.length <= 64 -> 0 < x.length -> s.ok -> s.puts x = (let pc := s.pc.take (s.n.toNat % 64) ++ x ++ s.pc.drop (s.n.toNat % 64 + x.length)
 ⟨if (s.n + UInt64.ofInt (x.length : Int)).toNat % 64 = 0 then piece s.h pc else s.h, pc, s.n + UInt64.ofInt (x.length : Int)⟩) := by
 induction x with
 | nil => intro s _ h; simp at h
 | cons y x ih =>
   intro s h1 _ hs
   have hp := hs.2
   rw [List.length_cons] at h1 ⊢
   obtain ⟨r, hr⟩ : ∃ r, r = s.n.toNat % 64 := ⟨_, rfl⟩
   rw [<- hr] at h1 ⊢
   have hset : s.pc.set r y = s.pc.take r ++ y :: s.pc.drop (r + 1) := by
    rw [List.set_eq_take_append_cons_drop, if_pos (by omega)]
   show (s.put y).puts x = _
   by_cases hx : x = []
   . subst hx
     show s.put y = _
     simp only [Sa.put, <- hr, hset, List.length_nil, of_succ]
     rw [show UInt64.ofInt ((0 : Nat) : Int) = 0 from rfl, UInt64.add_zero]
     simp
   . have hx0 : 0 < x.length := List.length_pos_iff.2 hx
     have e := mod_succ s.n
     have hput : s.put y = ⟨s.h, s.pc.set r y, s.n + 1⟩ := by
      simp only [Sa.put, <- hr]; rw [if_neg (by omega)]
     rw [ih (s.put y) (by rw [hput]; show (s.n + 1).toNat % 64 + _ <= 64; omega) hx0 (Sa.put_ok hs y), hput]
     have e2 : (s.n + 1).toNat % 64 = r + 1 := by omega
     have e3 : (s.pc.set r y).take (r + 1) ++ x ++ (s.pc.set r y).drop (r + 1 + x.length) = s.pc.take r ++ y :: x ++ s.pc.drop (r + (x.length + 1)) := by
      have hA : (s.pc.take r).length = r := by simp; omega
      have hD : s.pc.drop (r + (x.length + 1)) = (s.pc.drop (r + 1)).drop x.length := by rw [List.drop_drop]; congr 1; omega
      rw [hset, hD]
      generalize s.pc.take r = A at hA
      generalize s.pc.drop (r + 1) = B
      rw [List.take_append, List.drop_append, hA, List.take_of_length_le (l := A) (by omega), List.drop_of_length_le (l := A) (by omega), show r + 1 - r = 1 by omega, show r + 1 + x.length - r = x.length + 1 by omega, List.take_succ_cons, List.drop_succ_cons, List.take_zero]
      simp
     simp only [e2, e3, of_succ]
theorem add_ok {T : Tbl} {a : AV} {bs : List UInt8} {s : Sa} (hs : s.ok) (hb : Bs T a bs) : CallA prog G 115 [.ag s.c, a] T fun v T' es => v = .ag (s.puts bs).c /\ T' = T /\ es = [] := by
 have hc0 : s.c[0]? = some (.p (.bool true)) := rfl
 refine CallA.eV 39 func115 ntmps115 results115 ?_
 refine sqax ?_
 refine tqax @hc0 ?_
 refine SemA.loopL (fun x : AV × List UInt8 × Sa => [(1, x.1), (2, .ptr T.length 0), (4, .ptr (T.length + 1) 0)]) (fun x => T ++ [.cells 155 x.2.2.c, .cells 155 zst]) (fun x => Bs T x.1 x.2.1 /\ x.2.2.ok /\ x.2.2.puts x.2.1 = s.puts bs) (fun x => x.2.1.length) (a, bs, s) [] (by kernel_rfl) ⟨hb, hs, rfl⟩ (by (simp -dsimp +decide only [v5q, ↓reduceIte, Nat.reduceSub, Nat.reduceAdd, Nat.reduceMul, Nat.reduceLT, Int.reduceAdd, Int.reduceSub, Int.reduceToNat, ci])) rfl (by simp) ?_
 obtain ⟨s₀, hs₀⟩ : ∃ s₀, s₀ = s := ⟨_, rfl⟩
 obtain ⟨b₀, hb₀⟩ : ∃ b₀, b₀ = bs := ⟨_, rfl⟩
 rw [<- hs₀, <- hb₀]
 clear hb hs hs₀ hb₀ hc0 s bs a
 rintro ⟨a, bs, s⟩ g ⟨hb, hs, hq⟩
 dsimp only at hb hs hq
 have hr := Sl.rules hb (by decide)
 have hn := Sa.get_n hs
 have hl := Sa.len hs
 refine tqax @hr ?_
 refine CondP.dec (fun h => ?_) (fun h => ?_)
 . refine tqay (cj4 @hr @hn @vt @Int.toNat_natCast) ?_
   obtain ⟨r, hr'⟩ : ∃ r, r = s.n.toNat % 64 := ⟨_, rfl⟩
   obtain ⟨m, hm⟩ : ∃ m, m = min bs.length (64 - r) := ⟨_, rfl⟩
   have hml : (bs.take m).length = m := by rw [List.length_take]; omega
   have hp := hs.2
   rw [<- hr', <- hm, Sa.wr_pc hs r (bs.take m) (by omega)]
   refine ⟨by omega, by omega, by omega, by omega, by omega, by omega, ?_⟩
   obtain ⟨s1, e1⟩ : ∃ s1 : Sa, s1 = ⟨s.h, s.pc.take r ++ bs.take m ++ s.pc.drop (r + (bs.take m).length), s.n⟩ := ⟨_, rfl⟩
   have hs1 : s1.ok := by rw [e1]; exact ⟨hs.1, by have := hs.2; simp; omega⟩
   rw [<- e1]
   have hn1 := Sa.get_n hs1
   have hw1 := Sa.set_n hs1
   have hl1 := Sa.len hs1
   obtain ⟨s2, e2⟩ : ∃ s2 : Sa, s2 = ⟨s1.h, s1.pc, s1.n + UInt64.ofInt (m : Int)⟩ := ⟨_, rfl⟩
   have hs2 : s2.ok := by rw [e2]; exact hs1
   have hn2 := Sa.get_n hs2
   have hl2 := Sa.len hs2
   have habs := absorb (bs.take m) s (by omega) (by omega) hs
   rw [<- hr', hml] at habs
   dsimp only at habs
   have fin : ∀ s3 : Sa, s3 = s.puts (bs.take m) -> ∃ s' : AV × List UInt8 × Sa, (Bs T s'.1 s'.2.1 /\ s'.2.2.ok /\ s'.2.2.puts s'.2.1 = s₀.puts b₀) /\ s'.2.1.length < bs.length /\ a.sub 1 m bs.length = s'.1 /\ T ++ [AObj.cells 155 s3.c, .cells 155 zst] = T ++ [AObj.cells 155 s'.2.2.c, .cells 155 zst] := by
    intro s3 h3
    have hb' := Bs.sub hb (show m <= bs.length by omega) (Nat.le_refl _)
    rw [List.take_of_length_le (by simp)] at hb'
    refine ⟨(_, bs.drop m, s3), ⟨hb', h3 ▸ Sa.puts_ok _ hs, ?_⟩, by simp; omega, rfl, rfl⟩
    rw [<- hq, h3, Sa.puts, Sa.puts, <- List.foldl_append, List.take_append_drop, Sa.puts]
   simp -dsimp +decide (disch := omega) only [v5q, ↓reduceIte, Nat.reduceSub, Nat.reduceAdd, Nat.reduceMul, Nat.reduceLT, Int.reduceAdd, Int.reduceSub, Int.reduceToNat, v4q, hr, hn1, hw1, vt, Int.toNat_natCast, <- e2, hn2]
   refine ⟨by omega, CondP.dec (fun h2 => ?_) (fun h2 => ?_)⟩
   . simp -dsimp +decide (disch := omega) only [v5q, ↓reduceIte, Nat.reduceSub, Nat.reduceAdd, Nat.reduceMul, Nat.reduceLT, Int.reduceAdd, Int.reduceSub, Int.reduceToNat, v4q, hr, Sa.get_h hs2]
     refine ⟨by omega, (with_ok (T := T ++ [AObj.cells 155 s2.c, AObj.cells 155 zst]) (i := T.length) (off := 9) (p := s2.pc) (hl := s2.h) (E := 155) (cs := s2.c) (by simp) hs2.2 (Sa.get_pc hs2) hs2.1).det ?_⟩
     refine tqay (cj2 @hr @hl2) ?_
     have hpl : (piece s2.h s2.pc).length = 8 := by rw [piece, List.length_zipWith, hs2.1]; rfl
     rw [Sa.wr_h hs2 _ hpl]
     refine ⟨by omega, fin ⟨piece s2.h s2.pc, s2.pc, s2.n⟩ (by rw [habs, if_pos (by rw [e2, e1] at h2; exact_mod_cast h2), e2, e1, hml])⟩ 
   . refine tqay @hr ?_
     exact fin _ (by rw [habs, if_neg (by rw [e2, e1] at h2; exact_mod_cast h2), e2, e1, hml])
 . have hb0 : bs = [] := List.eq_nil_of_length_eq_zero (by omega)
   subst hb0
   refine tqay (cj2 @hr @hl) ?_
   have ht : s.c.take 74 = s.c := List.take_of_length_le (by omega)
   rw [ht, wrA_all (by rw [hl]; rfl), ht, hl]
   refine ⟨⟨rfl, by omega, by decide, Sa.ones s⟩, by omega, Vw.cut ⟨?_, rfl, rfl⟩⟩
   simp -dsimp +decide only [v5q, ↓reduceIte, Nat.reduceSub, Nat.reduceAdd, Nat.reduceMul, Nat.reduceLT, Int.reduceAdd, Int.reduceSub, Int.reduceToNat, ci, Sa.wo]
   rw [<- hq]; rfl
def dist (n : UInt64) : Nat := (120 - n.toNat % 64) % 64
def lens (n : UInt64) : List UInt8 := (List.range 8).map fun i => (u64_shr (n * 8) (56 - 8 * i)).toUInt8
def outs (h : List UInt32) : List UInt8 := (List.range 32).map fun i => (u32_shr h[i / 4]! (24 - 8 * (i % 4))).toUInt8
def Sa.padded (s : Sa) : Sa := (s.put 128).puts (List.replicate (dist (s.n + 1)) 0)
def Sa.fin (s : Sa) : List UInt8 := outs (s.padded.puts (lens s.n)).h
def zh : List AV := (List.replicate 32 (0 : UInt8)).map by8
theorem Sa.put_n (s : Sa) (x : UInt8) : (s.put x).n = s.n + 1 := rfl
theorem end_ok {T : Tbl} {s : Sa} (hs : s.ok) : CallA prog G 116 [.ag s.c] T fun v T' es => v = .ag (s.fin.map by8) /\ T' = T /\ es = [] := by
 refine CallA.wf fun wf => ?_
 have wT : ∀ k, T.map (AObj.wo (fun i => decide (T.length + k <= i))) = T := fun k => (wf _ fun i hi => by simp; omega).1
 have hn := Sa.get_n hs
 have hl := Sa.len hs
 have ht : ∀ s : Sa, s.ok -> s.c.take 74 = s.c := fun s h => List.take_of_length_le (by rw [Sa.len h]; omega)
 have hs1 := Sa.put_ok hs 128
 refine CallA.eV 54 func116 ntmps116 results116 ?_
 refine sqax ?_
 refine tqax @hn ?_
 refine ⟨by omega, ?_⟩
 rw [ht s hs]
 refine (add_ok hs (bs := [128]) (Bs.obj (T := T ++ [_, _, _]) (o := .buf 5 1 [by8 128]) (by simp; rfl) (by rfl))).det ?_
 have e1 : s.puts [128] = s.put 128 := rfl
 have hl1 := Sa.len hs1
 refine tqay (cj3 @e1 @hl1 @hl) ?_
 rw [wrA_all (by rw [hl1, hl])]
 refine ⟨Sa.ones _, ?_⟩
 refine SemA.cut (T.length + 2) (by omega) ?_
 simp -dsimp +decide only [v5q, ↓reduceIte, Nat.reduceSub, Nat.reduceAdd, Nat.reduceMul, Nat.reduceLT, Int.reduceAdd, Int.reduceSub, Int.reduceToNat, ci, vt, wT, Sa.wo]
 refine SemA.loopC (fun _ : Sa => [(1, .ptr T.length 0), (2, .ptr (T.length + 1) 0), (3, .p (.int .u64 (s.n * UInt64.ofInt 8).toNat))]) (fun s => T ++ [.cells 155 s.c, .cells 26 zh]) (fun x => x.ok /\ x.puts (List.replicate (dist x.n) 0) = s.padded) (fun x => dist x.n) (T.length + 2) (s.put 128) [] (by kernel_rfl) (by omega) ⟨hs1, rfl⟩ (by (simp -dsimp +decide only [v5q, ↓reduceIte, Nat.reduceSub, Nat.reduceAdd, Nat.reduceMul, Nat.reduceLT, Int.reduceAdd, Int.reduceSub, Int.reduceToNat, ci, vt])) rfl (by simp) ?_
 rintro x g ⟨hx, hq⟩
 have hnx := Sa.get_n hx
 have hlx := Sa.len hx
 refine tqax (cj2 @hnx @vt) ?_
 have hpx := Sa.put_ok hx 0
 have hlp := Sa.len hpx
 refine CondP.ndec (fun h => ?_) (fun h => ?_)
 . refine tqax (cj2 @hnx @vt) ?_
   refine ⟨by omega, ?_⟩
   rw [ht x hx]
   refine (add_ok hx (bs := [0]) (Bs.obj (T := T ++ [_, _, _]) (o := .buf 5 1 [by8 0]) (by simp; rfl) (by rfl))).det ?_
   have e2 : x.puts [0] = x.put 0 := rfl
   simp -dsimp +decide (disch := omega) only [v5q, ↓reduceIte, Nat.reduceSub, Nat.reduceAdd, Nat.reduceMul, Nat.reduceLT, Int.reduceAdd, Int.reduceSub, Int.reduceToNat, v4q, e2, hlp, hlx, vt, wT, Sa.wo]
   rw [wrA_all (by rw [hlp, hlx])]
   have em := mod_succ x.n
   have ed : dist x.n = dist (x.n + 1) + 1 := by unfold dist; omega
   refine ⟨Sa.ones _, x.put 0, ⟨hpx, ?_⟩, ?_, ?_⟩
   . rw [<- hq, ed, List.replicate_succ]; rfl
   . rw [ed, Sa.put_n]; omega
   . rw [Sa.wo]; rfl
 . have hd : dist x.n = 0 := by unfold dist; omega
   have hxp : x = s.padded := by rw [<- hq, hd]; rfl
   refine sqax ?_
   obtain ⟨L8, hL8⟩ : ∃ l, l = lens s.n := ⟨_, rfl⟩
   have hL8l : L8.length = 8 := by rw [hL8]; simp [lens]
   refine SemA.loopL (fun i : Nat => [(1, .ptr T.length 0), (2, .ptr (T.length + 1) 0), (3, .p (.int .u64 (s.n * UInt64.ofInt 8).toNat)), (4, .ptr (T.length + 2) 0), (21, wint i)])
    (fun i => T ++ [.cells 155 x.c, .cells 26 zh, .cells 164 ((L8.take i ++ (List.replicate 8 0).drop i).map by8)]) (fun i => i <= 8) (fun i => 8 - i) 0 [] (by kernel_rfl) (by omega) (by (simp -dsimp +decide only [v5q, ↓reduceIte, Nat.reduceSub, Nat.reduceAdd, Nat.reduceMul, Nat.reduceLT, Int.reduceAdd, Int.reduceSub, Int.reduceToNat, ci, vt])) rfl (by simp) ?_
   rintro i g hi
   refine sqax ?_
   refine CondP.dec (fun h => ?_) (fun h => ?_)
   . refine sqay ?_
     have hz : L8[i]! = (u64_shr (s.n * UInt64.ofInt 8) (56 - 8 * i)).toUInt8 := by
      rw [getElem!_pos L8 i (by omega)]; simp [hL8, lens]; rfl
     rw [step_set L8 (List.replicate 8 0) i (by omega) (by simp; omega) _ hz]
     exact ⟨by omega, by omega, by simp; omega, i + 1, by omega, by omega, rfl, rfl⟩
   . have hi : i = 8 := by omega
     subst hi
     refine sqay ?_
     rw [List.take_of_length_le (show L8.length <= 8 by omega), show (List.replicate 8 (0 : UInt8)).drop 8 = [] from rfl, List.append_nil]
     refine SemA.draw (fun _ => true) [(0, true), (1, true), (2, false), (3, false)] mixed (by kernel_rfl) ?_
     refine sqaz ?_
     refine ⟨by omega, ?_⟩
     rw [ht x hx]
     have hb8 : Bs (T ++ [AObj.cells 155 x.c, .cells 26 zh, .cells 164 (L8.map by8)]) (.sl (T.length + 2) 0 8) L8 := by
      have := Bs.obj (T := T ++ [AObj.cells 155 x.c, .cells 26 zh, .cells 164 (L8.map by8)]) (i := T.length + 2) (o := .cells 164 (L8.map by8)) (bs := L8) (by simp) rfl
      rwa [hL8l] at this
     refine (add_ok hx hb8).det ?_
     have hy := Sa.puts_ok L8 hx
     obtain ⟨y, ey⟩ : ∃ y, y = x.puts L8 := ⟨_, rfl⟩
     rw [<- ey] at hy ⊢
     have hly := Sa.len hy
     refine tqay (cj2 @hly @hlx) ?_
     rw [wrA_all (by rw [hly, hlx])]
     refine ⟨Sa.ones _, ?_⟩
     obtain ⟨O, hO⟩ : ∃ l, l = outs y.h := ⟨_, rfl⟩
     have hOl : O.length = 32 := by rw [hO]; simp [outs]
     refine SemA.loopL (fun i : Nat => [(1, .ptr T.length 0), (2, .ptr (T.length + 1) 0), (6, .ptr (T.length + 3) 0), (36, wint i)])
      (fun i => T ++ [.cells 155 y.c, .cells 26 zh, .cells 164 (L8.map by8), .cells 26 ((O.take i ++ (List.replicate 32 0).drop i).map by8)]) (fun i => i <= 32) (fun i => 32 - i) 0 [] (by kernel_rfl) (by omega) (by (simp -dsimp +decide only [v5q, ↓reduceIte, Nat.reduceSub, Nat.reduceAdd, Nat.reduceMul, Nat.reduceLT, Int.reduceAdd, Int.reduceSub, Int.reduceToNat, ci, vt])) rfl (by simp) ?_
     rintro i g hi
     refine sqax ?_
     refine CondP.dec (fun h => ?_) (fun h => ?_)
     . have hyh := Sa.get_hk hy (i / 4) (by omega)
       have hz : O[i]! = (u32_shr y.h[i / 4]! (24 - 8 * (i % 4))).toUInt8 := by
        rw [getElem!_pos O i (by omega)]; simp [hO, outs]
       simp -dsimp +decide (disch := omega) only [v5q, ↓reduceIte, Nat.reduceSub, Nat.reduceAdd, Nat.reduceMul, Nat.reduceLT, Int.reduceAdd, Int.reduceSub, Int.reduceToNat, v2q, hyh, step_set O (List.replicate 32 0) i (by omega) (by simp; omega) _ hz]
       exact ⟨⟨by omega, by omega⟩, by omega, ⟨by omega, by omega⟩, by simp; omega, i + 1, by omega, by omega, rfl, rfl⟩
     . have hi : i = 32 := by omega
       subst hi
       rw [show List.take 32 O ++ List.drop 32 (List.replicate 32 0) = O by rw [List.take_of_length_le (by omega)]; simp]
       have hOt : O.take 32 = O := List.take_of_length_le (by omega)
       refine tqay (cj2 @hOt @List.drop_zero.{0}) ?_
       rw [wrA_all (by simp [hOl, zh])]
       refine ⟨by omega, ⟨by omega, by omega, by simp [hOl, zh]⟩, by simp [hOl], Vw.cut ⟨?_, rfl, rfl⟩⟩
       refine tqax @hOt ?_
       rw [hO, ey, hxp, hL8, Sa.fin]
def sha (m : List UInt8) : List UInt8 := (Sa.zero.puts m).fin
theorem zero_ok : Sa.zero.ok := ⟨rfl, rfl⟩
theorem outs_len (h : List UInt32) : (outs h).length = 32 := by simp [outs]
theorem sha_len (m : List UInt8) : (sha m).length = 32 := outs_len _
theorem sum_ok {T : Tbl} {a : AV} {bs : List UInt8} (hb : Bs T a bs) : CallA prog G 100 [a] T fun v T' es => v = .ag ((sha bs).map by8) /\ T' = T /\ es = [] := by
 have hr := Sl.rules hb (by decide)
 refine CallA.eV 7 func100 ntmps100 results100 ?_
 refine sqax ?_
 refine begin_ok.det ?_
 refine tqax @hr ?_
 refine (add_ok zero_ok (hb.app _)).det ?_
 refine tqax @hr ?_
 refine (end_ok (Sa.puts_ok bs zero_ok)).det ?_
 refine tqax @hr ?_
 have hf : ((Sa.zero.puts bs).fin).length = 32 := sha_len bs
 rw [wrA_all (by simp [hf])]
 refine ⟨by omega, by simp [hf], Vw.cut ⟨?_, rfl, rfl⟩⟩
 refine sqax ?_
 rw [List.take_of_length_le (by omega), sha]
end Go.Proofs.YtfpjalgfnjjcmaaGreatDoor
namespace Go.Proofs.YtfpjalgfnjjcmaaGreatDoor
open Go.E Go.Proofs.YtfpjalgfnjjcmaaGreatDoor.Tryz Go.Proofs.Tryz
def distn (n : Nat) : Nat := (120 - n % 64) % 64
def txt (m : List UInt8) : List UInt8 := m ++ 128 :: (List.replicate (distn (m.length + 1)) 0 ++ lens (UInt64.ofInt (m.length : Int)))
theorem txt_len (m : List UInt8) : (txt m).length % 64 = 0 := by
 simp [txt, lens, distn]; omega
theorem sh_num : ∀ j : Nat, j < 8 -> (UInt64.ofInt 8 * (UInt64.ofInt 7 - UInt64.ofInt (j : Int))).toNat = 56 - 8 * j := by decide +kernel
theorem take_next {α : Type} [Inhabited α] (l : List α) (k : Nat) (h : k < l.length) : l.take k ++ [l[k]!] = l.take (k + 1) := by
 rw [getElem!_pos l k h, List.take_succ_eq_append_getElem h]
theorem text_ok {T : Tbl} {a : AV} {bs : List UInt8} (hb : Bs T a bs) (hlen : bs.length <= 1099511627776) : CallA prog G 103 [a] T fun v T' es => v = .sl T.length 0 (txt bs).length /\ T' = T ++ [.buf 5 1 ((txt bs).map by8)] /\ es = [] := by
 have hr := Sl.rules hb (by decide)
 refine CallA.wfs fun wf => ?_
 have wt := wf.t
 have wa := wf.arg a (by simp)
 refine CallA.eV 37 func103 ntmps103 results103 ?_
 refine sqax ?_
 refine tqay (cj3 @hr @vt @wt) ?_
 refine ⟨by omega, by omega, ?_⟩
 refine SemA.cut (T.length + 1) (by omega) ?_
 refine tqax (cj3 @vt @wt @wa) ?_
 refine SemA.loopC (fun o : List UInt8 => [(0, a), (3, .sl T.length 0 o.length)]) (fun o => T ++ [.buf 5 1 (o.map by8)]) (fun o => o.length <= bs.length + 100 /\ o ++ List.replicate (distn o.length) 0 = bs ++ 128 :: List.replicate (distn (bs.length + 1)) 0) (fun o => distn o.length) (T.length + 1) (bs ++ [128]) [] (by kernel_rfl) (by omega) ⟨by simp, by simp⟩ (by (simp -dsimp +decide only [v5q, ↓reduceIte, Nat.reduceSub, Nat.reduceAdd, Nat.reduceMul, Nat.reduceLT, Int.reduceAdd, Int.reduceSub, Int.reduceToNat, ci, vt, List.length_append]); rfl) (by rw [List.map_append]; rfl) (by simp) ?_
 rintro o g ⟨hol, ho⟩
 refine tqax @vt ?_
 refine CondP.ndec (fun h => ?_) (fun h => ?_)
 . refine tqaz (cj2 @wt @wa) ?_
   have ed : distn o.length = distn (o.length + 1) + 1 := by unfold distn; omega
   refine ⟨by omega, o ++ [0], ⟨?_, ?_⟩, ?_, ?_, ?_⟩
   . have := congrArg List.length ho
     simp [distn] at this ⊢
     omega
   . rw [<- ho, ed, List.replicate_succ]; simp
   . simp; omega
   . simp
   . rw [List.map_append]; rfl
 . have hd : distn o.length = 0 := by unfold distn; omega
   rw [hd, List.replicate_zero, List.append_nil] at ho
   refine tqax @hr ?_
   have hol2 : o.length <= bs.length + 65 := by
    have := congrArg List.length ho
    simp [distn] at this
    omega
   have hl8 : (lens (UInt64.ofInt (bs.length : Int))).length = 8 := by simp [lens]
   obtain ⟨L8, hL8⟩ : ∃ l, l = lens (UInt64.ofInt (bs.length : Int)) := ⟨_, rfl⟩
   rw [<- hL8] at hl8
   refine SemA.loopC (fun j : Nat => [(3, .sl T.length 0 (o.length + j)), (4, .p (.int .u64 ((UInt64.ofInt (bs.length : Int) * UInt64.ofInt 8).toNat : Int))), (5, wint (7 - (j : Int)))]) (fun j => T ++ [.buf 5 1 ((o ++ L8.take j).map by8)]) (fun j => j <= 8) (fun j => 8 - j) (T.length + 1) 0 [] (by kernel_rfl) (by omega) (by omega) (by (simp -dsimp +decide only [v5q, ↓reduceIte, Nat.reduceSub, Nat.reduceAdd, Nat.reduceMul, Nat.reduceLT, Int.reduceAdd, Int.reduceSub, Int.reduceToNat, ci, vt])) (by (simp -dsimp +decide only [v5q, ↓reduceIte, Nat.reduceSub, Nat.reduceAdd, Nat.reduceMul, Nat.reduceLT, Int.reduceAdd, Int.reduceSub, Int.reduceToNat, ci, vt, List.take_zero, List.append_nil])) (by simp) ?_
   rintro j g hj
   refine sqax ?_
   refine CondP.dec (fun h => ?_) (fun h => ?_)
   . refine tqaz (cj2 @wt @wa) ?_
     have hz : L8[j]! = (u64_shr (UInt64.ofInt (bs.length : Int) * UInt64.ofInt 8) (UInt64.ofInt 8 * (UInt64.ofInt 7 - UInt64.ofInt (j : Int))).toNat).toUInt8 := by
      rw [getElem!_pos L8 j (by omega), sh_num j (by omega)]; simp [hL8, lens]; rfl
     refine ⟨⟨by simp; omega, by omega, by omega⟩, j + 1, by omega, by omega, ⟨rfl, ?_⟩, ?_⟩
     . rw [show (7 : Int) - (j : Int) - 1 = 7 - ((j + 1 : Nat) : Int) by omega]
     . rw [<- hz, List.append_assoc, take_next L8 j (by omega)]
   . have hj : j = 8 := by omega
     subst hj
     refine sqax ?_
     have e : o ++ L8.take 8 = txt bs := by
      rw [List.take_of_length_le (by omega), ho, hL8, txt]; simp
     rw [e]
     refine Vw.done ⟨?_, rfl, rfl⟩
     rw [<- e, List.length_append, List.take_of_length_le (by omega), hl8]
theorem words_be (p : List UInt8) (t : Nat) : be32 p t 4 = (u32_shl (p[4 * t]!).toUInt32 24 ||| u32_shl (p[4 * t + 1]!).toUInt32 16 ||| u32_shl (p[4 * t + 2]!).toUInt32 8 ||| (p[4 * t + 3]!).toUInt32) := by
 simp only [be32, Nat.add_zero]
 generalize (p[4 * t]!).toUInt32 = a
 generalize (p[4 * t + 1]!).toUInt32 = b
 generalize (p[4 * t + 2]!).toUInt32 = c
 generalize (p[4 * t + 3]!).toUInt32 = d
 apply UInt32.eq_of_toBitVec_eq
 simp [u32_shl]
 simp only [BitVec.shiftLeft_or_distrib, <- BitVec.shiftLeft_add]
theorem ch_eq (e f g : UInt32) : (g ^^^ e &&& (f ^^^ g)) = (e &&& f) ^^^ (~~~ e &&& g) := by
 apply UInt32.eq_of_toBitVec_eq
 ext i
 simp
 cases e.toBitVec[i] <;> cases f.toBitVec[i] <;> cases g.toBitVec[i] <;> rfl
theorem maj_eq (a b c : UInt32) : (a &&& b ||| c &&& (a ||| b)) = (a &&& b) ^^^ (a &&& c) ^^^ (b &&& c) := by
 apply UInt32.eq_of_toBitVec_eq
 ext i
 simp
 cases a.toBitVec[i] <;> cases b.toBitVec[i] <;> cases c.toBitVec[i] <;> rfl
theorem k_ok {T : Tbl} : CallA prog G 104 [] T fun v T' es => v = .sl T.length 0 64 /\ T' = T ++ [.buf 23 1 (tbl.map w32)] /\ es = [] := by
 refine CallA.eV 2 func104 ntmps104 results104 ?_
 refine sqax ?_
 exact Vw.done ⟨rfl, by rfl, rfl⟩
theorem sch_snoc_lo (p : List UInt8) (t : Nat) (h : t < 16) : sch p (t + 1) = sch p t ++ [be32 p t 4] := by
 rw [sch, nextW, sch_len, if_pos h]
theorem sch_snoc_hi (p : List UInt8) (t : Nat) (h : 16 <= t) : sch p (t + 1) = sch p t ++ [(rotr (sch p t)[t - 2]! 17 ^^^ rotr (sch p t)[t - 2]! 19 ^^^ u32_shr (sch p t)[t - 2]! 10) + (sch p t)[t - 7]! + (rotr (sch p t)[t - 15]! 7 ^^^ rotr (sch p t)[t - 15]! 18 ^^^ u32_shr (sch p t)[t - 15]! 3) + (sch p t)[t - 16]!] := by
 rw [sch, nextW, sch_len, if_neg (by omega)]
 simp only [sg0, sg1]
 congr 2
 ac_rfl
def wtb (T : Tbl) (p : List UInt8) : Nat -> Tbl
 | 0 => T
 | t + 1 => T ++ [.buf 23 1 [w32 (be32 p 0 4)], .buf 23 1 ((sch p (t + 1)).map w32)]
theorem words_ok {T : Tbl} {a : AV} {p : List UInt8} (hb : Bs T a p) (hp : p.length = 64) : CallA prog G 105 [a] T fun v T' es => v = .sl (T.length + 1) 0 64 /\ T' = T ++ [.buf 23 1 [w32 (be32 p 0 4)], .buf 23 1 ((sch p 64).map w32)] /\ es = [] := by
 have hr := Sl.rules hb (by decide)
 have hld := Sl.loads hb (P := prog) (t := 5) (by (simp -dsimp +decide only [v5q, ↓reduceIte, Nat.reduceSub, Nat.reduceAdd, Nat.reduceMul, Nat.reduceLT, Int.reduceAdd, Int.reduceSub, Int.reduceToNat, ci]))
 refine CallA.wfs fun wf => ?_
 have wt := wf.t
 have wa := wf.arg a (by simp)
 refine CallA.eV 99 func105 ntmps105 results105 ?_
 refine sqax ?_
 refine SemA.loopC (fun t : Nat => [(0, a), (3, if t = 0 then .p (.slice none 0 0) else .sl (T.length + 1) 0 t), (4, wint t)]) (wtb T p) (fun t => t <= 16) (fun t => 16 - t) (T.length + 2) 0 [] (by kernel_rfl) (by omega) (by omega) (by (simp -dsimp +decide only [v5q, ↓reduceIte, Nat.reduceSub, Nat.reduceAdd, Nat.reduceMul, Nat.reduceLT, Int.reduceAdd, Int.reduceSub, Int.reduceToNat, ci, vt])) rfl (by simp) ?_
 rintro t g ht
 refine sqax ?_
 refine CondP.dec (fun h => ?_) (fun h => ?_)
 . refine SemA.drawE 35 (fun _ => true) [(0, true), (1, true), (2, true), (3, true), (4, true), (5, true), (6, true), (7, true), (8, true), (9, true), (10, true), (11, true), (12, true), (13, true), (14, true), (15, true), (16, true), (17, true), (18, true), (19, true), (20, true), (21, true), (22, true), (23, true), (24, true), (25, true), (26, true), (27, true), (28, true), (29, true), (30, true), (31, true), (32, true), (33, true), (34, false), (35, false), (36, true)] mixed (by kernel_rfl) ?_
   cases t with
   | zero =>
     simp -dsimp +decide (disch := omega) only [v5q, ↓reduceIte, Nat.reduceSub, Nat.reduceAdd, Nat.reduceMul, Nat.reduceLT, Int.reduceAdd, Int.reduceSub, Int.reduceToNat, v2q, wt, wa, hr, hld, wtb]
     refine ⟨by omega, by omega, by omega, by omega, 1, by omega, by omega, ⟨rfl, rfl⟩, ?_⟩
     show _ = T ++ [.buf 23 1 [w32 (be32 p 0 4)], .buf 23 1 [w32 (be32 p 0 4)]]
     rw [words_be]
     rfl
   | succ t =>
     have hne : (t + 1 = 0) = False := by simp
     have hsl := sch_len p (t + 1)
     simp -dsimp +decide (disch := omega) only [v5q, ↓reduceIte, Nat.reduceSub, Nat.reduceAdd, Nat.reduceMul, Nat.reduceLT, Int.reduceAdd, Int.reduceSub, Int.reduceToNat, v2q, wt, wa, hr, hld, wtb, hsl, hne, if_false]
     rw [<- words_be]
     refine ⟨by omega, by omega, by omega, by omega, by omega, t + 2, by omega, by omega, ⟨rfl, ?_⟩, ?_⟩
     . rw [show ((t + 1 : Nat) : Int) + 1 = ((t + 2 : Nat) : Int) by omega]
     . show _ = T ++ [AObj.buf 23 1 [w32 (be32 p 0 4)], AObj.buf 23 1 ((sch p (t + 1 + 1)).map w32)]
       rw [sch_snoc_lo p (t + 1) (by omega)]; rfl
 . have ht : t = 16 := by omega
   subst ht
   refine sqax ?_
   refine SemA.loopC (fun t : Nat => [(3, .sl (T.length + 1) 0 t), (5, wint (t : Int))]) (fun t => T ++ [.buf 23 1 [w32 (be32 p 0 4)], .buf 23 1 ((sch p t).map w32)]) (fun t => 16 <= t /\ t <= 64) (fun t => 64 - t) (T.length + 2) 16 [] (by kernel_rfl) (by omega) ⟨by omega, by omega⟩ (by (simp -dsimp +decide only [v5q, ↓reduceIte, Nat.reduceSub, Nat.reduceAdd, Nat.reduceMul, Nat.reduceLT, Int.reduceAdd, Int.reduceSub, Int.reduceToNat, ci, vt])) rfl (by simp) ?_
   rintro t g ⟨ht1, ht⟩
   refine sqax ?_
   have hsl := sch_len p t
   have hnil : sch p t ≠ [] := by intro e; rw [e] at hsl; simp at hsl; omega
   refine CondP.dec (fun h => ?_) (fun h => ?_)
   . refine tqaz @wt ?_
     refine ⟨⟨by omega, by omega, by simp [hnil]⟩, ⟨by omega, by omega, by simp [hnil]⟩, ?_⟩
     refine (rright_ok 7 (by omega) (by omega)).det ?_
     refine tqaz @wt ?_
     refine (rright_ok 18 (by omega) (by omega)).det ?_
     refine tqaz @wt ?_
     refine (rright_ok 17 (by omega) (by omega)).det ?_
     refine tqaz @wt ?_
     refine (rright_ok 19 (by omega) (by omega)).det ?_
     refine tqaz @wt ?_
     refine SemA.drawE 17 (fun _ => true) [(0, true), (1, true), (2, true), (3, true), (4, true), (5, true), (6, true), (7, true), (8, true), (9, true), (10, true), (11, true), (12, true), (13, true), (14, true), (15, true), (16, false), (17, false), (18, true)] mixed (by kernel_rfl) ?_
     refine tqaz @wt ?_
     refine ⟨⟨by omega, by omega, by simp [hnil]⟩, ⟨by omega, by omega, by simp [hnil]⟩, ⟨by omega, by omega, by omega⟩, t + 1, ⟨by omega, by omega⟩, by omega, ⟨rfl, rfl⟩, ?_⟩
     rw [sch_snoc_hi p t (by omega)]
   . have ht : t = 64 := by omega
     subst ht
     refine sqax ?_
     exact Vw.done ⟨rfl, rfl, rfl⟩
def hsum (m : List UInt8) (at_ : Nat) : List UInt32 := (Sa.zero.puts ((txt m).take at_)).h
theorem puts_n (l : List UInt8) : ∀ s : Sa, (s.puts l).n.toNat % 64 = (s.n.toNat + l.length) % 64 := by
 induction l with
 | nil => intro s; simp [Sa.puts]
 | cons x l ih =>
   intro s
   show ((s.put x).puts l).n.toNat % 64 = _
   rw [ih, Sa.put_n, List.length_cons]
   have := mod_succ s.n
   omega
theorem hsum_next (m : List UInt8) (j : Nat) (h : 64 * j + 64 <= (txt m).length) : hsum m (64 * j + 64) = piece (hsum m (64 * j)) (((txt m).drop (64 * j)).take 64) := by
 have hok := Sa.puts_ok ((txt m).take (64 * j)) zero_ok
 have hn := puts_n ((txt m).take (64 * j)) Sa.zero
 have hpl : (((txt m).drop (64 * j)).take 64).length = 64 := by simp; omega
 rw [hsum, hsum, List.take_add, Sa.puts, List.foldl_append]
 show ((Sa.zero.puts ((txt m).take (64 * j))).puts _).h = _
 generalize Sa.zero.puts ((txt m).take (64 * j)) = s at hok hn
 have hn0 : s.n.toNat % 64 = 0 := by
  rw [hn, List.length_take, Nat.min_eq_left (by omega)]; show (0 + 64 * j) % 64 = 0; omega
 have hpc := hok.2
 rw [absorb _ s (by omega) (by omega) hok, hpl, hn0]
 have e : (s.n + UInt64.ofInt ((64 : Nat) : Int)).toNat % 64 = 0 := by
  rw [UInt64.toNat_add, show (UInt64.ofInt ((64 : Nat) : Int)).toNat = 64 from rfl]; omega
 simp only [e, if_true]
 rw [List.take_zero, List.drop_of_length_le (l := s.pc) (by omega)]; simp
theorem hsum_len (m : List UInt8) (k : Nat) : (hsum m k).length = 8 := (Sa.puts_ok _ zero_ok).1
theorem un_xor32 {P : Program} {x : UInt32} {KA : AV -> Prop} {KV : Value -> Prop} (h : KA (.p (.int .u32 ((~~~x).toNat : Int)))) : unV .xor (.int .u32 (x.toNat : Int)) (pureK P KA) KV := by
 refine ⟨.int .u32 ((~~~x).toNat : Int), fun w _ => ?_, h⟩
 have e : IntKind.u32.wrap ((BitVec.ofInt IntKind.u32.bits IntKind.u32.max ^^^ BitVec.ofInt IntKind.u32.bits (x.toNat : Int)).toNat : Int) = ((~~~x).toNat : Int) := by
  rw [Go.E.u32_wrap, Go.E.u32_xor, Go.E.u32_self]
  have : UInt32.ofInt IntKind.u32.max ^^^ x = ~~~x := by
   rw [show UInt32.ofInt IntKind.u32.max = ~~~(0 : UInt32) from rfl]
   apply UInt32.eq_of_toBitVec_eq
   ext i
   simp
  rw [this]
 show (pure (Value.int .u32 (IntKind.u32.wrap ((BitVec.ofInt IntKind.u32.bits IntKind.u32.max ^^^ BitVec.ofInt IntKind.u32.bits (x.toNat : Int)).toNat : Int))) : Sem Value).run P w = _
 rw [e]; rfl
theorem rnd_cells (s : W8) (k w : UInt32) : [AV.p (.int .u32 ((s.h + (rotr s.e 6 ^^^ rotr s.e 11 ^^^ rotr s.e 25) + (s.e &&& s.f ^^^ ~~~s.e &&& s.g) + k + w + ((rotr s.a 2 ^^^ rotr s.a 13 ^^^ rotr s.a 22) + (s.a &&& s.b ^^^ s.a &&& s.c ^^^ s.b &&& s.c))).toNat : Int)), AV.p (.int .u32 (s.a.toNat : Int)), AV.p (.int .u32 (s.b.toNat : Int)), AV.p (.int .u32 (s.c.toNat : Int)),
 AV.p (.int .u32 ((s.d + (s.h + (rotr s.e 6 ^^^ rotr s.e 11 ^^^ rotr s.e 25) + (s.e &&& s.f ^^^ ~~~s.e &&& s.g) + k + w)).toNat : Int)), AV.p (.int .u32 (s.e.toNat : Int)), AV.p (.int .u32 (s.f.toNat : Int)), AV.p (.int .u32 (s.g.toNat : Int))] = (rnd s k w).l.map w32 := by
 rw [<- ch_eq, <- maj_eq]
 rfl
theorem sh_num2 : ∀ r : Nat, r < 4 -> (UInt64.ofInt 24 - UInt64.ofInt 8 * UInt64.ofInt (r : Int)).toNat = 24 - 8 * r := by decide +kernel
theorem clean32 (l : List UInt32) : ∀ a ∈ l.map w32, a.Clean := by
 intro a ha; obtain ⟨x, _, rfl⟩ := List.mem_map.1 ha; exact .p _
theorem w8_of {l : List UInt32} (h : l.length = 8) : (W8.of l).l = l := by
 match l, h with
 | [a, b, c, d, e, f, g, i], _ => rfl
theorem W8.gl (s : W8) : s.l[0]! = s.a /\ s.l[1]! = s.b /\ s.l[2]! = s.c /\ s.l[3]! = s.d /\ s.l[4]! = s.e /\ s.l[5]! = s.f /\ s.l[6]! = s.g /\ s.l[7]! = s.h := ⟨rfl, rfl, rfl, rfl, rfl, rfl, rfl, rfl⟩
theorem rsum_ok {T : Tbl} {a : AV} {bs : List UInt8} (hb : Bs T a bs) (hlen : bs.length <= 1099511627776) : CallA prog G 68 [a] T fun v T' es => v = .ag ((outs (hsum bs (txt bs).length)).map by8) /\ T' = T /\ es = [] := by
 have hr := Sl.rules hb (by decide)
 refine CallA.wfs fun wf => ?_
 have wt := wf.t
 have wa := wf.arg a (by simp)
 refine CallA.eV 171 func68 ntmps68 results68 ?_
 refine sqax ?_
 refine (text_ok (hb.app _) hlen).mono ?_
 rintro v T' es ⟨rfl, rfl, rfl⟩
 refine sqax ?_
 refine k_ok.mono ?_
 rintro v T' es ⟨rfl, rfl, rfl⟩
 refine sqax ?_
 have htl := txt_len bs
 obtain ⟨X, hX⟩ : ∃ X, X = txt bs := ⟨_, rfl⟩
 rw [<- hX] at htl ⊢
 have htab : tbl.length = 64 := rfl
 have hXl : X.length <= 1099511627900 := by rw [hX]; simp [txt, lens, distn]; omega
 refine SemA.loopV (fun j : Nat => [(2, .ptr T.length 0), (3, .sl (T.length + 1) 0 8), (4, .sl (T.length + 2) 0 X.length), (5, .sl (T.length + 3) 0 64), (6, wint ((64 * j : Nat) : Int))])
  (fun j => T ++ [.cells 26 zh, .buf 23 1 ((hsum bs (64 * j)).map w32), .buf 5 1 (X.map by8), .buf 23 1 (tbl.map w32)]) (fun j => 64 * j <= X.length) (fun j => X.length - 64 * j) 0 [] (by kernel_rfl) (by omega) (by (simp -dsimp +decide only [v5q, ↓reduceIte, Nat.reduceSub, Nat.reduceAdd, Nat.reduceMul, Nat.reduceLT, Int.reduceAdd, Int.reduceSub, Int.reduceToNat, ci])) rfl (by simp) ?_
 rintro j g hj
 refine sqax ?_
 refine CondP.dec (fun h => ?_) (fun h => ?_)
 . obtain ⟨p, hp⟩ : ∃ p, p = (X.drop (64 * j)).take 64 := ⟨_, rfl⟩
   have hpl : p.length = 64 := by rw [hp]; simp; omega
   have hsl := sch_len p 64
   obtain ⟨hs, hhs⟩ : ∃ hs, hs = hsum bs (64 * j) := ⟨_, rfl⟩
   have hhl : hs.length = 8 := by rw [hhs]; exact hsum_len _ _
   rw [<- hhs]
   refine sqaz ?_
   rw [show 64 * j + 64 - 64 * j = 64 by omega]
   refine ⟨by omega, by omega, ⟨by omega, by omega⟩, ?_⟩
   have hbp : Bs (T ++ [AObj.cells 26 zh, .buf 23 1 (hs.map w32), .buf 5 1 (X.map by8), .buf 23 1 (tbl.map w32)]) (.sl (T.length + 2) (64 * j) 64) p := by
    have h1 := Bs.obj (T := T ++ [AObj.cells 26 zh, .buf 23 1 (hs.map w32), .buf 5 1 (X.map by8), .buf 23 1 (tbl.map w32)]) (i := T.length + 2) (o := .buf 5 1 (X.map by8)) (bs := X) (by simp) rfl
    have h2 := Bs.sub h1 (l := 64 * j) (m := 64 * j + 64) (by omega) (by omega)
    rw [show 64 * j + 64 - 64 * j = 64 by omega, <- hp] at h2
    simpa [AV.sub, show 64 * j + 64 - 64 * j = 64 by omega] using h2
   refine (words_ok hbp hpl).mono ?_
   rintro v T' es ⟨rfl, rfl, rfl⟩
   refine tqaz @wt ?_
   refine ⟨by omega, ?_⟩
   have wp := wf.p
   refine SemA.pub (T.length + 6) (o := .buf 23 1 (hs.map w32)) (by simp [List.take_of_length_le (Nat.le_of_eq hhl)]) rfl (clean32 _) ?_
   refine tqax (cj2 @vt @wp) ?_
   refine SemA.cut (T.length + 6) (by omega) ?_
   refine tqax (cj2 @vt @wt) ?_
   have htk : List.take 8 hs = hs := List.take_of_length_le (by omega)
   refine SemA.loopV (fun t : Nat => [(2, .ptr T.length 0), (3, .sl (T.length + 1) 0 8), (4, .sl (T.length + 2) 0 X.length), (5, .sl (T.length + 3) 0 64), (6, wint ((64 * j : Nat) : Int)), (7, .sl (T.length + 5) 0 64), (8, .vs ((rnds (sch p 64) (W8.of hs) t).l.map w32) 8), (9, wint (t : Int))])
    (fun _ => T ++ [.cells 26 zh, .buf 23 1 (hs.map w32), .buf 5 1 (X.map by8), .buf 23 1 (tbl.map w32), .buf 23 1 [w32 (be32 p 0 4)], .buf 23 1 ((sch p 64).map w32)]) (fun t => t <= 64) (fun t => 64 - t) 0 [] (by kernel_rfl) (by omega) (by rw [rnds, w8_of hhl]; (simp -dsimp +decide only [v5q, ↓reduceIte, Nat.reduceSub, Nat.reduceAdd, Nat.reduceMul, Nat.reduceLT, Int.reduceAdd, Int.reduceSub, Int.reduceToNat, ci, htk])) rfl (by simp) ?_
   . rintro t g ht
     obtain ⟨s, es⟩ : ∃ s, s = rnds (sch p 64) (W8.of hs) t := ⟨_, rfl⟩
     have hl8 : s.l.length = 8 := rfl
     have gl := s.gl
     rw [<- es]
     refine sqax ?_
     refine CondP.dec (fun h => ?_) (fun h => ?_)
     . have hne : (List.map w32 s.l ≠ []) = True := by simp [W8.l]
       have hwn : (List.map w32 (sch p 64) ≠ []) = True := by
        have : sch p 64 ≠ [] := by intro e; rw [e] at hsl; simp at hsl
        simp [this]
       have htn : (List.map w32 tbl ≠ []) = True := by simp [tbl]
       refine tqaz (cj2 @gl @hne) ?_
       refine (rright_ok 6 (by omega) (by omega)).det ?_
       refine sqay ?_
       refine (rright_ok 11 (by omega) (by omega)).det ?_
       refine sqay ?_
       refine (rright_ok 25 (by omega) (by omega)).det ?_
       refine sqay ?_
       refine SemA.draw (fun _ => true) [(0, true), (1, true), (2, true), (3, true), (4, true), (5, true), (6, true), (7, true), (8, true), (9, true), (10, true), (11, true), (12, true), (13, true), (14, true), (15, true), (16, true), (17, true), (18, true), (19, true), (20, true), (21, true), (22, true), (23, true), (24, true), (25, true), (26, true), (27, true), (28, true)] mixed (by kernel_rfl) ?_
       refine tqaz (cj4 @gl @hne @hwn @htn) ?_
       refine un_xor32 ?_
       refine tqaz (cj4 @gl @hne @hwn @htn) ?_
       refine ⟨by omega, by omega, ?_⟩
       refine (rright_ok 2 (by omega) (by omega)).det ?_
       refine sqay ?_
       refine (rright_ok 13 (by omega) (by omega)).det ?_
       refine sqay ?_
       refine (rright_ok 22 (by omega) (by omega)).det ?_
       refine sqay ?_
       refine SemA.draw (fun _ => true) [(0, true), (1, true), (2, true), (3, true), (4, true), (5, true), (6, true), (7, true), (8, true), (9, true), (10, true), (11, true), (12, true), (13, true), (14, true), (15, true), (16, true), (17, true), (18, true), (19, true), (20, true), (21, true)] mixed (by kernel_rfl) ?_
       refine tqaz (cj2 @gl @hne) ?_
       refine SemA.draw (fun _ => true) [(0, true), (1, true), (2, true), (3, true), (4, true), (5, true), (6, true), (7, true), (8, true), (9, true), (10, true), (11, true), (12, true), (13, true), (14, true), (15, true), (16, true), (17, true), (18, true), (19, true), (20, true), (21, true), (22, false), (23, true)] mixed (by kernel_rfl) ?_
       have flat8 : ∀ x : AV, (List.replicate 8 [x]).flatten = [x, x, x, x, x, x, x, x] := fun _ => rfl
       simp -dsimp +decide (disch := omega) only [v5q, ↓reduceIte, Nat.reduceSub, Nat.reduceAdd, Nat.reduceMul, Nat.reduceLT, Int.reduceAdd, Int.reduceSub, Int.reduceToNat, v2q, gl, hne, flat8, List.set_cons_zero, List.set_cons_succ, List.length_cons, List.length_nil]
       refine ⟨t + 1, by omega, by omega, ?_⟩
       rw [rnd_cells, rnds, <- es]
       refine SeeL.pub (T.length + 6) (o := .buf 23 1 ((rnd s tbl[t]! (sch p 64)[t]!).l.map w32)) (cs := (rnd s tbl[t]! (sch p 64)[t]!).l.map w32) (by (simp -dsimp +decide only [v5q, ↓reduceIte, Nat.reduceSub, Nat.reduceAdd, Nat.reduceMul, Nat.reduceLT, Int.reduceAdd, Int.reduceSub, Int.reduceToNat, ci])) rfl (clean32 _) ?_
       refine tqax (cj2 @vt @wp) ?_
       refine SeeL.cut (T.length + 6) (by omega) ?_
       refine tqax (cj2 @vt @wt) ?_
       refine SeeL.done ⟨rfl, ?_, rfl, by simp⟩
       refine sqax ?_
       rfl
     . have ht : t = 64 := by omega
       subst ht
       refine sqax ?_
       obtain ⟨z, hz⟩ : ∃ z, z = List.zipWith (· + ·) hs s.l := ⟨_, rfl⟩
       have hzl : z.length = 8 := by rw [hz, List.length_zipWith, hhl, hl8]; rfl
       have hzp : z = piece hs p := by rw [hz, piece, <- es]
       refine SemA.loopL (fun i : Nat => [(2, .ptr T.length 0), (3, .sl (T.length + 1) 0 8), (4, .sl (T.length + 2) 0 X.length), (5, .sl (T.length + 3) 0 64), (6, wint ((64 * j : Nat) : Int)), (8, .vs (s.l.map w32) 8), (16, wint (i : Int))])
        (fun i => T ++ [.cells 26 zh, .buf 23 1 ((z.take i ++ hs.drop i).map w32), .buf 5 1 (X.map by8), .buf 23 1 (tbl.map w32), .buf 23 1 [w32 (be32 p 0 4)], .buf 23 1 ((sch p 64).map w32)]) (fun i => i <= 8) (fun i => 8 - i) 0 [] (by kernel_rfl) (by omega) (by (simp -dsimp +decide only [v5q, ↓reduceIte, Nat.reduceSub, Nat.reduceAdd, Nat.reduceMul, Nat.reduceLT, Int.reduceAdd, Int.reduceSub, Int.reduceToNat, ci])) rfl (by simp) ?_
       rintro i g hi
       refine sqax ?_
       refine CondP.dec (fun h => ?_) (fun h => ?_)
       . have hzi : z[i]! = hs[i]! + s.l[i]! := by
          rw [hz, getElem!_pos _ i (by rw [<- hz]; omega), getElem!_pos hs i (by omega), getElem!_pos s.l i (by omega)]; simp
         refine SemA.draw (fun _ => true) [(0, true), (1, true), (2, true), (3, true), (4, true), (5, true), (6, true), (7, true), (8, true), (9, true), (10, true), (11, true), (12, false)] mixed (by kernel_rfl) ?_
         simp -dsimp +decide (disch := omega) only [v5q, ↓reduceIte, Nat.reduceSub, Nat.reduceAdd, Nat.reduceMul, Nat.reduceLT, Int.reduceAdd, Int.reduceSub, Int.reduceToNat, v2q, step_get z hs i (by omega) (by omega), step_set z hs i (by omega) (by omega) _ hzi]
         have hle : (z.take i ++ hs.drop i).length = 8 := by simp; omega
         have hn1 : List.map w32 (z.take i ++ hs.drop i) ≠ [] := by
          intro e; have := congrArg List.length e; rw [List.length_map, hle] at this; simp at this
         exact ⟨⟨by omega, by omega, hn1⟩, ⟨by omega, by omega, by simp [W8.l]⟩, ⟨by omega, by omega, hn1⟩, by omega, i + 1, by omega, by omega, rfl, rfl⟩
       . have hi : i = 8 := by omega
         subst hi
         refine sqay ?_
         refine ⟨j + 1, by omega, by omega, ?_⟩
         refine SeeL.cut (T.length + 4) (by omega) ?_
         refine tqax (cj2 @vt @wt) ?_
         have hnx := hsum_next bs j (by rw [<- hX]; omega)
         rw [<- hX, <- hp, <- hhs, <- hzp] at hnx
         refine SeeL.done ⟨rfl, ?_, ?_, by simp⟩
         . refine sqax ?_
           rw [show 64 * (j + 1) = 64 * j + 64 by omega]; rfl
         . rw [show 64 * (j + 1) = 64 * j + 64 by omega, hnx, List.take_of_length_le (by omega), List.drop_of_length_le (by omega), List.append_nil]; rfl
 . have hj : 64 * j = X.length := by omega
   rw [hj]
   obtain ⟨O, hO⟩ : ∃ l, l = outs (hsum bs X.length) := ⟨_, rfl⟩
   obtain ⟨hs, hhs⟩ : ∃ hs, hs = hsum bs X.length := ⟨_, rfl⟩
   have hhl : hs.length = 8 := by rw [hhs]; exact hsum_len _ _
   rw [<- hhs] at hO ⊢
   have hOl : O.length = 32 := by rw [hO]; simp [outs]
   refine sqax ?_
   refine SemA.loopL (fun i : Nat => [(2, .ptr T.length 0), (3, .sl (T.length + 1) 0 8), (17, .ptr (T.length + 4) 0), (18, wint i)])
    (fun i => T ++ [.cells 26 zh, .buf 23 1 (hs.map w32), .buf 5 1 (X.map by8), .buf 23 1 (tbl.map w32), .cells 26 ((O.take i ++ (List.replicate 32 0).drop i).map by8)]) (fun i => i <= 32) (fun i => 32 - i) 0 [] (by kernel_rfl) (by omega) (by (simp -dsimp +decide only [v5q, ↓reduceIte, Nat.reduceSub, Nat.reduceAdd, Nat.reduceMul, Nat.reduceLT, Int.reduceAdd, Int.reduceSub, Int.reduceToNat, ci, vt])) rfl (by simp) ?_
   rintro i g hi
   refine sqax ?_
   refine CondP.dec (fun h => ?_) (fun h => ?_)
   . have hz : O[i]! = (u32_shr hs[i / 4]! (24 - 8 * (i % 4))).toUInt8 := by
      rw [getElem!_pos O i (by omega)]; simp [hO, outs]
     have hn1 : List.map w32 hs ≠ [] := by
      intro e; have := congrArg List.length e; rw [List.length_map, hhl] at this; simp at this
     simp -dsimp +decide (disch := omega) only [v5q, ↓reduceIte, Nat.reduceSub, Nat.reduceAdd, Nat.reduceMul, Nat.reduceLT, Int.reduceAdd, Int.reduceSub, Int.reduceToNat, v2q, sh_num2 (i % 4) (by omega), step_set O (List.replicate 32 0) i (by omega) (by simp; omega) _ hz]
     exact ⟨⟨by omega, by omega, hn1⟩, by omega, ⟨by omega, by omega⟩, by simp; omega, i + 1, by omega, by omega, rfl, rfl⟩
   . have hi : i = 32 := by omega
     subst hi
     rw [show List.take 32 O ++ List.drop 32 (List.replicate 32 0) = O by rw [List.take_of_length_le (by omega)]; simp]
     have hOt : O.take 32 = O := List.take_of_length_le (by omega)
     refine tqay (cj2 @hOt @List.drop_zero.{0}) ?_
     rw [wrA_all (by simp [hOl, zh])]
     refine ⟨by omega, ⟨by omega, by omega, by simp [hOl, zh]⟩, by simp [hOl], Vw.cut ⟨?_, rfl, rfl⟩⟩
     refine tqax @hOt ?_
     rw [hO]
theorem sha_eq (m : List UInt8) : sha m = outs (hsum m (txt m).length) := by
 have hd : ∀ n : UInt64, dist n = distn n.toNat := fun n => rfl
 have hn := puts_n m Sa.zero
 have e1 : ∀ (l : List UInt8) (s : Sa), (s.puts l).n = s.n + UInt64.ofInt (l.length : Int) := by
  intro l
  induction l with
  | nil => intro s; show s.n = _; rw [show UInt64.ofInt (([] : List UInt8).length : Int) = 0 from rfl, UInt64.add_zero]
  | cons x l ih => intro s; show ((s.put x).puts l).n = _; rw [ih, List.length_cons, of_succ, Sa.put_n]
 have e2 : (Sa.zero.puts m).n = UInt64.ofInt (m.length : Int) := by rw [e1, Sa.zero, UInt64.zero_add]
 have e3 : dist ((Sa.zero.puts m).n + 1) = distn (m.length + 1) := by
  have h1 := mod_succ (Sa.zero.puts m).n
  have h2 : (Sa.zero.puts m).n.toNat % 64 = m.length % 64 := by rw [hn]; show (0 + m.length) % 64 = _; omega
  unfold dist distn
  omega
 rw [sha, Sa.fin, hsum, List.take_of_length_le (Nat.le_refl _), txt, Sa.padded, e3, e2]
 simp only [Sa.puts, List.foldl_append, List.foldl_cons]
theorem clean8 (l : List UInt8) : ∀ a ∈ l.map by8, a.Clean := by
 intro a ha; obtain ⟨x, _, rfl⟩ := List.mem_map.1 ha; exact .p _
def twice (m : List UInt8) : List UInt8 := sha (sha m)
theorem twice_len (m : List UInt8) : (twice m).length = 32 := sha_len _
structure Hdr where
 v : UInt32
 prev : List UInt8
 root : List UInt8
 time : UInt32
 bits : UInt32
 nonce : UInt32
structure Hdr.Ok (h : Hdr) : Prop where
 p : h.prev.length = 32
 r : h.root.length = 32
def Hdr.cs (h : Hdr) : List AV := w32 h.v :: (h.prev.map by8 ++ (h.root.map by8 ++ [w32 h.time, w32 h.bits, w32 h.nonce]))
def lw4 (n : UInt32) : List UInt8 := [n.toUInt8, (u32_shr n 8).toUInt8, (u32_shr n 16).toUInt8, (u32_shr n 24).toUInt8]
def Hdr.bytes (h : Hdr) : List UInt8 := lw4 h.v ++ h.prev ++ h.root ++ lw4 h.time ++ lw4 h.bits ++ lw4 h.nonce
def Hdr.id (h : Hdr) : List UInt8 := twice h.bytes
theorem Hdr.id_len (h : Hdr) : h.id.length = 32 := twice_len _
theorem Hdr.bytes_len {h : Hdr} (ok : h.Ok) : h.bytes.length = 80 := by simp [Hdr.bytes, lw4, ok.p, ok.r]
theorem Hdr.cs_len {h : Hdr} (ok : h.Ok) : h.cs.length = 68 := by simp [Hdr.cs, ok.p, ok.r]
theorem Hdr.rules {h : Hdr} (ok : h.Ok) : h.cs.length = 68 /\ h.cs[0]? = some (w32 h.v) /\ List.take 32 (List.drop 1 h.cs) = h.prev.map by8 /\ List.take 32 (List.drop 33 h.cs) = h.root.map by8 /\
 h.cs[65]? = some (w32 h.time) /\ h.cs[66]? = some (w32 h.bits) /\ h.cs[67]? = some (w32 h.nonce) /\ List.take 68 (List.drop 0 h.cs) = h.cs /\ List.take 68 h.cs = h.cs /\ (∀ q, h.cs.map (AV.wo q) = h.cs) /\ (∀ i cs, h.cs.map (AV.pub i cs) = h.cs) /\ ones h.cs = true := by
 have hp : (h.prev.map by8).length = 32 := by simp [ok.p]
 have hr : (h.root.map by8).length = 32 := by simp [ok.r]
 have hl := Hdr.cs_len ok
 have hd33 : List.drop 33 h.cs = h.root.map by8 ++ [w32 h.time, w32 h.bits, w32 h.nonce] := by
  rw [Hdr.cs, show (33 : Nat) = 32 + 1 from rfl, List.drop_succ_cons, <- hp, List.drop_left]
 have hd65 : List.drop 65 h.cs = [w32 h.time, w32 h.bits, w32 h.nonce] := by
  rw [show (65 : Nat) = 33 + 32 from rfl, <- List.drop_drop, hd33, <- hr, List.drop_left]
 have hg : ∀ k, h.cs[65 + k]? = [w32 h.time, w32 h.bits, w32 h.nonce][k]? := fun k => by rw [<- List.getElem?_drop, hd65]
 refine ⟨hl, rfl, ?_, ?_, hg 0, hg 1, hg 2, by rw [List.drop_zero, List.take_of_length_le (by omega)], List.take_of_length_le (by omega), fun q => ?_, fun i cs => ?_, ?_⟩
 . rw [Hdr.cs, show (1 : Nat) = 0 + 1 from rfl, List.drop_succ_cons, List.drop_zero, <- hp, List.take_left]
 . rw [hd33, <- hr, List.take_left]
 . simp only [Hdr.cs, List.map_cons, List.map_append, List.map_map, List.map_nil, w32, by8, Function.comp_def, AV.wo]; rfl
 . simp only [Hdr.cs, List.map_cons, List.map_append, List.map_map, List.map_nil, w32, by8, Function.comp_def, AV.pub]; rfl
 . refine List.all_eq_true.2 fun a ha => ?_
   simp only [Hdr.cs, List.mem_cons, List.mem_append, List.mem_map, List.not_mem_nil, or_false] at ha
   rcases ha with rfl | ⟨_, _, rfl⟩ | ⟨_, _, rfl⟩ | rfl | rfl | rfl <;> rfl
theorem wb8 (q : Nat -> Bool) (y : List UInt8) : (List.map by8 y).map (AV.wo q) = List.map by8 y := by
 rw [List.map_map]
 refine List.map_congr_left fun x _ => ?_
 show AV.wo q (.p _) = _
 rw [AV.wo]; rfl
def z32 : List AV := (List.replicate 32 (0 : UInt8)).map by8
theorem ez32 : [oB, oB, oB, oB, oB, oB, oB, oB, oB, oB, oB, oB, oB, oB, oB, oB, oB, oB, oB, oB, oB, oB, oB, oB, oB, oB, oB, oB, oB, oB, oB, oB] = z32 := rfl
theorem vh : (∀ x : List UInt8, x.length = 32 -> wrA z32 0 (x.map by8) = x.map by8) /\ (z32.length = 32) /\ (∀ x : List UInt8, x.length = 32 -> List.take 32 (List.map by8 x) = List.map by8 x) /\ (∀ x : List UInt8, x.length = 32 -> List.take 32 x = x) /\ (∀ (q : Nat -> Bool) (x : List UInt8), (List.map by8 x).map (AV.wo q) = List.map by8 x) /\ (∀ x : List UInt8, ones (List.map by8 x) = true) :=
 ⟨fun x h => wrA_all (by rw [List.length_map, h]; rfl), rfl, fun x h => List.take_of_length_le (by rw [List.length_map, h]; exact Nat.le_refl _), fun x h => List.take_of_length_le (by rw [h]; exact Nat.le_refl _), fun q x => wb8 q x, fun x => by
  refine List.all_eq_true.2 fun a ha => ?_
  obtain ⟨b, _, rfl⟩ := List.mem_map.1 ha
  rfl⟩
theorem rtwice_ok {T : Tbl} {a : AV} {bs : List UInt8} (hb : Bs T a bs) (hl : bs.length <= 1099511627776) : CallA prog G 34 [a] T fun v T' es => v = .ag ((twice bs).map by8) /\ T' = T /\ es = [] := by
 refine CallA.wfs fun wf => ?_
 have wt := wf.t
 refine CallA.eV 4 func34 ntmps34 results34 ?_
 refine sqax ?_
 refine (rsum_ok (hb.app _) hl).det' ?_
 rw [<- sha_eq]
 have h1 := sha_len bs
 have h2 : (twice bs).length = 32 := twice_len bs
 refine tqaz (cj5 @ez32 @vh @h1 @h2 @List.drop_zero.{0}) ?_
 have hb2 : ∀ (a o : AObj) (l : Tbl), o.cs = some ((sha bs).map by8) -> Bs (T ++ a :: o :: l) (.sl (T.length + 1) 0 32) (sha bs) := fun a o l h => by
  have := Bs.obj (bs := sha bs) (gn1 T a o l) h
  rwa [h1] at this
 refine (rsum_ok (bs := sha bs) (hb2 _ _ _ rfl) (by omega)).det' ?_
 rw [<- sha_eq, show sha (sha bs) = twice bs from rfl]
 refine tqaz (cj5 @ez32 @vh @h1 @h2 @List.drop_zero.{0}) ?_
 exact Vw.cut ⟨by rw [AV.wo, AV.woL_eq, wb8], rfl, rfl⟩
theorem twice_ok {T : Tbl} {a : AV} {bs : List UInt8} (hb : Bs T a bs) : CallA prog G 62 [a] T fun v T' es => v = .ag ((twice bs).map by8) /\ T' = T /\ es = [] := by
 refine CallA.wfs fun wf => ?_
 have wt := wf.t
 refine CallA.eV 4 func62 ntmps62 results62 ?_
 refine sqax ?_
 refine (sum_ok (hb.app _)).det' ?_
 have h1 := sha_len bs
 have h2 : (twice bs).length = 32 := twice_len bs
 refine tqaz (cj5 @ez32 @vh @h1 @h2 @List.drop_zero.{0}) ?_
 have hb2 : ∀ (a o : AObj) (l : Tbl), o.cs = some ((sha bs).map by8) -> Bs (T ++ a :: o :: l) (.sl (T.length + 1) 0 32) (sha bs) := fun a o l h => by
  have := Bs.obj (bs := sha bs) (gn1 T a o l) h
  rwa [h1] at this
 refine (sum_ok (bs := sha bs) (hb2 _ _ _ rfl)).det' ?_
 rw [show sha (sha bs) = twice bs from rfl]
 refine tqaz (cj5 @ez32 @vh @h1 @h2 @List.drop_zero.{0}) ?_
 exact Vw.cut ⟨by rw [AV.wo, AV.woL_eq, wb8], rfl, rfl⟩
theorem vrp : (∀ x : AV, (List.replicate 2 [x]).flatten = [x, x]) /\ (∀ x : AV, (List.replicate 3 [x]).flatten = [x, x, x]) /\ (∀ x : AV, (List.replicate 4 [x]).flatten = [x, x, x, x]) /\ (∀ x : AV, (List.replicate 5 [x]).flatten = [x, x, x, x, x]) /\ (∀ (x y : AV) (l : List AV), (x :: l).set 0 y = y :: l) /\ (∀ (x y : AV) (l : List AV) (n : Nat), (x :: l).set (n + 1) y = x :: l.set n y) /\
 (∀ (x y : AV) (l : List AV), (x :: l).set 1 y = x :: l.set 0 y) /\ (∀ (x y : AV) (l : List AV), (x :: l).set 2 y = x :: l.set 1 y) /\ (∀ (x y : AV) (l : List AV), (x :: l).set 3 y = x :: l.set 2 y) /\ (∀ (x y : AV) (l : List AV), (x :: l).set 4 y = x :: l.set 3 y) /\ (∀ (x : AV) (l : List AV), (x :: l).length = l.length + 1) /\ (([] : List AV).length = 0) :=
 ⟨fun _ => rfl, fun _ => rfl, fun _ => rfl, fun _ => rfl, fun _ _ _ => rfl, fun _ _ _ _ => rfl, fun _ _ _ => rfl, fun _ _ _ => rfl, fun _ _ _ => rfl, fun _ _ _ => rfl, fun _ _ => rfl, rfl⟩
theorem low_ok {T : Tbl} {n : UInt32} : CallA prog G 65 [w32 n] T fun v T' es => v = .sl T.length 0 4 /\ T' = T ++ [.buf 5 1 ((lw4 n).map by8)] /\ es = [] := by
 refine CallA.wfs fun wf => ?_
 have wt := wf.t
 refine CallA.eV 3 func65 ntmps65 results65 ?_
 refine sqax ?_
 refine tqaz @vrp ?_
 exact Vw.done ⟨rfl, rfl, rfl⟩
theorem rputh_ok {T : Tbl} {h : Hdr} (ok : h.Ok) : CallA prog G 32 [.ag h.cs] T fun v T' es => v = .vs (h.bytes.map by8) 80 /\ T' = T /\ es = [] := by
 refine CallA.wfs fun wf => ?_
 have wt := wf.t
 have wp := wf.p
 have hr := Hdr.rules ok
 have hp := ok.p
 have hrt := ok.r
 refine CallA.eV 4 func32 ntmps32 results32 ?_
 refine sqax ?_
 refine tqaz @hr ?_
 refine low_ok.det' ?_
 have l4 : ∀ n, (lw4 n).length = 4 := fun _ => rfl
 have la : ∀ a b : List UInt8, (a ++ b).length = a.length + b.length := fun a b => List.length_append
 have t4 : ∀ n, List.take 4 (List.map by8 (lw4 n)) = List.map by8 (lw4 n) := fun _ => rfl
 have t4' : ∀ n, List.take 4 (lw4 n) = lw4 n := fun _ => rfl
 refine tqaz (cj10 @wt @hr @vh @hp @hrt @l4 @la @t4 @t4' @List.drop_zero.{0}) ?_
 refine low_ok.det' ?_
 refine tqaz (cj10 @wt @hr @vh @hp @hrt @l4 @la @t4 @t4' @List.drop_zero.{0}) ?_
 refine low_ok.det' ?_
 refine tqaz (cj10 @wt @hr @vh @hp @hrt @l4 @la @t4 @t4' @List.drop_zero.{0}) ?_
 refine low_ok.det' ?_
 refine tqaz (cj10 @wt @hr @vh @hp @hrt @l4 @la @t4 @t4' @List.drop_zero.{0}) ?_
 refine Vw.pub (T.length + 1) (o := .buf 5 1 (h.bytes.map by8)) (gn1 T _ _ _) rfl (clean8 _) ?_
 refine tqax (cj2 @vt @wp) ?_
 exact Vw.cut ⟨rfl, rfl, rfl⟩
theorem rid_ok {T : Tbl} {h : Hdr} (ok : h.Ok) : CallA prog G 10 [.ag h.cs] T fun v T' es => v = .ag (h.id.map by8) /\ T' = T /\ es = [] := by
 refine CallA.wfs fun wf => ?_
 have wt := wf.t
 have hr := Hdr.rules ok
 have hl := Hdr.bytes_len ok
 have hi := h.id_len
 refine CallA.eV 3 func10 ntmps10 results10 ?_
 refine sqax ?_
 refine tqaz (cj2 @hr @ez32) ?_
 refine (rputh_ok ok).det' ?_
 refine tqaz (cj2 @hr @ez32) ?_
 rw [<- hl]
 refine (rtwice_ok (Bs.vs _) (by omega)).det' ?_
 rw [show twice h.bytes = h.id from rfl]
 refine tqaz (cj4 @wt @vh @hi @List.drop_zero.{0}) ?_
 exact Vw.cut ⟨by rw [AV.wo, AV.woL_eq, wb8], rfl, rfl⟩
theorem isLen_unique {x n m : Nat} (h : isLen x n) (h' : isLen x m) : n = m := by
 obtain ⟨h1, h2⟩ := h
 obtain ⟨h3, h4⟩ := h'
 rcases Nat.lt_trichotomy n m with hl | hl | hl
 . rcases h4 with rfl | h4
   . omega
   . have := Nat.pow_le_pow_right (n := 2) (by decide) (show n <= m - 1 by omega); omega
 . exact hl
 . rcases h2 with rfl | h2
   . omega
   . have := Nat.pow_le_pow_right (n := 2) (by decide) (show m <= n - 1 by omega); omega
def blen (x : Nat) : Nat := if x = 0 then 0 else Nat.log2 x + 1
theorem blen_is (x : Nat) : isLen x (blen x) := by
 unfold blen
 split
 . rename_i h; subst h; exact ⟨by simp, .inl rfl⟩
 . rename_i h
   exact ⟨Nat.lt_log2_self, .inr (by rw [Nat.add_sub_cancel]; exact Nat.log2_self_le h)⟩
theorem bits02_det {T : Tbl} {x : Nat} (hx : x < 2 ^ 256) : CallA prog G 89 [.ag (Bg x)] T fun v T' es => v = wint (blen x : Int) /\ T' = T /\ es = [] :=
 (bits02_ok hx).mono fun v T' es ⟨⟨n, h1, h2, _⟩, h3, h4⟩ => ⟨by rw [h1, isLen_unique h2 (blen_is x)], h3, h4⟩
theorem blen_le {x n : Nat} (h : x < 2 ^ n) : blen x <= n := by
 rcases Nat.lt_or_ge n (blen x) with hl | hl
 . rcases (blen_is x).2 with h0 | h0
   . omega
   . have := Nat.pow_le_pow_right (n := 2) (by decide) (show n <= blen x - 1 by omega); omega
 . exact hl
theorem blen_over {m s : Nat} : (256 < blen m + s /\ m ≠ 0) ↔ 2 ^ 256 <= m * 2 ^ s := by
 obtain ⟨h1, h2⟩ := blen_is m
 constructor
 . rintro ⟨h3, h4⟩
   rcases h2 with h2 | h2
   . rw [h2] at h1; omega
   . calc 2 ^ 256 <= 2 ^ (blen m - 1 + s) := Nat.pow_le_pow_right (by decide) (by
      have : blen m ≠ 0 := fun e => by rw [e] at h1; omega
      omega)
      _ = 2 ^ (blen m - 1) * 2 ^ s := Nat.pow_add ..
      _ <= m * 2 ^ s := Nat.mul_le_mul_right _ h2
 . intro h3
   have h4 : m ≠ 0 := fun e => by rw [e, Nat.zero_mul] at h3; simp at h3
   refine ⟨?_, h4⟩
   rcases Nat.lt_or_ge 256 (blen m + s) with hl | hl
   . exact hl
   . exfalso
     have : m * 2 ^ s < 2 ^ blen m * 2 ^ s := Nat.mul_lt_mul_of_pos_right h1 (Nat.two_pow_pos s)
     rw [<- Nat.pow_add] at this
     have := Nat.pow_le_pow_right (n := 2) (by decide) hl
     omega
def tgt (b : Nat) : Nat := if b / 2 ^ 24 < 3 then b % 2 ^ 23 / 2 ^ (8 * (3 - b / 2 ^ 24)) else b % 2 ^ 23 * 2 ^ (8 * (b / 2 ^ 24 - 3))
def ofT (b : Nat) : Option Nat := if tgt b = 0 ∨ 2 ^ 256 <= tgt b ∨ b / 2 ^ 23 % 2 = 1 then none else some (tgt b)
def ofV : Option Nat -> AV
 | none => .tu [.ag (Bg 0), .p (.bool false)]
 | some t => .tu [.ag (Bg t), .p (.bool true)]
theorem u32_hi (b : UInt32) : (u32_shr b 24).toNat = b.toNat / 2 ^ 24 := by
 rw [u32_shr, if_pos (by omega), UInt32.toNat_shiftRight]
 show b.toNat >>> 24 = _
 rw [Nat.shiftRight_eq_div_pow]
theorem u32_lo (b : UInt32) : (b &&& UInt32.ofInt 8388607).toNat = b.toNat % 2 ^ 23 := by
 rw [UInt32.toNat_and]
 show b.toNat &&& (2 ^ 23 - 1) = _
 rw [Nat.and_two_pow_sub_one_eq_mod]
theorem u32_sign (b : UInt32) : ((b &&& UInt32.ofInt 8388608).toNat = 0) = (b.toNat / 2 ^ 23 % 2 = 0) := by
 rw [UInt32.toNat_and]
 show (b.toNat &&& 2 ^ 23 = 0) = _
 have h : b.toNat &&& 2 ^ 23 = 2 ^ 23 * (b.toNat / 2 ^ 23 % 2) := by
  refine Nat.eq_of_testBit_eq fun i => ?_
  rw [Nat.testBit_and, Nat.testBit_two_pow, Nat.testBit_two_pow_mul]
  by_cases hi : 23 = i
  . subst hi
    simp [Nat.testBit_eq_decide_div_mod_eq]
  . by_cases h2 : 23 <= i
    . have : (b.toNat / 2 ^ 23 % 2).testBit (i - 23) = false := Nat.testBit_lt_two_pow (Nat.lt_of_lt_of_le (Nat.mod_lt _ (by decide)) (by
       calc 2 = 2 ^ 1 := rfl
        _ <= 2 ^ (i - 23) := Nat.pow_le_pow_right (by decide) (by omega)))
      simp [hi, this]
    . simp [hi, h2]
 rw [h]
 apply propext
 omega
theorem nat_w64 {n : Nat} (h : n < 2 ^ 64) : AV.p (.int .u64 (n : Int)) = w64 (UInt64.ofNat n) := by
 rw [w64, UInt64.toNat_ofNat', Nat.mod_eq_of_lt h]
theorem of03_ok {T : Tbl} {b : UInt32} : CallA prog G 44 [w32 b] T fun v T' es => v = ofV (ofT b.toNat) /\ T' = T /\ es = [] := by
 refine CallA.wfs fun wf => ?_
 have wt := wf.t
 have hb := b.toNat_lt
 refine CallA.eV 7 func44 ntmps44 results44 ?_
 refine sqax ?_
 have ez : [oQ, oQ, oQ, oQ] = Bg 0 := rfl
 have hm : b.toNat % 2 ^ 23 < 2 ^ 23 := Nat.mod_lt _ (by decide)
 obtain ⟨s, hs⟩ : ∃ s, s = b.toNat / 2 ^ 24 := ⟨_, rfl⟩
 obtain ⟨m, hm2⟩ : ∃ m, m = b.toNat % 2 ^ 23 := ⟨_, rfl⟩
 have hs8 : s < 256 := by omega
 have e2 : (u32_shr b 24).toNat = s := by rw [u32_hi, hs]
 have e1 : (b &&& UInt32.ofInt 8388607).toUInt64.toNat = m := by rw [UInt32.toNat_toUInt64, u32_lo, hm2]
 have e3 := u32_sign b
 have hof : ofT b.toNat = if tgt b.toNat = 0 ∨ 2 ^ 256 <= tgt b.toNat ∨ b.toNat / 2 ^ 23 % 2 = 1 then none else some (tgt b.toNat) := rfl
 have htg : tgt b.toNat = if s < 3 then m / 2 ^ (8 * (3 - s)) else m * 2 ^ (8 * (s - 3)) := by rw [hs, hm2]; rfl
 rw [<- hm2] at hm
 refine tqaz (cj3 @ez @vbg @e2) ?_
 refine of02_ok.det' ?_
 rw [e1]
 have hmx : m < 2 ^ 256 := by omega
 refine tqaz (cj2 @ez @vbg) ?_
 have fin : ∀ (t : Nat), t < 2 ^ 256 -> tgt b.toNat = t -> ofT b.toNat = if t = 0 ∨ ¬ (b &&& UInt32.ofInt 8388608).toNat = 0 then none else some t := by
  intro t ht h
  rw [hof, h]
  have hiff : (t = 0 ∨ 2 ^ 256 <= t ∨ b.toNat / 2 ^ 23 % 2 = 1) ↔ (t = 0 ∨ ¬ (b &&& UInt32.ofInt 8388608).toNat = 0) := by
   rw [e3]
   constructor
   . rintro (h | h | h)
     . exact .inl h
     . omega
     . exact .inr (by omega)
   . rintro (h | h)
     . exact .inl h
     . exact .inr (.inr (by omega))
  by_cases hc : t = 0 ∨ 2 ^ 256 <= t ∨ b.toNat / 2 ^ 23 % 2 = 1
  . rw [if_pos hc, if_pos (hiff.1 hc)]
  . rw [if_neg hc, if_neg (mt hiff.2 hc)]
 rw [e2]
 by_cases h3 : ((s : Int) < 3)
 . have hp : (8 : Int) * (3 - (s : Int)) = ((8 * (3 - s) : Nat) : Int) := by omega
   rw [if_pos (by omega)] at htg
   have htx : m / 2 ^ (8 * (3 - s)) < 2 ^ 256 := Nat.lt_of_le_of_lt (Nat.div_le_self _ _) hmx
   have hF := fin _ htx htg
   refine tqaz (cj4 @ez @vbg @h3 @hp) ?_
   refine (down02_ok hmx (by omega)).det' ?_
   revert hF htx
   generalize m / 2 ^ (8 * (3 - s)) = t
   intro htx hF
   simp -dsimp +decide (disch := omega) only [v5q, ↓reduceIte, Nat.reduceSub, Nat.reduceAdd, Nat.reduceMul, Nat.reduceLT, Int.reduceAdd, Int.reduceSub, Int.reduceToNat, v2q, ez, vbg, eqB htx (show 0 < 2 ^ 256 by decide)]
   rw [hF]
   by_cases t0 : t = 0
   . rw [if_pos (.inl t0)]
     have t0' : (t = 0) = True := by simp [t0]
     refine tqaz (cj5 @ez @vbg @vres @vone @t0') ?_
     exact Vw.cut ⟨by rw [AV.wo, AV.woL_eq]; simp only [ofV, List.map_cons, List.map_nil, AV.wo, AV.woL_eq, Bg_wo], rfl, rfl⟩
   . have t0' : (t = 0) = False := by simp [t0]
     by_cases hsg : (b &&& UInt32.ofInt 8388608).toNat = 0
     . rw [if_neg (by rw [not_or]; exact ⟨t0, fun h => h hsg⟩)]
       have hsI : (((b &&& UInt32.ofInt 8388608).toNat : Int) = 0) = True := eq_true (by omega)
       refine tqaz (cj7 @ez @vbg @vres @vone @t0' @hsI @bb2) ?_
       exact Vw.cut ⟨by rw [AV.wo, AV.woL_eq]; simp only [ofV, List.map_cons, List.map_nil, AV.wo, AV.woL_eq, Bg_wo], rfl, rfl⟩
     . rw [if_pos (.inr hsg)]
       have hsI : (((b &&& UInt32.ofInt 8388608).toNat : Int) = 0) = False := eq_false (fun e => hsg (by omega))
       refine tqaz (cj7 @ez @vbg @vres @vone @t0' @hsI @bb2) ?_
       exact Vw.cut ⟨by rw [AV.wo, AV.woL_eq]; simp only [ofV, List.map_cons, List.map_nil, AV.wo, AV.woL_eq, Bg_wo], rfl, rfl⟩
 . have hp : (8 : Int) * ((s : Int) - 3) = ((8 * (s - 3) : Nat) : Int) := by omega
   have hk : 8 * (s - 3) <= 2024 := by omega
   rw [if_neg (by omega)] at htg
   have hov := blen_over (m := m) (s := 8 * (s - 3))
   have hbl := blen_le (n := 23) hm
   generalize 8 * (s - 3) = k at hp hk htg hov
   refine tqaz (cj4 @ez @vbg @h3 @hp) ?_
   refine (up02_ok (n := k) hmx (by omega)).det' ?_
   refine tqaz (cj2 @ez @vbg) ?_
   refine (bits02_det hmx).det' ?_
   have z256 : 0 < 2 ^ 256 := by decide
   by_cases ho : 2 ^ 256 <= m * 2 ^ k
   . obtain ⟨hb1, hb2⟩ := hov.2 ho
     have hb1' : ((256 : Int) < (blen m : Int) + (k : Int)) = True := eq_true (by omega)
     have hb2' : (m = 0) = False := eq_false hb2
     rw [hof, if_pos (.inr (.inl (by rw [htg]; exact ho)))]
     simp -dsimp +decide (disch := omega) only [v5q, ↓reduceIte, Nat.reduceSub, Nat.reduceAdd, Nat.reduceMul, Nat.reduceLT, Int.reduceAdd, Int.reduceSub, Int.reduceToNat, v2q, ez, vbg, hp, neB hmx z256, hb1', hb2', bb2, vres, vone]
     exact Vw.cut ⟨by rw [AV.wo, AV.woL_eq]; simp only [ofV, List.map_cons, List.map_nil, AV.wo, AV.woL_eq, Bg_wo], rfl, rfl⟩
   . have htx : m * 2 ^ k < 2 ^ 256 := by omega
     have hF := fin _ htx htg
     rw [Nat.mod_eq_of_lt htx]
     by_cases hb1 : (256 : Int) < (blen m : Int) + (k : Int)
     . have m0 : m = 0 := Classical.byContradiction fun h => ho (hov.1 ⟨by omega, h⟩)
       have hb1' : ((256 : Int) < (blen m : Int) + (k : Int)) = True := eq_true hb1
       have hb2' : (m = 0) = True := eq_true m0
       rw [hF, if_pos (.inl (by rw [m0, Nat.zero_mul]))]
       have hz : (m * 2 ^ k = 0) = True := eq_true (by rw [m0, Nat.zero_mul])
       simp -dsimp +decide (disch := omega) only [v5q, ↓reduceIte, Nat.reduceSub, Nat.reduceAdd, Nat.reduceMul, Nat.reduceLT, Int.reduceAdd, Int.reduceSub, Int.reduceToNat, v2q, ez, vbg, hp, neB hmx z256, eqB htx z256, hb1', hb2', hz, bb2, vres, vone]
       exact Vw.cut ⟨by rw [AV.wo, AV.woL_eq]; simp only [ofV, List.map_cons, List.map_nil, AV.wo, AV.woL_eq, Bg_wo], rfl, rfl⟩
     . have hb1' : ((256 : Int) < (blen m : Int) + (k : Int)) = False := eq_false hb1
       revert hF htx
       generalize m * 2 ^ k = t
       intro htx hF
       simp -dsimp +decide (disch := omega) only [v5q, ↓reduceIte, Nat.reduceSub, Nat.reduceAdd, Nat.reduceMul, Nat.reduceLT, Int.reduceAdd, Int.reduceSub, Int.reduceToNat, v2q, ez, vbg, hp, hb1', eqB htx z256]
       rw [hF]
       by_cases t0 : t = 0
       . rw [if_pos (.inl t0)]
         have t0' : (t = 0) = True := by simp [t0]
         refine tqaz (cj5 @ez @vbg @vres @vone @t0') ?_
         exact Vw.cut ⟨by rw [AV.wo, AV.woL_eq]; simp only [ofV, List.map_cons, List.map_nil, AV.wo, AV.woL_eq, Bg_wo], rfl, rfl⟩
       . have t0' : (t = 0) = False := by simp [t0]
         by_cases hsg : (b &&& UInt32.ofInt 8388608).toNat = 0
         . rw [if_neg (by rw [not_or]; exact ⟨t0, fun h => h hsg⟩)]
           have hsI : (((b &&& UInt32.ofInt 8388608).toNat : Int) = 0) = True := eq_true (by omega)
           refine tqaz (cj7 @ez @vbg @vres @vone @t0' @hsI @bb2) ?_
           exact Vw.cut ⟨by rw [AV.wo, AV.woL_eq]; simp only [ofV, List.map_cons, List.map_nil, AV.wo, AV.woL_eq, Bg_wo], rfl, rfl⟩
         . rw [if_pos (.inr hsg)]
           have hsI : (((b &&& UInt32.ofInt 8388608).toNat : Int) = 0) = False := eq_false (fun e => hsg (by omega))
           refine tqaz (cj7 @ez @vbg @vres @vone @t0' @hsI @bb2) ?_
           exact Vw.cut ⟨by rw [AV.wo, AV.woL_eq]; simp only [ofV, List.map_cons, List.map_nil, AV.wo, AV.woL_eq, Bg_wo], rfl, rfl⟩
def cmpP (t : Nat) : Nat := if (blen t + 7) / 8 < 3 then t * 2 ^ (8 * (3 - (blen t + 7) / 8)) else t / 2 ^ (8 * ((blen t + 7) / 8 - 3))
def cmpN (t : Nat) : Nat := if t = 0 then 0 else if 2 ^ 23 <= cmpP t then ((blen t + 7) / 8 + 1) * 2 ^ 24 + cmpP t / 2 ^ 8 else (blen t + 7) / 8 * 2 ^ 24 + cmpP t
theorem cmpP_lt (t : Nat) : cmpP t < 2 ^ 24 := by
 have h1 := (blen_is t).1
 have h2 : t < 2 ^ (8 * ((blen t + 7) / 8)) := Nat.lt_of_lt_of_le h1 (Nat.pow_le_pow_right (by decide) (by omega))
 unfold cmpP
 generalize (blen t + 7) / 8 = n at *
 split
 . rename_i h
   calc t * 2 ^ (8 * (3 - n)) < 2 ^ (8 * n) * 2 ^ (8 * (3 - n)) := Nat.mul_lt_mul_of_pos_right h2 (Nat.two_pow_pos _)
    _ = 2 ^ 24 := by rw [<- Nat.pow_add]; congr 1; omega
 . rename_i h
   rw [Nat.div_lt_iff_lt_mul (Nat.two_pow_pos _), <- Nat.pow_add, show 24 + 8 * (n - 3) = 8 * n by omega]
   exact h2
theorem limb0_nat {p : Nat} (h : p < 2 ^ 64) : (limb p 0).toNat = p := by rw [limb_nat, Nat.mul_zero, Nat.pow_zero, Nat.div_one, Nat.mod_eq_of_lt h]
theorem compact_or {n p : Nat} (hn : n <= 33) (hp : p < 2 ^ 24) : u32_shl (UInt32.ofInt (n : Int)) 24 ||| (limb p 0).toUInt32 = UInt32.ofNat (n * 2 ^ 24 + p) := by
 apply UInt32.toNat_inj.1
 have h1 : (UInt32.ofInt (n : Int)).toNat = n := by rw [UInt32.ofInt]; simp; omega
 rw [UInt32.toNat_or, u32_shl, if_pos (by omega), UInt32.toNat_shiftLeft, h1, UInt64.toNat_toUInt32, limb0_nat (by omega), UInt32.toNat_ofNat']
 show n <<< 24 % 2 ^ 32 ||| p % 2 ^ 32 = _
 rw [Nat.shiftLeft_eq, Nat.mod_eq_of_lt (a := n * 2 ^ 24) (by omega), Nat.mod_eq_of_lt (a := p) (by omega), Nat.mul_comm, <- Nat.two_pow_add_eq_or_of_lt hp]
 first | rfl | (rw [UInt32.toNat_ofNat', Nat.mod_eq_of_lt (a := 2 ^ 24 * n + p) (b := 2 ^ 32) (by omega)]) | (rw [Nat.mod_eq_of_lt (a := 2 ^ 24 * n + p) (b := 2 ^ 32) (by omega)])
theorem limb_32 {p : Nat} (hp : p < 2 ^ 24) : (limb p 0).toUInt32 = UInt32.ofInt (p : Int) := by
 apply UInt32.toNat_inj.1
 rw [UInt64.toNat_toUInt32, limb0_nat (by omega), UInt32.ofInt]; simp; omega
theorem compact_or' {n p : Nat} (hn : n <= 33) (hp : p < 2 ^ 24) : u32_shl (UInt32.ofInt (n : Int)) 24 ||| UInt32.ofInt (p : Int) = UInt32.ofNat (n * 2 ^ 24 + p) := by rw [<- limb_32 hp, compact_or hn hp]
theorem compact03_ok {T : Tbl} {t : Nat} (ht : t < 2 ^ 256) : CallA prog G 59 [.ag (Bg t)] T fun v T' es => v = w32 (UInt32.ofNat (cmpN t)) /\ T' = T /\ es = [] := by
 refine CallA.wfs fun wf => ?_
 have wt := wf.t
 have z256 : 0 < 2 ^ 256 := by decide
 have ez : [oQ, oQ, oQ, oQ] = Bg 0 := rfl
 refine CallA.eV 5 func59 ntmps59 results59 ?_
 refine sqax ?_
 by_cases t0 : t = 0
 . have t0' : (t = 0) = True := eq_true t0
   rw [cmpN, if_pos t0]
   simp -dsimp +decide (disch := omega) only [v5q, ↓reduceIte, Nat.reduceSub, Nat.reduceAdd, Nat.reduceMul, Nat.reduceLT, Int.reduceAdd, Int.reduceSub, Int.reduceToNat, v2q, ez, vbg, eqB ht z256, t0']
   exact Vw.cut ⟨rfl, rfl, rfl⟩
 have t0' : (t = 0) = False := eq_false t0
 rw [cmpN, if_neg t0]
 have hP := cmpP_lt t
 have hbl := blen_le ht
 have hcp : cmpP t = if (blen t + 7) / 8 < 3 then t * 2 ^ (8 * (3 - (blen t + 7) / 8)) else t / 2 ^ (8 * ((blen t + 7) / 8 - 3)) := rfl
 simp -dsimp +decide (disch := omega) only [v5q, ↓reduceIte, Nat.reduceSub, Nat.reduceAdd, Nat.reduceMul, Nat.reduceLT, Int.reduceAdd, Int.reduceSub, Int.reduceToNat, v2q, ez, vbg, eqB ht z256, t0']
 refine (bits02_det ht).det' ?_
 have hq : ((blen t : Int) + 7).tdiv 8 = (((blen t + 7) / 8 : Nat) : Int) := by
  rw [Int.tdiv_eq_ediv_of_nonneg (by omega)]; omega
 obtain ⟨n, hn⟩ : ∃ n, n = (blen t + 7) / 8 := ⟨_, rfl⟩
 rw [<- hn] at hq hcp ⊢
 have hn32 : n <= 32 := by omega
 refine tqaz (cj3 @ez @vbg @hq) ?_
 have hg := Bg_get (cmpP t) (j := 0) (by omega)
 have hg2 := Bg_get (cmpP t / 2 ^ 8) (j := 0) (by omega)
 have hPx : cmpP t < 2 ^ 256 := by omega
 have hl0 := limb0_nat (p := cmpP t) (by omega)
 by_cases h3 : ((n : Int) < 3)
 . have hp : (8 : Int) * (3 - (n : Int)) = ((8 * (3 - n) : Nat) : Int) := by omega
   rw [if_pos (by omega)] at hcp
   refine tqaz (cj4 @ez @vbg @h3 @hp) ?_
   refine (up02_ok ht (by omega)).det' ?_
   rw [<- hcp, Nat.mod_eq_of_lt hPx]
   revert hP hg hg2 hPx hl0
   generalize cmpP t = p
   intro hP hg hg2 hPx hl0
   refine tqaz (cj4 @ez @vbg @hg @hl0) ?_
   refine CondP.dec (fun h => ?_) (fun h => ?_)
   . rw [if_pos (by omega)]
     refine tqaz (cj4 @ez @vbg @hg @hl0) ?_
     refine (down02_ok (n := 8) hPx (by omega)).det' ?_
     refine tqaz (cj3 @ez @vbg @hg2) ?_
     rw [show UInt32.ofInt (n : Int) + UInt32.ofInt 1 = UInt32.ofInt ((n + 1 : Nat) : Int) by rw [<- UInt32.ofInt_add]; rfl, compact_or (by omega) (by omega)]
     exact Vw.cut ⟨rfl, rfl, rfl⟩
   . rw [if_neg (by omega)]
     refine tqaz (cj4 @ez @vbg @hg @hl0) ?_
     rw [compact_or' (by omega) hP]
     exact Vw.cut ⟨rfl, rfl, rfl⟩
 . have hp : (8 : Int) * ((n : Int) - 3) = ((8 * (n - 3) : Nat) : Int) := by omega
   rw [if_neg (by omega)] at hcp
   refine tqaz (cj4 @ez @vbg @h3 @hp) ?_
   refine (down02_ok ht (by omega)).det' ?_
   rw [<- hcp]
   revert hP hg hg2 hPx hl0
   generalize cmpP t = p
   intro hP hg hg2 hPx hl0
   refine tqaz (cj4 @ez @vbg @hg @hl0) ?_
   refine CondP.dec (fun h => ?_) (fun h => ?_)
   . rw [if_pos (by omega)]
     refine tqaz (cj4 @ez @vbg @hg @hl0) ?_
     refine (down02_ok (n := 8) hPx (by omega)).det' ?_
     refine tqaz (cj3 @ez @vbg @hg2) ?_
     rw [show UInt32.ofInt (n : Int) + UInt32.ofInt 1 = UInt32.ofInt ((n + 1 : Nat) : Int) by rw [<- UInt32.ofInt_add]; rfl, compact_or (by omega) (by omega)]
     exact Vw.cut ⟨rfl, rfl, rfl⟩
   . rw [if_neg (by omega)]
     refine tqaz (cj4 @ez @vbg @hg @hl0) ?_
     rw [compact_or' (by omega) hP]
     exact Vw.cut ⟨rfl, rfl, rfl⟩
theorem meets03_ok {T : Tbl} {h : List UInt8} {t : Nat} (hh : h.length = 32) (ht : t < 2 ^ 256) : CallA prog G 45 [.ag (h.map by8), .ag (Bg t)] T fun v T' es => v = .p (.bool (decide (t ≠ 0 /\ hN h <= t))) /\ T' = T /\ es = [] := by
 refine CallA.wfs fun wf => ?_
 have wt := wf.t
 have z256 : 0 < 2 ^ 256 := by decide
 have hx : hN h < 2 ^ 256 := by have := hN_lt h; rwa [hh] at this
 have g0 := fun l => gn0 T (.cells 26 (h.map by8)) l
 have g1 := fun a l => gn1 T a (.cells 47 (Bg t)) l
 have ez : [oQ, oQ, oQ, oQ] = Bg 0 := rfl
 refine CallA.eV 5 func45 ntmps45 results45 ?_
 refine sqax ?_
 refine SemA.draw (fun _ => true) [(0, true), (1, false), (2, true), (3, true), (4, true), (5, true), (6, false), (7, false), (8, true), (9, true), (10, true)] mixed (by kernel_rfl) ?_
 by_cases t0 : t = 0
 . have t0' : (t = 0) = True := eq_true t0
   rw [show decide (t ≠ 0 /\ hN h <= t) = false by simp [t0]]
   simp -dsimp +decide (disch := omega) only [v5q, ↓reduceIte, Nat.reduceSub, Nat.reduceAdd, Nat.reduceMul, Nat.reduceLT, Int.reduceAdd, Int.reduceSub, Int.reduceToNat, v2q, ez, vbg, vh, hh, neB ht z256, t0', g0, g1]
   exact Vw.cut ⟨rfl, rfl, rfl⟩
 . have t0' : (t = 0) = False := eq_false t0
   simp -dsimp +decide (disch := omega) only [v5q, ↓reduceIte, Nat.reduceSub, Nat.reduceAdd, Nat.reduceMul, Nat.reduceLT, Int.reduceAdd, Int.reduceSub, Int.reduceToNat, v2q, ez, vbg, vh, hh, List.drop_zero, neB ht z256, t0', g0, g1]
   refine (ofhash02_ok hh).det' ?_
   refine tqaz (cj7 @ez @vbg @vh @hh @List.drop_zero.{0} @g0 @g1) ?_
   refine (less02_ok ht hx).det' ?_
   rw [show decide (t ≠ 0 /\ hN h <= t) = !decide (t < hN h) by rw [<- decide_not, decide_eq_decide]; omega]
   refine tqaz (cj7 @ez @vbg @vh @hh @List.drop_zero.{0} @g0 @g1) ?_
   exact Vw.cut ⟨rfl, rfl, rfl⟩
theorem muldiv (x n m : Nat) (h : 0 < m) : x * n / m = x / m * n + x % m * n / m := by
 have e : x * n = m * (x / m * n) + x % m * n := by
  conv => lhs; rw [<- Nat.div_add_mod x m]
  rw [Nat.add_mul, Nat.mul_assoc]
 rw [e, Nat.mul_add_div h]
theorem ofNat_zero {k : Nat} (h : k < 2 ^ 64) : ((UInt64.ofNat k).toNat : Int) = (k : Int) := by rw [UInt64.toNat_ofNat', Nat.mod_eq_of_lt h]
theorem part13_ok {T : Tbl} {x most : Nat} {n m : UInt64} (hx : x < 2 ^ 256) (hmost : most < 2 ^ 256) (hm : 0 < m.toNat) :
 CallA prog G 85 [.ag (Bg x), w64 n, w64 m, .ag (Bg most)] T fun v T' es => v = .ag (Bg (min (x * n.toNat / m.toNat) most)) /\ T' = T /\ es = [] := by
 refine CallA.wfs fun wf => ?_
 have wt := wf.t
 have ez : [oQ, oQ, oQ, oQ] = Bg 0 := rfl
 have em : [AV.p (Value.int IntKind.u64 ↑m.toNat), oQ, oQ, oQ] = Bg m.toNat := (bg_small m).symm
 have hml := m.toNat_lt
 have hnl := n.toNat_lt
 have hmx : m.toNat < 2 ^ 256 := by omega
 have hq : x / m.toNat < 2 ^ 256 := Nat.lt_of_le_of_lt (Nat.div_le_self _ _) hx
 have hrm : x % m.toNat < m.toNat := Nat.mod_lt _ hm
 have hr : x % m.toNat < 2 ^ 256 := by omega
 have hsum := muldiv x n.toNat m.toNat hm
 refine CallA.eV 22 func85 ntmps85 results85 ?_
 refine sqax ?_
 refine tqaz (cj3 @ez @em @vbg) ?_
 refine (div02_ok hx hmx hm).det' ?_
 revert hq hrm hr hsum
 generalize x / m.toNat = q
 generalize x % m.toNat = r
 intro hq hrm hr hsum
 refine tqaz (cj3 @ez @em @vbg) ?_
 refine (mul02_ok hq).det' ?_
 have hqo : q * n.toNat / 2 ^ 256 < 2 ^ 64 := by
  rw [Nat.div_lt_iff_lt_mul (by decide)]
  calc q * n.toNat <= 2 ^ 256 * n.toNat := Nat.mul_le_mul_right _ (by omega)
   _ < 2 ^ 64 * 2 ^ 256 := by rw [Nat.mul_comm]; exact Nat.mul_lt_mul_of_pos_right hnl (by decide)
 simp -dsimp +decide (disch := omega) only [v5q, ↓reduceIte, Nat.reduceSub, Nat.reduceAdd, Nat.reduceMul, Nat.reduceLT, Int.reduceAdd, Int.reduceSub, Int.reduceToNat, v2q, ez, em, vbg, ofNat_zero hqo]
 refine CondP.ndec (fun h => ?_) (fun h => ?_)
 . have hbig : 2 ^ 256 <= q * n.toNat := by
    have h1 : 1 <= q * n.toNat / 2 ^ 256 := by omega
    rw [Nat.le_div_iff_mul_le (by decide)] at h1
    omega
   rw [hsum, Nat.min_eq_right (Nat.le_trans (Nat.le_of_lt hmost) (Nat.le_trans hbig (Nat.le_add_right _ _)))]
   refine tqaz (cj3 @ez @vbg @vres) ?_
   exact Vw.cut ⟨by rw [AV.wo, AV.woL_eq, Bg_wo], rfl, rfl⟩
 . have hsm : q * n.toNat < 2 ^ 256 := by
    have h1 : q * n.toNat / 2 ^ 256 = 0 := by omega
    rw [Nat.div_eq_zero_iff] at h1
    omega
   rw [Nat.mod_eq_of_lt hsm]
   refine tqaz (cj2 @ez @vbg) ?_
   refine (mul02_ok hr).det' ?_
   have hrn : r * n.toNat < 2 ^ 128 := by
    calc r * n.toNat <= 2 ^ 64 * n.toNat := Nat.mul_le_mul_right _ (by omega)
     _ < 2 ^ 64 * 2 ^ 64 := Nat.mul_lt_mul_of_pos_left hnl (by decide)
     _ = 2 ^ 128 := by decide
   rw [Nat.mod_eq_of_lt (a := r * n.toNat) (b := 2 ^ 256) (by omega)]
   refine tqaz (cj2 @ez @vbg) ?_
   refine (div02_ok (by omega) hmx hm).det' ?_
   have hc : r * n.toNat / m.toNat < 2 ^ 256 := Nat.lt_of_le_of_lt (Nat.div_le_self _ _) (by omega)
   revert hc hsum hsm
   generalize r * n.toNat / m.toNat = c
   generalize q * n.toNat = a
   intro hsum hsm hc
   rw [hsum]
   refine tqaz (cj2 @ez @vbg) ?_
   refine (add02_ok hsm hc).det' ?_
   by_cases hov : 2 ^ 256 <= a + c
   . rw [show decide (2 ^ 256 <= a + c) = true from decide_eq_true hov, Nat.min_eq_right (by omega)]
     refine tqaz (cj3 @ez @vbg @vres) ?_
     exact Vw.cut ⟨by rw [AV.wo, AV.woL_eq, Bg_wo], rfl, rfl⟩
   . rw [show decide (2 ^ 256 <= a + c) = false from decide_eq_false hov, Nat.mod_eq_of_lt (by omega)]
     refine tqaz (cj3 @ez @vbg @vres) ?_
     refine (less02_ok hmost (by omega)).det' ?_
     by_cases hl : most < a + c
     . rw [show decide (most < a + c) = true from decide_eq_true hl, Nat.min_eq_right (by omega)]
       refine tqaz (cj3 @ez @vbg @vres) ?_
       exact Vw.cut ⟨by rw [AV.wo, AV.woL_eq, Bg_wo], rfl, rfl⟩
     . rw [show decide (most < a + c) = false from decide_eq_false hl, Nat.min_eq_left (by omega)]
       refine tqaz (cj3 @ez @vbg @vres) ?_
       exact Vw.cut ⟨by rw [AV.wo, AV.woL_eq, Bg_wo], rfl, rfl⟩
def lfh : List Lf := List.replicate 32 (.i .u8)
theorem kth : KT prog 26 lfh := ⟨(by kernel_rfl), (by kernel_rfl), (by kernel_rfl), (by kernel_rfl), Nat.le_of_ble_eq_true (by kernel_rfl), (by kernel_rfl)⟩
abbrev v8 (l : List UInt8) : List Value := l.map fun b => .int .u8 (b.toNat : Int)
theorem by8_p (l : List UInt8) : l.map by8 = (v8 l).map .p := by rw [v8, List.map_map]; rfl
theorem fith {l : List UInt8} (h : l.length = 32) : FitL lfh (v8 l) := by
 have := FitL.u8 l
 rwa [h] at this
theorem v8_inj {l m : List UInt8} : v8 l = v8 m ↔ l = m :=
 ⟨fun h => (List.map_inj_right (f := fun b : UInt8 => Value.int .u8 (b.toNat : Int)) (fun x y e => by simp at e; exact UInt8.toNat_inj.1 (by omega))).1 h, fun h => by rw [h]⟩
open Classical in
theorem eqh {l m : List UInt8} (hl : l.length = 32) (hm : m.length = 32) (xo yo : Operand) (K : AV -> Prop) : binA prog .eql 26 (.ag (l.map by8)) (.ag (m.map by8)) xo yo K = K (.p (.bool (decide (l = m)))) := by
 rw [by8_p, by8_p, KT.eqA kth (fith hl) (fith hm)]
 congr 3
 rw [Bool.eq_iff_iff, decide_eq_true_iff, decide_eq_true_iff]; exact v8_inj
open Classical in
theorem neh {l m : List UInt8} (hl : l.length = 32) (hm : m.length = 32) (xo yo : Operand) (K : AV -> Prop) : binA prog .neq 26 (.ag (l.map by8)) (.ag (m.map by8)) xo yo K = K (.p (.bool (!decide (l = m)))) := by
 rw [by8_p, by8_p, KT.neA kth (fith hl) (fith hm)]
 congr 4
 rw [Bool.eq_iff_iff, decide_eq_true_iff, decide_eq_true_iff]; exact v8_inj
theorem Sl.fld {T : Tbl} {sz n : Nat} {a : AV} {cs : List AV} {K : AV -> Prop} (h : Sl T sz a cs n) (hn : 0 < n) (j k : Nat) : fldA (some k) (a.pl j) K = K (a.pl (j + k)) := by
 obtain ⟨hl, rfl | ⟨i, off, o, ds, rfl, g1, g2, g3, g4⟩ | ⟨rfl, rfl⟩⟩ := h
 . rfl
 . simp only [AV.pl, fldA, Nat.add_assoc]
 . omega
theorem flat_cell {α : Type} {f : α -> List AV} {sz : Nat} {xs : List α} (h : ∀ x ∈ xs, (f x).length = sz) {i j : Nat} {x : α} (hx : xs[i]? = some x) (hj : j < sz) : (xs.flatMap f)[i * sz + j]? = (f x)[j]? := by
 rw [<- List.getElem?_drop, <- List.getElem?_take_of_lt hj, flat_at h hx]
end Go.Proofs.YtfpjalgfnjjcmaaGreatDoor
