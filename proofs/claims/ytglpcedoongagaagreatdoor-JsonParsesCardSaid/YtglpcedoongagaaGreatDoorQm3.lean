/-
  Part 3 of the proof: no statement of its own. No condition but those in each theorem.
-/
import Derived.Test.YtglpcedoongagaaGreatDoorQm2
import Derived.Lib.ParseIntB
import Derived.Test.YtglpcedoongagaaGreatDoorProg
import Derived.KernelRfl
import GoSem.PinnedTables
import Derived.Lib.ItoaNum
import Derived.Below
import Derived.Shelf.LaysC
import Derived.Laws.Externs
import Derived.Lib.Bytealg
set_option linter.unusedSimpArgs false
set_option linter.unusedVariables false
set_option linter.unusedSectionVars false
set_option maxRecDepth 8000
set_option maxHeartbeats 4000000
namespace Go.E
section
variable {G : Nat -> AV} {T0 T : Tbl} {K : AV -> Tbl -> Eff -> Prop} {v : AV} {E E' : Eff}
theorem CallA.det' {P : Program} {f : FuncId} {args : List AV} {r : AV} {T1 : Tbl} {E1 : Eff} (h : CallA P G f args T fun v T' es => v = r /\ T' = T1 /\ es = E1) (hk : K r T1 E1) : CallA P G f args T K :=
 h.mono fun v T' es ⟨h1, h2, h3⟩ => by subst h1; subst h2; subst h3; exact hk
theorem Vw.eff (hE : ∀ x ∈ E, x ∈ E') (h : Vw G T0 K v T E') : Vw G T0 K v T E := fun Z0 ρ0 w0 Z ρ w x hs hf hr =>
 h Z0 ρ0 w0 Z ρ w x hs ⟨hf.g, hf.st, hf.ext.more fun x hx _ => hE x hx⟩ hr
end
variable {α : Type}
theorem flat_len {f : α -> List AV} {sz : Nat} : ∀ {xs : List α}, (∀ x ∈ xs, (f x).length = sz) -> (xs.flatMap f).length = xs.length * sz
 | [], _ => by simp
 | x :: xs, h => by
   rw [List.flatMap_cons, List.length_append, h x (by simp), flat_len (xs := xs) fun x hx => h x (by simp [hx]), List.length_cons, Nat.succ_mul]; omega
theorem flat_drop {f : α -> List AV} {sz : Nat} : ∀ {xs : List α} (i : Nat), (∀ x ∈ xs, (f x).length = sz) -> (xs.flatMap f).drop (i * sz) = (xs.drop i).flatMap f
 | _, 0, _ => by simp
 | [], i + 1, _ => by simp
 | x :: xs, i + 1, h => by
   have := flat_drop (xs := xs) i fun x hx => h x (by simp [hx])
   rw [List.flatMap_cons, List.drop_succ_cons, <- this, Nat.succ_mul, Nat.add_comm, <- List.drop_drop]
   congr 1
   rw [<- h x (by simp), List.drop_left]
theorem flat_at {f : α -> List AV} {sz : Nat} {xs : List α} (h : ∀ x ∈ xs, (f x).length = sz) {i : Nat} {x : α} (hx : xs[i]? = some x) : ((xs.flatMap f).drop (i * sz)).take sz = f x := by
 obtain ⟨hi, rfl⟩ := List.getElem?_eq_some_iff.1 hx
 rw [flat_drop i h, List.drop_eq_getElem_cons hi, List.flatMap_cons, <- h xs[i] (by simp), List.take_left]
structure Es (T : Tbl) (sz : Nat) (f : α -> List AV) (a : AV) (xs : List α) : Prop where
 wd : ∀ x ∈ xs, (f x).length = sz
 sl : Sl T sz a (xs.flatMap f) xs.length
section
variable {P : Program} {T : Tbl} {sz : Nat} {f : α -> List AV} {a : AV} {xs : List α}
theorem Es.app (h : Es T sz f a xs) (l : Tbl) : Es (T ++ l) sz f a xs := ⟨h.wd, h.sl.app l⟩
theorem Es.vs (h : ∀ x ∈ xs, (f x).length = sz) : Es T sz f (.vs (xs.flatMap f) xs.length) xs := ⟨h, Sl.vs _ _ (flat_len h)⟩
theorem Es.ld (h : Es T sz f a xs) {t : TypeId} (ht : tak P t = some true) (hs : tsz P t = sz) (h0 : 0 < sz) :
 (∀ (l : Tbl) (i : Nat) (K : AV -> Prop), i < xs.length -> loadA P t (a.pl (i * sz)) (T ++ l) K = getO xs[i]? fun x => K (.ag (f x))) /\ (∀ (i : Nat) (K : AV -> Prop), i < xs.length -> loadA P t (a.pl (i * sz)) T K = getO xs[i]? fun x => K (.ag (f x))) := by
 have key : ∀ (T : Tbl) (i : Nat) (K : AV -> Prop), Es T sz f a xs -> i < xs.length -> loadA P t (a.pl (i * sz)) T K = getO xs[i]? fun x => K (.ag (f x)) := fun T i K h hi => by
  have e : i * sz + tsz P t <= xs.length * sz := by
   rw [hs, <- Nat.succ_mul]; exact Nat.mul_le_mul_right _ hi
  rw [h.sl.lds ht (i * sz) (by omega) e, hs, flat_at h.wd (x := xs[i]) (by simp [hi])]
  simp [hi, getO]
 exact ⟨fun l i K hi => key _ i K (h.app l) hi, fun i K hi => key T i K h hi⟩
end
end Go.E
namespace Go.E
section
variable {P : Program} {G : Nat -> AV} {Z Z' Z0 : Heap} {ρ ρ' ρ0 : List BI} {T T' T0 : Tbl} {w w' w0 : World} {a b : AV} {u v : Value} {K : AV -> Tbl -> Eff -> Prop} {cs : List AV} {es E : Eff}
variable {N n m : Nat} {ro : Option Nat} {ds loc : List AV} {tmp : List (Nat × AV)} {Nk R : AKont} {X : Nat -> AKont}
theorem SemA.adopt {c : Code} (j : Nat) (El : TypeId) (sz : Nat) (h0 : 0 < sz) (hj : loc[j]? = some (.p (.slice none 0 0)))
 (h : SemA P G N ro n m c ds (loc.set j (.sl T.length 0 0)) tmp (T ++ [.buf El sz []]) E Nk X R) : SemA P G N ro n m c ds loc tmp T E Nk X R := by
 refine SemA.view ?_ h
 intro Z0 ρ0 T0 w0 Z ρ w dv lv tv hN hf ha
 obtain ⟨k1, k2⟩ := hf.st.push (w' := w) ⟨none, 0, true⟩ (.buf El sz []) hf.st.of (fun _ _ => rfl) ⟨⟨rfl, h0⟩, 0, by simp, Nat.le_refl _, .inl ⟨rfl, rfl, rfl⟩⟩ (fun b hb => by cases hb)
 have h1 := hf.step k1 k2
 have h2 := ha.step k2
 refine ⟨_, _, h1, ⟨h2.ds, ?_, h2.tmp⟩⟩
 obtain ⟨v, hv, hr⟩ := ha.loc.get hj
 have := hr.p_inv; subst this
 have h3 := h2.loc.set (a := .sl T.length 0 0) (v := .slice none 0 0) (.sl (x := ⟨none, 0, true⟩) (by rw [<- hf.st.len]; simp) (fun _ => rfl) (Nat.le_refl _) (fun _ _ => rfl)) j
 have e : lv.set j (.slice none 0 0) = lv := by
  refine List.ext_getElem? fun i => ?_
  rw [List.getElem?_set]
  by_cases hi : j = i
  . subst hi
    obtain ⟨hl, he⟩ := List.getElem?_eq_some_iff.1 hv
    rw [if_pos rfl, if_pos hl, hv]
  . rw [if_neg hi]
 rw [e] at h3
 exact h3
def CtK {σ : Type} (k n : Nat) (ds : List AV) (L : σ -> List (Nat × AV)) (Tb : σ -> Tbl) (Q : σ -> Prop) (Ei : Eff) : AKont := fun ds' loc' _ T' E' =>
 ds'.map (AV.wo (k <= ·)) = ds /\ (∃ s, Q s /\ Lc n (L s) (loc'.map (AV.wo (k <= ·))) /\ (T'.take k).map (AObj.wo (k <= ·)) = Tb s) /\ subE E' Ei
section
variable {σ τ : Type} {L : σ -> List (Nat × AV)} {Tb : σ -> Tbl} {Q : σ -> Prop} {Ei : Eff} {k : Nat}
theorem CtK.elim {dv : List Nat} {lv : List Value} {tv : List (Nat × Value)} (hk : ρ0.length <= k) (h : LK G Z0 ρ0 T0 w0 (CtK k n ds L Tb Q Ei) dv lv tv w) :
 ∃ s loc Z ρ, Q s /\ Lc n (L s) loc /\ Frm G Z0 ρ0 T0 w0 Z ρ (Tb s) w Ei /\ At Z ρ ds loc (tv.map fun p => (p.1, AV.p p.2)) dv lv tv := by
 obtain ⟨Z, ρ, T, E, ds, loc, tmp, hf, h1, h2, h3, rfl, ⟨s, hs, hl, ht⟩, hE⟩ := h
 have hc := (hf.more hE).cut k hk
 have hw := (hf.st.cut k).2
 rw [ht] at hc
 exact ⟨s, _, Z, _, hs, hl, hc, ⟨h1.wo hw, h2.wo hw, RelT.all tv⟩⟩
theorem CtK.to {dv : List Nat} {lv : List Value} {tv : List (Nat × Value)} {K : AKont} (hk : ρ0.length <= k) (h : LK G Z0 ρ0 T0 w0 (CtK k n ds L Tb Q Ei) dv lv tv w)
 (hK : ∀ s g tmp, Q s -> K ds (mkA g (L s) 0 n) tmp (Tb s) Ei) : LK G Z0 ρ0 T0 w0 K dv lv tv w := by
 obtain ⟨s, loc, Z, ρ, hs, hl, hf, ha⟩ := CtK.elim hk h
 obtain ⟨g, rfl⟩ := hl.elim
 exact ⟨Z, ρ, _, _, _, _, _, hf, ha.ds, ha.loc, ha.tmp, hK s g _ hs⟩
theorem SemA.loopK {c : Code} (k : Nat) (L : σ -> List (Nat × AV)) (Tb : σ -> Tbl) (Q : σ -> Prop) (μ : σ -> Nat) (s0 : σ) (Ei : Eff) (xi : Nat) (Le : τ -> List (Nat × AV)) (Te : τ -> Tbl) (Qe : τ -> Prop) (hk : N <= k) (hQ : Q s0) (hL : Lc n (L s0) loc) (hT : T = Tb s0) (hE : ∀ x ∈ E, x ∈ Ei)
 (round : ∀ s g, Q s -> SemA P G N ro n m c ds (mkA g (L s) 0 n) [] (Tb s) Ei (CtK k n ds L Tb (fun s' => Q s' /\ μ s' < μ s) Ei) (fun j => if j = xi then CtK k n ds Le Te Qe Ei else X j) R)
 (exit : ∀ s g tmp, Qe s -> X xi ds (mkA g (Le s) 0 n) tmp (Te s) Ei) : SemA P G N ro n m (.loop c) ds loc [] T E Nk X R := by
 intro Z0 ρ0 T0 w0 Z ρ w dv lv tv hN hf ha a haa Qs hQs
 refine wpIn_loop_ghost (fun k a w => ∃ (Z : Heap) (ρ : List BI) (s : σ) (loc : List AV) (dv : List Nat) (lv : List Value) (tv : List (Nat × Value)), Fits' n m dv lv tv a /\ Frm G Z0 ρ0 T0 w0 Z ρ (Tb s) w Ei /\ At Z ρ ds loc [] dv lv [] /\ (Q s /\ Lc n (L s) loc) /\ μ s = k)
  (μ s0) ⟨Z, ρ, s0, loc, dv, lv, tv, haa, hT ▸ hf.more hE, ha.clear, ⟨hQ, hL⟩, rfl⟩ ?_
 rintro k' a w ⟨Z, ρ, s, loc, dv, lv, tv, haa, hf, hat, ⟨hI, hL⟩, rfl⟩
 obtain ⟨g, rfl⟩ := hL.elim
 have hr := round s g hI Z0 ρ0 T0 w0 Z ρ w dv lv [] hN hf hat
 refine hr a haa.cleared _ fun e dv' lv' tv' w' a' haa' hq => ?_
 cases e with
 | normal =>
   obtain ⟨s', loc', Z', ρ', ⟨h1, h2⟩, hl', h3, h4⟩ := CtK.elim (by omega) hq
   exact ⟨_, h2, Z', ρ', s', _, dv', lv', tv', haa', h3, ⟨h4.ds, h4.loc, .nil⟩, ⟨h1, hl'⟩, rfl⟩
 | exit i =>
   simp only [mkQ] at hq
   split at hq
   . rename_i hi; subst hi; exact hQs (.exit _) _ _ _ _ _ haa' (CtK.to (by omega) hq exit)
   . exact hQs (.exit i) _ _ _ _ _ haa' hq
 | ret => exact hQs .ret _ _ _ _ _ haa' hq
 | _ => exact hq.elim
end
theorem vt2 {σ : Type} : (∀ (k n : Nat) (ds : List AV) (L : σ -> List (Nat × AV)) (Tb : σ -> Tbl) (Q : σ -> Prop) (Ei : Eff) (ds' loc' : List AV) (tmp' : List (Nat × AV)) (T' : Tbl) (E' : Eff), CtK k n ds L Tb Q Ei ds' loc' tmp' T' E' = (ds'.map (AV.wo (k <= ·)) = ds /\ (∃ s, Q s /\ Lc n (L s) (loc'.map (AV.wo (k <= ·))) /\ (T'.take k).map (AObj.wo (k <= ·)) = Tb s) /\ subE E' Ei)) :=
 fun _ _ _ _ _ _ _ _ _ _ _ _ => rfl
theorem nil_vs : ∀ Z ρ x, Rel Z ρ (.p (.slice none 0 0)) x -> Rel Z ρ (.vs [] 0) x := fun Z ρ x h => by
 have := h.p_inv; subst this; exact .vs0 (.inl rfl) (Nat.le_refl _)
end
end Go.E
namespace Go.E
section
variable {P : Program} {G : Nat -> AV} {Z Z' Z0 : Heap} {ρ ρ' ρ0 : List BI} {T T' T0 T1 S : Tbl} {w w' w0 : World} {a b : AV} {u v : Value} {K : AV -> Tbl -> Eff -> Prop} {cs : List AV} {vs : List Value} {es E : Eff}
variable {N n m : Nat} {ro : Option Nat} {ds loc : List AV} {tmp : List (Nat × AV)} {Nk R : AKont} {X : Nat -> AKont} {f : Nat -> Option Nat} {x : BI} {o : AObj}
end
section
variable {f : Nat -> Option Nat} {q : Nat -> Bool}
end
end Go.E
namespace Go.E
section
variable {P : Program} {G : Nat -> AV} {Z Z' Z0 : Heap} {ρ ρ' ρ0 : List BI} {T T' T0 : Tbl} {w w' w0 : World} {a b : AV} {u v : Value} {K : AV -> Tbl -> Eff -> Prop} {cs : List AV} {es E : Eff}
variable {N n m : Nat} {ro : Option Nat} {ds loc : List AV} {tmp : List (Nat × AV)} {Nk R : AKont} {X : Nat -> AKont}
def SK {σ : Type} (G : Nat -> AV) (N n : Nat) (ds : List AV) (L : σ -> List (Nat × AV)) (Tb : σ -> Tbl) (Q : σ -> Prop) (Ei : Eff) : AKont := fun ds' loc' _ T' E' => ∃ s, Q s /\ SeeL G N n ds' loc' T' E' ds (L s) (Tb s) Ei
section
variable {σ τ : Type} {L : σ -> List (Nat × AV)} {Tb : σ -> Tbl} {Q : σ -> Prop} {Ei : Eff} {k : Nat}
theorem SK.elim {dv : List Nat} {lv : List Value} {tv : List (Nat × Value)} (hN : ρ0.length = N) (h : LK G Z0 ρ0 T0 w0 (SK G N n ds L Tb Q Ei) dv lv tv w) :
 ∃ s loc Z ρ, Q s /\ Lc n (L s) loc /\ Frm G Z0 ρ0 T0 w0 Z ρ (Tb s) w Ei /\ At Z ρ ds loc (tv.map fun p => (p.1, AV.p p.2)) dv lv tv := by
 obtain ⟨Z, ρ, T, E, ds1, loc, tmp, hf, h1, h2, h3, s, hs, hv⟩ := h
 obtain ⟨Z', ρ', loc', k1, k2, k3⟩ := hv Z0 ρ0 T0 w0 Z ρ w dv lv hN hf ⟨h1, h2, .nil⟩
 have key : ∀ (tv : List (Nat × Value)), RelT Z' ρ' (tv.map fun p => (p.1, AV.p p.2)) tv := fun tv => by
  induction tv with
  | nil => exact .nil
  | cons p r ih => exact .cons (.p _) ih
 exact ⟨s, loc', Z', ρ', hs, k3, k1, ⟨k2.ds, k2.loc, key tv⟩⟩
theorem SK.to {dv : List Nat} {lv : List Value} {tv : List (Nat × Value)} {K : AKont} (hN : ρ0.length = N) (h : LK G Z0 ρ0 T0 w0 (SK G N n ds L Tb Q Ei) dv lv tv w)
 (hK : ∀ s g tmp, Q s -> K ds (mkA g (L s) 0 n) tmp (Tb s) Ei) : LK G Z0 ρ0 T0 w0 K dv lv tv w := by
 obtain ⟨s, loc, Z, ρ, hs, hl, hf, ha⟩ := SK.elim hN h
 obtain ⟨g, rfl⟩ := hl.elim
 exact ⟨Z, ρ, _, _, _, _, _, hf, ha.ds, ha.loc, ha.tmp, hK s g _ hs⟩
theorem SemA.loopS {c : Code} (L : σ -> List (Nat × AV)) (Tb : σ -> Tbl) (Q : σ -> Prop) (μ : σ -> Nat) (s0 : σ) (Ei : Eff) (xi : Nat) (Le : τ -> List (Nat × AV)) (Te : τ -> Tbl) (Qe : τ -> Prop) (hQ : Q s0) (hL : Lc n (L s0) loc) (hT : T = Tb s0) (hE : ∀ x ∈ E, x ∈ Ei)
 (round : ∀ s g, Q s -> SemA P G N ro n m c ds (mkA g (L s) 0 n) [] (Tb s) Ei (SK G N n ds L Tb (fun s' => Q s' /\ μ s' < μ s) Ei) (fun j => if j = xi then SK G N n ds Le Te Qe Ei else X j) R)
 (exit : ∀ s g tmp, Qe s -> X xi ds (mkA g (Le s) 0 n) tmp (Te s) Ei) : SemA P G N ro n m (.loop c) ds loc [] T E Nk X R := by
 intro Z0 ρ0 T0 w0 Z ρ w dv lv tv hN hf ha a haa Qs hQs
 refine wpIn_loop_ghost (fun k a w => ∃ (Z : Heap) (ρ : List BI) (s : σ) (loc : List AV) (dv : List Nat) (lv : List Value) (tv : List (Nat × Value)), Fits' n m dv lv tv a /\ Frm G Z0 ρ0 T0 w0 Z ρ (Tb s) w Ei /\ At Z ρ ds loc [] dv lv [] /\ (Q s /\ Lc n (L s) loc) /\ μ s = k)
  (μ s0) ⟨Z, ρ, s0, loc, dv, lv, tv, haa, hT ▸ hf.more hE, ha.clear, ⟨hQ, hL⟩, rfl⟩ ?_
 rintro k' a w ⟨Z, ρ, s, loc, dv, lv, tv, haa, hf, hat, ⟨hI, hL⟩, rfl⟩
 obtain ⟨g, rfl⟩ := hL.elim
 have hr := round s g hI Z0 ρ0 T0 w0 Z ρ w dv lv [] hN hf hat
 refine hr a haa.cleared _ fun e dv' lv' tv' w' a' haa' hq => ?_
 cases e with
 | normal =>
   obtain ⟨s', loc', Z', ρ', ⟨h1, h2⟩, hl', h3, h4⟩ := SK.elim hN hq
   exact ⟨_, h2, Z', ρ', s', _, dv', lv', tv', haa', h3, ⟨h4.ds, h4.loc, .nil⟩, ⟨h1, hl'⟩, rfl⟩
 | exit i =>
   simp only [mkQ] at hq
   split at hq
   . rename_i hi; subst hi; exact hQs (.exit _) _ _ _ _ _ haa' (SK.to hN hq exit)
   . exact hQs (.exit i) _ _ _ _ _ haa' hq
 | ret => exact hQs .ret _ _ _ _ _ haa' hq
 | _ => exact hq.elim
theorem SemA.cutS (dsC : List AV) (L : σ -> List (Nat × AV)) (Tb : σ -> Tbl) (Q : σ -> Prop) (Ei : Eff) : ∀ (k : Nat) {c c1 c2 : Code} {ds loc : List AV} {tmp : List (Nat × AV)} {T : Tbl} {E : Eff}, spl k c = some (c1, c2) -> codeOK m c1 = true ->
 codeA P G N ro n m c1 ds loc tmp T E (SK G N n dsC L Tb Q Ei) X R -> (∀ s g tmp, Q s -> SemA P G N ro n m c2 dsC (mkA g (L s) 0 n) tmp (Tb s) Ei Nk X R) -> SemA P G N ro n m c ds loc tmp T E Nk X R
 | 0, c, c1, c2, _, _, _, _, _, hs, _, _, _ => by simp [spl] at hs
 | 1, c, c1, c2, ds, loc, tmp, T, E, hs, hok, h1, h2 => by
   cases c <;> simp only [spl] at hs <;> first | cases hs | skip
   refine SemA.seq (Mk := SK G N n dsC L Tb Q Ei) (SemA.of hok h1) ?_
   intro ds loc tmp T E hq
   intro Z0 ρ0 T0 w0 Z ρ w dv lv tv hN hf ha
   obtain ⟨s, loc', Z', ρ', hs, hl, hf', ha'⟩ := SK.elim (G := G) (Z0 := Z0) (ρ0 := ρ0) (T0 := T0) (w0 := w0) (w := w) (dv := dv) (lv := lv) (tv := tv) hN ⟨Z, ρ, T, E, ds, loc, tmp, hf, ha.ds, ha.loc, ha.tmp, hq⟩
   obtain ⟨g, rfl⟩ := hl.elim
   exact h2 s g _ hs Z0 ρ0 T0 w0 Z' ρ' w dv lv tv hN hf' ha'
 | k + 2, c, c1, c2, ds, loc, tmp, T, E, hs, hok, h1, h2 => by
   cases c <;> simp only [spl] at hs <;> first | cases hs | skip
   rename_i a r
   simp only [Option.map_eq_some_iff] at hs
   obtain ⟨⟨x, y⟩, hs1, hs2⟩ := hs
   simp only [Prod.mk.injEq] at hs2
   obtain ⟨rfl, rfl⟩ := hs2
   simp only [codeOK, Bool.and_eq_true] at hok
   refine SemA.seq (SemA.of hok.1 h1) ?_
   intro ds loc tmp T E h
   exact SemA.cutS dsC L Tb Q Ei (k + 1) hs1 hok.2 h h2
end
end
theorem vsk {σ : Type} : ∀ (G : Nat -> AV) (N n : Nat) (ds : List AV) (L : σ -> List (Nat × AV)) (Tb : σ -> Tbl) (Q : σ -> Prop) (Ei : Eff) (ds' loc' : List AV) (tmp' : List (Nat × AV)) (T' : Tbl) (E' : Eff), SK G N n ds L Tb Q Ei ds' loc' tmp' T' E' = ∃ s, Q s /\ SeeL G N n ds' loc' T' E' ds (L s) (Tb s) Ei :=
 fun _ _ _ _ _ _ _ _ _ _ _ _ _ => rfl
end Go.E
namespace Go.E
def pe (v : Value) : PanicEntry := { v, recovered := false }
def RetQ (P : Program) (f : FuncId) (args : Array Value) (w : World) (R Zz : Value -> World -> Prop) : Prop :=
 Calls P f args w fun e w' => (∃ v, e = .returned v /\ R v w') ∨ ∃ v, e = .panicked [pe v] /\ Zz v w'
section
variable {P : Program} {f : FuncId} {args : Array Value} {w : World} {R R' Zz Zz' : Value -> World -> Prop}
theorem RetQ.mono (h : RetQ P f args w R Zz) (hr : ∀ v w', R v w' -> R' v w') (hz : ∀ v w', Zz v w' -> Zz' v w') : RetQ P f args w R' Zz' :=
 Calls.mono h fun _ _ h => h.elim (fun ⟨v, e, r⟩ => .inl ⟨v, e, hr v _ r⟩) fun ⟨v, e, r⟩ => .inr ⟨v, e, hz v _ r⟩
theorem Ret.q (h : Ret P f args w R) : RetQ P f args w R Zz := Calls.mono h fun _ _ ⟨v, e, r⟩ => .inl ⟨v, e, r⟩
def StepQ (P : Program) (s : Sem Next) (w : World) (K Zz : Value -> World -> Prop) : Prop :=
 match s.run P w with
 | .ok (.value v) w' => K v w'
 | .ok .skip w' => K undef w'
 | .ok (.enter f args) w' => RetQ P f args w' K Zz
 | .ok (.round l fn tmps assign body) w' => RoundIn Fence.wide 0 P l fn tmps assign body w' fun e w'' => ∃ v, e = .returned v /\ K v w''
 | .halt (.panic v) w' => Zz v w'
 | _ => False
theorem StepP.q {s : Sem Next} {K Zz : Value -> World -> Prop} (h : StepP P s w K) : StepQ P s w K Zz := by
 unfold StepP at h
 unfold StepQ
 split at h
 . rename_i e; rw [e]; exact h
 . rename_i e; rw [e]; exact h
 . rename_i e; rw [e]; exact Ret.q h
 . rename_i e; rw [e]; exact h
 . exact h.elim
theorem StepQ.wp {ro : Option Nat} {o : Oper} {a : Act} {K Zz : Value -> World -> Prop} {next : Act -> World -> Prop} {Q : Exit -> Act -> World -> Prop} (hd : ∀ c, o.op ≠ .defer c) (h : StepQ P (execOp a.eval o) w K Zz)
 (hk : ∀ v w', K v w' -> next (a.put o.dst v) w') (hz : ∀ v w', Zz v w' -> Q (.panic [pe v]) a w') : o.wpIn (fz ro) 0 P a w next Q := by
 refine ⟨fun f _ => fz_fn f, ?_⟩
 rw [Oper.semAt_eq _ _ _ hd]
 unfold StepQ at h
 unfold Oper.uponIn
 generalize (execOp a.eval o).run P w = r at *
 cases r with
 | halt x w' => cases x <;> first | exact hz _ _ h | exact h.elim
 | ok nx w' =>
   cases nx <;> first | exact h.elim | exact hk _ _ h | skip
   . refine ⟨fz_depth, ?_⟩
     have := callsIn_wide (n := 0 - 1).2 h
     exact CallsIn.mono (F := fz ro) this fun e w'' hv => by
      rcases hv with ⟨v, he, hv⟩ | ⟨v, he, hv⟩
      . subst he; exact hk _ _ hv
      . subst he; exact hz _ _ hv
   . refine ⟨fz_depth, ?_⟩
     exact RoundIn.mono (F := fz ro) h fun e w'' ⟨v, he, hv⟩ => by subst he; exact hk _ _ hv
end
def opsQ (P : Program) (n : Nat) (base : Nat -> Value) (ops : List Oper) (Zz : List Value -> Value -> World -> Prop) (K : List Value -> List (Nat × Value) -> World -> Prop) : List Oper -> List Value -> List (Nat × Value) -> World -> Prop
 | [], loc, tmp, w => K loc tmp w
 | o :: r, loc, tmp, w =>
   grdV ops o (ev n base loc tmp)
    ((∀ c, o.op ≠ .defer c) /\ StepQ P (execOp (ev n base loc tmp) o) w (fun v w' => putK n o.dst v loc tmp fun loc tmp => opsQ P n base ops Zz K r loc tmp w') (Zz loc))
    (putK n o.dst undef loc tmp fun loc tmp => opsQ P n base ops Zz K r loc tmp w)
theorem opsQ_list {D : List Deferred} {P : Program} {ro : Option Nat} {n m : Nat} {base : Nat -> Value} {ops : List Oper} {ds : List Nat} {Zz : List Value -> Value -> World -> Prop} {K : List Value -> List (Nat × Value) -> World -> Prop} {Q : Exit -> Act -> World -> Prop} :
 ∀ (l : List Oper) (loc : List Value) (tmp : List (Nat × Value)) (w : World) (a : Act), opsQ P n base ops Zz K l loc tmp w -> Agree n base loc tmp a -> a.tmps.size = m -> a.defers = ds.map markOf ++ D -> l.all (dstIn m) = true ->
  (∀ loc tmp w a, Agree n base loc tmp a -> a.tmps.size = m -> a.defers = ds.map markOf ++ D -> K loc tmp w -> Q .normal a w) ->
  (∀ loc tmp v w a, Agree n base loc tmp a -> a.tmps.size = m -> a.defers = ds.map markOf ++ D -> Zz loc v w -> Q (.panic [pe v]) a w) -> wpListIn (fz ro) 0 P ops.toArray Q l a w
 | [], loc, tmp, w, a, h, ha, hs, hd, _, hK, _ => hK loc tmp w a ha hs hd h
 | o :: r, loc, tmp, w, a, h, ha, hs, hd, hall, hK, hZ => by
   simp only [List.all_cons, Bool.and_eq_true] at hall
   obtain ⟨hd1, hall⟩ := hall
   have hdst : ∀ t, o.dst = some t -> t < a.tmps.size := by rw [hs]; exact dstIn_spec hd1
   have hnext : ∀ v w', (putK n o.dst v loc tmp fun loc tmp => opsQ P n base ops Zz K r loc tmp w') -> wpListIn (fz ro) 0 P ops.toArray Q r (a.put o.dst v) w' := by
    intro v w' hv
    obtain ⟨loc', tmp', ha', hv'⟩ := ha.put hdst v hv
    exact opsQ_list r loc' tmp' w' _ hv' ha' (by cases o.dst <;> simp [Act.put, hs]) (by cases o.dst <;> simp [Act.put, hd]) hall hK hZ
   simp only [opsQ] at h
   rw [<- ha.ev] at h
   unfold wpListIn
   rcases grdV_wanted h with ⟨hw, h⟩ | ⟨hw, h⟩
   . rw [if_pos hw]
     exact h.2.wp h.1 hnext fun v w' hz => hZ loc tmp v w' a ha hs hd hz
   . rw [if_neg (by rw [hw]; simp)]
     exact ⟨fun f _ => fz_fn f, hnext _ _ h⟩
def mkZ (N : Kont) (X : Nat -> Kont) (R : Kont) (Zz : List Nat -> List Value -> Value -> World -> Prop) : Exit -> Kont
 | .normal => N
 | .exit i => X i
 | .ret => R
 | .panic c => fun ds loc _ w => ∃ v, c = [pe v] /\ Zz ds loc v w
 | _ => fun _ _ _ _ => False
structure FitsD (D : List Deferred) (n m : Nat) (ds : List Nat) (loc : List Value) (tmp : List (Nat × Value)) (a : Act) : Prop where
 base : ∃ base, Agree n base loc tmp a
 size : a.tmps.size = m
 defers : a.defers = ds.map markOf ++ D
def SemZ (D : List Deferred) (P : Program) (ro : Option Nat) (n m : Nat) (c : Code) (ds : List Nat) (loc : List Value) (tmp : List (Nat × Value)) (w : World) (Q : Exit -> Kont) : Prop :=
 ∀ (a : Act), FitsD D n m ds loc tmp a -> ∀ Qs : Exit -> Act -> World -> Prop, (∀ e ds loc tmp w a, FitsD D n m ds loc tmp a -> Q e ds loc tmp w -> Qs e a w) -> c.wpIn (fz ro) 0 P Qs a w
section
variable {D : List Deferred} {P : Program} {ro : Option Nat} {n m : Nat} {ds : List Nat} {loc : List Value} {tmp : List (Nat × Value)} {w : World} {N R : Kont} {X : Nat -> Kont} {Zz : List Nat -> List Value -> Value -> World -> Prop}
theorem FitsD.clear {a : Act} (h : FitsD D n m ds loc tmp a) : Agree n (fun t => a.tmps.getD t undef) loc [] a := by
 obtain ⟨_, h1, h2, h3, _⟩ := h.base
 exact ⟨h1, h2, h3, fun t _ => rfl⟩
theorem FitsD.cleared {a : Act} (h : FitsD D n m ds loc tmp a) : FitsD D n m ds loc [] a := ⟨⟨_, h.clear⟩, h.size, h.defers⟩
theorem FitsD.nil {a : Act} : FitsD [] n m ds loc tmp a ↔ Fits' n m ds loc tmp a := ⟨fun h => ⟨h.base, h.size, by rw [h.defers, List.append_nil]⟩, fun h => ⟨h.base, h.size, by rw [h.defers, List.append_nil]⟩⟩
theorem SemZ.mono {c : Code} {Q Q' : Exit -> Kont} (h : SemZ D P ro n m c ds loc tmp w Q) (hq : ∀ e ds loc tmp w, Q e ds loc tmp w -> Q' e ds loc tmp w) : SemZ D P ro n m c ds loc tmp w Q' :=
 fun a ha Qs hQs => h a ha Qs fun e ds loc tmp w a ha hq' => hQs e ds loc tmp w a ha (hq _ _ _ _ _ hq')
theorem SemZ.cleared {c : Code} {Q : Exit -> Kont} (h : SemZ D P ro n m c ds loc [] w Q) : SemZ D P ro n m c ds loc tmp w Q := fun a ha => h a ha.cleared
theorem SemZ.ops {id : Nat} {ops : Array Oper} (hok : ops.toList.all (dstIn m) = true) (h : ∀ base, opsQ P n base ops.toList (Zz ds) (fun loc tmp w => N ds loc tmp w) ops.toList loc [] w) : SemZ D P ro n m (.region id ops false) ds loc [] w (mkZ N X R Zz) := by
 intro a ha Qs hQs
 refine wpIn_region_list ?_
 have := opsQ_list (D := D) (ro := ro) (Q := Qs) ops.toList loc [] w a (h _) ha.clear ha.size ha.defers hok (fun loc tmp w a h1 h2 h3 hk => hQs .normal _ _ _ _ _ ⟨⟨_, h1⟩, h2, h3⟩ hk)
  (fun loc tmp v w a h1 h2 h3 hz => hQs (.panic [pe v]) ds loc tmp w a ⟨⟨_, h1⟩, h2, h3⟩ ⟨v, rfl, hz⟩)
 simpa using this
theorem SemZ.seq {a b : Code} {K : Kont} (h : SemZ D P ro n m a ds loc tmp w (mkZ K X R Zz)) (hb : ∀ ds loc tmp w, K ds loc tmp w -> SemZ D P ro n m b ds loc tmp w (mkZ N X R Zz)) :
 SemZ D P ro n m (.seq a b) ds loc tmp w (mkZ N X R Zz) := by
 intro act ha Qs hQs
 refine wpIn_seq (h act ha _ fun e ds loc tmp w a ha hq => ?_)
 cases e with
 | normal => exact hb _ _ _ _ hq a ha Qs hQs
 | exit i => exact hQs (.exit i) _ _ _ _ _ ha hq
 | ret => exact hQs .ret _ _ _ _ _ ha hq
 | panic c => exact hQs (.panic c) _ _ _ _ _ ha hq
 | _ => exact hq.elim
theorem SemZ.block {c : Code} {i : Nat} (h : SemZ D P ro n m c ds loc tmp w (mkZ N (fun j => if j = i then N else X j) R Zz)) : SemZ D P ro n m (.block i c) ds loc tmp w (mkZ N X R Zz) := by
 intro act ha Qs hQs
 refine wpIn_block (h act ha _ fun e ds loc tmp w a ha hq => ?_)
 cases e with
 | exit j =>
   simp only [mkZ, Exit.inBlock] at hq ⊢
   split <;> rename_i hj
   . rw [if_pos hj] at hq; exact hQs .normal _ _ _ _ _ ha hq
   . rw [if_neg hj] at hq; exact hQs (.exit j) _ _ _ _ _ ha hq
 | normal => exact hQs .normal _ _ _ _ _ ha hq
 | ret => exact hQs .ret _ _ _ _ _ ha hq
 | panic c => exact hQs (.panic c) _ _ _ _ _ ha hq
 | _ => exact hq.elim
theorem SemZ.scope {c : Code} (h : SemZ D P ro n m c ds loc tmp w (mkZ N X R Zz)) : SemZ D P ro n m (.scope c) ds loc tmp w (mkZ N X R Zz) := by
 intro act ha Qs hQs
 refine wpIn_mono (Q := fun e a w => ∃ ds loc tmp, FitsD D n m ds loc tmp a /\ mkZ N X R Zz e ds loc tmp w) ?_ (fun e a w ⟨ds, loc, tmp, hf, hq⟩ => hQs _ _ _ _ _ _ hf hq)
 refine wpIn_scope (fun l a w => ?_) (h act ha _ fun e ds loc tmp w a hf hq => ⟨ds, loc, tmp, hf, hq⟩)
 rintro ⟨ds, loc, tmp, hf, hq⟩
 exact hq
theorem SemV.lift {c : Code} (h : SemV P ro n m c ds loc tmp w (mkQ N X R)) : SemZ [] P ro n m c ds loc tmp w (mkZ N X R Zz) :=
 fun a ha Qs hQs => h a (FitsD.nil.1 ha) Qs fun e ds loc tmp w a ha hq => hQs e ds loc tmp w a (FitsD.nil.2 ha) (by cases e <;> first | exact hq | exact hq.elim)
end
theorem ResP.leavesQ {P : Program} {fn : Func} {n : Nat} {R : Value -> World -> Prop} {S : Ending -> World -> Prop} {tmps : Array Value} : ∀ (ds : List Nat) (loc : List Value) (w : World), ResP P fn n R ds loc w -> (∀ t, t < n -> tmps.getD t undef = loc.getD t undef) ->
 LeavesInM Fence.wide 0 P fn tmps (fun e w' => (∃ v, e = .returned v /\ R v w') ∨ S e w') (ds.map markOf) .returning w
 | [], loc, w, h, ht => by
   obtain ⟨v, hv, hR⟩ := h (fun t => tmps.getD t undef) ht
   exact ⟨v, hv tmps (fun _ => rfl), .inl ⟨v, rfl, hR⟩⟩
 | d :: ds, loc, w, h, ht => by
   obtain ⟨w', hk, hr⟩ := h
   exact ⟨by simp, .inl ⟨d, w', rfl, hk, ResP.leavesQ ds loc w' hr ht⟩⟩
theorem RetQ.enterS {P : Program} {f : FuncId} {fn : Func} {c : Code} {args : Array Value} {w : World} {Q Zz : Value -> World -> Prop} (n : Nat)
 (hf : P.funcs[f]? = some fn) (hb : fn.body = some c) (hn : (args.size <= n /\ n <= fn.ntmps))
 (hs : SemZ [] P none n fn.ntmps c [] (args.toList ++ List.replicate (n - args.size) undef) [] w (mkZ (retQ P fn n Q) (fun _ _ _ _ _ => False) (retQ P fn n Q) (fun ds _ v w => ds = [] /\ Zz v w))) : RetQ P f args w Q Zz := by
 refine callsIn_wide (n := 0).1 (callsIn_of_wp_marks hf hb trivial ?_)
 refine hs { tmps := args ++ Array.replicate (fn.ntmps - args.size) undef, defers := [] } ⟨⟨fun _ => undef, by simp; omega, by simp; omega, fun t ht => ?_, fun t ht => ?_⟩, by simp; omega, rfl⟩ _ ?_
 . simp only [Array.getD_eq_getD_getElem?, List.getD_eq_getElem?_getD]
   by_cases h1 : t < args.size
   . rw [Array.getElem?_append_left h1, List.getElem?_append_left (by simpa using h1), Array.getElem?_toList]
   . rw [Array.getElem?_append_right (by omega), List.getElem?_append_right (by simp; omega)]
     simp only [Array.getElem?_replicate, List.getElem?_replicate, Array.length_toList]
     rw [if_pos (by omega), if_pos (by omega)]
 . simp only [Array.getD_eq_getD_getElem?, lk]
   rw [Array.getElem?_append_right (by omega), Array.getElem?_replicate]
   split <;> rfl
 . intro e ds loc tmp w a ha hq
   have key : ResP P fn n Q ds loc w -> LeavesInM Fence.wide 0 P fn a.tmps (fun e w' => (∃ v, e = .returned v /\ Q v w') ∨ ∃ v, e = .panicked [pe v] /\ Zz v w') a.defers .returning w := by
    intro hr
    obtain ⟨base, _, _, h3, _⟩ := ha.base
    rw [ha.defers, List.append_nil]
    exact hr.leavesQ _ _ _ h3
   cases e with
   | normal => exact key hq
   | ret => exact key hq
   | panic c =>
     obtain ⟨v, rfl, rfl, hz⟩ := hq
     show LeavesInM _ _ _ _ _ _ a.defers (.panicking [pe v]) w
     rw [ha.defers]
     exact .inr ⟨v, rfl, hz⟩
   | _ => exact hq.elim
end Go.E
namespace Go.E
structure GG where
 g : Nat -> AV
 mp : Nat -> Bool
 pan : List AV -> AV -> Tbl -> Eff -> Prop
 dfr : List Deferred := []
def CallP (P : Program) (G : Nat -> AV) (f : FuncId) (args : List AV) (T : Tbl) (K Zz : AV -> Tbl -> Eff -> Prop) (_ : Tag K := .mk) (_ : Tag Zz := .mk) : Prop :=
 ∀ (Z : Heap) (ρ : List BI) (w : World) (vs : List Value), GOK G Z -> St Z ρ T w -> RelL Z ρ args vs -> RetQ P f vs.toArray w (Post Z ρ T w K) (Post Z ρ T w Zz)
section
variable {P : Program} {G : Nat -> AV} {f : FuncId} {args : List AV} {T : Tbl} {K K' Zz Zz' : AV -> Tbl -> Eff -> Prop} {Z : Heap} {ρ : List BI} {w w' : World} {v : Value}
theorem Post.mono (h : Post Z ρ T w K v w') (hk : ∀ v T E, K v T E -> K' v T E) : Post Z ρ T w K' v w' :=
 let ⟨Z', ρ', T', es, a, h1, h2, h3, h4⟩ := h; ⟨Z', ρ', T', es, a, h1, h2, h3, hk _ _ _ h4⟩
theorem CallP.mono (h : CallP P G f args T K Zz) (hk : ∀ v T E, K v T E -> K' v T E) (hz : ∀ v T E, Zz v T E -> Zz' v T E) : CallP P G f args T K' Zz' :=
 fun Z ρ w vs hG hs ha => (h Z ρ w vs hG hs ha).mono (fun _ _ h => h.mono hk) fun _ _ h => h.mono hz
theorem CallP.wf (h : (∀ q : Nat -> Bool, (∀ i, i < T.length -> q i = false) -> T.map (AObj.wo q) = T /\ args.map (AV.wo q) = args) -> CallP P G f args T K Zz) : CallP P G f args T K Zz := by
 intro Z ρ w vs hG hs ha
 exact h (fun q hq => ⟨hs.wf hq, ha.wo_eq (by rw [hs.len]; exact hq)⟩) Z ρ w vs hG hs ha
end
def cllM (e m : Bool) (P : Program) (G : GG) (f : AV) (g : FuncId) (args full : List AV) (T : Tbl) (K Zz : AV -> Tbl -> Eff -> Prop) (_ : Tag K := .mk) (_ : Tag Zz := .mk) : Prop := match e, m with
 | true, true => CallP P G.g g full T K Zz
 | _, _ => callA P G.g f args T K
def cllB (P : Program) (G : GG) (f : AV) (args : List AV) (T : Tbl) (K Zz : AV -> Tbl -> Eff -> Prop) (_ : Tag K := .mk) (_ : Tag Zz := .mk) : Prop := match f with
 | .p (.func (.func g) ⟨[]⟩ ⟨[]⟩) => cllM (entered P g) (G.mp g) P G f g args args T K Zz
 | .fn g cap => cllM (entered P g) (G.mp g) P G f g args (args ++ cap) T K Zz
 | _ => callA P G.g f args T K
def pncA (a : AV) (T : Tbl) (Zz : AV -> Tbl -> Eff -> Prop) (_ : Tag Zz := .mk) : Prop := match a with
 | .ic t u => Zz (.ic t u) T []
 | .p (.iface t u) => Zz (.p (.iface t u)) T []
 | _ => False
def opB (P : Program) (G : GG) (ρ : Operand -> AV) (o : Op) (ty : TypeId) (T : Tbl) (K Zz : AV -> Tbl -> Eff -> Prop) (_ : Tag K := .mk) (_ : Tag Zz := .mk) : Prop := match o with
 | .call ⟨.value x, args, _⟩ => cllB P G (ρ x) (args.toList.map ρ) T K Zz
 | .panic x => pncA (ρ x) T Zz
 | .defer _ => False
 | o => opA P G.g ρ o ty T K
def opsB (P : Program) (G : GG) (N n : Nat) (ops : List Oper) : List AV -> List Oper -> List AV -> List (Nat × AV) -> Tbl -> Eff -> (K : AKont) -> (_ : Tag K := .mk) -> Prop
 | ds, [], loc, tmp, T, E, K, _ => K ds loc tmp T E
 | ds, o :: r, loc, tmp, T, E, K, _ =>
   grdA ops o (evA G.g n loc tmp)
    (opB P G (evA G.g n loc tmp) o.op o.type T (fun v T' es => putA n o.dst v (slots es loc) (slotsT es tmp) fun loc tmp => opsB P G N n ops (slots es ds) r loc tmp T' (recE N es E) K) (fun v T' es => ds = [] /\ G.pan (slots es loc) v T' (recE N es E)))
    (putA n o.dst (.p undef) loc tmp fun loc tmp => opsB P G N n ops ds r loc tmp T E K)
def ZK (G : GG) (Z0 : Heap) (ρ0 : List BI) (T0 : Tbl) (w0 : World) (dv : List Nat) (lv : List Value) (v : Value) (w : World) : Prop :=
 dv = [] /\ ∃ (Z : Heap) (ρ : List BI) (T : Tbl) (E : Eff) (loc : List AV) (a : AV), Frm G.g Z0 ρ0 T0 w0 Z ρ T w E /\ RelL Z ρ loc lv /\ Rel Z ρ a v /\ G.pan loc a T E
section
variable {P : Program} {G : GG} {Z Z' Z0 : Heap} {ρ ρ' ρ0 : List BI} {T T' T0 : Tbl} {w w' w0 : World} {a b : AV} {u v : Value} {K Zz : AV -> Tbl -> Eff -> Prop} {cs : List AV} {es E : Eff}
theorem stepQ_call {g : FuncId} {first captured : Array Value} {args : List Value} {KV ZV : Value -> World -> Prop} (he : entered P g = true) (h : RetQ P g (first ++ args.toArray ++ captured) w KV ZV) :
 StepQ P (do let d <- Deferred.ofValue (.func (.func g) first captured) args.toArray; invoke d.target d.args) w KV ZV := by
 have e : (do let d <- Deferred.ofValue (.func (.func g) first captured) args.toArray; invoke d.target d.args : Sem Next) = callFunc g (first ++ args.toArray ++ captured) := rfl
 rw [e]
 unfold entered at he
 have hr : (callFunc g (first ++ args.toArray ++ captured)).run P w = .ok (.enter g (first ++ args.toArray ++ captured)) w := by
  cases hf : P.funcs[g]? with
  | none => rw [hf] at he; cases he
  | some fn =>
    rw [hf] at he
    simp only [Bool.and_eq_true, bne_iff_ne, ne_eq] at he
    obtain ⟨h1, h2⟩ := he
    have h3 : ¬ fn.body = none := by intro hb; rw [hb] at h2; cases h2
    simp [callFunc, hf, h1, h3]
 unfold StepQ
 rw [hr]
 exact h
theorem opB_sound {evA : Operand -> AV} {evV : Operand -> Value} {o : Oper} (hG : GOK G.g Z) (hs : St Z ρ T w) (he : ∀ x, Rel Z ρ (evA x) (evV x)) (h : opB P G evA o.op o.type T K Zz) :
 (∀ c, o.op ≠ .defer c) /\ StepQ P (execOp evV o) w (Post Z ρ T w K) (Post Z ρ T w Zz) := by
 have hargs : ∀ (l : List Operand), RelL Z ρ (l.map evA) (l.map evV) := fun l => ⟨by simp, fun k x y hx hy => by
  rw [List.getElem?_map] at hx hy
  cases hk : l[k]? with
  | none => rw [hk] at hx; cases hx
  | some o => rw [hk] at hx hy; cases hx; cases hy; exact he o⟩
 obtain ⟨dst, op, type, pos, after, guard⟩ := o
 simp only at h ⊢
 unfold opB at h
 split at h
 . rename_i x args ts
   refine ⟨fun c e => Op.noConfusion e, ?_⟩
   have old : callA P G.g (evA x) (args.toList.map evA) T K -> StepQ P (execOp evV ⟨dst, .call ⟨.value x, args, ts⟩, type, pos, after, guard⟩) w (Post Z ρ T w K) (Post Z ρ T w Zz) := fun h =>
    (opV_step (o := ⟨dst, .call ⟨.value x, args, ts⟩, type, pos, after, guard⟩) (opA_sound (o := .call ⟨.value x, args, ts⟩) (ty := type) hG hs he h)).q
   have e : (args.toList.map evV).toArray = args.map evV := by rw [<- Array.toList_map]
   have new : ∀ {g : FuncId} {full : List AV} {fv : List Value}, evV x = .func (.func g) #[] fv.toArray -> RelL Z ρ full (args.toList.map evV ++ fv) -> cllM (entered P g) (G.mp g) P G (evA x) g (args.toList.map evA) full T K Zz ->
    StepQ P (execOp evV ⟨dst, .call ⟨.value x, args, ts⟩, type, pos, after, guard⟩) w (Post Z ρ T w K) (Post Z ρ T w Zz) := by
    intro g full fv hx hfull h
    unfold cllM at h
    split at h
    . rename_i hen hmp
      have := h Z ρ w _ hG hs hfull
      have := stepQ_call (first := #[]) (captured := fv.toArray) (args := args.toList.map evV) hen (by simpa using this)
      rw [<- hx, e] at this
      exact this
    . exact old h
   unfold cllB at h
   split at h
   . rename_i g hg
     have hx := he x
     rw [hg] at hx
     exact new (fv := []) hx.p_inv (by simpa using hargs args.toList) h
   . rename_i g cap hg
     have hx := he x
     rw [hg] at hx
     obtain ⟨us, hu, h1⟩ := hx.fn_inv
     exact new hu ((hargs args.toList).append h1) h
   . exact old h
 . rename_i x
   refine ⟨fun c e => Op.noConfusion e, ?_⟩
   have hx := he x
   have key : ∀ t u, evV x = .iface t u -> Post Z ρ T w Zz (.iface t u) w -> StepQ P (execOp evV ⟨dst, .panic x, type, pos, after, guard⟩) w (Post Z ρ T w K) (Post Z ρ T w Zz) := by
    intro t u e hz
    unfold StepQ
    have hr : (execOp evV ⟨dst, .panic x, type, pos, after, guard⟩).run P w = .halt (.panic (.iface t u)) w := by
     simp [execOp, Instr.panic, e, goPanic]
    rw [hr]
    exact hz
   unfold pncA at h
   split at h
   . rename_i t a ha
     rw [ha] at hx
     obtain ⟨y, hy, hr⟩ : ∃ y, evV x = .iface t y /\ Rel Z ρ a y := by cases hv : evV x <;> rw [hv] at hx <;> cases hx; exact ⟨_, rfl, by assumption⟩
     exact key t y hy ⟨Z, ρ, T, [], _, hs, Ext.refl rfl, .ic hr, h⟩
   . rename_i t y ha
     rw [ha] at hx
     exact key t y hx.p_inv ⟨Z, ρ, T, [], _, hs, Ext.refl rfl, .p _, h⟩
   . exact h.elim
 . exact h.elim
 . rename_i h1 h2 h3
   exact ⟨fun c e => h3 c e, (opV_step (opA_sound hG hs he h)).q⟩
theorem opsB_sound {n : Nat} {base : Nat -> Value} {ops : List Oper} {K : AKont} {dv : List Nat} : ∀ (r : List Oper) (ds loc : List AV) (tmp : List (Nat × AV)) (lv : List Value) (tv : List (Nat × Value)) (Z : Heap) (ρ : List BI) (T : Tbl) (w : World) (E : Eff),
 opsB P G ρ0.length n ops ds r loc tmp T E K -> Frm G.g Z0 ρ0 T0 w0 Z ρ T w E -> At Z ρ ds loc tmp dv lv tv -> opsQ P n base ops (ZK G Z0 ρ0 T0 w0 dv) (fun lv tv w => LK G.g Z0 ρ0 T0 w0 K dv lv tv w) r lv tv w
 | [], ds, loc, tmp, lv, tv, Z, ρ, T, w, E, h, hf, ha => ⟨Z, ρ, T, E, ds, loc, tmp, hf, ha.ds, ha.loc, ha.tmp, h⟩
 | o :: r, ds, loc, tmp, lv, tv, Z, ρ, T, w, E, h, hf, ha => by
   simp only [opsB] at h
   simp only [opsQ]
   have he := evA_rel (n := n) (base := base) hf.g ha.loc ha.tmp
   refine grdA_sound h he (fun h => ?_) (fun h => ?_)
   . obtain ⟨h1, h2⟩ := opB_sound hf.g hf.st he h
     refine ⟨h1, ?_⟩
     have mono : ∀ {s : Sem Next} {K K' Zz Zz' : Value -> World -> Prop}, StepQ P s w K Zz -> (∀ v w, K v w -> K' v w) -> (∀ v w, Zz v w -> Zz' v w) -> StepQ P s w K' Zz' := by
      intro s K K' Zz Zz' h hk hz
      unfold StepQ at h ⊢
      split at h
      . exact hk _ _ h
      . exact hk _ _ h
      . exact RetQ.mono h hk hz
      . exact RoundIn.mono h fun e w'' ⟨v, e1, e2⟩ => ⟨v, e1, hk _ _ e2⟩
      . exact hz _ _ h
      . exact h.elim
     refine mono h2 (fun v w' h2 => ?_) fun v w' h2 => ?_
     . obtain ⟨Z', ρ', T', es, a, k1, k2, k3, k4⟩ := h2
       exact putA_sound k4 k3 (ha.step k2) fun loc tmp lv tv hk hat => opsB_sound r _ _ _ _ _ _ _ _ _ _ hk (hf.step k1 k2) hat
     . obtain ⟨Z', ρ', T', es, a, k1, k2, k3, rfl, k4⟩ := h2
       refine ⟨?_, Z', ρ', T', _, _, a, hf.step k1 k2, (ha.step k2).loc, k3, k4⟩
       have := ha.ds.1
       cases dv with
       | nil => rfl
       | cons x r => simp at this
   . exact putA_sound h (.p _) ha fun loc tmp lv tv hk hat => opsB_sound r _ _ _ _ _ _ _ _ _ _ hk hf hat
def SemB (P : Program) (G : GG) (N : Nat) (ro : Option Nat) (n m : Nat) (c : Code) (ds loc : List AV) (tmp : List (Nat × AV)) (T : Tbl) (E : Eff) (Nk : AKont) (X : Nat -> AKont) (R : AKont) (_ : Tag c := .mk) (_ : Tag Nk := .mk) (_ : Tag X := .mk) (_ : Tag R := .mk) : Prop :=
 ∀ (Z0 : Heap) (ρ0 : List BI) (T0 : Tbl) (w0 : World) (Z : Heap) (ρ : List BI) (w : World) (dv : List Nat) (lv : List Value) (tv : List (Nat × Value)), ρ0.length = N -> Frm G.g Z0 ρ0 T0 w0 Z ρ T w E -> At Z ρ ds loc tmp dv lv tv ->
  SemZ G.dfr P ro n m c dv lv tv w (mkZ (LK G.g Z0 ρ0 T0 w0 Nk) (fun i => LK G.g Z0 ρ0 T0 w0 (X i)) (LK G.g Z0 ρ0 T0 w0 R) (ZK G Z0 ρ0 T0 w0))
def codeB (P : Program) (G : GG) (N : Nat) (ro : Option Nat) (n m : Nat) : Code -> List AV -> List AV -> List (Nat × AV) -> Tbl -> Eff -> (Nk : AKont) -> (X : Nat -> AKont) -> (R : AKont) -> (_ : Tag Nk := .mk) -> (_ : Tag X := .mk) -> (_ : Tag R := .mk) -> Prop
 | .skip, ds, loc, tmp, T, E, Nk, _, _, _, _, _ => Nk ds loc tmp T E
 | .region id ops draw, ds, loc, _, T, E, Nk, X, R, _, _, _ =>
   if draw then SemB P G N ro n m (.region id ops true) ds loc [] T E Nk X R else opsB P G N n ops.toList ds ops.toList loc [] T E Nk
 | .seq a b, ds, loc, tmp, T, E, Nk, X, R, _, _, _ => codeB P G N ro n m a ds loc tmp T E (fun ds loc tmp T E => codeB P G N ro n m b ds loc tmp T E Nk X R) X R
 | .cond c t e, ds, loc, tmp, T, E, Nk, X, R, _, _, _ => bpA (evA G.g n loc tmp c) (codeB P G N ro n m t ds loc tmp T E Nk X R) (codeB P G N ro n m e ds loc tmp T E Nk X R)
 | .block i c, ds, loc, tmp, T, E, Nk, X, R, _, _, _ => codeB P G N ro n m c ds loc tmp T E Nk (fun j => if j = i then Nk else X j) R
 | .loop c, ds, loc, _, T, E, Nk, X, R, _, _, _ => SemB P G N ro n m (.loop c) ds loc [] T E Nk X R
 | .exit i, ds, loc, tmp, T, E, _, X, _, _, _, _ => X i ds loc tmp T E
 | .ret, ds, loc, tmp, T, E, _, _, R, _, _, _ => R ds loc tmp T E
 | .scope b, ds, loc, tmp, T, E, Nk, X, R, _, _, _ => codeB P G N ro n m b ds loc tmp T E Nk X R
 | .label _, ds, loc, tmp, T, E, Nk, _, _, _, _, _ => Nk ds loc tmp T E
 | .rangeFunc f ps a b, ds, loc, tmp, T, E, Nk, X, R, _, _, _ => SemB P G N ro n m (.rangeFunc f ps a b) ds loc tmp T E Nk X R
 | .goto l, ds, loc, tmp, T, E, Nk, X, R, _, _, _ => SemB P G N ro n m (.goto l) ds loc tmp T E Nk X R
 | .refuse y, ds, loc, tmp, T, E, Nk, X, R, _, _, _ => SemB P G N ro n m (.refuse y) ds loc tmp T E Nk X R
theorem codeB_sound {N n m : Nat} {ro : Option Nat} : ∀ (c : Code) (ds loc : List AV) (tmp : List (Nat × AV)) (T : Tbl) (E : Eff) (Nk : AKont) (X : Nat -> AKont) (R : AKont), codeB P G N ro n m c ds loc tmp T E Nk X R -> codeOK m c = true -> SemB P G N ro n m c ds loc tmp T E Nk X R
 | .skip, ds, loc, tmp, T, E, Nk, X, R, h, _ => fun Z0 ρ0 T0 w0 Z ρ w dv lv tv hN hf ha a haa Qs hQs => wpIn_skip (hQs .normal _ _ _ _ _ haa ⟨Z, ρ, T, E, ds, loc, tmp, hf, ha.ds, ha.loc, ha.tmp, h⟩)
 | .region id ops draw, ds, loc, tmp, T, E, Nk, X, R, h, hok => fun Z0 ρ0 T0 w0 Z ρ w dv lv tv hN hf ha => by
   simp only [codeB] at h
   cases draw with
   | true => exact SemZ.cleared (h Z0 ρ0 T0 w0 Z ρ w dv lv [] hN hf ha.clear)
   | false =>
     simp only [codeOK, Bool.false_or] at hok
     simp only [Bool.false_eq_true, if_false] at h
     subst hN
     exact SemZ.cleared (SemZ.ops hok fun base => opsB_sound _ _ _ _ _ _ _ _ _ _ _ h hf ha.clear)
 | .seq a b, ds, loc, tmp, T, E, Nk, X, R, h, hok => fun Z0 ρ0 T0 w0 Z ρ w dv lv tv hN hf ha => by
   simp only [codeOK, Bool.and_eq_true] at hok
   exact SemZ.seq (codeB_sound a ds loc tmp T E _ _ _ h hok.1 Z0 ρ0 T0 w0 Z ρ w dv lv tv hN hf ha) fun dv lv tv w ⟨Z, ρ, T, E, ds, loc, tmp, hf, h1, h2, h3, hk⟩ =>
    codeB_sound b ds loc tmp T E Nk X R hk hok.2 Z0 ρ0 T0 w0 Z ρ w dv lv tv hN hf ⟨h1, h2, h3⟩
 | .cond c t e, ds, loc, tmp, T, E, Nk, X, R, h, hok => fun Z0 ρ0 T0 w0 Z ρ w dv lv tv hN hf ha => by
   simp only [codeOK, Bool.and_eq_true] at hok
   simp only [codeB, bpA] at h
   split at h
   . rename_i v hv
     obtain ⟨h1, h2, x, hx⟩ := h
     subst hx
     intro a haa Qs hQs
     obtain ⟨base, hb⟩ := haa.base
     have hr := evA_rel (base := base) (n := n) hf.g ha.loc ha.tmp c
     rw [hv] at hr
     have hc : a.eval c = .bool x := by rw [hb.ev]; exact hr.p_inv
     cases x with
     | true => exact wpIn_cond hc (codeB_sound t ds loc tmp T E Nk X R (h1 rfl) hok.1 Z0 ρ0 T0 w0 Z ρ w dv lv tv hN hf ha a haa Qs hQs)
     | false => exact wpIn_cond hc (codeB_sound e ds loc tmp T E Nk X R (h2 rfl) hok.2 Z0 ρ0 T0 w0 Z ρ w dv lv tv hN hf ha a haa Qs hQs)
   . exact h.elim
 | .block i c, ds, loc, tmp, T, E, Nk, X, R, h, hok => fun Z0 ρ0 T0 w0 Z ρ w dv lv tv hN hf ha => by
   refine SemZ.block ((codeB_sound c ds loc tmp T E _ _ _ h hok Z0 ρ0 T0 w0 Z ρ w dv lv tv hN hf ha).mono fun e dv lv tv w hq => ?_)
   cases e with
   | exit j =>
     simp only [mkZ] at hq ⊢
     by_cases hj : j = i
     . simp only [hj, if_true] at hq ⊢; exact hq
     . simp only [hj, if_false] at hq ⊢; exact hq
   | _ => exact hq
 | .loop c, ds, loc, tmp, T, E, Nk, X, R, h, _ => fun Z0 ρ0 T0 w0 Z ρ w dv lv tv hN hf ha => SemZ.cleared (h Z0 ρ0 T0 w0 Z ρ w dv lv [] hN hf ha.clear)
 | .exit i, ds, loc, tmp, T, E, Nk, X, R, h, _ => fun Z0 ρ0 T0 w0 Z ρ w dv lv tv hN hf ha a haa Qs hQs => wpIn_exit (hQs (.exit i) _ _ _ _ _ haa ⟨Z, ρ, T, E, ds, loc, tmp, hf, ha.ds, ha.loc, ha.tmp, h⟩)
 | .ret, ds, loc, tmp, T, E, Nk, X, R, h, _ => fun Z0 ρ0 T0 w0 Z ρ w dv lv tv hN hf ha a haa Qs hQs => wpIn_ret (hQs .ret _ _ _ _ _ haa ⟨Z, ρ, T, E, ds, loc, tmp, hf, ha.ds, ha.loc, ha.tmp, h⟩)
 | .rangeFunc f ps a b, ds, loc, tmp, T, E, Nk, X, R, h, _ => h
 | .scope c, ds, loc, tmp, T, E, Nk, X, R, h, hok => fun Z0 ρ0 T0 w0 Z ρ w dv lv tv hN hf ha => SemZ.scope (codeB_sound c ds loc tmp T E Nk X R h hok Z0 ρ0 T0 w0 Z ρ w dv lv tv hN hf ha)
 | .label _, ds, loc, tmp, T, E, Nk, X, R, h, _ => fun Z0 ρ0 T0 w0 Z ρ w dv lv tv hN hf ha a haa Qs hQs => wpIn_label (hQs .normal _ _ _ _ _ haa ⟨Z, ρ, T, E, ds, loc, tmp, hf, ha.ds, ha.loc, ha.tmp, h⟩)
 | .goto l, ds, loc, tmp, T, E, Nk, X, R, h, _ => h
 | .refuse y, ds, loc, tmp, T, E, Nk, X, R, h, _ => h
end
section
variable {P : Program} {G : GG} {Z Z' Z0 : Heap} {ρ ρ' ρ0 : List BI} {T T' T0 : Tbl} {w w' w0 : World} {a b : AV} {u v : Value} {K Zz : AV -> Tbl -> Eff -> Prop} {cs : List AV} {es E : Eff}
variable {N n m : Nat} {ro : Option Nat} {ds loc : List AV} {tmp : List (Nat × AV)} {Nk R : AKont} {X : Nat -> AKont}
theorem SemB.of {c : Code} (hok : codeOK m c = true) (h : codeB P G N ro n m c ds loc tmp T E Nk X R) : SemB P G N ro n m c ds loc tmp T E Nk X R := codeB_sound c _ _ _ _ _ _ _ _ h hok
theorem SemB.lift {c : Code} (hd : G.dfr = []) (h : SemA P G.g N ro n m c ds loc tmp T E Nk X R) : SemB P G N ro n m c ds loc tmp T E Nk X R :=
 fun Z0 ρ0 T0 w0 Z ρ w dv lv tv hN hf ha => by rw [hd]; exact (h Z0 ρ0 T0 w0 Z ρ w dv lv tv hN hf ha).lift
theorem SemB.loopS {σ τ : Type} {c : Code} (L : σ -> List (Nat × AV)) (Tb : σ -> Tbl) (Q : σ -> Prop) (μ : σ -> Nat) (s0 : σ) (Ei : Eff) (xi : Nat) (Le : τ -> List (Nat × AV)) (Te : τ -> Tbl) (Qe : τ -> Prop) (hQ : Q s0) (hL : Lc n (L s0) loc) (hT : T = Tb s0) (hE : ∀ x ∈ E, x ∈ Ei)
 (round : ∀ s g, Q s -> SemB P G N ro n m c ds (mkA g (L s) 0 n) [] (Tb s) Ei (SK G.g N n ds L Tb (fun s' => Q s' /\ μ s' < μ s) Ei) (fun j => if j = xi then SK G.g N n ds Le Te Qe Ei else X j) R)
 (exit : ∀ s g tmp, Qe s -> X xi ds (mkA g (Le s) 0 n) tmp (Te s) Ei) : SemB P G N ro n m (.loop c) ds loc [] T E Nk X R := by
 intro Z0 ρ0 T0 w0 Z ρ w dv lv tv hN hf ha a haa Qs hQs
 refine wpIn_loop_ghost (fun k a w => ∃ (Z : Heap) (ρ : List BI) (s : σ) (loc : List AV) (dv : List Nat) (lv : List Value) (tv : List (Nat × Value)), FitsD G.dfr n m dv lv tv a /\ Frm G.g Z0 ρ0 T0 w0 Z ρ (Tb s) w Ei /\ At Z ρ ds loc [] dv lv [] /\ (Q s /\ Lc n (L s) loc) /\ μ s = k)
  (μ s0) ⟨Z, ρ, s0, loc, dv, lv, tv, haa, hT ▸ hf.more hE, ha.clear, ⟨hQ, hL⟩, rfl⟩ ?_
 rintro k' a w ⟨Z, ρ, s, loc, dv, lv, tv, haa, hf, hat, ⟨hI, hL⟩, rfl⟩
 obtain ⟨g, rfl⟩ := hL.elim
 have hr := round s g hI Z0 ρ0 T0 w0 Z ρ w dv lv [] hN hf hat
 refine hr a haa.cleared _ fun e dv' lv' tv' w' a' haa' hq => ?_
 cases e with
 | normal =>
   obtain ⟨s', loc', Z', ρ', ⟨h1, h2⟩, hl', h3, h4⟩ := SK.elim hN hq
   exact ⟨_, h2, Z', ρ', s', _, dv', lv', tv', haa', h3, ⟨h4.ds, h4.loc, .nil⟩, ⟨h1, hl'⟩, rfl⟩
 | exit i =>
   simp only [mkZ] at hq
   split at hq
   . rename_i hi; subst hi; exact hQs (.exit _) _ _ _ _ _ haa' (SK.to hN hq exit)
   . exact hQs (.exit i) _ _ _ _ _ haa' hq
 | ret => exact hQs .ret _ _ _ _ _ haa' hq
 | panic c => exact hQs (.panic c) _ _ _ _ _ haa' hq
 | _ => exact hq.elim
theorem SemB.view {c : Code} {ds' loc' : List AV} {tmp' : List (Nat × AV)} {T' : Tbl} {E' : Eff}
 (hv : ∀ (Z0 : Heap) (ρ0 : List BI) (T0 : Tbl) (w0 : World) (Z : Heap) (ρ : List BI) (w : World) (dv : List Nat) (lv : List Value) (tv : List (Nat × Value)), ρ0.length = N -> Frm G.g Z0 ρ0 T0 w0 Z ρ T w E -> At Z ρ ds loc tmp dv lv tv -> ∃ Z' ρ', Frm G.g Z0 ρ0 T0 w0 Z' ρ' T' w E' /\ At Z' ρ' ds' loc' tmp' dv lv tv)
 (h : SemB P G N ro n m c ds' loc' tmp' T' E' Nk X R) : SemB P G N ro n m c ds loc tmp T E Nk X R := by
 intro Z0 ρ0 T0 w0 Z ρ w dv lv tv hN hf ha
 obtain ⟨Z', ρ', h1, h2⟩ := hv Z0 ρ0 T0 w0 Z ρ w dv lv tv hN hf ha
 exact h Z0 ρ0 T0 w0 Z' ρ' w dv lv tv hN h1 h2
end
theorem ResP.mono {P : Program} {fn : Func} {n : Nat} {R R' : Value -> World -> Prop} (hk : ∀ v w, R v w -> R' v w) : ∀ (ds : List Nat) (loc : List Value) (w : World), ResP P fn n R ds loc w -> ResP P fn n R' ds loc w
 | [], _, _, h => fun look hl => let ⟨v, h1, h2⟩ := h look hl; ⟨v, h1, hk _ _ h2⟩
 | _ :: ds, loc, _, ⟨w', h1, h2⟩ => ⟨w', h1, ResP.mono hk ds loc w' h2⟩
theorem CallP.enterV {P : Program} {G : Nat -> AV} {T : Tbl} {K Zz : AV -> Tbl -> Eff -> Prop} (mp : Nat -> Bool) {f : FuncId} {fn : Func} {c : Code} {args : List AV} {m : Nat} {rs : List ResultVar} (n : Nat) (hf : P.funcs[f]? = some fn) (hm : fn.ntmps = m) (hrs : fn.results.toList = rs) (hb : fn.body = some c) (hn : (args.length <= n /\ n <= m)) (hok : codeOK m c = true) (hr : rsLt n rs = true)
 (h : codeB P ⟨G, mp, fun _ v T' E' => Vw G T Zz v T' E', []⟩ T.length none n m c [] (args ++ List.replicate (n - args.length) (.p undef)) [] T [] (retA P rs (Vw G T K)) (fun _ _ _ _ _ _ => False) (retA P rs (Vw G T K))) : CallP P G f args T K Zz := by
 subst hm; subst hrs
 intro Z ρ w vs hG hs ha
 have hl := ha.1
 refine RetQ.enterS n hf hb ⟨by simp; omega, hn.2⟩ ?_
 have hsem := codeB_sound c _ _ _ _ _ _ _ _ h hok Z ρ T w Z ρ w [] (vs ++ List.replicate (n - vs.length) undef) [] hs.len ⟨hG, hs, Ext.refl rfl⟩ ⟨.nil, ha.append (by rw [hl]; have := RelL.ps (Z := Z) (ρ := ρ) (List.replicate (n - vs.length) undef); rwa [List.map_replicate] at this), .nil⟩
 have e : (vs.toArray.toList ++ List.replicate (n - vs.toArray.size) undef) = vs ++ List.replicate (n - vs.length) undef := by simp
 rw [e]
 have seen : ∀ {K : AV -> Tbl -> Eff -> Prop} {x : Value} {w' : World}, Post Z ρ T w (fun v T' E' => Vw G T K v T' E') x w' -> Post Z ρ T w K x w' := by
  rintro K x w' ⟨Z', ρ', T', es, a, h1, h2, h3, h4⟩
  exact h4 Z ρ w Z' ρ' w' _ hs ⟨hG.mono h2.le, h1, h2⟩ h3
 refine hsem.mono fun e dv lv tv w' hq => ?_
 have ret : ∀ {dv : List Nat} {lv : List Value} {tv : List (Nat × Value)} {w' : World}, LK G Z ρ T w (retA P fn.results.toList (Vw G T K)) dv lv tv w' -> retQ P fn n (Post Z ρ T w K) dv lv tv w' := by
  rintro dv lv tv w' ⟨Z', ρ', T', E', ds', loc', tmp', g1, g2, g3, g4, g5⟩
  have := retA_sound g1 g2 g3 hr g5
  exact ResP.mono (fun _ _ h => seen h) _ _ _ this
 cases e with
 | normal => exact ret hq
 | ret => exact ret hq
 | exit i => obtain ⟨Z', ρ', T', E', ds', loc', tmp', g1, g2, g3, g4, g5⟩ := hq; exact g5.elim
 | panic c =>
   obtain ⟨v, rfl, rfl, Z', ρ', T', E', _, a, h1, _, h2, h3⟩ := hq
   exact ⟨v, rfl, rfl, seen ⟨Z', ρ', T', E', a, h1.st, h1.ext, h2, h3⟩⟩
 | _ => exact hq.elim
end Go.E
namespace Go.E
set_option maxRecDepth 100000 in
theorem vb :
 (∀ x P G ρ ty T K Zz, opB P G ρ (.move x) ty T K Zz = opA P G.g ρ (.move x) ty T K) /\
 (∀ x P G ρ ty T K Zz, opB P G ρ (.assign x) ty T K Zz = opA P G.g ρ (.assign x) ty T K) /\
 (∀ c a b P G ρ ty T K Zz, opB P G ρ (.pick c a b) ty T K Zz = opA P G.g ρ (.pick c a b) ty T K) /\
 (∀ e P G ρ ty T K Zz, opB P G ρ (.alloc e) ty T K Zz = opA P G.g ρ (.alloc e) ty T K) /\
 (∀ e v P G ρ ty T K Zz, opB P G ρ (.box e v) ty T K Zz = opA P G.g ρ (.box e v) ty T K) /\
 (∀ t ps P G ρ ty T K Zz, opB P G ρ (.build t ps) ty T K Zz = opA P G.g ρ (.build t ps) ty T K) /\
 (∀ t l ps P G ρ ty T K Zz, opB P G ρ (.buildSlice t l ps) ty T K Zz = opA P G.g ρ (.buildSlice t l ps) ty T K) /\
 (∀ t m k v P G ρ ty T K Zz, opB P G ρ (.insert t m k v) ty T K Zz = opA P G.g ρ (.insert t m k v) ty T K) /\
 (∀ t a P G ρ ty T K Zz, opB P G ρ (.load t a) ty T K Zz = opA P G.g ρ (.load t a) ty T K) /\
 (∀ t a v P G ρ ty T K Zz, opB P G ρ (.store t a v) ty T K Zz = opA P G.g ρ (.store t a v) ty T K) /\
 (∀ x P G ρ ty T K Zz, opB P G ρ (.nilCheck x) ty T K Zz = opA P G.g ρ (.nilCheck x) ty T K) /\
 (∀ op t x y u P G ρ ty T K Zz, opB P G ρ (.binOp op t x y u) ty T K Zz = opA P G.g ρ (.binOp op t x y u) ty T K) /\
 (∀ op t x P G ρ ty T K Zz, opB P G ρ (.unOp op t x) ty T K Zz = opA P G.g ρ (.unOp op t x) ty T K) /\
 (∀ s d x P G ρ ty T K Zz, opB P G ρ (.convert s d x) ty T K Zz = opA P G.g ρ (.convert s d x) ty T K) /\
 (∀ t x P G ρ ty T K Zz, opB P G ρ (.makeInterface t x) ty T K Zz = opA P G.g ρ (.makeInterface t x) ty T K) /\
 (∀ f a b P G ρ ty T K Zz, opB P G ρ (.makeFunc f a b) ty T K Zz = opA P G.g ρ (.makeFunc f a b) ty T K) /\
 (∀ t r P G ρ ty T K Zz, opB P G ρ (.makeMap t r) ty T K Zz = opA P G.g ρ (.makeMap t r) ty T K) /\
 (∀ t l c P G ρ ty T K Zz, opB P G ρ (.makeSlice t l c) ty T K Zz = opA P G.g ρ (.makeSlice t l c) ty T K) /\
 (∀ t x lo hi mx P G ρ ty T K Zz, opB P G ρ (.slice t x lo hi mx) ty T K Zz = opA P G.g ρ (.slice t x lo hi mx) ty T K) /\
 (∀ t x f P G ρ ty T K Zz, opB P G ρ (.fieldAddr t x f) ty T K Zz = opA P G.g ρ (.fieldAddr t x f) ty T K) /\
 (∀ t x f P G ρ ty T K Zz, opB P G ρ (.field t x f) ty T K Zz = opA P G.g ρ (.field t x f) ty T K) /\
 (∀ t x i P G ρ ty T K Zz, opB P G ρ (.indexAddr t x i) ty T K Zz = opA P G.g ρ (.indexAddr t x i) ty T K) /\
 (∀ t x i P G ρ ty T K Zz, opB P G ρ (.index t x i) ty T K Zz = opA P G.g ρ (.index t x i) ty T K) /\
 (∀ t x i b P G ρ ty T K Zz, opB P G ρ (.lookup t x i b) ty T K Zz = opA P G.g ρ (.lookup t x i b) ty T K) /\
 (∀ t m k v P G ρ ty T K Zz, opB P G ρ (.mapUpdate t m k v) ty T K Zz = opA P G.g ρ (.mapUpdate t m k v) ty T K) /\
 (∀ t m k P G ρ ty T K Zz, opB P G ρ (.mapEntry t m k) ty T K Zz = opA P G.g ρ (.mapEntry t m k) ty T K) /\
 (∀ t m s v P G ρ ty T K Zz, opB P G ρ (.entryStore t m s v) ty T K Zz = opA P G.g ρ (.entryStore t m s v) ty T K) /\
 (∀ t x P G ρ ty T K Zz, opB P G ρ (.range t x) ty T K Zz = opA P G.g ρ (.range t x) ty T K) /\
 (∀ x b P G ρ ty T K Zz, opB P G ρ (.next x b) ty T K Zz = opA P G.g ρ (.next x b) ty T K) /\
 (∀ x P G ρ ty T K Zz, opB P G ρ (.entry x) ty T K Zz = opA P G.g ρ (.entry x) ty T K) /\
 (∀ x t u b P G ρ ty T K Zz, opB P G ρ (.typeAssert x t u b) ty T K Zz = opA P G.g ρ (.typeAssert x t u b) ty T K) /\
 (∀ x i P G ρ ty T K Zz, opB P G ρ (.extract x i) ty T K Zz = opA P G.g ρ (.extract x i) ty T K) /\
 (∀ b ags ts P G ρ ty T K Zz, opB P G ρ (.call ⟨.builtin b, ags, ts⟩) ty T K Zz = opA P G.g ρ (.call ⟨.builtin b, ags, ts⟩) ty T K) /\
 (∀ x ags ts P G ρ ty T K Zz, opB P G ρ (.call ⟨.value x, ags, ts⟩) ty T K Zz = cllB P G (ρ x) (ags.toList.map ρ) T K Zz) /\
 (∀ x P G ρ ty T K Zz, opB P G ρ (.panic x) ty T K Zz = pncA (ρ x) T Zz) /\
 (∀ t u T Zz, pncA (.ic t u) T Zz = Zz (.ic t u) T []) /\
 (∀ t u T Zz, pncA (.p (.iface t u)) T Zz = Zz (.p (.iface t u)) T []) /\
 (∀ P G g ags T K Zz, cllB P G (.p (.func (.func g) ⟨[]⟩ ⟨[]⟩)) ags T K Zz = cllM (entered P g) (G.mp g) P G (.p (.func (.func g) ⟨[]⟩ ⟨[]⟩)) g ags ags T K Zz) /\
 (∀ P G g cs ags T K Zz, cllB P G (.fn g cs) ags T K Zz = cllM (entered P g) (G.mp g) P G (.fn g cs) g ags (ags ++ cs) T K Zz) /\
 (∀ P G i ags T K Zz, cllB P G (.yl i) ags T K Zz = callA P G.g (.yl i) ags T K) /\
 (∀ P G f g ags full T K Zz, cllM true true P G f g ags full T K Zz = CallP P G.g g full T K Zz) /\
 (∀ P G f g ags full T K Zz, cllM true false P G f g ags full T K Zz = callA P G.g f ags T K) /\
 (∀ m P G f g ags full T K Zz, cllM false m P G f g ags full T K Zz = callA P G.g f ags T K) /\
 (∀ P G N n ops ds loc tmp T E K, opsB P G N n ops ds [] loc tmp T E K = K ds loc tmp T E) /\
 (∀ P G N n ops ds dd o ty pos af gd rs loc tmp T E K, opsB P G N n ops ds (⟨dd, o, ty, pos, af, gd⟩ :: rs) loc tmp T E K = grdA ops ⟨dd, o, ty, pos, af, gd⟩ (evA G.g n loc tmp) (opB P G (evA G.g n loc tmp) o ty T (fun v T' es => putA n dd v (slots es loc) (slotsT es tmp) fun loc tmp => opsB P G N n ops (slots es ds) rs loc tmp T' (recE N es E) K) (fun v T' es => ds = [] /\ G.pan (slots es loc) v T' (recE N es E))) (putA n dd (.p undef) loc tmp fun loc tmp => opsB P G N n ops ds rs loc tmp T E K)) /\
 (∀  P G N ro n m ds loc tmp T E Nk X R, codeB P G N ro n m (.skip) ds loc tmp T E Nk X R = Nk ds loc tmp T E) /\
 (∀ i os P G N ro n m ds loc tmp T E Nk X R, codeB P G N ro n m (.region i os true) ds loc tmp T E Nk X R = SemB P G N ro n m (.region i os true) ds loc [] T E Nk X R) /\
 (∀ i os P G N ro n m ds loc tmp T E Nk X R, codeB P G N ro n m (.region i os false) ds loc tmp T E Nk X R = opsB P G N n os.toList ds os.toList loc [] T E Nk) /\
 (∀ a b P G N ro n m ds loc tmp T E Nk X R, codeB P G N ro n m (.seq a b) ds loc tmp T E Nk X R = codeB P G N ro n m a ds loc tmp T E (fun ds loc tmp T E => codeB P G N ro n m b ds loc tmp T E Nk X R) X R) /\
 (∀ x a b P G N ro n m ds loc tmp T E Nk X R, codeB P G N ro n m (.cond x a b) ds loc tmp T E Nk X R = bpA (evA G.g n loc tmp x) (codeB P G N ro n m a ds loc tmp T E Nk X R) (codeB P G N ro n m b ds loc tmp T E Nk X R)) /\
 (∀ i a P G N ro n m ds loc tmp T E Nk X R, codeB P G N ro n m (.block i a) ds loc tmp T E Nk X R = codeB P G N ro n m a ds loc tmp T E Nk (fun j => if j = i then Nk else X j) R) /\
 (∀ a P G N ro n m ds loc tmp T E Nk X R, codeB P G N ro n m (.loop a) ds loc tmp T E Nk X R = SemB P G N ro n m (.loop a) ds loc [] T E Nk X R) /\
 (∀ i P G N ro n m ds loc tmp T E Nk X R, codeB P G N ro n m (.exit i) ds loc tmp T E Nk X R = X i ds loc tmp T E) /\
 (∀  P G N ro n m ds loc tmp T E Nk X R, codeB P G N ro n m (.ret) ds loc tmp T E Nk X R = R ds loc tmp T E) /\
 (∀ a P G N ro n m ds loc tmp T E Nk X R, codeB P G N ro n m (.scope a) ds loc tmp T E Nk X R = codeB P G N ro n m a ds loc tmp T E Nk X R) /\
 (∀ i P G N ro n m ds loc tmp T E Nk X R, codeB P G N ro n m (.label i) ds loc tmp T E Nk X R = Nk ds loc tmp T E) /\
 (∀ x ps a b P G N ro n m ds loc tmp T E Nk X R, codeB P G N ro n m (.rangeFunc x ps a b) ds loc tmp T E Nk X R = SemB P G N ro n m (.rangeFunc x ps a b) ds loc tmp T E Nk X R) /\
 (∀ (g : Nat -> AV) mp pan df, (GG.mk g mp pan df).g = g) /\ (∀ (g : Nat -> AV) mp pan df, (GG.mk g mp pan df).mp = mp) /\ (∀ (g : Nat -> AV) mp pan df, (GG.mk g mp pan df).pan = pan) := by
 refine ⟨?_, ?_, ?_, ?_, ?_, ?_, ?_, ?_, ?_, ?_, ?_, ?_, ?_, ?_, ?_, ?_, ?_, ?_, ?_, ?_, ?_, ?_, ?_, ?_, ?_, ?_, ?_, ?_, ?_, ?_, ?_, ?_, ?_, ?_, ?_, ?_, ?_, ?_, ?_, ?_, ?_, ?_, ?_, ?_, ?_, ?_, ?_, ?_, ?_, ?_, ?_, ?_, ?_, ?_, ?_, ?_, ?_, ?_, ?_, ?_⟩ <;> intros <;> first | rfl | (rename_i m _ _ _ _ _ _ _ _ _; cases m <;> rfl)
end Go.E
namespace Go.E
section
variable {P : Program} {G : Nat -> AV} {Z Z' Z0 : Heap} {ρ ρ' ρ0 : List BI} {T T' T0 : Tbl} {w w' w0 : World} {a b : AV} {u v : Value} {K : AV -> Tbl -> Eff -> Prop} {cs : List AV} {es E : Eff}
variable {N n m : Nat} {ro : Option Nat} {ds loc : List AV} {tmp : List (Nat × AV)} {Nk R : AKont} {X : Nat -> AKont}
theorem SemA.adoptC {c : Code} {i k : Nat} {Ec : TypeId} (El : TypeId) (sz : Nat) (h0 : 0 < sz) (hi : N <= i) (hT : T[i]? = some (.cells Ec cs)) (hk : cs[k]? = some (.p (.slice none 0 0)))
 (h : SemA P G N ro n m c ds loc tmp (T.set i (.cells Ec (cs.set k (.sl T.length 0 0))) ++ [.buf El sz []]) E Nk X R) : SemA P G N ro n m c ds loc tmp T E Nk X R := by
 refine SemA.view ?_ h
 intro Z0 ρ0 T0 w0 Z ρ w dv lv tv hN hf ha
 obtain ⟨k1, k2⟩ := hf.st.push (w' := w) ⟨none, 0, true⟩ (.buf El sz []) hf.st.of (fun _ _ => rfl) ⟨⟨rfl, h0⟩, 0, by simp, Nat.le_refl _, .inl ⟨rfl, rfl, rfl⟩⟩ (fun b hb => by cases hb)
 have h1 := hf.step k1 k2
 have h2 := ha.step k2
 have hiT := (List.getElem?_eq_some_iff.1 hT).1
 have hT' : (T ++ [.buf El sz []])[i]? = some (.cells Ec cs) := by rw [List.getElem?_append_left hiT]; exact hT
 obtain ⟨x, hx⟩ : ∃ x, (ρ ++ [⟨none, 0, true⟩])[i]? = some x := ⟨_, List.getElem?_eq_getElem (by have := hf.st.len; simp; omega)⟩
 obtain ⟨h3, b, vs, g1, g2, g3⟩ := k1.obj _ _ _ hT' hx
 obtain ⟨v, hv, hr⟩ := g3.get hk
 have := hr.p_inv; subst this
 have h4 := g3.set (a := .sl T.length 0 0) (v := .slice none 0 0) (.sl (x := ⟨none, 0, true⟩) (by rw [<- hf.st.len]; simp) (fun _ => rfl) (Nat.le_refl _) (fun _ _ => rfl)) k
 have e : vs.set k (.slice none 0 0) = vs := by
  refine List.ext_getElem? fun j => ?_
  rw [List.getElem?_set]
  by_cases hj : k = j
  . subst hj
    obtain ⟨hl, he⟩ := List.getElem?_eq_some_iff.1 hv
    rw [if_pos rfl, if_pos hl, hv]
  . rw [if_neg hj]
 rw [e] at h4
 obtain ⟨k3, k4⟩ := k1.write (w' := w) hT' hx rfl (.cells Ec (cs.set k (.sl T.length 0 0))) rfl (fun _ _ => rfl) ⟨rfl, rfl⟩ ⟨h3, b, vs, g1, g2, h4⟩
 have e2 : (T ++ [AObj.buf El sz []]).set i (.cells Ec (cs.set k (.sl T.length 0 0))) = T.set i (.cells Ec (cs.set k (.sl T.length 0 0))) ++ [.buf El sz []] := List.set_append_left _ _ hiT
 rw [e2] at k3 k4
 have h5 := h1.step k3 k4
 refine ⟨_, _, ⟨h5.g, h5.st, h5.ext.more fun y hy hl => ?_⟩, h2.step k4⟩
 rcases recE_mem.1 hy with ⟨q1, q2⟩ | q1
 . simp only [List.mem_singleton] at q1
   subst q1
   simp only at q2; omega
 . exact q1
theorem CallA.pub {f : FuncId} {args : List AV} {i : Nat} {o : AObj} {K' : AV -> Tbl -> Eff -> Prop} (hT : T[i]? = some o) (hc : o.cs = some cs) (hcl : ∀ a ∈ cs, a.Clean)
 (h : CallA P G f (args.map (AV.pub i cs)) ((T.map (AObj.pub i cs)).set i .gone) K') (hk : ∀ v T' es, K' v T' es -> K v T' (es ++ [(i, false)])) : CallA P G f args T K := by
 intro Z ρ w vs hG hs ha
 obtain ⟨Z', h1, h2, h3, h4⟩ := hs.publish hT hc hcl
 exact (h Z' ρ w vs (hG.mono h3.le) h2 (ha.pub' h4)).mono fun v w' ⟨Z'', ρ', T', es, a, k1, k2, k3, k4⟩ => ⟨Z'', ρ', T', _, a, k1, h3.trans k2, k3, hk _ _ _ k4⟩
end
end Go.E
namespace Go.E
open Go.ChangeShapes Go.WideShapes Go.ChangeAt Go.RowKit
inductive Dat where
 | b (x : Bool)
 | i (k : IntKind) (n : Int)
 | s (x : ByteArray)
 | sl (l : List Dat)
 | ag (l : List Dat)
instance : Inhabited Dat := ⟨.ag []⟩
mutual
def Dat.avs : Dat -> List AV
 | .b x => [.p (.bool x)]
 | .i k n => [.p (.int k n)]
 | .s x => [.p (.string x)]
 | .sl l => [.vs (Dat.avsL l) l.length]
 | .ag l => Dat.avsL l
def Dat.avsL : List Dat -> List AV
 | [] => []
 | d :: r => Dat.avs d ++ Dat.avsL r
end
theorem Dat.avsL_eq : ∀ l : List Dat, Dat.avsL l = l.flatMap Dat.avs
 | [] => by rw [Dat.avsL]; rfl
 | d :: r => by rw [Dat.avsL, Dat.avsL_eq r]; rfl
mutual
def toD {H : Type} : DataW H -> Dat
 | .lit (.bool b) => .b b
 | .lit (.int k n) => .i k n
 | .lit (.string l) => .s ⟨l.toArray⟩
 | .nil => .sl []
 | .slice elems _ => .sl (toDs elems)
 | .agg parts => .ag (toDs parts)
 | _ => .ag []
def toDs {H : Type} : List (DataW H) -> List Dat
 | [] => []
 | d :: r => toD d :: toDs r
end
theorem toDs_eq {H : Type} : ∀ l : List (DataW H), toDs l = l.map toD
 | [] => by rw [toDs]; rfl
 | d :: r => by rw [toDs, toDs_eq r]; rfl
def Dat.arg : Dat -> AV
 | .ag l => .ag (l.flatMap Dat.avs)
 | d => d.avs.headD .any
inductive HasT (P : Program) : TypeId -> Dat -> Prop
 | b {t : TypeId} (h : P.underlying t = some .bool) (x : Bool) : HasT P t (.b x)
 | i {t : TypeId} {k : IntKind} (h : P.underlying t = some (.int k)) (n : Int) (hw : (Lit.int k n).wf = true) : HasT P t (.i k n)
 | s {t : TypeId} (h : P.underlying t = some .string) (x : ByteArray) (hs : x.size <= reachBytes) : HasT P t (.s x)
 | sl {t e : TypeId} (h : P.underlying t = some (.slice e)) (l : List Dat) (hl : l.length * P.bytesOf e <= reachBytes) (ha : ∀ d ∈ l, HasT P e d) : HasT P t (.sl l)
 | ar {t e : TypeId} {n : Nat} (h : P.underlying t = some (.array n e)) (l : List Dat) (hl : l.length = n) (ha : ∀ d ∈ l, HasT P e d) : HasT P t (.ag l)
 | st {t : TypeId} {fs : Array Field} (h : P.underlying t = some (.struct fs)) (l : List Dat) (hl : l.length = fs.size) (ha : ∀ (k : Nat) (f : Field) (d : Dat), fs[k]? = some f -> l[k]? = some d -> HasT P f.type d) : HasT P t (.ag l)
inductive HasTs (P : Program) : List TypeId -> List Dat -> Prop
 | nil : HasTs P [] []
 | cons {t : TypeId} {ts : List TypeId} {d : Dat} {ds : List Dat} (h : HasT P t d) (hs : HasTs P ts ds) : HasTs P (t :: ts) (d :: ds)
def tilesF (P : Program) : Nat -> List Field -> Option Nat
 | off, [] => some off
 | off, f :: r => if f.offset = off then tilesF P (off + P.cellsOf f.type) r else none
def argT (P : Program) (t : TypeId) : Bool := match P.underlying t with
 | some .bool => P.cellsOf t == 1
 | some (.int _) => P.cellsOf t == 1
 | some .string => P.cellsOf t == 1
 | some (.slice e) => P.cellsOf t == 1 && decide (0 < P.cellsOf e)
 | some (.array n e) => P.cellsOf t == n * P.cellsOf e
 | some (.struct fs) => tilesF P 0 fs.toList == some (P.cellsOf t)
 | _ => false
def kidsT (P : Program) (t : TypeId) : List TypeId := match P.underlying t with
 | some (.slice e) => [e]
 | some (.array _ e) => [e]
 | some (.struct fs) => fs.toList.map (·.type)
 | _ => []
def closedT (P : Program) (ts : List TypeId) : Bool := ts.all fun t => argT P t && (kidsT P t).all fun k => ts.contains k
def wholeH (W : World) : Heap := ⟨fun b => W.heap[b]?, W.os, W.output, fun _ => none⟩
theorem wholeH_whole (W : World) : (whole W).holds (wholeH W) := ⟨fun _ _ h => h, rfl, rfl⟩
theorem rel_row {Z : Heap} {ρ : List BI} {cs : List AV} {vs : List Value} {a : Option Addr} {n m : Nat} (h : RelL Z [] cs vs) (hn : n <= m) (ha : (arr a vs).holds Z) : Rel Z ρ (.vs cs n) (.slice a n m) := by
 rcases ha with rfl | ⟨p, c, T, fr, rfl, h1, h2, h3⟩
 . exact .vs0 (.inl (List.eq_nil_of_length_eq_zero h.1)) hn
 . obtain ⟨b, o, s⟩ := p
   simp only at h1 h2 h3
   subst h1
   refine .vs (f := fun k => vs.getD k undef) hn h2 (fun k hk => ?_) fun k hk => ?_
   . have hk' : k < vs.length := by rw [<- h.1]; exact hk
     exact h3 k _ (by simp [List.getD, hk'])
   . have hk' : k < vs.length := by rw [<- h.1]; exact hk
     exact h.2 k _ _ (by simp [hk]) (by simp [List.getD, hk'])
theorem rel_vp0 {Z : Heap} {ρ : List BI} {cs : List AV} {vs : List Value} {b : Nat} (h : RelL Z [] cs vs) (hne : vs ≠ []) (ha : (arr (some ⟨b, 0, none⟩) vs).holds Z) : Rel Z ρ (.vp cs 0) (.pointer (some ⟨b, 0, none⟩)) := by
 rcases ha with rfl | ⟨p, c, T, fr, hp, h1, h2, h3⟩
 . exact absurd rfl hne
 . cases hp
   refine .vp (o := 0) (off := 0) (f := fun k => vs.getD k undef) h2 (fun k hk => ?_) fun k hk => ?_
   . have hk' : k < vs.length := by rw [<- h.1]; exact hk
     exact h3 k _ (by simp [List.getD, hk'])
   . have hk' : k < vs.length := by rw [<- h.1]; exact hk
     exact h.2 k _ _ (by simp [hk]) (by simp [List.getD, hk'])
section
variable {H : Type} {enc : TypeId × Value -> H} {P : Program} {W : World} {base : Nat} {sp : Nat -> Bool} {held : Bool}
theorem weightsAll_each {e : TypeId} {l : List (DataW H)} {B : Nat} (h : ∀ n ∈ DataW.weightsAll P e l, n <= B) {d : DataW H} (hd : d ∈ l) : ∀ n ∈ d.weights P e, n <= B := fun n hn => h n (weightsAll_mem hd n hn)
theorem weightsEach_at : ∀ {ts : List TypeId} {l : List (DataW H)} {k : Nat} {t : TypeId} {d : DataW H}, ts[k]? = some t -> l[k]? = some d -> ∀ n ∈ d.weights P t, n ∈ DataW.weightsEach P ts l
 | [], _, _, _, _, h, _ => by simp at h
 | _ :: _, [], _, _, _, _, h => by simp at h
 | t :: ts, d :: l, 0, _, _, h, h' => by
   simp at h h'; subst h; subst h'
   intro n hn; simp [DataW.weightsEach, hn]
 | t :: ts, d :: l, k + 1, _, _, h, h' => by
   intro n hn
   simp only [DataW.weightsEach, List.mem_append]
   exact .inr (weightsEach_at (by simpa using h) (by simpa using h') n hn)
theorem RelL.flat {Z : Heap} {ρ : List BI} : ∀ {l : List Dat} {vss : List (List Value)}, l.length = vss.length -> (∀ (k : Nat) (d : Dat) (vs : List Value), l[k]? = some d -> vss[k]? = some vs -> RelL Z ρ d.avs vs) -> RelL Z ρ (l.flatMap Dat.avs) vss.flatten
 | [], [], _, _ => by simpa using RelL.nil
 | d :: l, vs :: vss, hl, h => by
   rw [List.flatMap_cons, List.flatten_cons]
   exact (h 0 d vs rfl rfl).append (RelL.flat (by simpa using hl) fun k d' vs' h1 h2 => h (k + 1) d' vs' (by simpa using h1) (by simpa using h2))
theorem trod_dat {ts : List TypeId} (hc : closedT P ts = true) : ∀ (fuel : Nat) (t : TypeId) (cs : List Value) (x : DataW H × List MemPlace), t ∈ ts -> DataW.trod enc P W base sp held fuel t cs = some x -> (∀ n ∈ x.1.weights P t, n <= reachBytes) ->
 ∃ d : Dat, HasT P t d /\ RelL (wholeH W) [] d.avs cs /\ cs.length = P.cellsOf t /\ d = toD x.1 := by
 intro fuel
 induction fuel with
 | zero => intro t cs x _ h; simp [DataW.trod] at h
 | succ fuel ih =>
   intro t cs x ht h hz
   have hct := List.all_eq_true.1 hc t ht
   rw [Bool.and_eq_true] at hct
   obtain ⟨hA, hK⟩ := hct
   have hKid : ∀ k ∈ kidsT P t, k ∈ ts := fun k hk => by simpa using List.all_eq_true.1 hK k hk
   unfold argT at hA
   unfold kidsT at hKid
   cases hu : P.underlying t with
   | none => simp [hu] at hA
   | some D =>
     rw [hu] at hA hKid
     cases D with
     | bool =>
       obtain ⟨b, rfl, rfl⟩ := DataW.trod_bool hu h
       exact ⟨.b b, .b hu b, by rw [Dat.avs]; exact .cons (.p _) .nil, by simp at hA; simp [hA], by rw [toD]⟩
     | int k =>
       obtain ⟨n, rfl, rfl, hw⟩ := DataW.trod_int hu h
       exact ⟨.i k n, .i hu n hw, by rw [Dat.avs]; exact .cons (.p _) .nil, by simp at hA; simp [hA], by rw [toD]⟩
     | string =>
       obtain ⟨s, rfl, rfl, hs⟩ := DataW.trod_string hu h
       refine ⟨.s s, .s hu s ?_, by rw [Dat.avs]; exact .cons (.p _) .nil, by simp at hA; simp [hA], by rw [toD]⟩
       have := hz s.data.toList.length (by simp [DataW.weights])
       simpa using this
     | slice e =>
       simp only [Bool.and_eq_true, beq_iff_eq, decide_eq_true_eq] at hA
       have hks := hKid e (by simp)
       rcases DataW.trod_slice hu h with ⟨rfl, rfl⟩ | ⟨a, len, cap, elems, rest, n, hn, rfl, rfl, hb, hlc, hcm, hlen, hel, hsp, hns⟩
       . exact ⟨.sl [], .sl hu [] (by simp) (by simp), by rw [Dat.avs, Dat.avsL]; exact .cons (.vs0 (.inl rfl) (Nat.le_refl _)) .nil, by simp [hA.1], by rw [toD]⟩
       . cases hn
         have hw : (elems.length + rest.length) * P.bytesOf e <= reachBytes /\ ∀ d ∈ elems.map (·.1), ∀ n ∈ d.weights P e, n <= reachBytes := by
          simp only [DataW.weights, hu, List.mem_cons, List.mem_append] at hz
          refine ⟨?_, fun d hd n hn => hz n (.inr (.inl (weightsAll_mem hd n hn)))⟩
          have := hz _ (.inl rfl)
          simpa using this
         have each : ∀ i, i < len -> ∃ y : Dat × List Value, W.cells? base (a.add (i * P.cellsOf e)) (P.cellsOf e) = some y.2 /\ HasT P e y.1 /\ RelL (wholeH W) [] y.1.avs y.2 /\ y.2.length = P.cellsOf e /\ elems[i]?.map (fun z => toD z.1) = some y.1 := by
          intro i hi
          have := hel i hi
          rw [List.getElem?_eq_getElem (by omega)] at this
          obtain ⟨cs', h1, h2⟩ := Option.bind_eq_some_iff.1 this
          obtain ⟨d, g1, g2, g3, g4⟩ := ih e cs' _ hks h2 (hw.2 _ (List.mem_map.2 ⟨_, List.getElem_mem _, rfl⟩))
          exact ⟨(d, cs'), h1, g1, g2, g3, by rw [List.getElem?_eq_getElem (by omega), Option.map_some, g4]⟩
         obtain ⟨F, hF⟩ := Deep.choose_lt each
         refine ⟨.sl ((List.range len).map fun i => (F i).1), .sl hu _ ?_ ?_, ?_, by simp [hA.1], ?_⟩
         . refine Nat.le_trans (Nat.mul_le_mul_right _ ?_) hw.1
           simp; omega
         . intro d hd
           obtain ⟨i, hi, rfl⟩ := List.mem_map.1 hd
           exact (hF i (by simpa using hi)).2.1
         . rw [Dat.avs, Dat.avsL_eq]
           have e1 : ((List.range len).map fun i => (F i).1).length = len := by simp
           rw [e1]
           refine .cons (rel_row (vs := ((List.range len).map fun i => (F i).2).flatten) (.flat (by simp) fun k d vs h1 h2 => ?_) hlc (arr_holds (wholeH_whole W) ?_)) .nil
           . simp only [List.getElem?_map, Option.map_eq_some_iff] at h1 h2
             obtain ⟨k1, g1, rfl⟩ := h1
             obtain ⟨k2, g2, rfl⟩ := h2
             rw [g1] at g2; cases g2
             have hk : k1 < len := by
              have := List.mem_of_getElem? g1; simpa using this
             exact (hF k1 hk).2.2.1
           . by_cases hl0 : len = 0
             . subst hl0; exact .inl (by simp)
             . obtain ⟨q1, q2, q3⟩ := World.cells?_some (hF 0 (by omega)).1
               have hspot : a.spot = none := by
                have := q3 0 hA.2
                obtain ⟨v, hv⟩ : ∃ v, (F 0).2[0]? = some v := ⟨_, List.getElem?_eq_getElem (by rw [q2]; exact hA.2)⟩
                rw [hv] at this
                have := spot_none this
                simpa [Addr.add] using this
               refine .inr ⟨a, rfl, hspot, fun k v hk => ?_⟩
               have hsz : 0 < P.cellsOf e := hA.2
               have key : ∀ (n : Nat), (∀ i, i < n -> ((F i).2).length = P.cellsOf e) -> ∀ k : Nat, (((List.range n).map fun i => (F i).2).flatten)[k]? = if k < n * P.cellsOf e then (F (k / P.cellsOf e)).2[k % P.cellsOf e]? else none := by
                intro n
                induction n with
                | zero => intro _ k; simp
                | succ n ihn =>
                  intro hh k
                  have hl2 : (((List.range n).map fun i => (F i).2).flatten).length = n * P.cellsOf e := by
                   clear ihn
                   induction n with
                   | zero => simp
                   | succ n ihm =>
                     rw [List.range_succ, List.map_append, List.flatten_append, List.length_append, ihm fun i hi => hh i (by omega)]
                     simp [hh n (by omega), Nat.succ_mul]
                  rw [List.range_succ, List.map_append, List.flatten_append, List.getElem?_append, hl2]
                  by_cases hkn : k < n * P.cellsOf e
                  . rw [if_pos hkn, ihn (fun i hi => hh i (by omega)), if_pos hkn, if_pos (by rw [Nat.succ_mul]; omega)]
                  . rw [if_neg hkn]
                    simp only [List.map_cons, List.map_nil, List.flatten_cons, List.flatten_nil, List.append_nil]
                    by_cases hkn2 : k < (n + 1) * P.cellsOf e
                    . rw [if_pos hkn2]
                      rw [Nat.succ_mul] at hkn2
                      have hd : k / P.cellsOf e = n := by
                       refine Nat.div_eq_of_lt_le (by omega) (by rw [Nat.succ_mul]; omega)
                      have hm : k % P.cellsOf e = k - n * P.cellsOf e := by
                       have := Nat.div_add_mod k (P.cellsOf e)
                       rw [hd, Nat.mul_comm] at this; omega
                      rw [hd, hm]
                    . rw [if_neg hkn2, List.getElem?_eq_none]
                      rw [hh n (by omega)]; rw [Nat.succ_mul] at hkn2; omega
               rw [key len (fun i hi => (hF i hi).2.2.2.1)] at hk
               split at hk
               . rename_i hkl
                 have hi : k / P.cellsOf e < len := Nat.div_lt_of_lt_mul (by rw [Nat.mul_comm]; exact hkl)
                 obtain ⟨_, _, g3⟩ := World.cells?_some (hF _ hi).1
                 have := g3 (k % P.cellsOf e) (Nat.mod_lt _ hsz)
                 rw [hk, Deep.add_add] at this
                 rwa [show k / P.cellsOf e * P.cellsOf e + k % P.cellsOf e = k by rw [Nat.mul_comm]; exact Nat.div_add_mod _ _] at this
               . cases hk
         . rw [toD, toDs_eq, List.map_map]
           refine congrArg Dat.sl (List.ext_getElem? fun i => ?_)
           by_cases hi : i < len
           . have := (hF i hi).2.2.2.2
             rw [List.getElem?_map, List.getElem?_map, List.getElem?_range hi]
             exact this.symm
           . rw [List.getElem?_eq_none (by simp; omega), List.getElem?_eq_none (by simp; omega)]
     | array n e =>
       simp only [beq_iff_eq] at hA
       have hks := hKid e (by simp)
       obtain ⟨xs, m, hm, rfl, hl, hlx, hel⟩ := DataW.trod_array hu h
       cases hm
       have hw : ∀ d ∈ xs.map (·.1), ∀ n ∈ d.weights P e, n <= reachBytes := by
        simp only [DataW.weights, hu] at hz
        exact fun d hd => weightsAll_each hz hd
       have each : ∀ i, i < n -> ∃ d : Dat, (HasT P e d /\ RelL (wholeH W) [] d.avs ((cs.drop (i * P.cellsOf e)).take (P.cellsOf e))) /\ xs[i]?.map (fun z => toD z.1) = some d := by
        intro i hi
        have := hel i hi
        rw [List.getElem?_eq_getElem (by omega)] at this
        obtain ⟨d, g1, g2, g3, g4⟩ := ih e _ _ hks this (hw _ (List.mem_map.2 ⟨_, List.getElem_mem _, rfl⟩))
        exact ⟨d, ⟨g1, g2⟩, by rw [List.getElem?_eq_getElem (by omega), Option.map_some, g4]⟩
       obtain ⟨F, hF'⟩ := Deep.choose_lt each
       have hF := fun i hi => (hF' i hi).1
       refine ⟨.ag ((List.range n).map F), .ar hu _ (by simp) ?_, ?_, hl, ?_⟩
       . intro d hd
         obtain ⟨i, hi, rfl⟩ := List.mem_map.1 hd
         exact (hF i (by simpa using hi)).1
       . rw [Dat.avs, Dat.avsL_eq]
         have e2 : cs = ((List.range n).map fun i => (cs.drop (i * P.cellsOf e)).take (P.cellsOf e)).flatten := by
          have : ∀ n : Nat, cs.take (n * P.cellsOf e) = ((List.range n).map fun i => (cs.drop (i * P.cellsOf e)).take (P.cellsOf e)).flatten := by
           intro n
           induction n with
           | zero => simp
           | succ n ihn => rw [List.range_succ, List.map_append, List.flatten_append, <- ihn, Nat.succ_mul, List.take_add]; simp
          rw [<- this n, List.take_of_length_le (by omega)]
         rw [e2]
         refine .flat (by simp) fun k d vs h1 h2 => ?_
         simp only [List.getElem?_map, Option.map_eq_some_iff] at h1 h2
         obtain ⟨k1, g1, rfl⟩ := h1
         obtain ⟨k2, g2, rfl⟩ := h2
         rw [g1] at g2; cases g2
         have hk : k1 < n := by
          have := List.mem_of_getElem? g1; simpa using this
         exact (hF k1 hk).2
       . rw [toD, toDs_eq, List.map_map]
         refine congrArg Dat.ag (List.ext_getElem? fun i => ?_)
         by_cases hi : i < n
         . have := (hF' i hi).2
           rw [List.getElem?_map, List.getElem?_map, List.getElem?_range hi]
           exact this.symm
         . rw [List.getElem?_eq_none (by simp; omega), List.getElem?_eq_none (by simp; omega)]
     | struct fs =>
       simp only [beq_iff_eq] at hA
       obtain ⟨xs, m, hm, rfl, hl, hlx, hel⟩ := DataW.trod_struct hu h
       cases hm
       have hw : ∀ (k : Nat) (f : Field) (d : DataW H), fs[k]? = some f -> (xs.map (·.1))[k]? = some d -> ∀ n ∈ d.weights P f.type, n <= reachBytes := by
        simp only [DataW.weights, hu] at hz
        intro k f d hf hd n hn
        exact hz n (weightsEach_at (k := k) (by rw [List.getElem?_map]; simp [hf]) hd n hn)
       have each : ∀ i, i < fs.size -> ∃ d : Dat, (∀ f, fs[i]? = some f -> HasT P f.type d /\ RelL (wholeH W) [] d.avs ((cs.drop f.offset).take (P.cellsOf f.type))) /\ xs[i]?.map (fun z => toD z.1) = some d := by
        intro i hi
        have hf : fs[i]? = some fs[i] := by simp [hi]
        have := hel i fs[i] hf
        have hx : xs[i]? = some (xs[i]'(by omega)) := List.getElem?_eq_getElem (by omega)
        rw [hx] at this
        obtain ⟨d, g1, g2, g3, g4⟩ := ih fs[i].type _ _ (hKid _ (List.mem_map.2 ⟨fs[i], by simp, rfl⟩)) this (hw i _ _ hf (by rw [List.getElem?_map, hx]; rfl))
        refine ⟨d, fun f hf' => ?_, by rw [hx, Option.map_some, g4]⟩
        rw [hf] at hf'; cases hf'
        exact ⟨g1, g2⟩
       obtain ⟨F, hF'⟩ := Deep.choose_lt each
       have hF := fun i hi => (hF' i hi).1
       refine ⟨.ag ((List.range fs.size).map F), .st hu _ (by simp) ?_, ?_, hl, ?_⟩
       . intro k f d hf hd
         simp only [List.getElem?_map, Option.map_eq_some_iff] at hd
         obtain ⟨k1, g1, rfl⟩ := hd
         have hk : k < fs.size := (Array.getElem?_eq_some_iff.1 hf).1
         have : k1 = k := by simpa [hk] using g1.symm
         subst this
         exact (hF k1 hk f hf).1
       . rw [Dat.avs, Dat.avsL_eq]
         have key : ∀ (l : List Field) (F : Nat -> Dat) (off : Nat), tilesF P off l = some (P.cellsOf t) -> off <= cs.length -> (∀ (i : Nat) (f : Field), l[i]? = some f -> RelL (wholeH W) [] (F i).avs ((cs.drop f.offset).take (P.cellsOf f.type))) ->
          RelL (wholeH W) [] (((List.range l.length).map F).flatMap Dat.avs) (cs.drop off) := by
          intro l
          induction l with
          | nil =>
            intro F off ht ho _
            simp only [tilesF, Option.some.injEq] at ht
            rw [List.drop_of_length_le (by omega)]
            simpa using RelL.nil
          | cons f l ihl =>
            intro F off ht ho hh
            simp only [tilesF] at ht
            split at ht
            . rename_i hfo
              have h0 := hh 0 f rfl
              have hle : off + P.cellsOf f.type <= cs.length := by
               have mono : ∀ (l : List Field) (o r : Nat), tilesF P o l = some r -> o <= r := by
                intro l
                induction l with
                | nil => intro o r h; simp [tilesF] at h; omega
                | cons g l ihg =>
                  intro o r h
                  simp only [tilesF] at h
                  split at h
                  . have := ihg _ _ h; omega
                  . cases h
               have := mono _ _ _ ht
               omega
              have h1 := ihl (fun i => F (i + 1)) _ ht hle fun i f' hf' => hh (i + 1) f' (by simpa using hf')
              rw [List.length_cons, List.range_succ_eq_map, List.map_cons, List.flatMap_cons, List.map_map]
              have e3 : cs.drop off = (cs.drop off).take (P.cellsOf f.type) ++ cs.drop (off + P.cellsOf f.type) := by
               rw [<- List.drop_drop, List.take_append_drop]
              rw [e3]
              rw [hfo] at h0
              exact h0.append h1
            . cases ht
         have := key fs.toList F 0 hA (Nat.zero_le _) fun i f hf => (hF i (by have := (List.getElem?_eq_some_iff.1 hf).1; simpa using this) f (by simpa using hf)).2
         simpa using this
       . rw [toD, toDs_eq, List.map_map]
         refine congrArg Dat.ag (List.ext_getElem? fun i => ?_)
         by_cases hi : i < fs.size
         . have := (hF' i hi).2
           rw [List.getElem?_map, List.getElem?_map, List.getElem?_range hi]
           exact this.symm
         . rw [List.getElem?_eq_none (by simp; omega), List.getElem?_eq_none (by simp; omega)]
     | _ => simp at hA
theorem arg_dat {ts : List TypeId} (hc : closedT P ts = true) {t : TypeId} {v : Value} {d : DataW H} {p : List MemPlace} {r : Reach} {b0 : Nat} (ht : t ∈ ts) (hv : Value.okWide P W r b0 t v) (h : DataW.Trod enc P W base sp held t v d p)
 (hz : ∀ n ∈ d.weights P t, n <= reachBytes) : ∃ x : Dat, (HasT P t x /\ Rel (wholeH W) [] x.arg v) /\ x = toD d := by
 obtain ⟨fuel, h⟩ := h
 obtain ⟨x, h1, h2, h3, h4⟩ := trod_dat hc fuel t _ _ ht h hz
 refine ⟨x, ⟨h1, ?_⟩, h4⟩
 clear h4
 have one : ∀ {a : AV}, RelL (wholeH W) [] [a] v.cells.toList -> v.cells = #[v] -> Rel (wholeH W) [] a v := by
  intro a h e
  rw [e] at h
  exact h.2 0 _ _ rfl rfl
 cases h1 with
 | b hu x => rw [Dat.avs] at h2; obtain ⟨b, rfl⟩ := okWide_bool hu hv; simp only [Dat.arg, Dat.avs]; exact one h2 rfl
 | i hu n hw => rw [Dat.avs] at h2; obtain ⟨b, rfl⟩ := okWide_int hu hv; simp only [Dat.arg, Dat.avs]; exact one h2 rfl
 | s hu x hs => rw [Dat.avs] at h2; obtain ⟨b, rfl⟩ := okWide_string hu hv; simp only [Dat.arg, Dat.avs]; exact one h2 rfl
 | sl hu l hl ha => rw [Dat.avs] at h2; obtain ⟨a, n, c, rfl⟩ := okWide_slice hu hv; simp only [Dat.arg, Dat.avs]; exact one h2 rfl
 | ar hu l hl ha =>
   rw [Dat.avs, Dat.avsL_eq] at h2
   unfold Value.okWide at hv
   rw [hu] at hv
   obtain ⟨cs, rfl, _⟩ := hv
   simp only [Dat.arg]
   have := Rel.ag' h2
   simpa [Value.cells] using this
 | st hu l hl ha =>
   rw [Dat.avs, Dat.avsL_eq] at h2
   unfold Value.okWide at hv
   rw [hu] at hv
   obtain ⟨cs, rfl, _⟩ := hv
   simp only [Dat.arg]
   have := Rel.ag' h2
   simpa [Value.cells] using this
theorem args_dat {tys : List TypeId} (hc : closedT P tys = true) {r : Reach} {b0 : Nat} : ∀ {ts : List TypeId} {vs : List Value} {ds : List (DataW H)} {ps : List MemPlace}, (ts.all fun t => tys.contains t) = true -> DataW.TrodAll enc P W base sp held ts vs ds ps ->
 (∀ (j : Nat) (t : TypeId) (v : Value), ts[j]? = some t -> vs[j]? = some v -> Value.okWide P W r b0 t v) -> (∀ n ∈ DataW.weightsEach P ts ds, n <= reachBytes) -> ∃ xs : List Dat, (HasTs P ts xs /\ RelL (wholeH W) [] (xs.map Dat.arg) vs) /\ xs = ds.map toD
 | [], vs, ds, ps, _, h, _, _ => by obtain ⟨rfl, rfl, rfl⟩ := trodAll_nil h; exact ⟨[], ⟨.nil, .nil⟩, rfl⟩
 | t :: ts, vs, ds, ps, hr, h, hv, hz => by
   obtain ⟨v, vs', d, ds', p, q, rfl, rfl, rfl, h0, r0⟩ := trodAll_cons h
   simp only [List.all_cons, Bool.and_eq_true] at hr
   simp only [DataW.weightsEach, List.mem_append] at hz
   obtain ⟨x, ⟨g1, g2⟩, g5⟩ := arg_dat hc (by simpa using hr.1) (hv 0 _ _ rfl rfl) h0 fun n hn => hz n (.inl hn)
   obtain ⟨xs, ⟨g3, g4⟩, g6⟩ := args_dat hc hr.2 r0 (fun j t' v' h1 h2 => hv (j + 1) t' v' (by simpa using h1) (by simpa using h2)) fun n hn => hz n (.inr hn)
   exact ⟨x :: xs, ⟨.cons g1 g3, by simpa using RelL.cons g2 g4⟩, by rw [List.map_cons, g5, g6]⟩
theorem st_begin (W : World) : St (wholeH W) [] [] W := ⟨⟨fun b o h => h, rfl, rfl⟩, rfl, fun i o x h => by simp at h, fun i o x b h => by simp at h⟩
theorem law_callsU {f : FuncId} {fn : Func} {s : ChangeSpec} {args : Array Value} {ds gs : List (DataW H)} {before : List MemPlace} {G : Nat -> AV} {tys : List TypeId} {r : Reach} {b0 : Nat} (tb : TypeId) (hl : laidOutB P = true) (hr : (fn.params.toList.all fun t => P.readableRec t && decide (t < P.types.size)) = true)
 (hres : fn.resultTypes = #[tb]) (htb : P.underlying tb = some .bool) (hvars : s.vars = []) (hfn : s.fn H (ds ++ gs) = { results := [.lit (.bool true)], args := ds })
 (hW : DataW.Whole enc P fn.params.toList s.vars false W args.toList ds gs before) (hc : closedT P tys = true) (hp : (fn.params.toList.all fun t => tys.contains t) = true)
 (hval : ∀ (j : Nat) t v, fn.params[j]? = some t -> args[j]? = some v -> Value.okWide P W r b0 t v)
 (hz : (DataW.weightsEach P (fn.params.toList ++ s.plain.varTypes P) (ds ++ gs)).all (· <= reachBytes) = true)
 (hG : GOK G (wholeH W)) (h : ∀ xs : List Dat, HasTs P fn.params.toList xs -> xs = ds.map toD -> CallA P G f (xs.map Dat.arg) [] fun v _ _ => v = .p (.bool true)) :
 Calls P f args W fun e W' => ∃ v, e = .returned v /\ s.post enc P fn false true false false W args v W' := by
 refine law_calls tb hl hr hres htb hvars hfn hW ?_
 obtain ⟨p, q, hA, hV, rfl, hfz, hnd⟩ := hW
 rw [hvars] at hV
 obtain ⟨rfl, rfl⟩ := trodVars_none hV
 have hz' : ∀ n ∈ DataW.weightsEach P fn.params.toList ds, n <= reachBytes := by
  have e : s.plain.varTypes P = [] := by
   simp [DataSpec.varTypes, ChangeSpec.plain, hvars]
  rw [e, List.append_nil, List.append_nil] at hz
  intro n hn
  simpa using List.all_eq_true.1 hz n hn
 obtain ⟨xs, ⟨h1, h2⟩, h3⟩ := args_dat hc hp hA (fun j t v h1 h2 => hval j t v (by simpa using h1) (by simpa using h2)) hz'
 have := h xs h1 h3 (wholeH W) [] W args.toList hG (st_begin W) h2
 rw [Array.toArray_toList] at this
 refine this.mono ?_
 rintro v w' ⟨Z', ρ', T', es, a, k1, k2, k3, rfl⟩
 exact ⟨k3.p_inv, [], [whole W], ⟨wholeH W, [], ⟨fun b o h => by have h2 := k1.of.1 b o (k2.le.1 b o h); rw [k2.le.2.2.2 b o h] at h2; exact h2, k1.of.2.1.trans k2.le.2.1, k1.of.2.2.trans k2.le.2.2.1⟩, trivial, by simp, by simp, fun φ hφ => by
  simp only [List.mem_singleton] at hφ; subst hφ; exact wholeH_whole W⟩, by simp⟩
theorem law_callsA {f : FuncId} {fn : Func} {s : ChangeSpec} {args : Array Value} {ds gs : List (DataW H)} {before : List MemPlace} {G : Nat -> AV} {tys : List TypeId} {r : Reach} {b0 : Nat} (tb : TypeId) (hl : laidOutB P = true) (hr : (fn.params.toList.all fun t => P.readableRec t && decide (t < P.types.size)) = true)
 (hres : fn.resultTypes = #[tb]) (htb : P.underlying tb = some .bool) (hvars : s.vars = []) (hfn : s.fn H (ds ++ gs) = { results := [.lit (.bool true)], args := ds })
 (hW : DataW.Whole enc P fn.params.toList s.vars false W args.toList ds gs before) (hc : closedT P tys = true) (hp : (fn.params.toList.all fun t => tys.contains t) = true)
 (hval : ∀ (j : Nat) t v, fn.params[j]? = some t -> args[j]? = some v -> Value.okWide P W r b0 t v)
 (hz : (DataW.weightsEach P (fn.params.toList ++ s.plain.varTypes P) (ds ++ gs)).all (· <= reachBytes) = true)
 (hG : GOK G (wholeH W)) (h : ∀ xs : List Dat, HasTs P fn.params.toList xs -> CallA P G f (xs.map Dat.arg) [] fun v _ _ => v = .p (.bool true)) :
 Calls P f args W fun e W' => ∃ v, e = .returned v /\ s.post enc P fn false true false false W args v W' :=
 law_callsU tb hl hr hres htb hvars hfn hW hc hp hval hz hG fun xs h1 _ => h xs h1
end
theorem HasT.int {P : Program} {t : TypeId} {k : IntKind} {d : Dat} (h : HasT P t d) (hu : P.underlying t = some (.int k)) : ∃ n : Int, d = .i k n /\ (Lit.int k n).wf = true := by
 cases h with
 | i h' n hw => rw [hu] at h'; cases h'; exact ⟨n, rfl, hw⟩
 | b h' x => rw [hu] at h'; cases h'
 | s h' x hs => rw [hu] at h'; cases h'
 | sl h' l hl ha => rw [hu] at h'; cases h'
 | ar h' l hl ha => rw [hu] at h'; cases h'
 | st h' l hl ha => rw [hu] at h'; cases h'
theorem HasT.slice {P : Program} {t e : TypeId} {d : Dat} (h : HasT P t d) (hu : P.underlying t = some (.slice e)) : ∃ l : List Dat, d = .sl l /\ l.length * P.bytesOf e <= reachBytes /\ ∀ x ∈ l, HasT P e x := by
 cases h with
 | sl h' l hl ha => rw [hu] at h'; cases h'; exact ⟨l, rfl, hl, ha⟩
 | b h' x => rw [hu] at h'; cases h'
 | i h' n hw => rw [hu] at h'; cases h'
 | s h' x hs => rw [hu] at h'; cases h'
 | ar h' l hl ha => rw [hu] at h'; cases h'
 | st h' l hl ha => rw [hu] at h'; cases h'
theorem open_each {α : Type} {P : Program} {e : TypeId} {f : α -> Dat} (h1 : ∀ d, HasT P e d -> ∃ a, d = f a) : ∀ {l : List Dat}, (∀ d ∈ l, HasT P e d) -> ∃ zs : List α, l = zs.map f
 | [], _ => ⟨[], rfl⟩
 | d :: l, h => by
   obtain ⟨a, rfl⟩ := h1 d (h d (by simp))
   obtain ⟨zs, rfl⟩ := open_each h1 (l := l) fun x hx => h x (by simp [hx])
   exact ⟨a :: zs, rfl⟩
theorem open_u8 {P : Program} {e : TypeId} (hu : P.underlying e = some (.int .u8)) (d : Dat) (h : HasT P e d) : ∃ a : UInt8, d = .i .u8 (a.toNat : Int) := by
 obtain ⟨n, rfl, hw⟩ := h.int hu
 have hz : 0 <= n /\ n <= 255 := by simpa [Lit.wf, IntKind.min, IntKind.max, IntKind.signed, IntKind.bits] using hw
 exact ⟨UInt8.ofNat n.toNat, by rw [UInt8.toNat_ofNat']; congr 1; omega⟩
theorem flat_one {α : Type} (g : α -> Dat) (h : α -> AV) (hh : ∀ a, (g a).avs = [h a]) (l : List α) : (l.map g).flatMap Dat.avs = l.map h := by
 induction l with
 | nil => rfl
 | cons a l ih => rw [List.map_cons, List.flatMap_cons, ih, hh, List.map_cons]; rfl
theorem arg_nums {α : Type} {P : Program} {t e : TypeId} {d : Dat} {g : α -> Dat} {h : α -> AV} (hh : ∀ a, (g a).avs = [h a]) (h1 : ∀ d, HasT P e d -> ∃ a, d = g a) (hd : HasT P t d) (hu : P.underlying t = some (.slice e)) :
 ∃ l : List α, d.arg = .vs (l.map h) l.length /\ l.length * P.bytesOf e <= reachBytes := by
 obtain ⟨l, rfl, hl, ha⟩ := hd.slice hu
 obtain ⟨zs, rfl⟩ := open_each h1 ha
 refine ⟨zs, ?_, by simpa using hl⟩
 simp only [Dat.arg, Dat.avs, List.headD_cons, Dat.avsL_eq, flat_one g h hh, List.length_map]
end Go.E
namespace Go.E
section
variable {P : Program} {t : TypeId}
theorem bytes_beq (a b : ByteArray) : (a.toList == b.toList) = decide (a = b) := by
 rw [ByteArray.toList_eq, ByteArray.toList_eq, Bool.eq_iff_iff, beq_iff_eq, decide_eq_true_iff]
 exact ⟨fun h => WideShapes.bytes_inj h, fun h => by rw [h]⟩
theorem str_eql (a b : ByteArray) (xo yo : Operand) (K : AV -> Prop) :
 pureK P K (do eqGuard .eql t xo yo (.string a) (.string b); binOp .eql t (.string a) (.string b)) = K (.p (.bool (decide (a = b)))) :=
 pureK_det fun w => by simp [eqGuard, binOp, Op.stringOp, bytes_beq]
theorem str_neq (a b : ByteArray) (xo yo : Operand) (K : AV -> Prop) :
 pureK P K (do eqGuard .neq t xo yo (.string a) (.string b); binOp .neq t (.string a) (.string b)) = K (.p (.bool (!decide (a = b)))) :=
 pureK_det fun w => by simp [eqGuard, binOp, Op.stringOp, bytes_beq, bne]
end
theorem str_inj (l m : List UInt8) : ((⟨l.toArray⟩ : ByteArray) = ⟨m.toArray⟩) = (l = m) := by
 refine propext ⟨fun h => ?_, fun h => by rw [h]⟩
 have := congrArg ByteArray.data h
 simpa using this
theorem vstr (P : Program) :
 (∀ (t : TypeId) (a b : ByteArray) (xo yo : Operand) (K : AV -> Prop), pureK P K (do eqGuard .eql t xo yo (.string a) (.string b); binOp .eql t (.string a) (.string b)) = K (.p (.bool (decide (a = b))))) /\
 (∀ (t : TypeId) (a b : ByteArray) (xo yo : Operand) (K : AV -> Prop), pureK P K (do eqGuard .neq t xo yo (.string a) (.string b); binOp .neq t (.string a) (.string b)) = K (.p (.bool (!decide (a = b))))) /\
 (∀ l m : List UInt8, ((⟨l.toArray⟩ : ByteArray) = ⟨m.toArray⟩) = (l = m)) :=
 ⟨fun _ a b xo yo K => str_eql a b xo yo K, fun _ a b xo yo K => str_neq a b xo yo K, str_inj⟩
end Go.E
namespace Go.J
abbrev B := List UInt8
abbrev u8 (n : Nat) : UInt8 := UInt8.ofNat n
theorem u8_toNat {n : Nat} (h : n < 256) : (u8 n).toNat = n := by rw [UInt8.toNat_ofNat']; omega
theorem u8_eq {n : Nat} {a : UInt8} (h : n = a.toNat) : u8 n = a := by subst h; exact UInt8.ofNat_toNat
def enc (c : Nat) : B :=
 if 0x10ffff < c ∨ (0xd800 <= c /\ c <= 0xdfff) then []
 else if c < 0x80 then [u8 c]
 else if c < 0x800 then [u8 (0xc0 + c / 64), u8 (0x80 + c % 64)]
 else if c < 0x10000 then [u8 (0xe0 + c / 4096), u8 (0x80 + c / 64 % 64), u8 (0x80 + c % 64)]
 else [u8 (0xf0 + c / 262144), u8 (0x80 + c / 4096 % 64), u8 (0x80 + c / 64 % 64), u8 (0x80 + c % 64)]
def okC (c : Nat) : Prop := c <= 0x10ffff /\ (c < 0xd800 ∨ 0xdfff < c)
theorem enc_ok {c : Nat} : enc c ≠ [] ↔ okC c := by
 unfold enc okC
 split
 . rename_i h; constructor
   . intro e; exact absurd rfl e
   . intro e; omega
 . rename_i h
   constructor
   . intro _; omega
   . intro _; (repeat' split) <;> simp
def isC (x : UInt8) : Bool := decide (0x80 <= x.toNat /\ x.toNat < 0xc0)
def chk (c n : Nat) : Nat × Nat := if (enc c).length = n then (c, n) else (0, 0)
def d2 (c : Nat) : B -> Nat × Nat
 | x :: _ => if isC x then chk (64 * (c % 32) + x.toNat % 64) 2 else (0, 0)
 | [] => (0, 0)
def d3 (c : Nat) : B -> Nat × Nat
 | x :: y :: _ => if isC x /\ isC y then chk (64 * (64 * (c % 16) + x.toNat % 64) + y.toNat % 64) 3 else (0, 0)
 | _ => (0, 0)
def d4 (c : Nat) : B -> Nat × Nat
 | x :: y :: z :: _ => if isC x /\ isC y /\ isC z then chk (64 * (64 * (64 * (c % 8) + x.toNat % 64) + y.toNat % 64) + z.toNat % 64) 4 else (0, 0)
 | _ => (0, 0)
def dec : B -> Nat × Nat
 | [] => (0, 0)
 | a :: r =>
   if a.toNat < 0x80 then (a.toNat, 1)
   else if a.toNat < 0xc0 then (0, 0)
   else if a.toNat < 0xe0 then d2 a.toNat r
   else if a.toNat < 0xf0 then d3 a.toNat r
   else if a.toNat < 0xf8 then d4 a.toNat r
   else (0, 0)
theorem enc_len1 {c : Nat} (h : c < 0x80) : enc c = [u8 c] := by unfold enc; rw [if_neg (by omega), if_pos h]
theorem enc_len2 {c : Nat} (h : 0x80 <= c) (h2 : c < 0x800) : enc c = [u8 (0xc0 + c / 64), u8 (0x80 + c % 64)] := by unfold enc; rw [if_neg (by omega), if_neg (by omega), if_pos h2]
theorem enc_len3 {c : Nat} (h : 0x800 <= c) (h2 : c < 0x10000) (h3 : c < 0xd800 ∨ 0xdfff < c) : enc c = [u8 (0xe0 + c / 4096), u8 (0x80 + c / 64 % 64), u8 (0x80 + c % 64)] := by unfold enc; rw [if_neg (by omega), if_neg (by omega), if_neg (by omega), if_pos h2]
theorem enc_len4 {c : Nat} (h : 0x10000 <= c) (h2 : c <= 0x10ffff) : enc c = [u8 (0xf0 + c / 262144), u8 (0x80 + c / 4096 % 64), u8 (0x80 + c / 64 % 64), u8 (0x80 + c % 64)] := by unfold enc; rw [if_neg (by omega), if_neg (by omega), if_neg (by omega), if_neg (by omega)]
theorem enc_cases {c : Nat} (h : okC c) : (c < 0x80 /\ (enc c).length = 1) ∨ (0x80 <= c /\ c < 0x800 /\ (enc c).length = 2) ∨ (0x800 <= c /\ c < 0x10000 /\ (enc c).length = 3) ∨ (0x10000 <= c /\ (enc c).length = 4) := by
 obtain ⟨h1, h2⟩ := h
 by_cases a : c < 0x80
 . exact .inl ⟨a, by rw [enc_len1 a]; rfl⟩
 by_cases b : c < 0x800
 . exact .inr (.inl ⟨by omega, b, by rw [enc_len2 (by omega) b]; rfl⟩)
 by_cases d : c < 0x10000
 . exact .inr (.inr (.inl ⟨by omega, d, by rw [enc_len3 (by omega) d h2]; rfl⟩))
 . exact .inr (.inr (.inr ⟨by omega, by rw [enc_len4 (by omega) h1]; rfl⟩))
theorem enc_nil {c : Nat} (h : ¬ okC c) : enc c = [] := by
 by_cases e : enc c = []
 . exact e
 . exact absurd (enc_ok.1 e) h
theorem dec_spec {l : B} {c n : Nat} (h : dec l = (c, n)) (hn : 0 < n) : okC c /\ n = (enc c).length /\ ∃ r, l = enc c ++ r := by
 cases l with
 | nil => simp [dec] at h; omega
 | cons a r =>
   have key : ∀ {c' n' : Nat}, chk c' n' = (c, n) -> 0 < n' -> c = c' /\ n = n' /\ (enc c').length = n' := by
    intro c' n' e h0
    unfold chk at e
    split at e
    . rename_i hl; simp only [Prod.mk.injEq] at e; exact ⟨e.1.symm, e.2.symm, hl⟩
    . simp only [Prod.mk.injEq] at e; omega
   have oks : ∀ {c' n' : Nat}, (enc c').length = n' -> 0 < n' -> okC c' := fun e h0 => enc_ok.1 fun e' => by rw [e'] at e; simp at e; omega
   rw [dec] at h
   split at h
   . rename_i h1
     simp only [Prod.mk.injEq] at h
     obtain ⟨rfl, rfl⟩ := h
     exact ⟨⟨by omega, .inl (by omega)⟩, by rw [enc_len1 h1]; rfl, r, by rw [enc_len1 h1, u8_eq rfl]; rfl⟩
   split at h
   . simp only [Prod.mk.injEq] at h; omega
   split at h
   . rename_i h1 h2 h3
     unfold d2 at h
     split at h
     . rename_i x r'
       split at h
       . rename_i hx
         obtain ⟨rfl, rfl, hl⟩ := key h (by omega)
         have hx : 0x80 <= x.toNat /\ x.toNat < 0xc0 := of_decide_eq_true hx
         have ok := oks hl (by omega)
         refine ⟨ok, hl.symm, r', ?_⟩
         have hc := enc_cases ok
         rw [enc_len2 (by omega) (by omega), u8_eq (a := a) (by omega), u8_eq (a := x) (by omega)]; rfl
       . simp only [Prod.mk.injEq] at h; omega
     . simp only [Prod.mk.injEq] at h; omega
   split at h
   . rename_i h1 h2 h3 h4
     unfold d3 at h
     split at h
     . rename_i x y r'
       split at h
       . rename_i hx
         obtain ⟨rfl, rfl, hl⟩ := key h (by omega)
         have hx1 : 0x80 <= x.toNat /\ x.toNat < 0xc0 := of_decide_eq_true hx.1
         have hy1 : 0x80 <= y.toNat /\ y.toNat < 0xc0 := of_decide_eq_true hx.2
         have ok := oks hl (by omega)
         refine ⟨ok, hl.symm, r', ?_⟩
         have hc := enc_cases ok
         rw [enc_len3 (by omega) (by omega) ok.2, u8_eq (a := a) (by omega), u8_eq (a := x) (by omega), u8_eq (a := y) (by omega)]; rfl
       . simp only [Prod.mk.injEq] at h; omega
     . simp only [Prod.mk.injEq] at h; omega
   split at h
   . rename_i h1 h2 h3 h4 h5
     unfold d4 at h
     split at h
     . rename_i x y z r'
       split at h
       . rename_i hx
         obtain ⟨rfl, rfl, hl⟩ := key h (by omega)
         have hx1 : 0x80 <= x.toNat /\ x.toNat < 0xc0 := of_decide_eq_true hx.1
         have hy1 : 0x80 <= y.toNat /\ y.toNat < 0xc0 := of_decide_eq_true hx.2.1
         have hz1 : 0x80 <= z.toNat /\ z.toNat < 0xc0 := of_decide_eq_true hx.2.2
         have ok := oks hl (by omega)
         refine ⟨ok, hl.symm, r', ?_⟩
         have hc := enc_cases ok
         rw [enc_len4 (by omega) ok.1, u8_eq (a := a) (by omega), u8_eq (a := x) (by omega), u8_eq (a := y) (by omega), u8_eq (a := z) (by omega)]; rfl
       . simp only [Prod.mk.injEq] at h; omega
     . simp only [Prod.mk.injEq] at h; omega
   . simp only [Prod.mk.injEq] at h; omega
theorem isC_u8 {n : Nat} (h : n < 64) : isC (u8 (0x80 + n)) = true := by
 unfold isC
 rw [u8_toNat (by omega)]
 exact decide_eq_true (by omega)
theorem dec_enc {c : Nat} (h : okC c) (r : B) : dec (enc c ++ r) = (c, (enc c).length) := by
 have hl := enc_cases h
 rcases hl with ⟨h1, hl⟩ | ⟨h1, h2, hl⟩ | ⟨h1, h2, hl⟩ | ⟨h1, hl⟩
 . rw [hl, enc_len1 h1, List.cons_append, dec, if_pos (by rw [u8_toNat (by omega)]; exact h1), u8_toNat (by omega)]
 . rw [hl, enc_len2 h1 h2, List.cons_append, List.cons_append, dec]
   rw [if_neg (by rw [u8_toNat (by omega)]; omega), if_neg (by rw [u8_toNat (by omega)]; omega), if_pos (by rw [u8_toNat (by omega)]; omega)]
   rw [d2, if_pos (isC_u8 (by omega)), u8_toNat (by omega), u8_toNat (by omega), show 64 * ((0xc0 + c / 64) % 32) + (0x80 + c % 64) % 64 = c by omega, chk, if_pos hl]
 . rw [hl, enc_len3 h1 h2 h.2, List.cons_append, List.cons_append, List.cons_append, dec]
   rw [if_neg (by rw [u8_toNat (by omega)]; omega), if_neg (by rw [u8_toNat (by omega)]; omega), if_neg (by rw [u8_toNat (by omega)]; omega), if_pos (by rw [u8_toNat (by omega)]; omega)]
   rw [d3, if_pos ⟨isC_u8 (by omega), isC_u8 (by omega)⟩, u8_toNat (by omega), u8_toNat (by omega), u8_toNat (by omega), show 64 * (64 * ((0xe0 + c / 4096) % 16) + (0x80 + c / 64 % 64) % 64) + (0x80 + c % 64) % 64 = c by omega, chk, if_pos hl]
 . have hm := h.1
   rw [hl, enc_len4 h1 h.1, List.cons_append, List.cons_append, List.cons_append, List.cons_append, dec]
   rw [if_neg (by rw [u8_toNat (by omega)]; omega), if_neg (by rw [u8_toNat (by omega)]; omega), if_neg (by rw [u8_toNat (by omega)]; omega), if_neg (by rw [u8_toNat (by omega)]; omega), if_pos (by rw [u8_toNat (by omega)]; omega)]
   rw [d4, if_pos ⟨isC_u8 (by omega), isC_u8 (by omega), isC_u8 (by omega)⟩, u8_toNat (by omega), u8_toNat (by omega), u8_toNat (by omega), u8_toNat (by omega), show 64 * (64 * (64 * ((0xf0 + c / 262144) % 8) + (0x80 + c / 4096 % 64) % 64) + (0x80 + c / 64 % 64) % 64) + (0x80 + c % 64) % 64 = c by omega, chk, if_pos hl]
end Go.J
namespace Go.J
def hexd (x : Nat) : UInt8 := if x < 10 then u8 (48 + x) else u8 (87 + x)
def qb (c : UInt8) : B :=
 if c = 34 then [92, 34] else if c = 92 then [92, 92] else if c = 8 then [92, 98] else if c = 9 then [92, 116] else if c = 10 then [92, 110]
 else if c = 12 then [92, 102] else if c = 13 then [92, 114] else if c.toNat < 32 then [92, 117, 48, 48, hexd (c.toNat / 16), hexd (c.toNat % 16)] else [c]
def quote (s : B) : B := 34 :: (s.flatMap qb ++ [34])
def hexv (x : UInt8) : Option Nat :=
 if 48 <= x.toNat /\ x.toNat <= 57 then some (x.toNat - 48) else if 97 <= x.toNat /\ x.toNat <= 102 then some (x.toNat - 87) else if 65 <= x.toNat /\ x.toNat <= 70 then some (x.toNat - 55) else none
theorem hexv_lt {a : UInt8} {x : Nat} (h : hexv a = some x) : x < 16 := by
 unfold hexv at h
 (repeat' split at h) <;> first | (cases h; omega) | cases h
def hex4 : B -> Option (Nat × B)
 | a :: b :: c :: d :: r => match hexv a, hexv b, hexv c, hexv d with
   | some x, some y, some z, some t => some (4096 * x + 256 * y + 16 * z + t, r)
   | _, _, _, _ => none
 | _ => none
theorem hex4_spec {l r : B} {n : Nat} (h : hex4 l = some (n, r)) : n < 65536 /\ l.length = r.length + 4 := by
 unfold hex4 at h
 split at h
 . split at h
   . rename_i hx hy hz ht
     cases h
     have := hexv_lt hx; have := hexv_lt hy; have := hexv_lt hz; have := hexv_lt ht
     exact ⟨by omega, by simp⟩
   . cases h
 . cases h
def low (n : Nat) (r : B) : Option (Nat × B) := match hex4 r with
 | some (m, r3) => if 0xdc00 <= m /\ m < 0xe000 then some (0x10000 + (n - 0xd800) * 1024 + (m - 0xdc00), r3) else none
 | none => none
def pair (n : Nat) : B -> Option (Nat × B)
 | a :: b :: r => if a = 92 /\ b = 117 then low n r else none
 | _ => none
instance (c : Nat) : Decidable (okC c) := by unfold okC; infer_instance
def uni (r : B) : Option (Nat × B) := match hex4 r with
 | some (n, r') => if 0xd800 <= n /\ n < 0xdc00 then pair n r' else if okC n then some (n, r') else none
 | none => none
def esc : B -> Option (Nat × B)
 | [] => none
 | c :: r =>
   if c = 34 ∨ c = 92 ∨ c = 47 then some (c.toNat, r) else if c = 98 then some (8, r) else if c = 102 then some (12, r) else if c = 110 then some (10, r)
   else if c = 114 then some (13, r) else if c = 116 then some (9, r) else if c = 117 then uni r else none
theorem uni_spec {l r : B} {c : Nat} (h : uni l = some (c, r)) : okC c /\ ((c < 65536 /\ l.length = r.length + 4) ∨ (65536 <= c /\ l.length = r.length + 10)) := by
 unfold uni at h
 split at h
 . rename_i n r' he
   obtain ⟨h1, h2⟩ := hex4_spec he
   split at h
   . rename_i hn
     unfold pair at h
     split at h
     . split at h
       . unfold low at h
         split at h
         . rename_i m r3 hm
           obtain ⟨k1, k2⟩ := hex4_spec hm
           split at h
           . simp only [Option.some.injEq, Prod.mk.injEq] at h
             obtain ⟨rfl, rfl⟩ := h
             simp only [List.length_cons] at h2
             exact ⟨⟨by omega, by omega⟩, .inr ⟨by omega, by omega⟩⟩
           . cases h
         . cases h
       . cases h
     . cases h
   . split at h
     . rename_i ok
       cases h
       exact ⟨ok, .inl ⟨h1, h2⟩⟩
     . cases h
 . cases h
theorem esc_spec {l r : B} {c : Nat} (h : esc l = some (c, r)) : okC c /\ r.length < l.length := by
 cases l with
 | nil => cases h
 | cons a t =>
   rw [esc] at h
   (repeat' split at h) <;> first
    | (obtain ⟨h1, h2⟩ := uni_spec h; exact ⟨h1, by simp only [List.length_cons]; omega⟩)
    | (simp only [Option.some.injEq, Prod.mk.injEq] at h; obtain ⟨rfl, rfl⟩ := h; have := a.toNat_lt; exact ⟨⟨by omega, .inl (by omega)⟩, by simp⟩)
    | cases h
def txt : Nat -> B -> B -> Option (B × B)
 | 0, _, _ => none
 | f + 1, l, out =>
   if l.head? = some 34 then some (out, l.tail)
   else if l.head? = some 92 then (match esc l.tail with
    | some (c, r) => txt f r (out ++ enc c)
    | none => none)
   else if (dec l).2 = 0 ∨ (dec l).1 < 32 then none else txt f (l.drop (dec l).2) (out ++ l.take (dec l).2)
theorem dec_nil : dec [] = (0, 0) := rfl
theorem txt_fuel : ∀ (f g : Nat) (l out : B), l.length < f -> l.length < g -> txt f l out = txt g l out
 | 0, _, _, _, h, _ => by omega
 | _ + 1, 0, _, _, _, h => by omega
 | f + 1, g + 1, l, out, h1, h2 => by
   unfold txt
   split
   . rfl
   split
   . split
     . rename_i c r he
       have := (esc_spec he).2
       have hl : l.tail.length <= l.length := by rw [List.length_tail]; omega
       exact txt_fuel f g r _ (by omega) (by omega)
     . rfl
   split
   . rfl
   . rename_i hn
     have h0 : 0 < l.length := by
      cases l with
      | nil => simp [dec_nil] at hn
      | cons a r => simp
     have hd : (l.drop (dec l).2).length < l.length := by rw [List.length_drop]; omega
     exact txt_fuel f g _ _ (by omega) (by omega)
def txtF (l out : B) : Option (B × B) := txt (l.length + 1) l out
theorem txtF_eq (l out : B) : txtF l out = if l.head? = some 34 then some (out, l.tail)
 else if l.head? = some 92 then (match esc l.tail with
  | some (c, r) => txtF r (out ++ enc c)
  | none => none)
 else if (dec l).2 = 0 ∨ (dec l).1 < 32 then none else txtF (l.drop (dec l).2) (out ++ l.take (dec l).2) := by
 unfold txtF
 rw [txt]
 split
 . rfl
 split
 . split
   . rename_i c r he
     have := (esc_spec he).2
     have hl : l.tail.length <= l.length := by rw [List.length_tail]; omega
     exact txt_fuel _ _ r _ (by omega) (by omega)
   . rfl
 split
 . rfl
 . rename_i hn
   have h0 : 0 < l.length := by
    cases l with
    | nil => simp [dec_nil] at hn
    | cons a r => simp
   exact txt_fuel _ _ _ _ (by rw [List.length_drop]; omega) (by omega)
inductive Valid : B -> Prop
 | nil : Valid []
 | cons {c : Nat} {r : B} (h : okC c) (hr : Valid r) : Valid (enc c ++ r)
theorem Valid.app {a b : B} (h : Valid a) (hb : Valid b) : Valid (a ++ b) := by
 induction h with
 | nil => exact hb
 | cons h _ ih => rw [List.append_assoc]; exact .cons h ih
theorem Valid.one {c : Nat} (h : okC c) : Valid (enc c) := by have := Valid.cons h .nil; rwa [List.append_nil] at this
theorem take_dec {l : B} {c n : Nat} (h : dec l = (c, n)) (hn : 0 < n) : l.take n = enc c /\ l = enc c ++ l.drop n := by
 obtain ⟨_, rfl, r, e⟩ := dec_spec h hn
 subst e
 rw [List.take_left, List.drop_left]
 exact ⟨rfl, rfl⟩
theorem txtF_valid : ∀ (k : Nat) (l out t r : B), l.length <= k -> txtF l out = some (t, r) -> Valid out -> Valid t
 | k, l, out, t, r, hk, h, hv => by
   rw [txtF_eq] at h
   split at h
   . cases h; exact hv
   split at h
   . split at h
     . rename_i c r' he
       obtain ⟨h1, h2⟩ := esc_spec he
       have hl : l.tail.length <= l.length := by rw [List.length_tail]; omega
       cases k with
       | zero => omega
       | succ k => exact txtF_valid k r' _ t r (by omega) h (hv.app (.one h1))
     . cases h
   split at h
   . cases h
   . rename_i hn
     obtain ⟨c, n⟩ : Nat × Nat := dec l
     have h0 : 0 < l.length := by
      cases l with
      | nil => simp [dec_nil] at hn
      | cons a r => simp
     have hd := take_dec (l := l) (c := (dec l).1) (n := (dec l).2) rfl (by omega)
     have ho := (dec_spec (l := l) (c := (dec l).1) (n := (dec l).2) rfl (by omega)).1
     cases k with
     | zero => omega
     | succ k => exact txtF_valid k _ _ t r (by rw [List.length_drop]; omega) h (by rw [hd.1]; exact hv.app (.one ho))
theorem qb_len (c : UInt8) : (qb c).length <= 6 /\ (32 <= c.toNat -> (qb c).length <= 2) /\ (32 <= c.toNat -> c ≠ 34 -> c ≠ 92 -> qb c = [c]) := by
 unfold qb
 (repeat' split) <;> refine ⟨by simp, fun h => by first | omega | simp, fun h h1 h2 => ?_⟩ <;> first | rfl | (exfalso; first | omega | simp_all)
theorem enc_hi {c : Nat} (h : 0x80 <= c) : ∀ b ∈ enc c, 0x80 <= b.toNat := by
 intro b hb
 by_cases ok : okC c
 . rcases enc_cases ok with ⟨h1, _⟩ | ⟨h1, h2, _⟩ | ⟨h1, h2, _⟩ | ⟨h1, _⟩
   . omega
   . rw [enc_len2 h1 h2] at hb
     simp only [List.mem_cons, List.not_mem_nil, or_false] at hb
     rcases hb with rfl | rfl <;> rw [u8_toNat (by omega)] <;> omega
   . rw [enc_len3 h1 h2 ok.2] at hb
     simp only [List.mem_cons, List.not_mem_nil, or_false] at hb
     rcases hb with rfl | rfl | rfl <;> rw [u8_toNat (by omega)] <;> omega
   . have := ok.1
     rw [enc_len4 h1 ok.1] at hb
     simp only [List.mem_cons, List.not_mem_nil, or_false] at hb
     rcases hb with rfl | rfl | rfl | rfl <;> rw [u8_toNat (by omega)] <;> omega
 . rw [enc_nil ok] at hb; cases hb
theorem plain_qb {l : B} (h : ∀ b ∈ l, qb b = [b]) : l.flatMap qb = l := by
 induction l with
 | nil => rfl
 | cons a r ih => rw [List.flatMap_cons, h a (by simp), ih fun b hb => h b (by simp [hb])]; rfl
theorem enc_qb {c : Nat} (h : 0x80 <= c) : (enc c).flatMap qb = enc c :=
 plain_qb fun b hb => by
  have := enc_hi h b hb
  refine (qb_len b).2.2 (by omega) (fun e => ?_) fun e => ?_ <;> subst e <;> exact absurd this (by decide)
theorem txtF_len : ∀ (k : Nat) (l out t r : B), l.length <= k -> txtF l out = some (t, r) -> (t.flatMap qb).length + r.length + 1 <= (out.flatMap qb).length + l.length
 | k, l, out, t, r, hk, h => by
   rw [txtF_eq] at h
   split at h
   . rename_i he
     cases h
     cases l with
     | nil => cases he
     | cons a r => simp; omega
   split at h
   . rename_i he92
     cases l with
     | nil => cases he92
     | cons a l' =>
     rw [List.tail_cons] at h
     simp only [List.length_cons] at hk
     split at h
     . rename_i c r' he
       obtain ⟨h1, h2⟩ := esc_spec he
       have hq : ((enc c).flatMap qb).length + r'.length <= (a :: l').length := by
        cases l' with
        | nil => cases he
        | cons b t' =>
          rw [esc] at he
          have two : ∀ x : UInt8, c = x.toNat -> ((enc c).flatMap qb).length <= 6 /\ ((x = 34 ∨ x = 92 ∨ x = 47 ∨ x = 8 ∨ x = 12 ∨ x = 10 ∨ x = 13 ∨ x = 9) -> ((enc c).flatMap qb).length <= 2) := by
           intro x e
           by_cases hx : c < 0x80
           . rw [enc_len1 hx, List.flatMap_cons, List.flatMap_nil, List.append_nil, u8_eq e]
             refine ⟨(qb_len x).1, ?_⟩
             rintro (rfl | rfl | rfl | rfl | rfl | rfl | rfl | rfl) <;> decide
           . have hx2 := x.toNat_lt
             rw [enc_qb (by omega), enc_len2 (by omega) (by omega)]
             refine ⟨by simp, fun _ => by simp⟩
          (repeat' split at he) <;> first
           | (rename_i hc; cases he; have := (two b rfl).2 (by rcases hc with h | h | h <;> simp [h]); simp only [List.length_cons] at this ⊢; omega)
           | (cases he; have := (two 8 rfl).2 (by simp); simp only [List.length_cons] at this ⊢; omega)
           | (cases he; have := (two 12 rfl).2 (by simp); simp only [List.length_cons] at this ⊢; omega)
           | (cases he; have := (two 10 rfl).2 (by simp); simp only [List.length_cons] at this ⊢; omega)
           | (cases he; have := (two 13 rfl).2 (by simp); simp only [List.length_cons] at this ⊢; omega)
           | (cases he; have := (two 9 rfl).2 (by simp); simp only [List.length_cons] at this ⊢; omega)
           | (obtain ⟨k1, k2⟩ := uni_spec he
              have h6 : ((enc c).flatMap qb).length <= 6 := by
               by_cases hx : c < 256
               . exact (two (u8 c) (u8_toNat hx).symm).1
               . rw [enc_qb (by omega)]
                 rcases enc_cases k1 with ⟨_, e⟩ | ⟨_, _, e⟩ | ⟨_, _, e⟩ | ⟨_, e⟩ <;> rw [e] <;> omega
              simp only [List.length_cons] at k2 ⊢
              omega)
           | cases he
       have hl : r'.length < (a :: l').length := by simp only [List.length_cons]; omega
       cases k with
       | zero => omega
       | succ k =>
         have := txtF_len k r' _ t r (by omega) h
         rw [List.flatMap_append, List.length_append] at this
         omega
     . cases h
   split at h
   . cases h
   . rename_i h34 h92 hn
     have h0 : 0 < l.length := by
      cases l with
      | nil => simp [dec_nil] at hn
      | cons a r => simp
     obtain ⟨ho, hlen, -⟩ := dec_spec (l := l) (c := (dec l).1) (n := (dec l).2) rfl (by omega)
     obtain ⟨hd1, hd2⟩ := take_dec (l := l) (c := (dec l).1) (n := (dec l).2) rfl (by omega)
     have hq : ((l.take (dec l).2).flatMap qb).length = (dec l).2 := by
      rw [hd1]
      by_cases hx : (dec l).1 < 0x80
      . rw [hlen, enc_len1 hx, List.flatMap_cons, List.flatMap_nil, List.append_nil]
        have e : l.head? = some (u8 (dec l).1) := by have := congrArg List.head? hd2; rw [enc_len1 hx] at this; exact this
        rw [(qb_len _).2.2 (by rw [u8_toNat (by omega)]; omega) (fun e' => h34 (by rw [e, e'])) (fun e' => h92 (by rw [e, e']))]
      . rw [enc_qb (by omega), hlen]
     cases k with
     | zero => omega
     | succ k =>
       have := txtF_len k _ _ t r (by rw [List.length_drop]; omega) h
       have hle : (dec l).2 <= l.length := by
        have := congrArg List.length hd1
        rw [List.length_take, <- hlen] at this
        omega
       rw [List.flatMap_append, List.length_append, hq, List.length_drop] at this
       omega
end Go.J
namespace Go.J
theorem head_app {l : B} (h : l ≠ []) (r : B) : (l ++ r).head? = l.head? := by
 cases l with
 | nil => exact absurd rfl h
 | cons a t => rfl
def dn (n : Nat) : B := if n < 10 then [u8 (48 + n)] else dn (n / 10) ++ [u8 (48 + n % 10)]
termination_by n
def numS (z : Int) : B := if z < 0 then 45 :: dn (-z).toNat else dn z.toNat
def isD (x : UInt8) : Bool := decide (48 <= x.toNat /\ x.toNat <= 57)
def dspan : B -> Nat
 | [] => 0
 | x :: r => if isD x then dspan r + 1 else 0
def dlen (l : B) : Nat := if l.head? = some 48 then 1 else dspan l
def dval (l : B) : Nat := l.foldl (fun a x => 10 * a + (x.toNat - 48)) 0
def numD (neg : Bool) (d : B) : Option (Int × B) :=
 if dlen d = 0 then none
 else if neg then (if dval (d.take (dlen d)) <= 2 ^ 63 then some (-(dval (d.take (dlen d)) : Int), d.drop (dlen d)) else none)
 else (if dval (d.take (dlen d)) < 2 ^ 63 then some ((dval (d.take (dlen d)) : Int), d.drop (dlen d)) else none)
def num (l : B) : Option (Int × B) := if l.head? = some 45 then numD true l.tail else numD false l
theorem dspan_le (l : B) : dspan l <= l.length := by
 induction l with
 | nil => simp [dspan]
 | cons x r ih => unfold dspan; split <;> simp <;> omega
theorem dlen_le (l : B) : dlen l <= l.length := by
 unfold dlen
 split
 . rename_i h
   cases l with
   | nil => cases h
   | cons x r => simp
 . exact dspan_le l
theorem isD_u8 {n : Nat} (h : n < 10) : isD (u8 (48 + n)) = true := by unfold isD; rw [u8_toNat (by omega)]; exact decide_eq_true (by omega)
theorem dn_digits (n : Nat) : ∀ x ∈ dn n, isD x = true := by
 induction n using Nat.strongRecOn with
 | ind n ih =>
   intro x hx
   unfold dn at hx
   split at hx
   . rename_i h
     rw [List.mem_singleton.1 hx]; exact isD_u8 h
   . rename_i h
     rcases List.mem_append.1 hx with hx | hx
     . exact ih _ (by omega) x hx
     . rw [List.mem_singleton.1 hx]; exact isD_u8 (by omega)
theorem dn_ne (n : Nat) : dn n ≠ [] := by unfold dn; split <;> simp
theorem dval_snoc (l : B) (x : UInt8) : dval (l ++ [x]) = 10 * dval l + (x.toNat - 48) := by simp [dval, List.foldl_append]
theorem dn_len {n k : Nat} (h : n < 10 ^ k) (hk : 1 <= k) : (dn n).length <= k := by
 induction k generalizing n with
 | zero => omega
 | succ k ih =>
   unfold dn
   split
   . simp
   . rename_i hn
     rw [Nat.pow_succ] at h
     cases k with
     | zero => omega
     | succ k =>
       have := ih (n := n / 10) (by omega) (by omega)
       rw [List.length_append, List.length_singleton]; omega
theorem dval_lt {l : B} (h : ∀ x ∈ l, isD x = true) : dval l < 10 ^ l.length := by
 have : ∀ (l : B) (a k : Nat), (∀ x ∈ l, isD x = true) -> a < 10 ^ k -> l.foldl (fun a x => 10 * a + (x.toNat - 48)) a < 10 ^ (k + l.length) := by
  intro l
  induction l with
  | nil => intro a k _ h; simpa using h
  | cons x r ih =>
    intro a k hl ha
    have hx : 48 <= x.toNat /\ x.toNat <= 57 := of_decide_eq_true (hl x (by simp))
    have := ih (10 * a + (x.toNat - 48)) (k + 1) (fun y hy => hl y (by simp [hy])) (by rw [Nat.pow_succ]; omega)
    rw [List.foldl_cons, List.length_cons, show k + (r.length + 1) = k + 1 + r.length by omega]; exact this
 have := this l 0 0 h (by simp)
 rwa [Nat.zero_add] at this
theorem take_dspan (l : B) : ∀ n, n <= dspan l -> ∀ x ∈ l.take n, isD x = true := by
 induction l with
 | nil => intro n _ x hx; simp at hx
 | cons a r ih =>
   intro n hn x hx
   cases n with
   | zero => simp at hx
   | succ n =>
     unfold dspan at hn
     split at hn
     . rename_i ha
       rw [List.take_succ_cons] at hx
       rcases List.mem_cons.1 hx with rfl | hx
       . exact ha
       . exact ih n (by omega) x hx
     . omega
theorem take_dlen (l : B) : ∀ x ∈ l.take (dlen l), isD x = true := by
 unfold dlen
 split
 . rename_i h
   cases l with
   | nil => cases h
   | cons a r => cases h; intro x hx; simp at hx; subst hx; decide
 . exact take_dspan l _ (Nat.le_refl _)
theorem num_spec {l r : B} {z : Int} (h : num l = some (z, r)) : (-2 ^ 63 <= z /\ z < 2 ^ 63) /\ (numS z).length + r.length <= l.length := by
 have key : ∀ d : B, dlen d ≠ 0 -> (dn (dval (d.take (dlen d)))).length + (d.drop (dlen d)).length <= d.length := fun d hd => by
  have h1 := dval_lt (take_dlen d)
  have h2 := dlen_le d
  rw [List.length_take, Nat.min_eq_left h2] at h1
  have := dn_len h1 (by omega)
  rw [List.length_drop]; omega
 unfold num at h
 split at h
 . rename_i h45
   have hl : l.tail.length + 1 = l.length := by
    cases l with
    | nil => cases h45
    | cons a r => simp
   unfold numD at h
   split at h
   . cases h
   rename_i hd
   have hk := key _ hd
   rw [if_pos rfl] at h
   split at h
   . rename_i hv
     simp only [Option.some.injEq, Prod.mk.injEq] at h
     obtain ⟨rfl, rfl⟩ := h
     refine ⟨⟨by omega, by omega⟩, ?_⟩
     unfold numS
     split
     . rw [Int.neg_neg, Int.toNat_natCast, List.length_cons]; omega
     . rename_i hz
       have hz0 : dval (l.tail.take (dlen l.tail)) = 0 := by omega
       rw [hz0] at hk ⊢
       simp only [Int.natCast_zero, Int.neg_zero, Int.toNat_zero]
       omega
   . cases h
 . unfold numD at h
   split at h
   . cases h
   rename_i hd
   have hk := key _ hd
   rw [if_neg (by simp)] at h
   split at h
   . rename_i hv
     simp only [Option.some.injEq, Prod.mk.injEq] at h
     obtain ⟨rfl, rfl⟩ := h
     refine ⟨⟨by omega, by omega⟩, ?_⟩
     unfold numS
     rw [if_neg (by omega), Int.toNat_natCast]; exact hk
   . cases h
end Go.J
namespace Go.J
inductive JV where
 | mk (kind : UInt8) (num : Int) (text : B) (kids : List JV) (names : List B)
namespace JV
def kind : JV -> UInt8 | mk a _ _ _ _ => a
def num : JV -> Int | mk _ a _ _ _ => a
def text : JV -> B | mk _ _ a _ _ => a
def kids : JV -> List JV | mk _ _ _ a _ => a
def names : JV -> List B | mk _ _ _ _ a => a
end JV
def vNull : JV := .mk 0 0 [] [] []
def vBool (z : Int) : JV := .mk 1 z [] [] []
def vNum (z : Int) : JV := .mk 2 z [] [] []
def vText (s : B) : JV := .mk 3 0 s [] []
def vList (l : List JV) : JV := .mk 4 0 [] l []
def vObj (ns : List B) (l : List JV) : JV := .mk 5 0 [] l ns
def bare (v : JV) : Prop := (v.num = 0 ∨ v.kind = 1 ∨ v.kind = 2) /\ (v.text = [] ∨ v.kind = 3) /\ (v.kids = [] ∨ v.kind = 4 ∨ v.kind = 5) /\ v.names.length = (if v.kind = 5 then v.kids.length else 0)
def mayL (v : JV) : Prop := bare v /\ (v.kind = 0 ∨ v.kind = 2 ∨ (v.kind = 1 /\ (v.num = 0 ∨ v.num = 1)) ∨ (v.kind = 3 /\ Valid v.text))
def namesOk (ns : List B) : Prop := (∀ s ∈ ns, Valid s) /\ ns.Nodup
def may : Nat -> JV -> Prop
 | 0, v => mayL v
 | n + 1, v => mayL v ∨ ((v.kind = 4 ∨ v.kind = 5) /\ bare v /\ namesOk v.names /\ ∀ k ∈ v.kids, may n k)
def joinC : List B -> B
 | [] => []
 | [x] => x
 | x :: y :: r => x ++ 44 :: joinC (y :: r)
def prtL (v : JV) : B := if v.kind = 0 then [110, 117, 108, 108] else if v.kind = 1 then (if v.num = 1 then [116, 114, 117, 101] else [102, 97, 108, 115, 101]) else if v.kind = 2 then numS v.num else quote v.text
def ent (s k : B) : B := quote s ++ 58 :: k
def prt : Nat -> JV -> B
 | 0, v => prtL v
 | n + 1, v => if v.kind = 4 then 91 :: (joinC (v.kids.map (prt n)) ++ [93]) else if v.kind = 5 then 123 :: (joinC (List.zipWith ent v.names (v.kids.map (prt n))) ++ [125]) else prtL v
def isB (x : UInt8) : Bool := x = 32 || x = 9 || x = 10 || x = 13
def blk : B -> B
 | [] => []
 | x :: r => if isB x then blk r else x :: r
theorem blk_len (l : B) : (blk l).length <= l.length := by
 induction l with
 | nil => simp [blk]
 | cons x r ih => unfold blk; split <;> simp; omega
theorem blk_ne {x : UInt8} {r : B} (h : isB x = false) : blk (x :: r) = x :: r := by rw [blk, h]; rfl
abbrev R := Except Int (JV × B)
def lit (w : B) (v : JV) (l : B) : R := if w.isPrefixOf l then .ok (v, l.drop w.length) else .error 5
def lstL (f : B -> R) : Nat -> B -> List JV -> R
 | 0, _, _ => .error 5
 | k + 1, l, acc => match f l with
   | .error e => .error e
   | .ok (v, r) => if (blk r).head? = some 93 then .ok (vList (acc ++ [v]), (blk r).tail) else if (blk r).head? = some 44 then lstL f k (blk r).tail (acc ++ [v]) else .error 5
def lst (f : B -> R) (t : B) : R := if (blk t).head? = some 93 then .ok (vList [], (blk t).tail) else lstL f ((blk t).length + 1) (blk t) []
open Classical in
noncomputable def nam (ns : List B) (l : B) : Option (B × B) :=
 if (blk l).head? = some 34 then (match txtF (blk l).tail [] with
  | some (s, r) => if s ∈ ns then none else if (blk r).head? = some 58 then some (s, (blk r).tail) else none
  | none => none) else none
noncomputable def objL (f : B -> R) : Nat -> B -> List B -> List JV -> R
 | 0, _, _, _ => .error 5
 | k + 1, l, ns, acc => match nam ns l with
   | none => .error 5
   | some (s, r) => match f r with
     | .error e => .error e
     | .ok (v, r) => if (blk r).head? = some 125 then .ok (vObj (ns ++ [s]) (acc ++ [v]), (blk r).tail) else if (blk r).head? = some 44 then objL f k (blk r).tail (ns ++ [s]) (acc ++ [v]) else .error 5
noncomputable def obj (f : B -> R) (t : B) : R := if (blk t).head? = some 125 then .ok (vObj [] [], (blk t).tail) else objL f ((blk t).length + 1) (blk t) [] []
def valL (l : B) : R := match l with
 | [] => .error 5
 | c :: t =>
   if c = 110 then lit [110, 117, 108, 108] vNull (c :: t)
   else if c = 116 then lit [116, 114, 117, 101] (vBool 1) (c :: t)
   else if c = 102 then lit [102, 97, 108, 115, 101] (vBool 0) (c :: t)
   else if c = 34 then (match txtF t [] with
    | some (s, r) => .ok (vText s, r)
    | none => .error 5)
   else (match num (c :: t) with
    | some (z, r) => .ok (vNum z, r)
    | none => .error 5)
noncomputable def val : Nat -> B -> R
 | 0, l => if (blk l).head? = some 91 ∨ (blk l).head? = some 123 then .error 6 else valL (blk l)
 | n + 1, l => if (blk l).head? = some 91 then lst (val n) (blk l).tail else if (blk l).head? = some 123 then obj (val n) (blk l).tail else valL (blk l)
noncomputable def parse (b : B) : Except Int JV :=
 if 65536 < b.length then .error 6 else match val 8 b with
 | .error e => .error e
 | .ok (v, r) => if blk r = [] then .ok v else .error 5
def Good (f : B -> R) (n : Nat) : Prop := ∀ l v r, f l = .ok (v, r) -> may n v /\ (prt n v).length + r.length <= l.length /\ r.length < l.length
theorem tail_len {l : B} {x : UInt8} (h : l.head? = some x) : l.tail.length + 1 = l.length := by
 cases l with
 | nil => cases h
 | cons a r => simp
theorem lit_spec {w l r : B} {v u : JV} (h : lit w u l = .ok (v, r)) : v = u /\ w.length + r.length = l.length := by
 unfold lit at h
 split at h
 . rename_i hp
   cases h
   have := (List.isPrefixOf_iff_prefix.1 hp).length_le
   exact ⟨rfl, by rw [List.length_drop]; omega⟩
 . cases h
theorem joinC_len (a : B) (l : List B) : (joinC (l ++ [a])).length = (if l = [] then a.length else (joinC l).length + 1 + a.length) := by
 induction l with
 | nil => rfl
 | cons x r ih =>
   cases r with
   | nil => simp [joinC]; omega
   | cons y r =>
     simp only [List.cons_append, joinC, List.length_append, List.length_cons] at ih ⊢
     rw [ih, if_neg (by simp), if_neg (by simp)]; omega
theorem mayL_bare {v : JV} (h : mayL v) : v.kind ≠ 4 /\ v.kind ≠ 5 := by
 rcases h.2 with h | h | h | h
 . rw [h]; decide
 . rw [h]; decide
 . rw [h.1]; decide
 . rw [h.1]; decide
theorem prt_leaf {v : JV} (h : mayL v) (n : Nat) : prt n v = prtL v := by
 cases n with
 | zero => rfl
 | succ n => rw [prt, if_neg (mayL_bare h).1, if_neg (mayL_bare h).2]
theorem may_leaf {v : JV} (h : mayL v) (n : Nat) : may n v := by
 cases n with
 | zero => exact h
 | succ n => exact .inl h
theorem valL_good (n : Nat) : Good valL n := by
 intro l v r h
 unfold valL at h
 split at h
 . cases h
 . rename_i c t
   have leaf : ∀ {u : JV} {r : B}, mayL u -> (prtL u).length + r.length <= (c :: t).length -> r.length < (c :: t).length -> may n u /\ (prt n u).length + r.length <= (c :: t).length /\ r.length < (c :: t).length :=
    fun m h1 h2 => ⟨may_leaf m n, by rw [prt_leaf m]; exact h1, h2⟩
   split at h
   . obtain ⟨rfl, h2⟩ := lit_spec h
     exact leaf ⟨⟨.inl rfl, .inl rfl, .inl rfl, rfl⟩, .inl rfl⟩ (by rw [<- h2]; exact Nat.le_refl _) (by rw [<- h2]; simp)
   split at h
   . obtain ⟨rfl, h2⟩ := lit_spec h
     exact leaf ⟨⟨.inr (.inl rfl), .inl rfl, .inl rfl, rfl⟩, .inr (.inr (.inl ⟨rfl, .inr rfl⟩))⟩ (by rw [<- h2]; exact Nat.le_refl _) (by rw [<- h2]; simp)
   split at h
   . obtain ⟨rfl, h2⟩ := lit_spec h
     exact leaf ⟨⟨.inr (.inl rfl), .inl rfl, .inl rfl, rfl⟩, .inr (.inr (.inl ⟨rfl, .inl rfl⟩))⟩ (by rw [<- h2]; exact Nat.le_refl _) (by rw [<- h2]; simp)
   split at h
   . split at h
     . rename_i s r' he
       cases h
       have hv := txtF_valid _ _ _ _ _ (Nat.le_refl _) he .nil
       have hl := txtF_len _ _ _ _ _ (Nat.le_refl _) he
       simp only [List.flatMap_nil, List.length_nil, Nat.zero_add] at hl
       refine leaf ⟨⟨.inl rfl, .inr rfl, .inl rfl, rfl⟩, .inr (.inr (.inr ⟨rfl, hv⟩))⟩ ?_ ?_
       . show (quote s).length + _ <= _
         rw [quote]; simp only [List.length_cons, List.length_append, List.length_nil]; omega
       . simp only [List.length_cons]; omega
     . cases h
   . split at h
     . rename_i z r' he
       cases h
       obtain ⟨h1, h2⟩ := num_spec he
       have h3 : 0 < (numS z).length := by
        unfold numS
        split
        . simp
        . exact List.length_pos_iff.2 (dn_ne _)
       exact leaf ⟨⟨.inr (.inr rfl), .inl rfl, .inl rfl, rfl⟩, .inr (.inl rfl)⟩ h2 (by omega)
     . cases h
theorem lstL_good {f : B -> R} {n : Nat} (hf : Good f n) : ∀ (k : Nat) (l : B) (acc : List JV) (v : JV) (r : B), lstL f k l acc = .ok (v, r) -> (∀ x ∈ acc, may n x) ->
 ∃ ks, v = vList ks /\ (∀ x ∈ ks, may n x) /\ (joinC (ks.map (prt n))).length + 1 + r.length <= (if acc = [] then 0 else (joinC (acc.map (prt n))).length + 1) + l.length /\ r.length < l.length
 | 0, _, _, _, _, h, _ => by cases h
 | k + 1, l, acc, v, r, h, ha => by
   rw [lstL] at h
   split at h
   . cases h
   rename_i u r1 he
   obtain ⟨h1, h2, h3⟩ := hf _ _ _ he
   have hb := blk_len r1
   have ha' : ∀ x ∈ acc ++ [u], may n x := fun x hx => by
    rcases List.mem_append.1 hx with hx | hx
    . exact ha x hx
    . rw [List.mem_singleton.1 hx]; exact h1
   have hj := joinC_len (prt n u) (acc.map (prt n))
   have hne : (acc.map (prt n) = []) ↔ acc = [] := List.map_eq_nil_iff
   split at h
   . rename_i hh
     cases h
     have ht := tail_len hh
     refine ⟨_, rfl, ha', ?_, by omega⟩
     rw [List.map_append, List.map_cons, List.map_nil, hj]
     by_cases hc : acc = []
     . rw [if_pos (hne.2 hc), if_pos hc]; omega
     . rw [if_neg fun e => hc (hne.1 e), if_neg hc]; omega
   split at h
   . rename_i hh
     have ht := tail_len hh
     obtain ⟨ks, rfl, g1, g2, g3⟩ := lstL_good hf k _ _ _ _ h ha'
     refine ⟨ks, rfl, g1, ?_, by omega⟩
     rw [if_neg (by simp), List.map_append, List.map_cons, List.map_nil, hj] at g2
     by_cases hc : acc = []
     . rw [if_pos (hne.2 hc)] at g2; rw [if_pos hc]; omega
     . rw [if_neg fun e => hc (hne.1 e)] at g2; rw [if_neg hc]; omega
   . cases h
theorem lst_good {f : B -> R} {n : Nat} (hf : Good f n) {t r : B} {v : JV} (h : lst f t = .ok (v, r)) : may (n + 1) v /\ (prt (n + 1) v).length + r.length <= t.length + 1 /\ r.length < t.length := by
 have hb := blk_len t
 have fin : ∀ ks : List JV, (∀ x ∈ ks, may n x) -> may (n + 1) (vList ks) /\ (prt (n + 1) (vList ks)).length = (joinC (ks.map (prt n))).length + 2 := fun ks hk => by
  refine ⟨.inr ⟨.inl rfl, ⟨.inl rfl, .inl rfl, .inr (.inl rfl), rfl⟩, ⟨by simp [vList, JV.names], by simp [vList, JV.names]⟩, hk⟩, ?_⟩
  rw [prt, if_pos (show (vList ks).kind = 4 from rfl)]
  simp [vList, JV.kids]
 unfold lst at h
 split at h
 . rename_i hh
   cases h
   have ht := tail_len hh
   obtain ⟨h1, h2⟩ := fin [] (by simp)
   refine ⟨h1, ?_, by omega⟩
   rw [h2]; simp [joinC]; simp at ht; omega
 . obtain ⟨ks, rfl, g1, g2, g3⟩ := lstL_good hf _ _ _ _ _ h (by simp)
   obtain ⟨h1, h2⟩ := fin ks g1
   refine ⟨h1, ?_, by omega⟩
   rw [h2]; rw [if_pos rfl] at g2; omega
theorem nam_spec {ns : List B} {l s r : B} (h : nam ns l = some (s, r)) : Valid s /\ s ∉ ns /\ (quote s).length + 1 + r.length <= l.length := by
 unfold nam at h
 have hb := blk_len l
 split at h
 . rename_i hh
   have ht := tail_len hh
   split at h
   . rename_i s' r' he
     split at h
     . cases h
     . rename_i hn
       split at h
       . rename_i hc
         cases h
         have hv := txtF_valid _ _ _ _ _ (Nat.le_refl _) he .nil
         have hl := txtF_len _ _ _ _ _ (Nat.le_refl _) he
         have hb2 := blk_len r'
         have ht2 := tail_len hc
         simp only [List.flatMap_nil, List.length_nil, Nat.zero_add] at hl
         refine ⟨hv, hn, ?_⟩
         rw [quote]; simp only [List.length_cons, List.length_append, List.length_nil]; omega
       . cases h
   . cases h
 . cases h
theorem zip_snoc {α β γ : Type} (f : α -> β -> γ) {xs : List α} {bs : List β} (h : xs.length = bs.length) (a : α) (b : β) : List.zipWith f (xs ++ [a]) (bs ++ [b]) = List.zipWith f xs bs ++ [f a b] := by
 induction xs generalizing bs with
 | nil => cases bs with
   | nil => rfl
   | cons x r => cases h
 | cons x r ih => cases bs with
   | nil => cases h
   | cons y s => simp only [List.cons_append, List.zipWith_cons_cons]; rw [ih (by simpa using h)]
theorem objL_good {f : B -> R} {n : Nat} (hf : Good f n) : ∀ (k : Nat) (l : B) (ns : List B) (acc : List JV) (v : JV) (r : B), objL f k l ns acc = .ok (v, r) -> (∀ x ∈ acc, may n x) -> ns.length = acc.length -> namesOk ns ->
 ∃ nm ks, v = vObj nm ks /\ (∀ x ∈ ks, may n x) /\ nm.length = ks.length /\ namesOk nm /\ (joinC (List.zipWith ent nm (ks.map (prt n)))).length + 1 + r.length <= (if acc = [] then 0 else (joinC (List.zipWith ent ns (acc.map (prt n)))).length + 1) + l.length /\ r.length < l.length
 | 0, _, _, _, _, _, h, _, _, _ => by cases h
 | k + 1, l, ns, acc, v, r, h, ha, hln, hns => by
   rw [objL] at h
   split at h
   . cases h
   rename_i s r0 hnm
   obtain ⟨m1, m2, m3⟩ := nam_spec hnm
   split at h
   . cases h
   rename_i u r1 he
   obtain ⟨h1, h2, h3⟩ := hf _ _ _ he
   have hb := blk_len r1
   have hq : 0 < (quote s).length := by rw [quote]; simp
   have ha' : ∀ x ∈ acc ++ [u], may n x := fun x hx => by
    rcases List.mem_append.1 hx with hx | hx
    . exact ha x hx
    . rw [List.mem_singleton.1 hx]; exact h1
   have hln' : (ns ++ [s]).length = (acc ++ [u]).length := by simp [hln]
   have hns' : namesOk (ns ++ [s]) := ⟨fun x hx => by
    rcases List.mem_append.1 hx with hx | hx
    . exact hns.1 x hx
    . rw [List.mem_singleton.1 hx]; exact m1, by
    rw [List.nodup_append]
    exact ⟨hns.2, by simp, fun a ha b hb e => by rw [List.mem_singleton.1 hb] at e; exact m2 (e ▸ ha)⟩⟩
   have hz : List.zipWith ent (ns ++ [s]) ((acc ++ [u]).map (prt n)) = List.zipWith ent ns (acc.map (prt n)) ++ [ent s (prt n u)] := by
    rw [List.map_append, List.map_cons, List.map_nil, zip_snoc _ (by simp [hln])]
   have hj := joinC_len (ent s (prt n u)) (List.zipWith ent ns (acc.map (prt n)))
   have hel : (ent s (prt n u)).length = (quote s).length + 1 + (prt n u).length := by rw [ent]; simp; omega
   have hne : (List.zipWith ent ns (acc.map (prt n)) = []) ↔ acc = [] := by
    rw [List.zipWith_eq_nil_iff, List.map_eq_nil_iff]
    constructor
    . rintro (h | h)
      . rw [h] at hln; exact List.length_eq_zero_iff.1 hln.symm
      . exact h
    . exact .inr
   split at h
   . rename_i hh
     cases h
     have ht := tail_len hh
     refine ⟨_, _, rfl, ha', hln', hns', ?_, by omega⟩
     rw [hz, hj]
     by_cases hc : acc = []
     . rw [if_pos (hne.2 hc), if_pos hc]; omega
     . rw [if_neg fun e => hc (hne.1 e), if_neg hc]; omega
   split at h
   . rename_i hh
     have ht := tail_len hh
     obtain ⟨nm, ks, rfl, g1, g2, g3, g4, g5⟩ := objL_good hf k _ _ _ _ _ h ha' hln' hns'
     refine ⟨nm, ks, rfl, g1, g2, g3, ?_, by omega⟩
     rw [if_neg (by simp), hz, hj] at g4
     by_cases hc : acc = []
     . rw [if_pos (hne.2 hc)] at g4; rw [if_pos hc]; omega
     . rw [if_neg fun e => hc (hne.1 e)] at g4; rw [if_neg hc]; omega
   . cases h
theorem obj_good {f : B -> R} {n : Nat} (hf : Good f n) {t r : B} {v : JV} (h : obj f t = .ok (v, r)) : may (n + 1) v /\ (prt (n + 1) v).length + r.length <= t.length + 1 /\ r.length < t.length := by
 have hb := blk_len t
 have fin : ∀ (nm : List B) (ks : List JV), (∀ x ∈ ks, may n x) -> nm.length = ks.length -> namesOk nm -> may (n + 1) (vObj nm ks) /\ (prt (n + 1) (vObj nm ks)).length = (joinC (List.zipWith ent nm (ks.map (prt n)))).length + 2 := fun nm ks hk hl hn => by
  refine ⟨.inr ⟨.inr rfl, ⟨.inl rfl, .inl rfl, .inr (.inr rfl), hl⟩, hn, hk⟩, ?_⟩
  rw [prt, if_neg (show ¬ (vObj nm ks).kind = 4 from (by decide : (5 : UInt8) ≠ 4)), if_pos (show (vObj nm ks).kind = 5 from rfl)]
  simp [vObj, JV.kids, JV.names]
 unfold obj at h
 split at h
 . rename_i hh
   cases h
   have ht := tail_len hh
   obtain ⟨h1, h2⟩ := fin [] [] (by simp) rfl ⟨by simp, by simp⟩
   refine ⟨h1, ?_, by omega⟩
   rw [h2]; simp [joinC]; simp at ht; omega
 . obtain ⟨nm, ks, rfl, g1, g2, g3, g4, g5⟩ := objL_good hf _ _ _ _ _ _ h (by simp) rfl ⟨by simp, by simp⟩
   obtain ⟨h1, h2⟩ := fin nm ks g1 g2 g3
   refine ⟨h1, ?_, by omega⟩
   rw [h2]; rw [if_pos rfl] at g4; omega
theorem val_good : ∀ n, Good (val n) n
 | 0 => by
   intro l v r h
   have hb := blk_len l
   rw [val] at h
   split at h
   . cases h
   . obtain ⟨h1, h2, h3⟩ := valL_good 0 _ _ _ h
     exact ⟨h1, by omega, by omega⟩
 | n + 1 => by
   intro l v r h
   have hb := blk_len l
   rw [val] at h
   split at h
   . rename_i hh
     have ht := tail_len hh
     obtain ⟨h1, h2, h3⟩ := lst_good (val_good n) h
     exact ⟨h1, by omega, by omega⟩
   split at h
   . rename_i hh
     have ht := tail_len hh
     obtain ⟨h1, h2, h3⟩ := obj_good (val_good n) h
     exact ⟨h1, by omega, by omega⟩
   . obtain ⟨h1, h2, h3⟩ := valL_good (n + 1) _ _ _ h
     exact ⟨h1, by omega, by omega⟩
theorem parse_good {b : B} {v : JV} (h : parse b = .ok v) : may 8 v /\ (prt 8 v).length <= b.length := by
 unfold parse at h
 split at h
 . cases h
 split at h
 . cases h
 rename_i u r he
 split at h
 . cases h
   obtain ⟨h1, h2, _⟩ := val_good 8 _ _ _ he
   exact ⟨h1, by omega⟩
 . cases h
end Go.J
namespace Go.J
def wide (v : JV) : Prop := -2 ^ 63 <= v.num /\ v.num < 2 ^ 63
def fits : Nat -> JV -> Prop
 | 0, v => wide v
 | n + 1, v => wide v /\ ∀ k ∈ v.kids, fits n k
theorem fits_wide {n : Nat} {v : JV} (h : fits n v) : wide v := by cases n with
 | zero => exact h
 | succ n => exact h.1
theorem prt_head {n : Nat} {v : JV} (h : may n v) : ∃ a t, prt n v = a :: t /\ isB a = false /\ a ≠ 93 /\ a ≠ 44 /\ a ≠ 125 := by
 have leaf : mayL v -> ∃ a t, prtL v = a :: t /\ isB a = false /\ a ≠ 93 /\ a ≠ 44 /\ a ≠ 125 := by
  intro h
  unfold prtL
  split
  . exact ⟨110, _, rfl, by decide, by decide, by decide, by decide⟩
  split
  . split
    . exact ⟨116, _, rfl, by decide, by decide, by decide, by decide⟩
    . exact ⟨102, _, rfl, by decide, by decide, by decide, by decide⟩
  split
  . unfold numS
    split
    . exact ⟨45, _, rfl, by decide, by decide, by decide, by decide⟩
    . have hd := dn_digits v.num.toNat
      cases hc : dn v.num.toNat with
      | nil => exact absurd hc (dn_ne _)
      | cons a t =>
        have ha := hd a (by rw [hc]; simp)
        refine ⟨a, t, rfl, ?_, ?_, ?_, ?_⟩
        . have hn : 48 <= a.toNat /\ a.toNat <= 57 := of_decide_eq_true ha
          have ne : ∀ x : UInt8, x.toNat < 48 -> a ≠ x := fun x hx e => by subst e; omega
          unfold isB
          rw [decide_eq_false (ne 32 (by decide)), decide_eq_false (ne 9 (by decide)), decide_eq_false (ne 10 (by decide)), decide_eq_false (ne 13 (by decide))]; rfl
        . rintro rfl; exact absurd ha (by decide)
        . rintro rfl; exact absurd ha (by decide)
        . rintro rfl; exact absurd ha (by decide)
  . exact ⟨34, _, rfl, by decide, by decide, by decide, by decide⟩
 cases n with
 | zero => exact leaf h
 | succ n =>
   rw [prt]
   split
   . exact ⟨91, _, rfl, by decide, by decide, by decide, by decide⟩
   split
   . exact ⟨123, _, rfl, by decide, by decide, by decide, by decide⟩
   . rcases h with h | h
     . exact leaf h
     . rename_i h4 h5
       exact absurd h.1 (by rintro (e | e); exact h4 e; exact h5 e)
def after (v : JV) (r : B) : Prop := v.kind = 2 -> ∀ x, r.head? = some x -> isD x = false
theorem joinC_nlen {l : List B} (h : ∀ x ∈ l, 0 < x.length) : l.length <= (joinC l).length := by
 induction l with
 | nil => simp
 | cons a r ih =>
   cases r with
   | nil => simp [joinC]; exact h a (by simp)
   | cons b r =>
     have := ih fun x hx => h x (by simp at hx ⊢; exact .inr hx)
     have := h a (by simp)
     simp only [joinC, List.length_append, List.length_cons] at *
     omega
theorem prt_pos {n : Nat} {v : JV} (h : may n v) : 0 < (prt n v).length := by
 obtain ⟨a, t, e, _⟩ := prt_head h
 rw [e]; simp
end Go.J
namespace Go.J
theorem fits_small {v : JV} (h : -2 ^ 63 <= v.num /\ v.num < 2 ^ 63) (hk : v.kids = []) (n : Nat) : fits n v := by
 cases n with
 | zero => exact h
 | succ n => exact ⟨h, by rw [hk]; simp⟩
theorem may_leaf_num (z : Int) (n : Nat) : may n (vNum z) := may_leaf ⟨⟨.inr (.inr rfl), .inl rfl, .inl rfl, rfl⟩, .inr (.inl rfl)⟩ n
end Go.J
namespace Go.J
theorem enc_length (c : Nat) : (enc c).length = if okC c then (if c < 0x80 then 1 else if c < 0x800 then 2 else if c < 0x10000 then 3 else 4) else 0 := by
 split
 . rename_i ok
   rcases enc_cases ok with ⟨h, e⟩ | ⟨h1, h2, e⟩ | ⟨h1, h2, e⟩ | ⟨h1, e⟩ <;> rw [e]
   . rw [if_pos h]
   . rw [if_neg (by omega), if_pos h2]
   . rw [if_neg (by omega), if_neg (by omega), if_pos h2]
   . rw [if_neg (by omega), if_neg (by omega), if_neg (by omega)]
 . rename_i ok; rw [enc_nil ok]; rfl
theorem isC_iff {x : UInt8} : isC x = true ↔ 0x80 <= x.toNat /\ x.toNat < 0xc0 := decide_eq_true_iff
theorem dec_bad {a : UInt8} (r : B) (h : (0x80 <= a.toNat /\ a.toNat < 0xc2) ∨ 0xf5 <= a.toNat) : dec (a :: r) = (0, 0) := by
 have ch : ∀ c n, (¬ okC c ∨ (enc c).length ≠ n) -> 0 < n -> chk c n = (0, 0) := fun c n h hn => by
  unfold chk
  rw [if_neg]
  rcases h with h | h
  . rw [enc_nil h]; simp; omega
  . exact h
 rw [dec, if_neg (by omega)]
 split
 . rfl
 split
 . rename_i h1 h2
   unfold d2
   split
   . rename_i x t
     split
     . rename_i hx
       have hx := isC_iff.1 hx
       refine ch _ _ (.inr ?_) (by omega)
       rw [enc_length, if_pos (show okC _ from ⟨by omega, by omega⟩), if_pos (by omega)]; omega
     . rfl
   . rfl
 split
 . omega
 split
 . rename_i h1 h2 h3 h4
   unfold d4
   split
   . rename_i x y z t
     split
     . exact ch _ _ (.inl fun ok => by have := ok.1; omega) (by omega)
     . rfl
   . rfl
 . rfl
theorem dec_one {a : UInt8} (r : B) (h : a.toNat < 0x80) : dec (a :: r) = (a.toNat, 1) := by rw [dec, if_pos h]
theorem dec_two {a : UInt8} (r : B) (h : 0xc2 <= a.toNat) (h2 : a.toNat < 0xe0) : dec (a :: r) = match r with
 | x :: _ => if 0x80 <= x.toNat /\ x.toNat < 0xc0 then (64 * (a.toNat - 0xc0) + (x.toNat - 0x80), 2) else (0, 0)
 | [] => (0, 0) := by
 rw [dec, if_neg (by omega), if_neg (by omega), if_pos h2]
 cases r with
 | nil => rfl
 | cons x t =>
   rw [d2]
   dsimp only
   by_cases hx : 0x80 <= x.toNat /\ x.toNat < 0xc0
   . rw [if_pos (isC_iff.2 hx), if_pos hx, chk, if_pos (by rw [enc_length, if_pos (show okC _ from ⟨by omega, by omega⟩), if_neg (by omega), if_pos (by omega)])]
     rw [Prod.mk.injEq]; exact ⟨by omega, rfl⟩
   . rw [if_neg (fun e => hx (isC_iff.1 e)), if_neg hx]
theorem dec_three {a : UInt8} (r : B) (h : 0xe0 <= a.toNat) (h2 : a.toNat < 0xf0) : dec (a :: r) = match r with
 | x :: y :: _ => if (if a.toNat = 0xe0 then 0xa0 else 0x80) <= x.toNat /\ x.toNat <= (if a.toNat = 0xed then 0x9f else 0xbf) /\ 0x80 <= y.toNat /\ y.toNat < 0xc0 then (4096 * (a.toNat - 0xe0) + 64 * (x.toNat - 0x80) + (y.toNat - 0x80), 3) else (0, 0)
 | _ => (0, 0) := by
 rw [dec, if_neg (by omega), if_neg (by omega), if_neg (by omega), if_pos h2]
 match r with
 | [] => rfl
 | [_] => rfl
 | x :: y :: t =>
   rw [d3]
   dsimp only
   by_cases hx : (if a.toNat = 0xe0 then 0xa0 else 0x80) <= x.toNat /\ x.toNat <= (if a.toNat = 0xed then 0x9f else 0xbf) /\ 0x80 <= y.toNat /\ y.toNat < 0xc0
   . rw [if_pos hx]
     have hx' : 0x80 <= x.toNat /\ x.toNat < 0xc0 := by
      obtain ⟨h1, h2, _⟩ := hx
      split at h1 <;> split at h2 <;> omega
     obtain ⟨g1, g2, g3⟩ := hx
     rw [if_pos ⟨isC_iff.2 hx', isC_iff.2 g3⟩, chk]
     have ok : okC (64 * (64 * (a.toNat % 16) + x.toNat % 64) + y.toNat % 64) := ⟨by omega, by
      split at g2 <;> omega⟩
     rw [if_pos (by rw [enc_length, if_pos ok, if_neg (by split at g1 <;> omega), if_neg (by split at g1 <;> omega), if_pos (by omega)])]
     rw [Prod.mk.injEq]; exact ⟨by omega, rfl⟩
   . rw [if_neg hx]
     by_cases hc : isC x = true /\ isC y = true
     . rw [if_pos hc, chk]
       have c1 := isC_iff.1 hc.1
       have c2 := isC_iff.1 hc.2
       rw [if_neg]
       rw [enc_length]
       intro e
       split at e
       . rename_i ok
         have ok2 := ok.2
         refine hx ⟨?_, ?_, c2⟩
         . split
           . rename_i he
             by_cases h8 : 64 * (64 * (a.toNat % 16) + x.toNat % 64) + y.toNat % 64 < 0x800
             . rw [if_pos h8] at e; split at e <;> omega
             . omega
           . exact c1.1
         . split
           . rename_i he; omega
           . omega
       . cases e
     . rw [if_neg hc]
theorem dec_four {a : UInt8} (r : B) (h : 0xf0 <= a.toNat) (h2 : a.toNat < 0xf5) : dec (a :: r) = match r with
 | x :: y :: z :: _ => if (if a.toNat = 0xf0 then 0x90 else 0x80) <= x.toNat /\ x.toNat <= (if a.toNat = 0xf4 then 0x8f else 0xbf) /\ (0x80 <= y.toNat /\ y.toNat < 0xc0) /\ 0x80 <= z.toNat /\ z.toNat < 0xc0 then (262144 * (a.toNat - 0xf0) + 4096 * (x.toNat - 0x80) + 64 * (y.toNat - 0x80) + (z.toNat - 0x80), 4) else (0, 0)
 | _ => (0, 0) := by
 rw [dec, if_neg (by omega), if_neg (by omega), if_neg (by omega), if_neg (by omega), if_pos (by omega)]
 match r with
 | [] => rfl
 | [_] => rfl
 | [_, _] => rfl
 | x :: y :: z :: t =>
   rw [d4]
   dsimp only
   by_cases hx : (if a.toNat = 0xf0 then 0x90 else 0x80) <= x.toNat /\ x.toNat <= (if a.toNat = 0xf4 then 0x8f else 0xbf) /\ (0x80 <= y.toNat /\ y.toNat < 0xc0) /\ 0x80 <= z.toNat /\ z.toNat < 0xc0
   . rw [if_pos hx]
     have hx' : 0x80 <= x.toNat /\ x.toNat < 0xc0 := by
      obtain ⟨h1, h2, _⟩ := hx
      split at h1 <;> split at h2 <;> omega
     obtain ⟨g1, g2, g3, g4⟩ := hx
     rw [if_pos ⟨isC_iff.2 hx', isC_iff.2 g3, isC_iff.2 g4⟩, chk]
     have ok : okC (64 * (64 * (64 * (a.toNat % 8) + x.toNat % 64) + y.toNat % 64) + z.toNat % 64) := ⟨by split at g2 <;> omega, .inr (by split at g1 <;> omega)⟩
     rw [if_pos (by rw [enc_length, if_pos ok, if_neg (by split at g1 <;> omega), if_neg (by split at g1 <;> omega), if_neg (by split at g1 <;> omega)])]
     rw [Prod.mk.injEq]; exact ⟨by omega, rfl⟩
   . rw [if_neg hx]
     by_cases hc : isC x = true /\ isC y = true /\ isC z = true
     . rw [if_pos hc, chk]
       have c1 := isC_iff.1 hc.1
       have c2 := isC_iff.1 hc.2.1
       have c3 := isC_iff.1 hc.2.2
       rw [if_neg]
       rw [enc_length]
       intro e
       split at e
       . rename_i ok
         have ok1 := ok.1
         refine hx ⟨?_, ?_, c2, c3⟩
         . split
           . rename_i he
             by_cases h8 : 64 * (64 * (64 * (a.toNat % 8) + x.toNat % 64) + y.toNat % 64) + z.toNat % 64 < 0x10000
             . rw [if_pos h8] at e
               (repeat' split at e) <;> omega
             . omega
           . exact c1.1
         . split
           . rename_i he; omega
           . omega
       . cases e
     . rw [if_neg hc]
end Go.J
namespace Go.J
open Go.Lib
theorem dval_cons_acc (l : B) (a : Nat) : l.foldl (fun a x => 10 * a + (x.toNat - 48)) a = a * 10 ^ l.length + dval l := by
 induction l generalizing a with
 | nil => simp [dval]
 | cons x r ih =>
   rw [dval, List.foldl_cons, List.foldl_cons, ih, ih, List.length_cons, Nat.pow_succ]
   rw [Nat.mul_zero, Nat.zero_add, Nat.add_mul, Nat.add_assoc, Nat.mul_comm 10 a, Nat.mul_assoc, Nat.mul_comm 10 (10 ^ r.length)]
theorem parseUintM_digits : ∀ (l : B) (acc : Nat), (∀ x ∈ l, isD x = true) -> parseUintM (2 ^ 64 - 1) acc l = if l.foldl (fun a x => 10 * a + (x.toNat - 48)) acc < 2 ^ 64 ∨ l = [] then .ok (l.foldl (fun a x => 10 * a + (x.toNat - 48)) acc) else .range
 | [], acc, _ => by simp [parseUintM]
 | x :: r, acc, h => by
   have hx : 48 <= x.toNat /\ x.toNat <= 57 := of_decide_eq_true (h x (by simp))
   have hr : ∀ y ∈ r, isD y = true := fun y hy => h y (by simp [hy])
   rw [parseUintM, if_pos hx, List.foldl_cons]
   have big : ∀ a : Nat, 2 ^ 64 <= a -> 2 ^ 64 <= r.foldl (fun a x => 10 * a + (x.toNat - 48)) a := by
    intro a ha
    rw [dval_cons_acc]
    have : 1 <= 10 ^ r.length := Nat.one_le_pow _ _ (by omega)
    have := Nat.le_mul_of_pos_right a this
    omega
   have ne : ¬ (x :: r = []) := by simp
   split
   . rename_i h1
     have := big (10 * acc + (x.toNat - 48)) (by omega)
     rw [if_neg (by rintro (h | h); omega; exact ne h)]
   split
   . rename_i h1 h2
     have := big (10 * acc + (x.toNat - 48)) (by omega)
     rw [if_neg (by rintro (h | h); omega; exact ne h)]
   . rename_i h1 h2
     rw [parseUintM_digits r _ hr, Nat.mul_comm acc 10]
     by_cases hc : r.foldl (fun a x => 10 * a + (x.toNat - 48)) (10 * acc + (x.toNat - 48)) < 2 ^ 64
     . rw [if_pos (.inl hc), if_pos (.inl hc)]
     . by_cases hn : r = []
       . subst hn; simp at hc; omega
       . rw [if_neg (by rintro (h | h); exact hc h; exact hn h), if_neg (by rintro (h | h); exact hc h; exact ne h)]
theorem parseInt_pos {d : B} (h : ∀ x ∈ d, isD x = true) (hn : d ≠ []) : parseIntB 64 d = if dval d < 2 ^ 63 then .ok (dval d : Int) else .range := by
 cases d with
 | nil => exact absurd rfl hn
 | cons c r =>
   have hc : 48 <= c.toNat /\ c.toNat <= 57 := of_decide_eq_true (h c (by simp))
   have hu : parseUintM (2 ^ 64 - 1) 0 (c :: r) = if dval (c :: r) < 2 ^ 64 ∨ c :: r = [] then .ok (dval (c :: r)) else .range := parseUintM_digits (c :: r) 0 h
   unfold parseIntB
   dsimp only
   rw [if_neg (by omega), parseUintB, if_neg hn, hu]
   by_cases h1 : dval (c :: r) < 2 ^ 64
   . rw [if_pos (.inl h1)]
     dsimp only
     by_cases h2 : dval (c :: r) < 2 ^ 63
     . rw [if_neg (by omega), if_neg (by omega), if_neg (by omega), if_pos h2]
     . rw [if_pos ⟨by omega, by omega⟩, if_neg h2]
   . rw [if_neg (by rintro (h | h); exact h1 h; exact hn h), if_neg (by omega)]
theorem parseInt_neg {d : B} (h : ∀ x ∈ d, isD x = true) (hn : d ≠ []) : parseIntB 64 (45 :: d) = if dval d <= 2 ^ 63 then .ok (-(dval d : Int)) else .range := by
 have hu : parseUintM (2 ^ 64 - 1) 0 d = if dval d < 2 ^ 64 ∨ d = [] then .ok (dval d) else .range := parseUintM_digits d 0 h
 unfold parseIntB
 dsimp only
 rw [if_pos (.inr rfl), parseUintB, if_neg hn, hu]
 by_cases h1 : dval d < 2 ^ 64
 . rw [if_pos (.inl h1)]
   dsimp only
   by_cases h2 : dval d <= 2 ^ 63
   . rw [if_neg (by rintro ⟨a, _⟩; exact a rfl), if_neg (by rintro ⟨_, b⟩; omega), if_pos (by rfl : UInt8.toNat 45 = 45), if_pos h2]
   . rw [if_neg (by rintro ⟨a, _⟩; exact a rfl), if_pos ⟨rfl, by omega⟩, if_neg h2]
 . rw [if_neg (by rintro (h | h); exact h1 h; exact hn h), if_neg (by omega)]
end Go.J
namespace Go.E
def ba (l : List UInt8) : ByteArray := ⟨l.toArray⟩
def str (l : List UInt8) : AV := .p (.string (ba l))
theorem ba_size (l : List UInt8) : (ba l).size = l.length := by show l.toArray.size = _; simp
theorem ba_get (l : List UInt8) (i : Nat) : (ba l)[i]? = l[i]? := by
 by_cases h : i < l.length
 . rw [List.getElem?_eq_getElem h]
   have h' : i < (ba l).size := by rw [ba_size]; exact h
   rw [getElem?_pos (ba l) i h']
   rfl
 . rw [List.getElem?_eq_none (by omega), getElem?_neg (ba l) i (by rw [ba_size]; exact h)]
theorem ba_ext (l : List UInt8) (a b : Nat) : (ba l).extract a b = ba ((l.drop a).take (b - a)) := by
 have : ((ba l).extract a b).data = (ba ((l.drop a).take (b - a))).data := by
  rw [ByteArray.data_extract]
  show l.toArray.extract a b = _
  rw [List.extract_toArray, List.extract_eq_take_drop]; rfl
 exact ByteArray.ext this
theorem ba_data (l : List UInt8) : (ba l).data.toList = l := rfl
theorem ba_inj {a b : List UInt8} : ba a = ba b ↔ a = b := ⟨fun h => by rw [<- ba_data a, h, ba_data], fun h => by rw [h]⟩
open Go.J
mutual
def vcs : JV -> List AV
 | .mk k z s ks ns => [by8 k, .p (.int .i64 z), str s, .vs (vcsL ks) ks.length, .vs (ns.map str) ns.length]
def vcsL : List JV -> List AV
 | [] => []
 | v :: r => vcs v ++ vcsL r
end
theorem vcsL_eq : ∀ l : List JV, vcsL l = l.flatMap vcs
 | [] => by rw [vcsL]; rfl
 | v :: r => by rw [vcsL, vcsL_eq r]; rfl
theorem vcs_eq (v : JV) : vcs v = [by8 v.kind, .p (.int .i64 v.num), str v.text, .vs (v.kids.flatMap vcs) v.kids.length, .vs (v.names.map str) v.names.length] := by
 cases v; rw [vcs, vcsL_eq]; rfl
theorem vcs_len (v : JV) : (vcs v).length = 5 := by rw [vcs_eq]; rfl
theorem str_wo (q : Nat -> Bool) (l : List UInt8) : (str l).wo q = str l := by rw [str, AV.wo]
theorem vcs_wo (q : Nat -> Bool) (v : JV) : (vcs v).map (AV.wo q) = vcs v := by rw [vcs_eq]; simp only [List.map_cons, List.map_nil, AV.wo, str, by8]
theorem vcs_pub (i : Nat) (cs : List AV) (v : JV) : (vcs v).map (AV.pub i cs) = vcs v := by rw [vcs_eq]; simp only [List.map_cons, List.map_nil, AV.pub, str, by8]
end Go.E
namespace Go.E
theorem gn0 (T : Tbl) (o : AObj) (l : Tbl) : (T ++ o :: l)[T.length]? = some o := by simp
theorem gn1 (T : Tbl) (a o : AObj) (l : Tbl) : (T ++ a :: o :: l)[T.length + 1]? = some o := by simp
theorem gn2 (T : Tbl) (a b o : AObj) (l : Tbl) : (T ++ a :: b :: o :: l)[T.length + 2]? = some o := by simp
theorem gn3 (T : Tbl) (a b c o : AObj) (l : Tbl) : (T ++ a :: b :: c :: o :: l)[T.length + 3]? = some o := by simp
theorem gn4 (T : Tbl) (a b c d o : AObj) (l : Tbl) : (T ++ a :: b :: c :: d :: o :: l)[T.length + 4]? = some o := by simp
theorem gn5 (T : Tbl) (a b c d e o : AObj) (l : Tbl) : (T ++ a :: b :: c :: d :: e :: o :: l)[T.length + 5]? = some o := by simp
theorem gn6 (T : Tbl) (a b c d e f o : AObj) (l : Tbl) : (T ++ a :: b :: c :: d :: e :: f :: o :: l)[T.length + 6]? = some o := by simp
theorem gn7 (T : Tbl) (a b c d e f g o : AObj) (l : Tbl) : (T ++ a :: b :: c :: d :: e :: f :: g :: o :: l)[T.length + 7]? = some o := by simp
theorem gn8 (T : Tbl) (a b c d e f g h o : AObj) (l : Tbl) : (T ++ a :: b :: c :: d :: e :: f :: g :: h :: o :: l)[T.length + 8]? = some o := by simp
theorem vres (P : Program) (loc : List AV) (T : Tbl) :
 (∀ a b rs (K : AV -> Prop), resA P (a :: b :: rs) loc T K = rsA P loc T (a :: b :: rs) fun l => oneA l K) /\ (∀ K : List AV -> Prop, rsA P loc T [] K = K []) /\
 (∀ t r (K : List AV -> Prop), rsA P loc T (.tmp t :: r) K = rsA P loc T r fun l => K (loc.getD t .any :: l)) /\
 (∀ t ty r (K : List AV -> Prop), rsA P loc T (.cell t ty :: r) K = loadA P ty (loc.getD t .any) T fun v => rsA P loc T r fun l => K (v :: l)) /\
 (∀ a b l (K : AV -> Prop), oneA (a :: b :: l) K = K (.tu (a :: b :: l))) := ⟨fun _ _ _ _ => rfl, fun _ => rfl, fun _ _ _ => rfl, fun _ _ _ _ => rfl, fun _ _ _ _ => rfl⟩
theorem rep1 (l : List AV) : (List.replicate 1 l).flatten = l := by simp
theorem vone (a b : AV) (l : List AV) (K : AV -> Prop) : oneA (a :: b :: l) K = K (.tu (a :: b :: l)) := rfl
theorem bb2 : ((false || false) = false) /\ ((false || true) = true) /\ ((true || false) = true) /\ ((true || true) = true) /\ ((!false) = true) /\ ((!true) = false) /\ ((false == false) = true) /\ ((true == true) = true) /\ ((true == false) = false) /\ ((false == true) = false) := by decide
end Go.E
namespace Go.Proofs.YtglpcedoongagaaGreatDoor
open Go.E Go.Proofs.Tryz
theorem Tryz.ty0 : tk prog 2 = .int .i64 /\ tsz prog 2 = 1 /\ tak prog 2 = some false /\ tk prog 3 = .int .i64 /\ tsz prog 3 = 1 /\ tzr prog 3 = some (.int .i64 0) /\ tak prog 3 = some false /\ tsz prog 4 = 1 /\ tak prog 4 = some false /\ tk prog 5 = .int .u8 /\ tsz prog 5 = 1 /\ tby prog 5 = 1 /\ tzr prog 5 = some (.int .u8 0) /\ tak prog 5 = some false /\ tk prog 9 = .string /\ tsz prog 9 = 1 /\ tby prog 9 = 16 /\ tzr prog 9 = some (.string .empty) /\ tak prog 9 = some false /\ tk prog 21 = .int .i32 /\ tk prog 22 = .slice 25 /\ tsz prog 22 = 1 /\ tak prog 22 = some false /\ tk prog 23 = .slice 9 /\ tsz prog 23 = 1 /\ tak prog 23 = some false /\ tsz prog 25 = 5 /\ tby prog 25 = 80 /\ tzr prog 25 = some (.agg #[.int .u8 0, .int .i64 0, .string .empty, .slice none 0 0, .slice none 0 0]) /\ tak prog 25 = some true /\ tfo prog 25 0 = some 0 /\ tff prog 25 0 = some (0, 5) /\ tfo prog 25 1 = some 1 /\ tff prog 25 1 = some (1, 2) /\ tfo prog 25 2 = some 2 /\ tff prog 25 2 = some (2, 9) /\ tfo prog 25 3 = some 3 /\ tff prog 25 3 = some (3, 22) /\ tfo prog 25 4 = some 4 /\ tst prog 25 = true := by refine ⟨?_, ?_, ?_, ?_, ?_, ?_, ?_, ?_, ?_, ?_, ?_, ?_, ?_, ?_, ?_, ?_, ?_, ?_, ?_, ?_, ?_, ?_, ?_, ?_, ?_, ?_, ?_, ?_, ?_, ?_, ?_, ?_, ?_, ?_, ?_, ?_, ?_, ?_, ?_, ?_⟩ <;> kernel_rfl
theorem Tryz.ty1 : tk prog 29 = .slice 5 /\ tsz prog 29 = 1 /\ tak prog 29 = some false /\ tk prog 30 = .int .i64 /\ tsz prog 30 = 1 /\ tzr prog 30 = some (.int .i64 0) /\ tak prog 30 = some false /\ tzr prog 52 = some (.agg #[.slice none 0 0]) /\ tfo prog 52 0 = some 0 /\ tff prog 52 0 = some (0, 29) /\ tst prog 52 = true /\ tzr prog 57 = some (.agg #[.string .empty, .int .i64 0, .int .i64 0]) /\ tfo prog 57 0 = some 0 /\ tff prog 57 0 = some (0, 9) /\ tfo prog 57 1 = some 1 /\ tfo prog 57 2 = some 2 /\ tst prog 57 = true /\ tk prog 64 = .map 9 3 /\ tk prog 75 = .int .u64 /\ tk prog 77 = .int .u64 /\ tsz prog 77 = 1 /\ tak prog 77 = some false /\ tk prog 80 = .array 256 5 /\ tsz prog 82 = 2 /\ tzr prog 82 = some (.agg #[.int .u8 0, .int .u8 0]) /\ tak prog 82 = some true /\ tfo prog 82 0 = some 0 /\ tfo prog 82 1 = some 1 /\ tk prog 83 = .array 16 82 /\ tk prog 99 = .array 256 4 /\ tsz prog 99 = 256 /\ tzr prog 99 = some (.agg #[.bool false, .bool false, .bool false, .bool false, .bool false, .bool false, .bool false, .bool false, .bool false, .bool false, .bool false, .bool false, .bool false, .bool false, .bool false, .bool false, .bool false, .bool false, .bool false, .bool false, .bool false, .bool false, .bool false, .bool false, .bool false, .bool false, .bool false, .bool false, .bool false, .bool false, .bool false, .bool false, .bool false, .bool false, .bool false, .bool false, .bool false, .bool false, .bool false, .bool false, .bool false, .bool false, .bool false, .bool false, .bool false, .bool false, .bool false, .bool false, .bool false, .bool false, .bool false, .bool false, .bool false, .bool false, .bool false, .bool false, .bool false, .bool false, .bool false, .bool false, .bool false, .bool false, .bool false, .bool false, .bool false, .bool false, .bool false, .bool false, .bool false, .bool false, .bool false, .bool false, .bool false, .bool false, .bool false, .bool false, .bool false, .bool false, .bool false, .bool false, .bool false, .bool false, .bool false, .bool false, .bool false, .bool false, .bool false, .bool false, .bool false, .bool false, .bool false, .bool false, .bool false, .bool false, .bool false, .bool false, .bool false, .bool false, .bool false, .bool false, .bool false, .bool false, .bool false, .bool false, .bool false, .bool false, .bool false, .bool false, .bool false, .bool false, .bool false, .bool false, .bool false, .bool false, .bool false, .bool false, .bool false, .bool false, .bool false, .bool false, .bool false, .bool false, .bool false, .bool false, .bool false, .bool false, .bool false, .bool false, .bool false, .bool false, .bool false, .bool false, .bool false, .bool false, .bool false, .bool false, .bool false, .bool false, .bool false, .bool false, .bool false, .bool false, .bool false, .bool false, .bool false, .bool false, .bool false, .bool false, .bool false, .bool false, .bool false, .bool false, .bool false, .bool false, .bool false, .bool false, .bool false, .bool false, .bool false, .bool false, .bool false, .bool false, .bool false, .bool false, .bool false, .bool false, .bool false, .bool false, .bool false, .bool false, .bool false, .bool false, .bool false, .bool false, .bool false, .bool false, .bool false, .bool false, .bool false, .bool false, .bool false, .bool false, .bool false, .bool false, .bool false, .bool false, .bool false, .bool false, .bool false, .bool false, .bool false, .bool false, .bool false, .bool false, .bool false, .bool false, .bool false, .bool false, .bool false, .bool false, .bool false, .bool false, .bool false, .bool false, .bool false, .bool false, .bool false, .bool false, .bool false, .bool false, .bool false, .bool false, .bool false, .bool false, .bool false, .bool false, .bool false, .bool false, .bool false, .bool false, .bool false, .bool false, .bool false, .bool false, .bool false, .bool false, .bool false, .bool false, .bool false, .bool false, .bool false, .bool false, .bool false, .bool false, .bool false, .bool false, .bool false, .bool false, .bool false, .bool false, .bool false, .bool false, .bool false, .bool false, .bool false, .bool false, .bool false, .bool false, .bool false, .bool false, .bool false, .bool false, .bool false, .bool false, .bool false, .bool false]) /\ tak prog 99 = some true /\ tk prog 107 = .int .u32 /\ tk prog 111 = .array 24 5 /\ tzr prog 111 = some (.agg #[.int .u8 0, .int .u8 0, .int .u8 0, .int .u8 0, .int .u8 0, .int .u8 0, .int .u8 0, .int .u8 0, .int .u8 0, .int .u8 0, .int .u8 0, .int .u8 0, .int .u8 0, .int .u8 0, .int .u8 0, .int .u8 0, .int .u8 0, .int .u8 0, .int .u8 0, .int .u8 0, .int .u8 0, .int .u8 0, .int .u8 0, .int .u8 0]) /\ tk prog 124 = .array 20 77 /\ tk prog 125 = .array 65 5 /\ tzr prog 125 = some (.agg #[.int .u8 0, .int .u8 0, .int .u8 0, .int .u8 0, .int .u8 0, .int .u8 0, .int .u8 0, .int .u8 0, .int .u8 0, .int .u8 0, .int .u8 0, .int .u8 0, .int .u8 0, .int .u8 0, .int .u8 0, .int .u8 0, .int .u8 0, .int .u8 0, .int .u8 0, .int .u8 0, .int .u8 0, .int .u8 0, .int .u8 0, .int .u8 0, .int .u8 0, .int .u8 0, .int .u8 0, .int .u8 0, .int .u8 0, .int .u8 0, .int .u8 0, .int .u8 0, .int .u8 0, .int .u8 0, .int .u8 0, .int .u8 0, .int .u8 0, .int .u8 0, .int .u8 0, .int .u8 0, .int .u8 0, .int .u8 0, .int .u8 0, .int .u8 0, .int .u8 0, .int .u8 0, .int .u8 0, .int .u8 0, .int .u8 0, .int .u8 0, .int .u8 0, .int .u8 0, .int .u8 0, .int .u8 0, .int .u8 0, .int .u8 0, .int .u8 0, .int .u8 0, .int .u8 0, .int .u8 0, .int .u8 0, .int .u8 0, .int .u8 0, .int .u8 0, .int .u8 0]) /\ tk prog 139 = .array 64 5 := by refine ⟨?_, ?_, ?_, ?_, ?_, ?_, ?_, ?_, ?_, ?_, ?_, ?_, ?_, ?_, ?_, ?_, ?_, ?_, ?_, ?_, ?_, ?_, ?_, ?_, ?_, ?_, ?_, ?_, ?_, ?_, ?_, ?_, ?_, ?_, ?_, ?_, ?_, ?_, ?_, ?_⟩ <;> kernel_rfl
abbrev ty := And.intro Tryz.ty0 Tryz.ty1
theorem Tryz.en : entered prog 6 = true /\ entered prog 8 = true /\ entered prog 10 = true /\ entered prog 12 = true /\ entered prog 14 = true /\ entered prog 15 = true /\ entered prog 16 = true /\ entered prog 17 = true /\ entered prog 18 = true /\ entered prog 19 = true /\ entered prog 21 = true /\ entered prog 23 = true /\ entered prog 24 = true /\ entered prog 26 = true /\ entered prog 27 = true /\ entered prog 29 = true /\ entered prog 30 = true /\ entered prog 31 = true /\ entered prog 32 = true /\ entered prog 33 = true /\ entered prog 34 = true /\ entered prog 35 = true /\ entered prog 36 = true /\ entered prog 39 = true /\ entered prog 40 = true /\ entered prog 41 = true /\ entered prog 42 = true /\ entered prog 44 = true /\ entered prog 45 = true /\ entered prog 46 = true /\ entered prog 47 = true /\ entered prog 48 = true /\ entered prog 49 = true /\ entered prog 50 = true /\ entered prog 51 = true /\ entered prog 52 = true /\ entered prog 53 = true /\ entered prog 54 = true /\ entered prog 55 = true /\ entered prog 56 = true /\ entered prog 57 = true /\ entered prog 58 = true /\ entered prog 59 = true /\ entered prog 60 = true /\ entered prog 61 = true /\ entered prog 64 = true /\ entered prog 65 = true /\ entered prog 66 = true /\ entered prog 67 = true /\ entered prog 68 = true /\ entered prog 69 = true /\ entered prog 70 = true /\ entered prog 71 = true /\ entered prog 73 = true /\ entered prog 74 = true /\ entered prog 76 = true /\ entered prog 77 = true /\ entered prog 78 = true /\ entered prog 79 = true /\ entered prog 80 = true /\ entered prog 81 = true /\ entered prog 82 = true /\ entered prog 84 = true /\ entered prog 87 = true /\ entered prog 89 = true /\ entered prog 90 = true /\ entered prog 91 = true /\ entered prog 92 = true /\ entered prog 93 = true /\ entered prog 95 = true /\ entered prog 101 = true /\ entered prog 102 = true /\ entered prog 103 = true /\ entered prog 104 = true /\ entered prog 105 = true /\ entered prog 112 = true := by refine ⟨?_, ?_, ?_, ?_, ?_, ?_, ?_, ?_, ?_, ?_, ?_, ?_, ?_, ?_, ?_, ?_, ?_, ?_, ?_, ?_, ?_, ?_, ?_, ?_, ?_, ?_, ?_, ?_, ?_, ?_, ?_, ?_, ?_, ?_, ?_, ?_, ?_, ?_, ?_, ?_, ?_, ?_, ?_, ?_, ?_, ?_, ?_, ?_, ?_, ?_, ?_, ?_, ?_, ?_, ?_, ?_, ?_, ?_, ?_, ?_, ?_, ?_, ?_, ?_, ?_, ?_, ?_, ?_, ?_, ?_, ?_, ?_, ?_, ?_, ?_, ?_⟩ <;> kernel_rfl
theorem Tryz.mixed : prog.follows .mixedOrders = true := by kernel_rfl
end Go.Proofs.YtglpcedoongagaaGreatDoor
namespace Go.Proofs.YtglpcedoongagaaGreatDoor
open Go.E Go.Proofs.YtglpcedoongagaaGreatDoor.Tryz Go.Proofs.Tryz Go.J
def firL : List UInt8 := Pinned.utf8FirstZ.map u8
def accL : List UInt8 := [128, 191, 160, 191, 128, 159, 144, 191, 128, 143] ++ List.replicate 22 0
def powL : List AV := Lib.pow10Tab.map fun z => .p (.int .u64 z)
def dbjL : List UInt8 := [0, 1, 56, 2, 57, 49, 28, 3, 61, 58, 42, 50, 38, 29, 17, 4, 62, 47, 59, 36, 45, 43, 51, 22, 53, 39, 33, 30, 24, 18, 12, 5, 63, 55, 48, 27, 60, 41, 37, 16, 46, 35, 44, 21, 52, 32, 23, 11, 54, 26, 40, 15, 34, 20, 31, 10, 25, 14, 19, 9, 13, 8, 7, 6]
noncomputable def Tryz.G : Nat -> AV := fun g => if g = 0 then .vp (firL.map by8) 0 else if g = 1 then .vp (accL.map by8) 0 else if g = 2 then .vp powL 0
 else if g = 7 then .vp (dbjL.map by8) 0 else if g = 5 then .vp [.ic 135 .any] 0 else .p (.pointer (some ⟨g, 0, none⟩))
theorem Gpow : G 2 = .vp powL 0 := rfl
theorem Gdbj : G 7 = .vp (dbjL.map by8) 0 := rfl
theorem Ger : G 5 = .vp [.ic 135 .any] 0 := rfl
theorem Gfir : G 0 = .vp (firL.map by8) 0 := rfl
theorem Gacc : G 1 = .vp (accL.map by8) 0 := rfl
def Tryz.mp : Nat -> Bool := fun f => [31, 45, 29, 50, 81, 67, 46, 48, 49].contains f
theorem Tryz.mpf : Tryz.mp 31 = true /\ Tryz.mp 45 = true /\ Tryz.mp 29 = true /\ Tryz.mp 50 = true /\ Tryz.mp 81 = true /\ Tryz.mp 67 = true /\
 Tryz.mp 46 = true /\ Tryz.mp 48 = true /\ Tryz.mp 49 = true /\ Tryz.mp 47 = false /\ Tryz.mp 30 = false /\ Tryz.mp 66 = false /\ Tryz.mp 60 = false /\
 Tryz.mp 71 = false /\ Tryz.mp 82 = false /\ Tryz.mp 68 = false /\ Tryz.mp 69 = false /\ Tryz.mp 70 = false := by
 refine ⟨?_, ?_, ?_, ?_, ?_, ?_, ?_, ?_, ?_, ?_, ?_, ?_, ?_, ?_, ?_, ?_, ?_, ?_⟩ <;> rfl
def eno (e : Int) : AV := .ic 30 (.p (.int .i64 e))
theorem need_ok {T : Tbl} (so : Bool) : CallP prog G 31 [.p (.bool so)] T (fun v T' es => so = true /\ v = .tu [] /\ T' = T /\ es = []) (fun v T' es => so = false /\ v = eno 5 /\ T' = T /\ es = []) := by
 refine CallP.enterV Tryz.mp 2 func31 ntmps31 (congrArg Array.toList results31) rfl ⟨by simp, by simp⟩ (by kernel_rfl) (by kernel_rfl) ?_
 simp -dsimp +decide only [vb, Tryz.mpf, vr, ty, en, ↓reduceIte, Nat.reduceSub, Nat.reduceAdd, Nat.reduceMul, Nat.reduceLT, Int.reduceAdd, Int.reduceSub, Int.reduceToNat, ci]
 cases so with
 | true =>
   simp -dsimp +decide (disch := omega) only [vb, Tryz.mpf, vr, ty, en, ↓reduceIte, Nat.reduceSub, Nat.reduceAdd, Nat.reduceMul, Nat.reduceLT, Int.reduceAdd, Int.reduceSub, Int.reduceToNat, ci, vi, getO_i]
   exact Vw.done ⟨rfl, rfl, rfl, rfl⟩
 | false =>
   simp -dsimp +decide (disch := omega) only [vb, Tryz.mpf, vr, ty, en, ↓reduceIte, Nat.reduceSub, Nat.reduceAdd, Nat.reduceMul, Nat.reduceLT, Int.reduceAdd, Int.reduceSub, Int.reduceToNat, ci, vi, getO_i]
   exact Vw.done ⟨rfl, rfl, rfl, rfl⟩
end Go.Proofs.YtglpcedoongagaaGreatDoor
namespace Go.E
open Go.RowKit
section
variable {P : Program} {G : Nat -> AV} {Z : Heap} {ρ : List BI} {T : Tbl} {w w' : World}
theorem St.below (h : St Z ρ T w) (hb : Below w.heap.size w w') : St Z ρ T w' /\ Ext Z ρ T w Z ρ T w' [] := by
 have hlive : ∀ (i : Nat) (o : AObj) (x : BI), T[i]? = some o -> ρ[i]? = some x -> ObjRel Z ρ w' x o := by
  intro i o x h1 h2
  by_cases hl : o.live = true
  . exact (h.obj i o x h1 h2).world fun b hx => hb.block b ((h.obj i o x h1 h2).blk_lt hl hx)
  . cases o <;> first | exact (hl rfl).elim | trivial
 refine ⟨⟨⟨fun b o hg => by rw [hb.block b (h.lt hg)]; exact h.of.1 b o hg, hb.os.trans h.of.2.1, hb.output.trans h.of.2.2⟩, h.len, hlive, h.apart⟩, ?_⟩
 exact ⟨Heap.le_refl _, fun i x hx _ => hx, fun i x o b ho hl hx hbk _ => ⟨hb.block b ((h.obj i o x ho hx).blk_lt hl hbk), o, ho, hl⟩⟩
theorem CallA.ofBelow {f : FuncId} {args : List AV} {K : AV -> Prop} (h : ∀ (Z : Heap) (ρ : List BI) (w : World) (vs : List Value), GOK G Z -> St Z ρ T w -> RelL Z ρ args vs -> Calls P f vs.toArray w fun e w' => ∃ v a, e = .returned v /\ Rel Z ρ a v /\ K a /\ Below w.heap.size w w') :
 CallA P G f args T fun v T' es => K v /\ T' = T /\ es = [] := by
 intro Z ρ w vs hG hs ha
 refine Calls.mono (h Z ρ w vs hG hs ha) ?_
 rintro e w' ⟨v, a, rfl, hr, hk, hb⟩
 obtain ⟨h1, h2⟩ := hs.below hb
 exact ⟨v, rfl, Z, ρ, T, [], a, h1, h2, hr, hk, rfl, rfl⟩
theorem gvar {g : Nat} {cs : List AV} (hG : GOK G Z) (hs : St Z ρ T w) (hg : G g = .vp cs 0) : ∃ (c : Array Value) (t : TypeId) (fr : Nat × Nat), w.heap[g]? = some (.cells c t fr) /\ ∀ (k : Nat) (a : AV), cs[k]? = some a -> ∃ v : Value, c[k]? = some v /\ Rel Z [] a v := by
 have h := hG g
 rw [hg] at h
 generalize hv : Value.pointer (some ⟨g, 0, none⟩) = v at h
 cases h with
 | @vp _ _ _ b o c t fr f hb hc hr =>
   simp only [Value.pointer.injEq, Option.some.injEq, Addr.mk.injEq] at hv
   obtain ⟨rfl, ho, -⟩ := hv
   have ho : o = 0 := by omega
   subst ho
   obtain ⟨c', hw, hcc⟩ := (hs.of.1 _ _ hb).cls
   refine ⟨c', t, fr, hw, fun k a hk => ?_⟩
   obtain ⟨hl, rfl⟩ := List.getElem?_eq_some_iff.1 hk
   exact ⟨f k, by have := hcc _ _ (hc k hl); rwa [Nat.zero_add] at this, hr k hl⟩
theorem gvar0 {g : Nat} {t : TypeId} (hG : GOK G Z) (hs : St Z ρ T w) (hg : G g = .vp [.ic t .any] 0) : ∃ pe, w.cell? ⟨g, 0, none⟩ = some (.iface t pe) := by
 obtain ⟨c, t', fr, h1, h2⟩ := gvar hG hs hg
 obtain ⟨v, h3, h4⟩ := h2 0 _ rfl
 cases h4 with
 | @ic _ _ _ x h => exact ⟨x, by simp [World.cell?, h1, h3]⟩
end
end Go.E
namespace Go.Proofs.YtglpcedoongagaaGreatDoor
open Go.Proofs Go.E Go.Proofs.YtglpcedoongagaaGreatDoor.Tryz Go.Proofs.Tryz
def shR : Go.Shelf.Ren := ⟨fun | 0 => 0 | 1 => 1 | 2 => 2 | 109 => 23 | 110 => 70 | 115 => 95 | 116 => 80 | 119 => 82 | 129 => 102 | 137 => 60 | 141 => 66 | 171 => 110 | 174 => 71 | 176 => 35 | 193 => 26 | 196 => 40 | 205 => 109 | 217 => 79 | 242 => 68 | 243 => 113 | 245 => 86 | 246 => 114 | 247 => 85 | 249 => 59 | 259 => 63 | 266 => 94 | 278 => 83 | 279 => 97 | 280 => 98 | 281 => 99 | 282 => 100 | 283 => 90 | 284 => 91 | 285 => 92 | 286 => 93 | 287 => 96 | 288 => 78 | 316 => 108 | 317 => 101 | 318 => 103 | 319 => 104 | 320 => 105 | 321 => 106 | 322 => 107 | 326 => 69 | 337 => 111 | 338 => 112 | 342 => 84 | 347 => 115 | 348 => 116 | 349 => 117 | 350 => 118 | 351 => 119 | 352 => 120 | 353 => 121 | 354 => 122 | 355 => 123 | 356 => 124 | 357 => 125 | 358 => 126 | 359 => 127 | 360 => 128 | 361 => 129 | 363 => 133 | 364 => 131 | 365 => 132 | 366 => 134 | 367 => 144 | n => n, fun | 0 => 0 | 1 => 1 | 2 => 2 | 3 => 3 | 4 => 4 | 5 => 5 | 6 => 6 | 7 => 7 | 8 => 8 | 9 => 9 | 10 => 10 | 11 => 11 | 12 => 12 | 13 => 13 | 14 => 14 | 15 => 15 | 16 => 16 | 17 => 17 | 18 => 18 | 19 => 19 | 20 => 20 | 21 => 21 | 31 => 23 | 32 => 45 | 33 => 67 | 37 => 29 | 38 => 35 | 40 => 106 | 41 => 70 | 46 => 75 | 47 => 127 | 51 => 107 | 52 => 133 | 53 => 77 | 54 => 112 | 55 => 74 | 57 => 87 | 58 => 88 | 63 => 109 | 69 => 129 | 74 => 93 | 75 => 94 | 80 => 69 | 81 => 105 | 83 => 110 | 84 => 140 | 85 => 95 | 86 => 96 | 89 => 59 | 99 => 39 | 101 => 47 | 104 => 63 | 105 => 91 | 108 => 132 | 111 => 126 | 114 => 122 | 115 => 98 | 119 => 80 | 126 => 90 | 127 => 134 | 128 => 108 | 131 => 65 | 136 => 79 | 137 => 81 | 138 => 82 | 139 => 83 | 143 => 135 | 144 => 136 | 145 => 137 | 164 => 153 | 166 => 104 | 167 => 116 | 168 => 119 | 169 => 120 | 170 => 121 | 171 => 111 | 172 => 113 | 173 => 114 | 174 => 115 | 175 => 117 | 176 => 118 | 177 => 76 | 209 => 130 | 210 => 131 | 211 => 123 | 212 => 124 | 213 => 125 | 214 => 128 | 217 => 92 | 229 => 85 | 232 => 138 | 233 => 139 | 238 => 141 | 239 => 142 | 240 => 143 | 241 => 144 | 242 => 145 | 243 => 146 | 244 => 147 | 245 => 148 | 246 => 149 | 247 => 150 | 248 => 151 | 249 => 152 | n => n, fun | 1 => 3 | 3 => 0 | 4 => 1 | 15 => 4 | 16 => 5 | 17 => 2 | 18 => 6 | 19 => 7 | n => n⟩
theorem sh_LaysCn174 : LaysC.n174 prog shR where
 mixed := (by kernel_rfl)
 f129 := func102.trans (congrArg some (by kernel_rfl))
 f171 := func110.trans (congrArg some (by kernel_rfl))
 f174 := func71.trans (congrArg some (by kernel_rfl))
 f205 := func109.trans (congrArg some (by kernel_rfl))
 f243 := func113.trans (congrArg some (by kernel_rfl))
 f245 := func86.trans (congrArg some (by kernel_rfl))
 f246 := func114.trans (congrArg some (by kernel_rfl))
 f247 := func85.trans (congrArg some (by kernel_rfl))
 f279 := func97.trans (congrArg some (by kernel_rfl))
 f280 := func98.trans (congrArg some (by kernel_rfl))
 f281 := func99.trans (congrArg some (by kernel_rfl))
 f282 := func100.trans (congrArg some (by kernel_rfl))
 f283 := func90.trans (congrArg some (by kernel_rfl))
 f284 := func91.trans (congrArg some (by kernel_rfl))
 f285 := func92.trans (congrArg some (by kernel_rfl))
 f286 := func93.trans (congrArg some (by kernel_rfl))
 f287 := func96.trans (congrArg some (by kernel_rfl))
 f316 := func108.trans (congrArg some (by kernel_rfl))
 f317 := func101.trans (congrArg some (by kernel_rfl))
 f318 := func103.trans (congrArg some (by kernel_rfl))
 f319 := func104.trans (congrArg some (by kernel_rfl))
 f320 := func105.trans (congrArg some (by kernel_rfl))
 f321 := func106.trans (congrArg some (by kernel_rfl))
 f322 := func107.trans (congrArg some (by kernel_rfl))
 f337 := func111.trans (congrArg some (by kernel_rfl))
 f338 := func112.trans (congrArg some (by kernel_rfl))
 t0 := (by kernel_rfl)
 a0 := fun _ => (by kernel_rfl)
 z0 := fun _ => (by kernel_rfl)
 v0 := fun _ => (by kernel_rfl)
 t2 := (by kernel_rfl)
 a2 := fun _ => (by kernel_rfl)
 z2 := fun _ => (by kernel_rfl)
 v2 := fun _ => (by kernel_rfl)
 t3 := (by kernel_rfl)
 a3 := fun _ => (by kernel_rfl)
 z3 := fun _ => (by kernel_rfl)
 v3 := fun _ => (by kernel_rfl)
 t4 := (by kernel_rfl)
 a4 := fun _ => (by kernel_rfl)
 z4 := fun _ => (by kernel_rfl)
 v4 := fun _ => (by kernel_rfl)
 t5 := (by kernel_rfl)
 a5 := fun _ => (by kernel_rfl)
 z5 := fun _ => (by kernel_rfl)
 v5 := fun _ => (by kernel_rfl)
 t9 := (by kernel_rfl)
 a9 := fun _ => (by kernel_rfl)
 z9 := fun _ => (by kernel_rfl)
 v9 := fun _ => (by kernel_rfl)
 t20 := (by kernel_rfl)
 a20 := fun _ => (by kernel_rfl)
 z20 := fun _ => (by kernel_rfl)
 v20 := fun _ => (by kernel_rfl)
 t21 := (by kernel_rfl)
 a21 := fun _ => (by kernel_rfl)
 z21 := fun _ => (by kernel_rfl)
 v21 := fun _ => (by kernel_rfl)
 t37 := (by kernel_rfl)
 a37 := fun _ => (by kernel_rfl)
 z37 := fun _ => (by kernel_rfl)
 v37 := fun _ => (by kernel_rfl)
 t46 := (by kernel_rfl)
 a46 := fun _ => (by kernel_rfl)
 z46 := fun _ => (by kernel_rfl)
 v46 := fun _ => (by kernel_rfl)
 t51 := (by kernel_rfl)
 a51 := fun _ => (by kernel_rfl)
 z51 := fun _ => (by kernel_rfl)
 v51 := fun _ => (by kernel_rfl)
 t53 := (by kernel_rfl)
 a53 := fun _ => (by kernel_rfl)
 z53 := fun _ => (by kernel_rfl)
 v53 := fun _ => (by kernel_rfl)
 t75 := (by kernel_rfl)
 a75 := fun _ => (by kernel_rfl)
 z75 := fun _ => (by kernel_rfl)
 v75 := fun _ => (by kernel_rfl)
 t85 := (by kernel_rfl)
 a85 := fun _ => (by kernel_rfl)
 z85 := fun _ => (by kernel_rfl)
 v85 := fun _ => (by kernel_rfl)
 t127 := (by kernel_rfl)
 a127 := fun _ => (by kernel_rfl)
 z127 := fun _ => (by kernel_rfl)
 v127 := fun _ => (by kernel_rfl)
 t143 := (by kernel_rfl)
 a143 := fun _ => (by kernel_rfl)
 z143 := fun _ => (by kernel_rfl)
 v143 := fun _ => (by kernel_rfl)
 t145 := (by kernel_rfl)
 a145 := fun _ => (by kernel_rfl)
 z145 := fun _ => (by kernel_rfl)
 v145 := fun _ => (by kernel_rfl)
 t167 := (by kernel_rfl)
 a167 := fun _ => (by kernel_rfl)
 z167 := fun _ => (by kernel_rfl)
 v167 := fun _ => (by kernel_rfl)
 t168 := (by kernel_rfl)
 a168 := fun _ => (by kernel_rfl)
 z168 := fun _ => (by kernel_rfl)
 v168 := fun _ => (by kernel_rfl)
 t171 := (by kernel_rfl)
 a171 := fun _ => (by kernel_rfl)
 z171 := fun _ => (by kernel_rfl)
 v171 := fun _ => (by kernel_rfl)
 t173 := (by kernel_rfl)
 a173 := fun _ => (by kernel_rfl)
 z173 := fun _ => (by kernel_rfl)
 v173 := fun _ => (by kernel_rfl)
 t175 := (by kernel_rfl)
 a175 := fun _ => (by kernel_rfl)
 z175 := fun _ => (by kernel_rfl)
 v175 := fun _ => (by kernel_rfl)
 t210 := (by kernel_rfl)
 a210 := fun _ => (by kernel_rfl)
 z210 := fun _ => (by kernel_rfl)
 v210 := fun _ => (by kernel_rfl)
 t212 := (by kernel_rfl)
 a212 := fun _ => (by kernel_rfl)
 z212 := fun _ => (by kernel_rfl)
 v212 := fun _ => (by kernel_rfl)
 t213 := (by kernel_rfl)
 a213 := fun _ => (by kernel_rfl)
 z213 := fun _ => (by kernel_rfl)
 t232 := (by kernel_rfl)
 a232 := fun _ => (by kernel_rfl)
 z232 := fun _ => (by kernel_rfl)
 v232 := fun _ => (by kernel_rfl)
 t233 := (by kernel_rfl)
 a233 := fun _ => (by kernel_rfl)
 z233 := fun _ => (by kernel_rfl)
 v233 := fun _ => (by kernel_rfl)
 g15 := (by kernel_rfl)
 g16 := (by kernel_rfl)
 g17 := (by kernel_rfl)
 g18 := (by kernel_rfl)
 g19 := (by kernel_rfl)
 t80 := (by kernel_rfl)
 a80 := fun _ => (by kernel_rfl)
 z80 := fun _ => (by kernel_rfl)
 v80 := fun _ => (by kernel_rfl)
 i0 := (by kernel_rfl)
 i2 := (by kernel_rfl)
 i3 := (by kernel_rfl)
 i4 := (by kernel_rfl)
 i5 := (by kernel_rfl)
 i9 := (by kernel_rfl)
 i20 := (by kernel_rfl)
 i21 := (by kernel_rfl)
 i37 := (by kernel_rfl)
 i46 := (by kernel_rfl)
 i51 := (by kernel_rfl)
 i53 := (by kernel_rfl)
 i75 := (by kernel_rfl)
 i80 := (by kernel_rfl)
 i85 := (by kernel_rfl)
 i127 := (by kernel_rfl)
 i143 := (by kernel_rfl)
 i145 := (by kernel_rfl)
 i167 := (by kernel_rfl)
 i168 := (by kernel_rfl)
 i171 := (by kernel_rfl)
 i173 := (by kernel_rfl)
 i175 := (by kernel_rfl)
 i210 := (by kernel_rfl)
 i212 := (by kernel_rfl)
 i232 := (by kernel_rfl)
 i233 := (by kernel_rfl)
 m15 := (by kernel_rfl)
 m16 := (by kernel_rfl)
 m17 := (by kernel_rfl)
 m18 := (by kernel_rfl)
 m19 := (by kernel_rfl)
 c0 := (by kernel_rfl)
 c2 := (by kernel_rfl)
 c3 := (by kernel_rfl)
 c4 := (by kernel_rfl)
 c5 := (by kernel_rfl)
 c9 := (by kernel_rfl)
 c20 := (by kernel_rfl)
 c21 := (by kernel_rfl)
 c37 := (by kernel_rfl)
 c46 := (by kernel_rfl)
 c51 := (by kernel_rfl)
 c53 := (by kernel_rfl)
 c75 := (by kernel_rfl)
 c80 := (by kernel_rfl)
 c85 := (by kernel_rfl)
 c127 := (by kernel_rfl)
 c143 := (by kernel_rfl)
 c145 := (by kernel_rfl)
 c167 := (by kernel_rfl)
 c168 := (by kernel_rfl)
 c171 := (by kernel_rfl)
 c173 := (by kernel_rfl)
 c175 := (by kernel_rfl)
 c210 := (by kernel_rfl)
 c212 := (by kernel_rfl)
 c213 := (by kernel_rfl)
 c232 := (by kernel_rfl)
 c233 := (by kernel_rfl)
theorem sh_Laysn196 : Lays.n196 prog shR where
 mixed := (by kernel_rfl)
 f196 := func40.trans (congrArg some (by kernel_rfl))
 f259 := func63.trans (congrArg some (by kernel_rfl))
 t0 := (by kernel_rfl)
 a0 := fun _ => (by kernel_rfl)
 z0 := fun _ => (by kernel_rfl)
 v0 := fun _ => (by kernel_rfl)
 t3 := (by kernel_rfl)
 a3 := fun _ => (by kernel_rfl)
 z3 := fun _ => (by kernel_rfl)
 v3 := fun _ => (by kernel_rfl)
 t4 := (by kernel_rfl)
 a4 := fun _ => (by kernel_rfl)
 z4 := fun _ => (by kernel_rfl)
 v4 := fun _ => (by kernel_rfl)
 t5 := (by kernel_rfl)
 a5 := fun _ => (by kernel_rfl)
 z5 := fun _ => (by kernel_rfl)
 v5 := fun _ => (by kernel_rfl)
 t9 := (by kernel_rfl)
 a9 := fun _ => (by kernel_rfl)
 z9 := fun _ => (by kernel_rfl)
 v9 := fun _ => (by kernel_rfl)
 t12 := (by kernel_rfl)
 a12 := fun _ => (by kernel_rfl)
 z12 := fun _ => (by kernel_rfl)
 v12 := fun _ => (by kernel_rfl)
 t46 := (by kernel_rfl)
 a46 := fun _ => (by kernel_rfl)
 z46 := fun _ => (by kernel_rfl)
 v46 := fun _ => (by kernel_rfl)
 t53 := (by kernel_rfl)
 a53 := fun _ => (by kernel_rfl)
 z53 := fun _ => (by kernel_rfl)
 v53 := fun _ => (by kernel_rfl)
 t119 := (by kernel_rfl)
 a119 := fun _ => (by kernel_rfl)
 z119 := fun _ => (by kernel_rfl)
 t138 := (by kernel_rfl)
 a138 := fun _ => (by kernel_rfl)
 z138 := fun _ => (by kernel_rfl)
 v138 := fun _ => (by kernel_rfl)
 t139 := (by kernel_rfl)
 a139 := fun _ => (by kernel_rfl)
 z139 := fun _ => (by kernel_rfl)
 v139 := fun _ => (by kernel_rfl)
 g3 := (by kernel_rfl)
 g4 := (by kernel_rfl)
end Go.Proofs.YtglpcedoongagaaGreatDoor
namespace Go.Proofs.YtglpcedoongagaaGreatDoor
open Go.E Go.Proofs.YtglpcedoongagaaGreatDoor.Tryz Go.Proofs.Tryz Go.J
theorem rec1_in {n i : Nat} (h : i < n) (b : Bool) (E : Eff) : rec1 n i b E = (i, b) :: E := if_pos h
def bl (l : List UInt8) : AV := .vs (l.map by8) l.length
theorem bl_wo (q : Nat -> Bool) (l : List UInt8) : (bl l).wo q = bl l := by rw [bl, AV.wo]
theorem bl_Bs (T : Tbl) (l : List UInt8) : Bs T (bl l) l := Bs.vs l
theorem vbl : (∀ l, (bl l).known = some [bl l]) /\ (∀ l r, ones (bl l :: r) = ones r) /\ (∀ (l : List UInt8) (T : Tbl) (s : Nat) (K : AV -> Prop), lnA (.slice s) (bl l) T K = K (.p (.int .i64 l.length))) /\ (∀ (q : Nat -> Bool) l, (bl l).wo q = bl l) /\ (∀ i cs l, (bl l).pub i cs = bl l) /\
 (∀ (l : List UInt8) (T : Tbl) (i j : Nat) (K : AV -> Prop), pcA 1 (bl l) i j T K = ((i <= j /\ j <= l.length) /\ K (bl ((l.drop i).take (j - i))))) /\ (∀ (l : List UInt8) (KN : Nat -> Prop), lenA (bl l) KN = KN l.length) /\
 (∀ (l : List UInt8) (T : Tbl) (KC : List AV -> Nat -> Prop), srcA 1 (bl l) T KC = KC (l.map by8) l.length) /\
 (∀ (l : List UInt8) (T : Tbl) (ik : IntKind) (z : Int) (K : AV -> Prop), ixA 1 (bl l) (.p (.int ik z)) T K = ((0 <= z /\ z < l.length) /\ K ((bl l).pl z.toNat))) /\
 (∀ (l : List UInt8) (T : Tbl) (k : Nat) (K : AV -> Prop), k < l.length -> loadA prog 5 ((bl l).pl k) T K = getO (l.map by8)[k]? K) := by
 refine ⟨fun l => rfl, fun l r => rfl, fun l T s K => (Sl.rules (bl_Bs T l) (by decide)).2.1 s K, fun q l => bl_wo q l, fun i cs l => by rw [bl, AV.pub], fun l T i j K => ?_, fun l KN => (Sl.rules (bl_Bs [] l) (by decide)).2.2.1 KN, fun l T KC => (Sl.rules (bl_Bs T l) (by decide)).2.2.2.2.2.2.1 KC, fun l T ik z K => ?_, fun l T k K hk => ?_⟩
 . rw [(Sl.rules (bl_Bs T l) (by decide)).2.2.2.2.1]
   refine propext (and_congr_right fun h => ?_)
   have : (bl l).sub 1 i j = bl ((l.drop i).take (j - i)) := by
    have hl : ((l.drop i).take (j - i)).length = j - i := by rw [List.length_take, List.length_drop]; omega
    rw [bl, bl, hl, AV.sub]
    simp only [Nat.mul_one, List.map_take, List.map_drop]
   rw [this]
 . rw [(Sl.rules (bl_Bs T l) (by decide)).2.2.2.2.2.2.2.2.1, Nat.mul_one]
 . exact (Sl.loads (bl_Bs T l) (P := prog) (t := 5) (by (simp -dsimp +decide only [vsk, vr, ty, en, ↓reduceIte, Nat.reduceSub, Nat.reduceAdd, Nat.reduceMul, Nat.reduceLT, Int.reduceAdd, Int.reduceSub, Int.reduceToNat, ci]))).2 k K (by omega)
theorem Vw.weak {G : Nat -> AV} {T0 T : Tbl} {E : Eff} {K : AV -> Tbl -> Eff -> Prop} {v u : AV} (hr : ∀ Z ρ x, Rel Z ρ v x -> Rel Z ρ u x) (h : Vw G T0 K u T E) : Vw G T0 K v T E :=
 fun Z0 ρ0 w0 Z ρ w x hs hf hx => h Z0 ρ0 w0 Z ρ w x hs hf (hr _ _ _ hx)
theorem nil_bl {Z : Heap} {ρ : List BI} {x : Value} (h : Rel Z ρ (.p (.slice none 0 0)) x) : Rel Z ρ (bl []) x := by
 have := h.p_inv; subst this
 exact .vs0 (.inl rfl) (Nat.le_refl _)
def cut4 : List UInt8 := [32, 9, 10, 13]
def bset : Nat -> List Bool
 | 0 => List.replicate 256 false
 | k + 1 => (bset k).set ((cut4.getD k 0).toNat) true
def aset (k : Nat) : List AV := (bset k).map fun b => AV.p (.bool b)
theorem bset_len : ∀ k, (bset k).length = 256
 | 0 => by rw [bset, List.length_replicate]
 | k + 1 => by rw [bset, List.length_set, bset_len k]
theorem aset_len (k : Nat) : (aset k).length = 256 := by rw [aset, List.length_map, bset_len]
theorem aset_wo (q : Nat -> Bool) (k : Nat) : (aset k).map (AV.wo q) = aset k := by
 rw [aset, List.map_map]; exact List.map_congr_left fun b _ => by rw [Function.comp, AV.wo]
theorem aset_one (k : Nat) : ones (aset k) = true := by
 unfold ones aset
 rw [List.all_eq_true]
 intro a ha
 obtain ⟨b, _, rfl⟩ := List.mem_map.1 ha
 rfl
theorem aset_get (x : UInt8) : (aset 4)[x.toNat]? = some (.p (.bool (isB x))) := by
 have e : bset 4 = (List.range 256).map fun i => isB (u8 i) := by decide +kernel
 rw [aset, e, List.getElem?_map, List.getElem?_map, List.getElem?_range x.toNat_lt, Option.map_some, Option.map_some, u8_eq rfl]
theorem aset_set {k : Nat} {x : UInt8} (h : cut4[k]? = some x) : (aset k).set x.toNat (.p (.bool true)) = aset (k + 1) := by
 rw [aset, aset, bset, List.map_set, List.getD_eq_getElem?_getD, h]; rfl
theorem aset_z : List.replicate 256 (AV.p (.bool false)) = aset 0 := by rw [aset, bset, List.map_replicate]
theorem cut4_lt {k : Nat} {x : UInt8} (h : cut4[k]? = some x) : x.toNat < 128 := by
 have := List.mem_of_getElem? h
 have h4 : ∀ y ∈ cut4, y.toNat < 128 := by decide
 exact h4 x this
theorem aset_ok {T : Tbl} : CallA prog G 73 [str cut4] T fun v T' es => v = .tu [.ag (aset 4), .p (.bool true)] /\ T' = T /\ es = [] := by
 refine CallA.wfs fun wf => ?_
 have wt := wf.t
 have es : str cut4 = .p (.string (ba cut4)) := rfl
 rw [es]
 refine CallA.eV 6 func73 ntmps73 results73 ?_
 simp -dsimp +decide only [vsk, vr, ty, en, ↓reduceIte, Nat.reduceSub, Nat.reduceAdd, Nat.reduceMul, Nat.reduceLT, Int.reduceAdd, Int.reduceSub, Int.reduceToNat, ci]
 refine SemA.loopS (fun k : Nat => [(0, .p (.string (ba cut4))), (2, .ptr T.length 0), (4, wint (k : Int))]) (fun k => T ++ [.cells 99 (aset k)]) (fun k => k <= 4) (fun k => 4 - k) 0 [] 0
  (fun _ : Unit => [(2, .ptr T.length 0)]) (fun _ => T ++ [.cells 99 (aset 4)]) (fun _ => True) (Nat.zero_le _) ⟨rfl, rfl, rfl, rfl⟩ ?_ (by simp) ?_ ?_
 . rw [<- aset_z]; rfl
 . rintro k g hk
   refine SemA.o ?_
   simp -dsimp +decide (disch := omega) only [vsk, vr, ty, en, ↓reduceIte, Nat.reduceSub, Nat.reduceAdd, Nat.reduceMul, Nat.reduceLT, Int.reduceAdd, Int.reduceSub, Int.reduceToNat, ci, vi, getO_i, ba_size]
   have h4 : cut4.length = 4 := rfl
   refine CondP.dec (fun hc => ?_) (fun hc => ?_)
   rotate_left
   . have e : k = 4 := by omega
     subst e
     simp -dsimp +decide (disch := omega) only [vsk, vr, ty, en, ↓reduceIte, Nat.reduceSub, Nat.reduceAdd, Nat.reduceMul, Nat.reduceLT, Int.reduceAdd, Int.reduceSub, Int.reduceToNat, ci, vi, getO_i, vt]
     exact ⟨(), SeeL.done ⟨rfl, ⟨rfl, rfl⟩, rfl, by simp⟩⟩
   obtain ⟨x, hx⟩ : ∃ x, cut4[k]? = some x := ⟨cut4[k]'(by omega), by simp⟩
   have hx1 := cut4_lt hx
   have hlt : (128 <= (x.toNat : Int)) = False := eq_false (by omega)
   have hwk : IntKind.i64.wrap ((k : Int) + 1) = ((k + 1 : Nat) : Int) := IntWalk.i64_in _ (by omega)
   have hg := fun l => gn0 T (.cells 99 (aset k)) l
   have hlen := aset_len k
   simp -dsimp +decide (disch := omega) only [vsk, vr, ty, en, ↓reduceIte, Nat.reduceSub, Nat.reduceAdd, Nat.reduceMul, Nat.reduceLT, Int.reduceAdd, Int.reduceSub, Int.reduceToNat, ci, vi, getO_i, vt, ba_get, hx, hlt, bb2, hg, hlen, hwk, Int.toNat_natCast]
   refine ⟨by omega, by omega, by omega, k + 1, ⟨by omega, by omega⟩, ?_⟩
   rw [aset_set hx]
   exact SeeL.done ⟨rfl, ⟨rfl, rfl, rfl, rfl⟩, rfl, by simp⟩
 . rintro _ g tmp -
   have hg := fun l => gn0 T (.cells 99 (aset 4)) l
   have hlen := aset_len 4
   have ht : List.take 256 (aset 4) = aset 4 := List.take_of_length_le (by rw [hlen]; decide)
   have hw : wrA (aset 4) 0 (List.take 256 (aset 4)) = aset 4 := by rw [ht]; exact wrA_all (cs := aset 4) (vs := aset 4) rfl
   simp -dsimp +decide (disch := omega) only [vsk, vr, ty, en, ↓reduceIte, Nat.reduceSub, Nat.reduceAdd, Nat.reduceMul, Nat.reduceLT, Int.reduceAdd, Int.reduceSub, Int.reduceToNat, ci, vi, getO_i, vt, vres, vone, hg, hlen, hw, aset_one]
   rw [ht]
   exact Vw.cut ⟨by simp only [AV.wo, AV.woL, AV.woL_eq, aset_wo], rfl, rfl⟩
theorem has_ok {T : Tbl} {j : Nat} {x : UInt8} (hj : T[j]? = some (.cells 99 (aset 4))) : CallA prog G 87 [.ptr j 0, by8 x] T fun v T' es => v = .p (.bool (isB x)) /\ T' = T /\ es = [] := by
 refine CallA.eV 5 func87 ntmps87 results87 ?_
 simp -dsimp +decide only [vsk, vr, ty, en, ↓reduceIte, Nat.reduceSub, Nat.reduceAdd, Nat.reduceMul, Nat.reduceLT, Int.reduceAdd, Int.reduceSub, Int.reduceToNat, ci]
 have hx := x.toNat_lt
 have hget := aset_get x
 simp -dsimp +decide (disch := omega) only [vsk, vr, ty, en, ↓reduceIte, Nat.reduceSub, Nat.reduceAdd, Nat.reduceMul, Nat.reduceLT, Int.reduceAdd, Int.reduceSub, Int.reduceToNat, ci, vi, getO_i, vt, hj, hget, Int.toNat_natCast]
 exact ⟨by omega, Vw.done ⟨rfl, rfl, rfl⟩⟩
theorem blk_cons (x : UInt8) (r : B) : blk (x :: r) = if isB x then blk r else x :: r := rfl
theorem tla_ok {T : Tbl} {j : Nat} {l : List UInt8} (hl : l.length <= 140737488355328) (hj : T[j]? = some (.cells 99 (aset 4))) : CallA prog G 74 [bl l, .ptr j 0] T fun v T' es => v = bl (blk l) /\ T' = T /\ es = [] := by
 refine CallA.eV 5 func74 ntmps74 results74 ?_
 simp -dsimp +decide only [vsk, vr, ty, en, ↓reduceIte, Nat.reduceSub, Nat.reduceAdd, Nat.reduceMul, Nat.reduceLT, Int.reduceAdd, Int.reduceSub, Int.reduceToNat, ci]
 refine SemA.loopS (fun m : List UInt8 => [(0, bl m), (1, .ptr j 0)]) (fun _ => T) (fun m => blk m = blk l /\ m.length <= l.length) (fun m => m.length) l [] 0
  (fun m : List UInt8 => [(0, bl m)]) (fun _ => T) (fun m => m = blk l) ⟨rfl, Nat.le_refl _⟩ ⟨rfl, rfl, rfl⟩ rfl (by simp) ?_ ?_
 . rintro m g ⟨hm, hml⟩
   refine SemA.o ?_
   cases m with
   | nil =>
     simp -dsimp +decide (disch := omega) only [vsk, vr, ty, en, ↓reduceIte, Nat.reduceSub, Nat.reduceAdd, Nat.reduceMul, Nat.reduceLT, Int.reduceAdd, Int.reduceSub, Int.reduceToNat, ci, vi, getO_i, vt, vbl]
     exact ⟨[], hm, SeeL.done ⟨rfl, ⟨rfl, rfl⟩, rfl, by simp⟩⟩
   | cons x r =>
     have h0 : (0 < (((x :: r).length : Nat) : Int)) = True := eq_true (by simp)
     have hg : ((x :: r).map by8)[0]? = some (by8 x) := rfl
     have hl0 : 0 < (x :: r).length := by simp
     have hd : ((x :: r).drop 1).take ((x :: r).length - 1) = r := by simp
     simp -dsimp +decide (disch := omega) only [vsk, vr, ty, en, ↓reduceIte, Nat.reduceSub, Nat.reduceAdd, Nat.reduceMul, Nat.reduceLT, Int.reduceAdd, Int.reduceSub, Int.reduceToNat, ci, vi, getO_i, vt, vbl, h0, hg]
     refine (has_ok hj).det' ?_
     cases hb : isB x with
     | true =>
       simp -dsimp +decide (disch := omega) only [vsk, vr, ty, en, ↓reduceIte, Nat.reduceSub, Nat.reduceAdd, Nat.reduceMul, Nat.reduceLT, Int.reduceAdd, Int.reduceSub, Int.reduceToNat, ci, vi, getO_i, vt, vbl, bb2, hd]
       refine ⟨⟨by simp, Nat.le_refl _⟩, r, ⟨⟨by rw [<- hm, blk_cons, hb]; rfl, by simp at hml; omega⟩, by simp⟩, SeeL.done ⟨rfl, ⟨rfl, rfl, rfl⟩, rfl, by simp⟩⟩
     | false =>
       simp -dsimp +decide (disch := omega) only [vsk, vr, ty, en, ↓reduceIte, Nat.reduceSub, Nat.reduceAdd, Nat.reduceMul, Nat.reduceLT, Int.reduceAdd, Int.reduceSub, Int.reduceToNat, ci, vi, getO_i, vt, vbl, bb2]
       exact ⟨x :: r, by rw [<- hm, blk_cons, hb]; rfl, SeeL.done ⟨rfl, ⟨rfl, rfl⟩, rfl, by simp⟩⟩
 . rintro m g tmp hm
   subst hm
   simp -dsimp +decide (disch := omega) only [vsk, vr, ty, en, ↓reduceIte, Nat.reduceSub, Nat.reduceAdd, Nat.reduceMul, Nat.reduceLT, Int.reduceAdd, Int.reduceSub, Int.reduceToNat, ci, vi, getO_i, vt, vbl]
   refine CondP.dec (fun hc => ?_) (fun hc => ?_)
   . have e : blk l = [] := List.length_eq_zero_iff.1 (by omega)
     simp -dsimp +decide (disch := omega) only [vsk, vr, ty, en, ↓reduceIte, Nat.reduceSub, Nat.reduceAdd, Nat.reduceMul, Nat.reduceLT, Int.reduceAdd, Int.reduceSub, Int.reduceToNat, ci, vi, getO_i, vt]
     rw [e]
     refine Vw.weak (u := bl []) (fun _ _ _ h => nil_bl h) ?_
     exact Vw.done ⟨rfl, rfl, rfl⟩
   . simp -dsimp +decide (disch := omega) only [vsk, vr, ty, en, ↓reduceIte, Nat.reduceSub, Nat.reduceAdd, Nat.reduceMul, Nat.reduceLT, Int.reduceAdd, Int.reduceSub, Int.reduceToNat, ci, vi, getO_i, vt]
     exact Vw.done ⟨rfl, rfl, rfl⟩
theorem trim_ok {T : Tbl} {l : List UInt8} (hl : l.length <= 140737488355328) : CallA prog G 51 [bl l, str cut4] T fun v T' es => v = bl (blk l) /\ T' = T /\ es = [] := by
 refine CallA.wfs fun wf => ?_
 have wt := wf.t
 rw [show str cut4 = .p (.string (ba cut4)) from rfl]
 refine CallA.eV 7 func51 ntmps51 results51 ?_
 simp -dsimp +decide only [vsk, vr, ty, en, ↓reduceIte, Nat.reduceSub, Nat.reduceAdd, Nat.reduceMul, Nat.reduceLT, Int.reduceAdd, Int.reduceSub, Int.reduceToNat, ci]
 simp -dsimp +decide (disch := omega) only [vsk, vr, ty, en, ↓reduceIte, Nat.reduceSub, Nat.reduceAdd, Nat.reduceMul, Nat.reduceLT, Int.reduceAdd, Int.reduceSub, Int.reduceToNat, ci, vi, getO_i, vt, vbl]
 refine CondP.dec (fun hc => ?_) (fun hc => ?_)
 . have e : l = [] := List.length_eq_zero_iff.1 (by omega)
   subst e
   simp -dsimp +decide (disch := omega) only [vsk, vr, ty, en, ↓reduceIte, Nat.reduceSub, Nat.reduceAdd, Nat.reduceMul, Nat.reduceLT, Int.reduceAdd, Int.reduceSub, Int.reduceToNat, ci, vi, getO_i, vt]
   exact Vw.weak (u := bl []) (fun _ _ _ h => nil_bl h) (Vw.done ⟨rfl, rfl, rfl⟩)
 have h4 : cut4.length = 4 := rfl
 have he : (decide (ba cut4 = ba [])) = false := by rw [decide_eq_false_iff_not, ba_inj]; decide
 simp -dsimp +decide (disch := omega) only [vsk, vr, ty, en, ↓reduceIte, Nat.reduceSub, Nat.reduceAdd, Nat.reduceMul, Nat.reduceLT, Int.reduceAdd, Int.reduceSub, Int.reduceToNat, ci, vi, getO_i, vt, vbl, vstr, ba_size, h4, he, bb2]
 refine aset_ok.det' ?_
 have hlen := aset_len 4
 simp -dsimp +decide (disch := omega) only [vsk, vr, ty, en, ↓reduceIte, Nat.reduceSub, Nat.reduceAdd, Nat.reduceMul, Nat.reduceLT, Int.reduceAdd, Int.reduceSub, Int.reduceToNat, ci, vi, getO_i, vt, vbl, aset_one, hlen]
 rw [wrA_all]
 rotate_left
 . rw [hlen]; rfl
 refine (tla_ok hl (gn0 T _ _)).det' ?_
 simp -dsimp +decide (disch := omega) only [vsk, vr, ty, en, ↓reduceIte, Nat.reduceSub, Nat.reduceAdd, Nat.reduceMul, Nat.reduceLT, Int.reduceAdd, Int.reduceSub, Int.reduceToNat, ci, vi, getO_i, vt, vbl]
 exact Vw.cut ⟨bl_wo _ _, rfl, rfl⟩
theorem blanks_ok {T : Tbl} {i : Nat} {l : List UInt8} (hl : l.length <= 140737488355328) (hi : T[i]? = some (.cells 52 [bl l])) : CallA prog G 30 [.ptr i 0] T fun v T' es => v = .tu [] /\ T' = T.set i (.cells 52 [bl (blk l)]) /\ es = [(i, false)] := by
 refine CallA.wfs fun wf => ?_
 have wt := wf.t
 refine CallA.eV 2 func30 ntmps30 results30 ?_
 simp -dsimp +decide only [vsk, vr, ty, en, ↓reduceIte, Nat.reduceSub, Nat.reduceAdd, Nat.reduceMul, Nat.reduceLT, Int.reduceAdd, Int.reduceSub, Int.reduceToNat, ci]
 have hil := (List.getElem?_eq_some_iff.1 hi).1
 simp -dsimp +decide (disch := omega) only [vsk, vr, ty, en, ↓reduceIte, Nat.reduceSub, Nat.reduceAdd, Nat.reduceMul, Nat.reduceLT, Int.reduceAdd, Int.reduceSub, Int.reduceToNat, ci, vi, getO_i, vt, vbl, hi]
 refine (trim_ok hl).det' ?_
 simp -dsimp +decide (disch := omega) only [vsk, vr, ty, en, ↓reduceIte, Nat.reduceSub, Nat.reduceAdd, Nat.reduceMul, Nat.reduceLT, Int.reduceAdd, Int.reduceSub, Int.reduceToNat, ci, vi, getO_i, vt, vbl, hi]
 exact ⟨rfl, by rw [rec1_in hil]; exact Vw.done ⟨rfl, rfl, rfl⟩⟩
end Go.Proofs.YtglpcedoongagaaGreatDoor
namespace Go.Proofs.YtglpcedoongagaaGreatDoor
open Go.E Go.Proofs.YtglpcedoongagaaGreatDoor.Tryz Go.Proofs.Tryz Go.J
theorem set_self {T : Tbl} {i : Nat} {o : AObj} (h : T[i]? = some o) : T.set i o = T := by
 obtain ⟨hl, rfl⟩ := List.getElem?_eq_some_iff.1 h
 exact List.set_getElem_self hl
def rdr (l : List UInt8) : AObj := .cells 52 [bl l]
theorem is_ok {T : Tbl} {i : Nat} {l : List UInt8} {c : UInt8} (hi : T[i]? = some (rdr l)) : CallA prog G 47 [.ptr i 0, by8 c] T fun v T' es => v = .p (.bool (decide (l.head? = some c))) /\ T' = T.set i (rdr (if l.head? = some c then l.tail else l)) /\ es = [(i, false)] := by
 refine CallA.wfs fun wf => ?_
 have wt := wf.t
 have hil := (List.getElem?_eq_some_iff.1 hi).1
 rw [rdr] at hi
 refine CallA.eV 6 func47 ntmps47 results47 ?_
 simp -dsimp +decide only [vb, Tryz.mpf, vr, ty, en, ↓reduceIte, Nat.reduceSub, Nat.reduceAdd, Nat.reduceMul, Nat.reduceLT, Int.reduceAdd, Int.reduceSub, Int.reduceToNat, ci]
 cases l with
 | nil =>
   simp -dsimp +decide (disch := omega) only [vb, Tryz.mpf, vr, ty, en, ↓reduceIte, Nat.reduceSub, Nat.reduceAdd, Nat.reduceMul, Nat.reduceLT, Int.reduceAdd, Int.reduceSub, Int.reduceToNat, ci, vi, getO_i, vt, vbl, hi, bb2]
   refine Vw.eff (E' := [(i, false)]) (by simp) (Vw.done ⟨rfl, ?_, rfl⟩)
   rw [if_neg (by simp)]; exact (set_self hi).symm
 | cons x r =>
   have h0 : (0 < (((x :: r).length : Nat) : Int)) = True := eq_true (by simp)
   have hg : ((x :: r).map by8)[0]? = some (by8 x) := rfl
   have hl0 : 0 < (x :: r).length := by simp
   have hd : ((x :: r).drop 1).take ((x :: r).length - 1) = r := by simp
   simp -dsimp +decide (disch := omega) only [vb, Tryz.mpf, vr, ty, en, ↓reduceIte, Nat.reduceSub, Nat.reduceAdd, Nat.reduceMul, Nat.reduceLT, Int.reduceAdd, Int.reduceSub, Int.reduceToNat, ci, vi, getO_i, vt, vbl, hi, h0, hg, bb2]
   refine CondP.dec (fun hc => ?_) (fun hc => ?_)
   . have e : x = c := UInt8.toNat_inj.1 (by omega)
     subst e
     have h1 : 1 <= (x :: r).length := by simp
     simp -dsimp +decide (disch := omega) only [vb, Tryz.mpf, vr, ty, en, ↓reduceIte, Nat.reduceSub, Nat.reduceAdd, Nat.reduceMul, Nat.reduceLT, Int.reduceAdd, Int.reduceSub, Int.reduceToNat, ci, vi, getO_i, vt, vbl, hi, hd]
     refine ⟨⟨h1, Nat.le_refl _⟩, rfl, ?_⟩
     rw [rec1_in hil]
     exact Vw.done ⟨by rw [List.head?_cons, decide_eq_true rfl], by rw [List.head?_cons, if_pos rfl]; rfl, rfl⟩
   . have e : ¬ (x :: r).head? = some c := fun e => hc (by cases e; rfl)
     simp -dsimp +decide (disch := omega) only [vb, Tryz.mpf, vr, ty, en, ↓reduceIte, Nat.reduceSub, Nat.reduceAdd, Nat.reduceMul, Nat.reduceLT, Int.reduceAdd, Int.reduceSub, Int.reduceToNat, ci, vi, getO_i, vt]
     refine Vw.eff (E' := [(i, false)]) (by simp) (Vw.done ⟨by rw [decide_eq_false e, decide_eq_false hc], ?_, rfl⟩)
     rw [if_neg e]; exact (set_self hi).symm
theorem bytes8 : ∀ l : List UInt8, bytesA (l.map by8) = some l
 | [] => rfl
 | x :: r => by
   show (bytesA (r.map by8)).map _ = _
   rw [bytes8 r, Option.map_some]
   congr 2
   simp
theorem vba (a b : List UInt8) : decide ((⟨a.toArray⟩ : ByteArray) = ⟨b.toArray⟩) = decide (a = b) := decide_eq_decide.2 (ba_inj (a := a) (b := b))
theorem beq_ok {T : Tbl} {a b : List UInt8} : CallA prog G 95 [bl a, bl b] T fun v T' es => v = .p (.bool (decide (a = b))) /\ T' = T /\ es = [] := by
 refine CallA.eV 5 func95 ntmps95 results95 ?_
 simp -dsimp +decide only [vb, Tryz.mpf, vr, ty, en, ↓reduceIte, Nat.reduceSub, Nat.reduceAdd, Nat.reduceMul, Nat.reduceLT, Int.reduceAdd, Int.reduceSub, Int.reduceToNat, ci]
 simp -dsimp +decide (disch := omega) only [vb, Tryz.mpf, vr, ty, en, ↓reduceIte, Nat.reduceSub, Nat.reduceAdd, Nat.reduceMul, Nat.reduceLT, Int.reduceAdd, Int.reduceSub, Int.reduceToNat, ci, vi, getO_i, vt, vbl, vstr, bytes8, vba]
 exact Vw.done ⟨rfl, rfl, rfl⟩
theorem pre_iff {p l : List UInt8} : p.isPrefixOf l = decide (p.length <= l.length /\ l.take p.length = p) := by
 rw [Bool.eq_iff_iff, List.isPrefixOf_iff_prefix, decide_eq_true_iff]
 constructor
 . rintro ⟨t, rfl⟩; exact ⟨by simp, by simp⟩
 . rintro ⟨_, h⟩; exact ⟨l.drop p.length, by rw [<- h]; rw [List.length_take, Nat.min_eq_left (by assumption)]; exact List.take_append_drop _ _⟩
theorem hpre_ok {T : Tbl} {l p : List UInt8} : CallA prog G 80 [bl l, bl p] T fun v T' es => v = .p (.bool (p.isPrefixOf l)) /\ T' = T /\ es = [] := by
 refine CallA.eV 5 func80 ntmps80 results80 ?_
 simp -dsimp +decide only [vb, Tryz.mpf, vr, ty, en, ↓reduceIte, Nat.reduceSub, Nat.reduceAdd, Nat.reduceMul, Nat.reduceLT, Int.reduceAdd, Int.reduceSub, Int.reduceToNat, ci]
 rw [pre_iff]
 by_cases hc : p.length <= l.length
 . have h1 : ((p.length : Int) <= (l.length : Int)) = True := eq_true (by omega)
   have hd : ((l.drop 0).take (p.length - 0)) = l.take p.length := by simp
   simp -dsimp +decide (disch := omega) only [vb, Tryz.mpf, vr, ty, en, ↓reduceIte, Nat.reduceSub, Nat.reduceAdd, Nat.reduceMul, Nat.reduceLT, Int.reduceAdd, Int.reduceSub, Int.reduceToNat, ci, vi, getO_i, vt, vbl, h1, hd, Int.toNat_natCast]
   refine ⟨by omega, ⟨Nat.zero_le _, hc⟩, ?_⟩
   rw [List.drop_zero]
   refine beq_ok.det' ?_
   simp -dsimp +decide (disch := omega) only [vb, Tryz.mpf, vr, ty, en, ↓reduceIte, Nat.reduceSub, Nat.reduceAdd, Nat.reduceMul, Nat.reduceLT, Int.reduceAdd, Int.reduceSub, Int.reduceToNat, ci, vi, getO_i, vt, vbl]
   exact Vw.done ⟨by rw [Bool.eq_iff_iff.2 (show decide (l.take p.length = p) = true ↔ decide (p.length <= l.length /\ l.take p.length = p) = true by simp [hc])], rfl, rfl⟩
 . have h1 : ((p.length : Int) <= (l.length : Int)) = False := eq_false (by omega)
   simp -dsimp +decide (disch := omega) only [vb, Tryz.mpf, vr, ty, en, ↓reduceIte, Nat.reduceSub, Nat.reduceAdd, Nat.reduceMul, Nat.reduceLT, Int.reduceAdd, Int.reduceSub, Int.reduceToNat, ci, vi, getO_i, vt, vbl, h1]
   exact Vw.done ⟨by rw [decide_eq_false fun h => hc h.1], rfl, rfl⟩
theorem cutp_ok {T : Tbl} {l p : List UInt8} : CallA prog G 66 [bl l, bl p] T fun v T' es => v = .tu [bl (if p.isPrefixOf l then l.drop p.length else l), .p (.bool (p.isPrefixOf l))] /\ T' = T /\ es = [] := by
 refine CallA.eV 6 func66 ntmps66 results66 ?_
 simp -dsimp +decide only [vb, Tryz.mpf, vr, ty, en, ↓reduceIte, Nat.reduceSub, Nat.reduceAdd, Nat.reduceMul, Nat.reduceLT, Int.reduceAdd, Int.reduceSub, Int.reduceToNat, ci]
 refine hpre_ok.det' ?_
 cases hp : p.isPrefixOf l with
 | true =>
   have hl := (List.isPrefixOf_iff_prefix.1 hp).length_le
   have hd : (l.drop p.length).take (l.length - p.length) = l.drop p.length := List.take_of_length_le (by rw [List.length_drop]; omega)
   simp -dsimp +decide (disch := omega) only [vb, Tryz.mpf, vr, ty, en, ↓reduceIte, Nat.reduceSub, Nat.reduceAdd, Nat.reduceMul, Nat.reduceLT, Int.reduceAdd, Int.reduceSub, Int.reduceToNat, ci, vi, getO_i, vt, vbl, bb2, Int.toNat_natCast, hd, vres, vone]
   refine ⟨by omega, ⟨hl, Nat.le_refl _⟩, ?_⟩
   exact Vw.done ⟨rfl, rfl, rfl⟩
 | false =>
   simp -dsimp +decide (disch := omega) only [vb, Tryz.mpf, vr, ty, en, ↓reduceIte, Nat.reduceSub, Nat.reduceAdd, Nat.reduceMul, Nat.reduceLT, Int.reduceAdd, Int.reduceSub, Int.reduceToNat, ci, vi, getO_i, vt, vbl, bb2, vres, vone]
   exact Vw.done ⟨rfl, rfl, rfl⟩
theorem conv_bl (p : List UInt8) : AV.vs (p.map fun b => .p (.int .u8 (b.toNat : Int))) (ba p).size = bl p := by rw [ba_size]; rfl
theorem word_ok {T : Tbl} {i : Nat} {l p : List UInt8} (hi : T[i]? = some (rdr l)) : CallP prog G 45 [.ptr i 0, .p (.string (ba p))] T
 (fun v T' es => p.isPrefixOf l = true /\ v = .tu [] /\ T' = T.set i (rdr (l.drop p.length)) /\ es = [(i, false)]) (fun v T' es => p.isPrefixOf l = false /\ v = eno 5 /\ T' = T /\ es = []) := by
 have hil := (List.getElem?_eq_some_iff.1 hi).1
 have hi' := hi
 rw [rdr] at hi
 refine CallP.enterV Tryz.mp 6 func45 ntmps45 (congrArg Array.toList results45) rfl ⟨by simp, by simp⟩ (by kernel_rfl) (by kernel_rfl) ?_
 simp -dsimp +decide only [vb, Tryz.mpf, vr, ty, en, ↓reduceIte, Nat.reduceSub, Nat.reduceAdd, Nat.reduceMul, Nat.reduceLT, Int.reduceAdd, Int.reduceSub, Int.reduceToNat, ci]
 simp -dsimp +decide (disch := omega) only [vb, Tryz.mpf, vr, ty, en, ↓reduceIte, Nat.reduceSub, Nat.reduceAdd, Nat.reduceMul, Nat.reduceLT, Int.reduceAdd, Int.reduceSub, Int.reduceToNat, ci, vi, getO_i, vt, vbl, hi, ba_data, conv_bl]
 refine cutp_ok.det' ?_
 simp -dsimp +decide (disch := omega) only [vb, Tryz.mpf, vr, ty, en, ↓reduceIte, Nat.reduceSub, Nat.reduceAdd, Nat.reduceMul, Nat.reduceLT, Int.reduceAdd, Int.reduceSub, Int.reduceToNat, ci, vi, getO_i, vt, vbl, hi, vres, vone]
 refine (need_ok _).mono ?_ ?_
 . rintro v T' es ⟨hp, rfl, rfl, rfl⟩
   rw [if_pos hp]
   simp -dsimp +decide (disch := omega) only [vb, Tryz.mpf, vr, ty, en, ↓reduceIte, Nat.reduceSub, Nat.reduceAdd, Nat.reduceMul, Nat.reduceLT, Int.reduceAdd, Int.reduceSub, Int.reduceToNat, ci, vi, getO_i, vt, vbl, hi]
   refine ⟨rfl, ?_⟩
   rw [rec1_in hil]
   exact Vw.done ⟨hp, rfl, rfl, rfl⟩
 . rintro v T' es ⟨hp, rfl, rfl, rfl⟩
   simp -dsimp +decide (disch := omega) only [vb, Tryz.mpf, vr, ty, en, ↓reduceIte, Nat.reduceSub, Nat.reduceAdd, Nat.reduceMul, Nat.reduceLT, Int.reduceAdd, Int.reduceSub, Int.reduceToNat, ci, vi, getO_i, vt]
   exact Vw.done ⟨hp, rfl, rfl, rfl⟩
end Go.Proofs.YtglpcedoongagaaGreatDoor
namespace Go.Proofs.YtglpcedoongagaaGreatDoor
open Go.E Go.Proofs.YtglpcedoongagaaGreatDoor.Tryz Go.Proofs.Tryz Go.J
section
variable {P : Program} {G : Nat -> AV}
theorem ExtA.one {f : FuncId} {args : List Value} {v : Value} {T : Tbl} {K : AV -> Tbl -> Eff -> Prop} (h : ∀ w, (callFunc f args.toArray).run P w = .ok (.value v) w) (hk : K (.p v) T []) : ExtA P G f (args.map .p) T K := by
 intro Z ρ w us hG hs hr
 obtain rfl := hr.ps_inv
 refine RunV.of_ok (v := v) (w' := w) ?_ ⟨Z, ρ, T, [], .p v, hs, Ext.refl rfl, .p v, hk⟩
 simp [h w, Result.andThen]
end
theorem idxX {T : Tbl} {l : List UInt8} {c : UInt8} {K : AV -> Tbl -> Eff -> Prop} (hk : K (wint (Lib.indexByte l c)) T []) : ExtA prog G 94 [.p (.string (ba l)), by8 c] T K := by
 refine ExtA.one (args := [.string (ba l), .int .u8 c.toNat]) (v := .int .i64 (Lib.indexByte l c)) (fun w => ?_) hk
 have hr := run_callFunc_extern (P := prog) func94 (by kernel_rfl) (by kernel_rfl) (by kernel_rfl) (e := Extern.BytealgIndexByte.indexByte) (by kernel_rfl) #[.string (ba l), .int .u8 c.toNat] w
 rw [Lib.run_indexByteString] at hr
 simpa [Result.andThen, ba_data] using hr
theorem sli_ok {T : Tbl} {l : List UInt8} {c : UInt8} : CallA prog G 79 [.p (.string (ba l)), by8 c] T fun v T' es => v = wint (Lib.indexByte l c) /\ T' = T /\ es = [] := by
 have ee : entered prog 94 = false := (by kernel_rfl)
 refine CallA.eV 8 func79 ntmps79 results79 ?_
 simp -dsimp +decide only [vb, Tryz.mpf, vsk, vr, ty, en, ↓reduceIte, Nat.reduceSub, Nat.reduceAdd, Nat.reduceMul, Nat.reduceLT, Int.reduceAdd, Int.reduceSub, Int.reduceToNat, ci]
 simp -dsimp +decide (disch := omega) only [vb, Tryz.mpf, vsk, vr, ty, en, ↓reduceIte, Nat.reduceSub, Nat.reduceAdd, Nat.reduceMul, Nat.reduceLT, Int.reduceAdd, Int.reduceSub, Int.reduceToNat, ci, vi, getO_i, vt, ee, bb2]
 refine idxX ?_
 simp -dsimp +decide (disch := omega) only [vb, Tryz.mpf, vsk, vr, ty, en, ↓reduceIte, Nat.reduceSub, Nat.reduceAdd, Nat.reduceMul, Nat.reduceLT, Int.reduceAdd, Int.reduceSub, Int.reduceToNat, ci, vi, getO_i, vt]
 exact Vw.done ⟨rfl, rfl, rfl⟩
theorem sti_ok {T : Tbl} {l : List UInt8} {c : UInt8} : CallA prog G 60 [.p (.string (ba l)), by8 c] T fun v T' es => v = wint (Lib.indexByte l c) /\ T' = T /\ es = [] := by
 refine CallA.eV 8 func60 ntmps60 results60 ?_
 simp -dsimp +decide only [vb, Tryz.mpf, vsk, vr, ty, en, ↓reduceIte, Nat.reduceSub, Nat.reduceAdd, Nat.reduceMul, Nat.reduceLT, Int.reduceAdd, Int.reduceSub, Int.reduceToNat, ci]
 refine sli_ok.det' ?_
 exact Vw.done ⟨rfl, rfl, rfl⟩
def hx16 : List UInt8 := [48,49,50,51,52,53,54,55,56,57,97,98,99,100,101,102]
theorem hexv_idx (c : UInt8) : hexv c = if 0 <= Lib.indexByte hx16 (c ||| 32) /\ ((48 <= c.toNat /\ c.toNat <= 57) ∨ 65 <= c.toNat) then some (Lib.indexByte hx16 (c ||| 32)).toNat else none := by
 have h : ∀ i : Fin 256, hexv (u8 i.val) = if 0 <= Lib.indexByte hx16 (u8 i.val ||| 32) /\ ((48 <= (u8 i.val).toNat /\ (u8 i.val).toNat <= 57) ∨ 65 <= (u8 i.val).toNat) then some (Lib.indexByte hx16 (u8 i.val ||| 32)).toNat else none := by decide +kernel
 have := h ⟨c.toNat, c.toNat_lt⟩
 rwa [u8_eq rfl] at this
theorem idx_lt (c : UInt8) : Lib.indexByte hx16 c < 16 := by
 have h : ∀ i : Fin 256, Lib.indexByte hx16 (u8 i.val) < 16 := by decide +kernel
 have := h ⟨c.toNat, c.toNat_lt⟩
 rwa [u8_eq rfl] at this
def hexs : List UInt8 -> Nat -> Option Nat
 | [], n => some n
 | c :: r, n => match hexv c with
   | some x => hexs r (16 * n + x)
   | none => none
theorem hexs_four {l : List UInt8} (h : 4 <= l.length) : hex4 l = (hexs (l.take 4) 0).map fun n => (n, l.drop 4) := by
 match l, h with
 | a :: b :: c :: d :: r, _ =>
   show hex4 _ = (hexs [a, b, c, d] 0).map fun n => (n, r)
   simp only [hex4, hexs]
   cases hexv a with
   | none => rfl
   | some x =>
     cases hexv b with
     | none => rfl
     | some y =>
       cases hexv c with
       | none => rfl
       | some z =>
         cases hexv d with
         | none => rfl
         | some t =>
           show some (_, r) = some (_, r)
           congr 2
           omega
theorem hex4_short {l : List UInt8} (h : ¬ 4 <= l.length) : hex4 l = none := by
 match l with
 | [] => rfl
 | [_] => rfl
 | [_, _] => rfl
 | [_, _, _] => rfl
 | _ :: _ :: _ :: _ :: _ => exact absurd (by simp) h
theorem hexs_snoc : ∀ (l : List UInt8) (c : UInt8) (n : Nat), hexs (l ++ [c]) n = (hexs l n).bind fun m => (hexv c).map fun x => 16 * m + x
 | [], c, n => by
   show hexs [c] n = _
   simp only [hexs]
   cases hexv c <;> rfl
 | a :: r, c, n => by
   show hexs (a :: (r ++ [c])) n = _
   simp only [hexs]
   cases hexv a with
   | none => rfl
   | some x => exact hexs_snoc r c _
theorem hexs_none : ∀ (l m : List UInt8) (n : Nat), hexs l n = none -> hexs (l ++ m) n = none
 | [], m, n, h => by cases h
 | a :: r, m, n, h => by
   show hexs (a :: (r ++ m)) n = none
   simp only [hexs] at h ⊢
   cases hv : hexv a with
   | none => rfl
   | some x => rw [hv] at h; exact hexs_none r m _ h
theorem i32_fit {n : Nat} (h : n < 2147483648) : IntKind.i32.wrap (n : Int) = (n : Int) := IntWalk.i32_in _ (by omega)
theorem or32 {n m : Nat} (hn : n < 16 ^ 4) (hm : m < 16) : IntKind.i32.wrap ((BitVec.ofInt IntKind.i32.bits (IntKind.i32.wrap ((n : Int) * 2 ^ min 4 IntKind.i32.bits)) ||| BitVec.ofInt IntKind.i32.bits (IntKind.i32.wrap (m : Int))).toNat : Nat) = ((16 * n + m : Nat) : Int) := by
 have e1 : (n : Int) * (2 : Int) ^ min 4 IntKind.i32.bits = ((n <<< 4 : Nat) : Int) := by
  rw [Nat.shiftLeft_eq]
  show (n : Int) * (2 : Int) ^ 4 = _
  omega
 have e2 : n <<< 4 = 16 * n := by rw [Nat.shiftLeft_eq]; omega
 have hn' : n < 65536 := hn
 rw [e1, i32_fit (n := n <<< 4) (by rw [e2]; omega), i32_fit (n := m) (by omega)]
 show IntKind.i32.wrap ((BitVec.ofInt 32 ((n <<< 4 : Nat) : Int) ||| BitVec.ofInt 32 (m : Int)).toNat : Nat) = _
 rw [BitVec.ofInt_natCast, BitVec.ofInt_natCast, BitVec.toNat_or, BitVec.toNat_ofNat, BitVec.toNat_ofNat, Nat.mod_eq_of_lt (show n <<< 4 < 2 ^ 32 by rw [e2]; omega), Nat.mod_eq_of_lt (show m < 2 ^ 32 by omega), <- Nat.shiftLeft_add_eq_or_of_lt (show m < 2 ^ 4 by omega), e2, i32_fit (by omega)]
theorem unit_ok {T : Tbl} {i : Nat} {l : List UInt8} (hi : T[i]? = some (rdr l)) : CallP prog G 81 [.ptr i 0] T
 (fun v T' es => ∃ n r, hex4 l = some (n, r) /\ v = .p (.int .i32 (n : Nat)) /\ T' = T.set i (rdr r) /\ es = [(i, false)]) (fun v T' es => hex4 l = none /\ v = eno 5 /\ T' = T /\ es = []) := by
 have hil := (List.getElem?_eq_some_iff.1 hi).1
 have hi' := hi
 rw [rdr] at hi
 refine CallP.enterV Tryz.mp 21 func81 ntmps81 (congrArg Array.toList results81) rfl ⟨by simp, by simp⟩ (by kernel_rfl) (by kernel_rfl) ?_
 simp -dsimp +decide only [vb, Tryz.mpf, vsk, vr, ty, en, ↓reduceIte, Nat.reduceSub, Nat.reduceAdd, Nat.reduceMul, Nat.reduceLT, Int.reduceAdd, Int.reduceSub, Int.reduceToNat, ci]
 simp -dsimp +decide (disch := omega) only [vb, Tryz.mpf, vsk, vr, ty, en, ↓reduceIte, Nat.reduceSub, Nat.reduceAdd, Nat.reduceMul, Nat.reduceLT, Int.reduceAdd, Int.reduceSub, Int.reduceToNat, ci, vi, getO_i, vt, vbl, hi]
 refine (need_ok _).mono ?_ ?_
 rotate_left
 . rintro v T' es ⟨hp, rfl, rfl, rfl⟩
   simp -dsimp +decide (disch := omega) only [vb, Tryz.mpf, vsk, vr, ty, en, ↓reduceIte, Nat.reduceSub, Nat.reduceAdd, Nat.reduceMul, Nat.reduceLT, Int.reduceAdd, Int.reduceSub, Int.reduceToNat, ci, vi, getO_i, vt]
   have hp4 : ¬ 4 <= l.length := by have := of_decide_eq_false hp; omega
   exact Vw.done ⟨hex4_short hp4, rfl, rfl, rfl⟩
 rintro v T es ⟨hp, rfl, rfl, rfl⟩
 have hp4 : 4 <= l.length := by have := of_decide_eq_true hp; omega
 have hd0 : (l.drop 0).take (4 - 0) = l.take 4 := by simp
 simp -dsimp +decide (disch := omega) only [vb, Tryz.mpf, vsk, vr, ty, en, ↓reduceIte, Nat.reduceSub, Nat.reduceAdd, Nat.reduceMul, Nat.reduceLT, Int.reduceAdd, Int.reduceSub, Int.reduceToNat, ci, vi, getO_i, vt, vbl, hi, hd0]
 refine ⟨hp4, ?_⟩
 refine SemB.loopS (fun s : Nat × Nat => [(0, .ptr i 0), (3, .p (.int .i32 (s.2 : Nat))), (18, bl (l.take 4)), (19, wint 4), (20, wint (s.1 : Int))]) (fun _ => T) (fun s => s.1 <= 4 /\ hexs (l.take s.1) 0 = some s.2 /\ s.2 < 16 ^ s.1) (fun s => 4 - s.1) (0, 0) [] 0
  (fun n : Nat => [(0, .ptr i 0), (3, .p (.int .i32 (n : Nat)))]) (fun _ => T) (fun n => hexs (l.take 4) 0 = some n) ⟨Nat.zero_le _, by simp [hexs], Nat.one_pos⟩ ⟨rfl, rfl, rfl, ?_, rfl, rfl⟩ rfl (by simp) ?_ ?_
 . show some (AV.p (.int .i64 ((l.take 4).length : Int))) = some (wint 4)
   rw [List.length_take, Nat.min_eq_left hp4]; rfl
 . rintro ⟨k, n⟩ g ⟨hk, hh, hn⟩
   dsimp only at hk hh hn
   refine SemB.of (by kernel_rfl) ?_
   simp -dsimp +decide (disch := omega) only [vb, Tryz.mpf, vsk, vr, ty, en, ↓reduceIte, Nat.reduceSub, Nat.reduceAdd, Nat.reduceMul, Nat.reduceLT, Int.reduceAdd, Int.reduceSub, Int.reduceToNat, ci, vi, getO_i, vt, vbl]
   refine CondP.dec (fun hc => ?_) (fun hc => ?_)
   . have hk4 : k < 4 := by omega
     have hl4 : (l.take 4).length = 4 := by rw [List.length_take, Nat.min_eq_left hp4]
     have hkl : k < (l.take 4).length := by omega
     have hkl' : (k : Int) < ((l.take 4).length : Int) := by omega
     obtain ⟨c, hg0⟩ : ∃ c, (l.take 4)[k]? = some c := ⟨_, List.getElem?_eq_getElem hkl⟩
     have hg : ((l.take 4).map by8)[k]? = some (by8 c) := by rw [List.getElem?_map, hg0]; rfl
     have h0 : (0 : Int) <= (k : Int) := Int.natCast_nonneg k
     simp -dsimp +decide (disch := omega) only [vb, Tryz.mpf, vsk, vr, ty, en, ↓reduceIte, Nat.reduceSub, Nat.reduceAdd, Nat.reduceMul, Nat.reduceLT, Int.reduceAdd, Int.reduceSub, Int.reduceToNat, ci, vi, getO_i, vt, vbl, h0, hkl', hkl, Int.toNat_natCast, hg, bb2]
     have hix := hexv_idx c
     have hx16' := idx_lt (c ||| 32)
     refine (sti_ok (l := hx16) (c := c ||| 32)).det' ?_
     generalize Lib.indexByte hx16 (c ||| 32) = x at hix hx16' ⊢
     simp -dsimp +decide (disch := omega) only [vb, Tryz.mpf, vsk, vr, ty, en, ↓reduceIte, Nat.reduceSub, Nat.reduceAdd, Nat.reduceMul, Nat.reduceLT, Int.reduceAdd, Int.reduceSub, Int.reduceToNat, ci, vi, getO_i, vt]
     have hl0 : l[k]? = some c := by rw [List.getElem?_take_of_lt hk4] at hg0; exact hg0
     have hsn : ∀ m, hexv c = some m -> hexs (l.take (k + 1)) 0 = some (16 * n + m) := by
      intro m hm
      rw [List.take_add_one, hl0, Option.toList_some, hexs_snoc, hh, Option.bind_some, hm, Option.map_some]
     have hnn : hexv c = none -> hex4 l = none := by
      intro hm
      have e4 : l.take 4 = l.take (k + 1) ++ (l.drop (k + 1)).take (3 - k) := by rw [<- List.take_add, show k + 1 + (3 - k) = 4 by omega]
      have e5 : hexs (l.take (k + 1)) 0 = none := by rw [List.take_add_one, hl0, Option.toList_some, hexs_snoc, hh, Option.bind_some, hm, Option.map_none]
      rw [hexs_four hp4, e4, hexs_none _ _ _ e5]; rfl
     rcases (show x < 0 ∨ (0 <= x /\ 65 <= c.toNat) ∨ (0 <= x /\ c.toNat < 48) ∨ (0 <= x /\ 48 <= c.toNat /\ c.toNat <= 57) ∨ (0 <= x /\ 57 < c.toNat /\ c.toNat < 65) by omega) with b | ⟨b1, b2⟩ | ⟨b1, b2⟩ | ⟨b1, b2, b3⟩ | ⟨b1, b2, b3⟩
     . have b1' : (0 <= x) = False := eq_false (by omega)
       simp -dsimp +decide (disch := omega) only [vb, Tryz.mpf, vsk, vr, ty, en, ↓reduceIte, Nat.reduceSub, Nat.reduceAdd, Nat.reduceMul, Nat.reduceLT, Int.reduceAdd, Int.reduceSub, Int.reduceToNat, ci, vi, getO_i, vt, b1']
       refine (need_ok _).mono ?_ ?_
       . rintro v T' es ⟨h, -⟩
         cases h
       . rintro v T es ⟨-, rfl, rfl, rfl⟩
         simp -dsimp +decide (disch := omega) only [vb, Tryz.mpf, vsk, vr, ty, en, ↓reduceIte, Nat.reduceSub, Nat.reduceAdd, Nat.reduceMul, Nat.reduceLT, Int.reduceAdd, Int.reduceSub, Int.reduceToNat, ci, vi, getO_i, vt]
         rw [if_neg (by omega)] at hix
         exact Vw.done ⟨hnn hix, rfl, rfl, rfl⟩
     . have b1' : (0 <= x) = True := eq_true (by omega)
       have b2' : ((65 : Int) <= (c.toNat : Int)) = True := eq_true (by omega)
       have b3' : ((48 : Int) <= (c.toNat : Int)) = True := eq_true (by omega)
       have b4' : ((c.toNat : Int) <= 57) = False := eq_false (by omega)
       simp -dsimp +decide (disch := omega) only [vb, Tryz.mpf, vsk, vr, ty, en, ↓reduceIte, Nat.reduceSub, Nat.reduceAdd, Nat.reduceMul, Nat.reduceLT, Int.reduceAdd, Int.reduceSub, Int.reduceToNat, ci, vi, getO_i, vt, b1', b2', b3', b4']
       refine (need_ok _).mono ?_ ?_
       . rintro v T es ⟨-, rfl, rfl, rfl⟩
         simp -dsimp +decide (disch := omega) only [vb, Tryz.mpf, vsk, vr, ty, en, ↓reduceIte, Nat.reduceSub, Nat.reduceAdd, Nat.reduceMul, Nat.reduceLT, Int.reduceAdd, Int.reduceSub, Int.reduceToNat, ci, vi, getO_i, vt]
         obtain ⟨m, rfl⟩ := Int.eq_ofNat_of_zero_le b1
         rw [if_pos ⟨b1, by omega⟩] at hix
         rw [or32 (Nat.lt_of_lt_of_le hn (Nat.pow_le_pow_right (by decide) hk)) (by omega)]
         exact ⟨(k + 1, 16 * n + m), ⟨⟨hk4, hsn m (by rw [hix]; rfl), by dsimp only; rw [Nat.pow_succ]; omega⟩, by dsimp only; omega⟩, SeeL.done ⟨rfl, ⟨rfl, rfl, rfl, rfl, rfl, rfl⟩, rfl, by simp⟩⟩
       . rintro v T' es ⟨h, -⟩
         cases h
     . have b1' : (0 <= x) = True := eq_true (by omega)
       have b2' : ((65 : Int) <= (c.toNat : Int)) = False := eq_false (by omega)
       have b3' : ((48 : Int) <= (c.toNat : Int)) = False := eq_false (by omega)
       simp -dsimp +decide (disch := omega) only [vb, Tryz.mpf, vsk, vr, ty, en, ↓reduceIte, Nat.reduceSub, Nat.reduceAdd, Nat.reduceMul, Nat.reduceLT, Int.reduceAdd, Int.reduceSub, Int.reduceToNat, ci, vi, getO_i, vt, b1', b2', b3']
       refine (need_ok _).mono ?_ ?_
       . rintro v T' es ⟨h, -⟩
         cases h
       . rintro v T es ⟨-, rfl, rfl, rfl⟩
         simp -dsimp +decide (disch := omega) only [vb, Tryz.mpf, vsk, vr, ty, en, ↓reduceIte, Nat.reduceSub, Nat.reduceAdd, Nat.reduceMul, Nat.reduceLT, Int.reduceAdd, Int.reduceSub, Int.reduceToNat, ci, vi, getO_i, vt]
         rw [if_neg (by omega)] at hix
         exact Vw.done ⟨hnn hix, rfl, rfl, rfl⟩
     . have b1' : (0 <= x) = True := eq_true (by omega)
       have b2' : ((65 : Int) <= (c.toNat : Int)) = False := eq_false (by omega)
       have b3' : ((48 : Int) <= (c.toNat : Int)) = True := eq_true (by omega)
       have b4' : ((c.toNat : Int) <= 57) = True := eq_true (by omega)
       simp -dsimp +decide (disch := omega) only [vb, Tryz.mpf, vsk, vr, ty, en, ↓reduceIte, Nat.reduceSub, Nat.reduceAdd, Nat.reduceMul, Nat.reduceLT, Int.reduceAdd, Int.reduceSub, Int.reduceToNat, ci, vi, getO_i, vt, b1', b2', b3', b4']
       refine (need_ok _).mono ?_ ?_
       . rintro v T es ⟨-, rfl, rfl, rfl⟩
         simp -dsimp +decide (disch := omega) only [vb, Tryz.mpf, vsk, vr, ty, en, ↓reduceIte, Nat.reduceSub, Nat.reduceAdd, Nat.reduceMul, Nat.reduceLT, Int.reduceAdd, Int.reduceSub, Int.reduceToNat, ci, vi, getO_i, vt]
         obtain ⟨m, rfl⟩ := Int.eq_ofNat_of_zero_le b1
         rw [if_pos ⟨b1, by omega⟩] at hix
         rw [or32 (Nat.lt_of_lt_of_le hn (Nat.pow_le_pow_right (by decide) hk)) (by omega)]
         exact ⟨(k + 1, 16 * n + m), ⟨⟨hk4, hsn m (by rw [hix]; rfl), by dsimp only; rw [Nat.pow_succ]; omega⟩, by dsimp only; omega⟩, SeeL.done ⟨rfl, ⟨rfl, rfl, rfl, rfl, rfl, rfl⟩, rfl, by simp⟩⟩
       . rintro v T' es ⟨h, -⟩
         cases h
     . have b1' : (0 <= x) = True := eq_true (by omega)
       have b2' : ((65 : Int) <= (c.toNat : Int)) = False := eq_false (by omega)
       have b3' : ((48 : Int) <= (c.toNat : Int)) = True := eq_true (by omega)
       have b4' : ((c.toNat : Int) <= 57) = False := eq_false (by omega)
       simp -dsimp +decide (disch := omega) only [vb, Tryz.mpf, vsk, vr, ty, en, ↓reduceIte, Nat.reduceSub, Nat.reduceAdd, Nat.reduceMul, Nat.reduceLT, Int.reduceAdd, Int.reduceSub, Int.reduceToNat, ci, vi, getO_i, vt, b1', b2', b3', b4']
       refine (need_ok _).mono ?_ ?_
       . rintro v T' es ⟨h, -⟩
         cases h
       . rintro v T es ⟨-, rfl, rfl, rfl⟩
         simp -dsimp +decide (disch := omega) only [vb, Tryz.mpf, vsk, vr, ty, en, ↓reduceIte, Nat.reduceSub, Nat.reduceAdd, Nat.reduceMul, Nat.reduceLT, Int.reduceAdd, Int.reduceSub, Int.reduceToNat, ci, vi, getO_i, vt]
         rw [if_neg (by omega)] at hix
         exact Vw.done ⟨hnn hix, rfl, rfl, rfl⟩
   . have e : k = 4 := by omega
     subst e
     simp -dsimp +decide (disch := omega) only [vb, Tryz.mpf, vsk, vr, ty, en, ↓reduceIte, Nat.reduceSub, Nat.reduceAdd, Nat.reduceMul, Nat.reduceLT, Int.reduceAdd, Int.reduceSub, Int.reduceToNat, ci, vi, getO_i, vt]
     exact ⟨n, hh, SeeL.done ⟨rfl, ⟨rfl, rfl, rfl⟩, rfl, by simp⟩⟩
 . rintro n g tmp hn
   simp -dsimp +decide (disch := omega) only [vb, Tryz.mpf, vsk, vr, ty, en, ↓reduceIte, Nat.reduceSub, Nat.reduceAdd, Nat.reduceMul, Nat.reduceLT, Int.reduceAdd, Int.reduceSub, Int.reduceToNat, ci, vi, getO_i, vt, vbl, hi]
   refine ⟨⟨hp4, Nat.le_refl _⟩, rfl, ?_⟩
   rw [rec1_in hil]
   have hd : (l.drop 4).take (l.length - 4) = l.drop 4 := List.take_of_length_le (by rw [List.length_drop]; omega)
   rw [hd]
   exact Vw.done ⟨n, l.drop 4, by rw [hexs_four hp4, hn]; rfl, rfl, rfl, rfl⟩
end Go.Proofs.YtglpcedoongagaaGreatDoor
namespace Go.Proofs.YtglpcedoongagaaGreatDoor
open Go.E Go.Proofs.YtglpcedoongagaaGreatDoor.Tryz Go.Proofs.Tryz Go.J
def es1 : List UInt8 := [34,92,98,102,110,114,116]
def es2 : List UInt8 := [34,92,8,12,10,13,9]
def esc1 (c : UInt8) : Option Nat :=
 if c = 34 ∨ c = 92 ∨ c = 47 then some c.toNat else if c = 98 then some 8 else if c = 102 then some 12 else if c = 110 then some 10
  else if c = 114 then some 13 else if c = 116 then some 9 else none
theorem esc_cons (c : UInt8) (r : B) : esc (c :: r) = match esc1 c with
 | some n => some (n, r)
 | none => if c = 117 then uni r else none := by
 unfold esc esc1
 (repeat' split) <;> simp_all
theorem esc1_idx (c : UInt8) : esc1 c = if 0 <= Lib.indexByte es1 c then (es2[(Lib.indexByte es1 c).toNat]?).map UInt8.toNat else if c = 47 then some 47 else none := by
 have h : ∀ i : Fin 256, esc1 (u8 i.val) = if 0 <= Lib.indexByte es1 (u8 i.val) then (es2[(Lib.indexByte es1 (u8 i.val)).toNat]?).map UInt8.toNat else if u8 i.val = 47 then some 47 else none := by decide +kernel
 have := h ⟨c.toNat, c.toNat_lt⟩
 rwa [u8_eq rfl] at this
theorem es1_lt (c : UInt8) : Lib.indexByte es1 c < 7 := by
 have h : ∀ i : Fin 256, Lib.indexByte es1 (u8 i.val) < 7 := by decide +kernel
 have := h ⟨c.toNat, c.toNat_lt⟩
 rwa [u8_eq rfl] at this
theorem pair_not {n : Nat} {l : List UInt8} (h : List.isPrefixOf [92, 117] l = false) : pair n l = none := by
 unfold pair
 split
 . rename_i a b r
   refine if_neg ?_
   rintro ⟨ha, hb⟩
   subst ha; subst hb
   exact absurd h (by simp [List.isPrefixOf])
 . rfl
theorem pair_is {n : Nat} {l : List UInt8} (h : List.isPrefixOf [92, 117] l = true) : pair n l = low n (l.drop 2) := by
 obtain ⟨t, rfl⟩ := List.isPrefixOf_iff_prefix.1 h
 show (if (92 : UInt8) = 92 /\ (117 : UInt8) = 117 then low n t else none) = low n t
 exact if_pos (by decide)
theorem sur_eq {n1 n2 : Nat} (h1 : 55296 <= n1) (h2 : n1 < 56320) (h3 : 56320 <= n2) (h4 : n2 < 57344) :
 IntKind.i32.wrap (IntKind.i32.wrap (IntKind.i32.wrap (65536 + IntKind.i32.wrap (IntKind.i32.wrap ((n1 : Int) - 55296) * (2 : Int) ^ min 10 IntKind.i32.bits)) + (n2 : Int)) - 56320) = ((0x10000 + (n1 - 0xd800) * 1024 + (n2 - 0xdc00) : Nat) : Int) := by
 have e0 : (2 : Int) ^ min 10 IntKind.i32.bits = 1024 := rfl
 rw [e0, IntWalk.i32_in ((n1 : Int) - 55296) (by omega), IntWalk.i32_in (((n1 : Int) - 55296) * 1024) (by omega), IntWalk.i32_in (65536 + ((n1 : Int) - 55296) * 1024) (by omega), IntWalk.i32_in (65536 + ((n1 : Int) - 55296) * 1024 + (n2 : Int)) (by omega), IntWalk.i32_in _ (by omega)]
 omega
theorem vrune_ok {T : Tbl} {n : Nat} (hn : n < 2147483648) : CallA prog G 82 [.p (.int .i32 (n : Nat))] T fun v T' es => v = .p (.bool (decide (okC n))) /\ T' = T /\ es = [] := by
 refine CallA.eV 5 func82 ntmps82 results82 ?_
 simp -dsimp +decide only [vb, Tryz.mpf, vr, ty, en, ↓reduceIte, Nat.reduceSub, Nat.reduceAdd, Nat.reduceMul, Nat.reduceLT, Int.reduceAdd, Int.reduceSub, Int.reduceToNat, ci]
 have h0 : ((0 : Int) <= (n : Int)) = True := eq_true (by omega)
 by_cases h1 : n < 55296
 . have h1' : ((n : Int) < 55296) = True := eq_true (by omega)
   simp -dsimp +decide (disch := omega) only [vb, Tryz.mpf, vr, ty, en, ↓reduceIte, Nat.reduceSub, Nat.reduceAdd, Nat.reduceMul, Nat.reduceLT, Int.reduceAdd, Int.reduceSub, Int.reduceToNat, ci, vi, getO_i, vt, h0, h1']
   exact Vw.done ⟨by rw [decide_eq_true (show okC n from ⟨by omega, by omega⟩)], rfl, rfl⟩
 . have h1' : ((n : Int) < 55296) = False := eq_false (by omega)
   by_cases h2 : 57343 < n
   . have h2' : ((57343 : Int) < (n : Int)) = True := eq_true (by omega)
     by_cases h3 : n <= 1114111
     . have h3' : ((n : Int) <= 1114111) = True := eq_true (by omega)
       simp -dsimp +decide (disch := omega) only [vb, Tryz.mpf, vr, ty, en, ↓reduceIte, Nat.reduceSub, Nat.reduceAdd, Nat.reduceMul, Nat.reduceLT, Int.reduceAdd, Int.reduceSub, Int.reduceToNat, ci, vi, getO_i, vt, h0, h1', h2', h3']
       exact Vw.done ⟨by rw [decide_eq_true (show okC n from ⟨by omega, by omega⟩)], rfl, rfl⟩
     . have h3' : ((n : Int) <= 1114111) = False := eq_false (by omega)
       simp -dsimp +decide (disch := omega) only [vb, Tryz.mpf, vr, ty, en, ↓reduceIte, Nat.reduceSub, Nat.reduceAdd, Nat.reduceMul, Nat.reduceLT, Int.reduceAdd, Int.reduceSub, Int.reduceToNat, ci, vi, getO_i, vt, h0, h1', h2', h3']
       exact Vw.done ⟨by rw [decide_eq_false (show ¬ okC n from fun h => h3 (by have := h.1; omega))], rfl, rfl⟩
   . have h2' : ((57343 : Int) < (n : Int)) = False := eq_false (by omega)
     simp -dsimp +decide (disch := omega) only [vb, Tryz.mpf, vr, ty, en, ↓reduceIte, Nat.reduceSub, Nat.reduceAdd, Nat.reduceMul, Nat.reduceLT, Int.reduceAdd, Int.reduceSub, Int.reduceToNat, ci, vi, getO_i, vt, h0, h1', h2']
     exact Vw.done ⟨by rw [decide_eq_false (show ¬ okC n from fun h => by have := h.2; omega)], rfl, rfl⟩
theorem escape_ok {T : Tbl} {i : Nat} {l : List UInt8} (hi : T[i]? = some (rdr l)) : CallP prog G 67 [.ptr i 0] T
 (fun v T' es => ∃ n r, esc l = some (n, r) /\ v = .p (.int .i32 (n : Nat)) /\ T' = T.set i (rdr r) /\ es = [(i, false)]) (fun v T' es => esc l = none /\ v = eno 5 /\ (∃ m, T' = T.set i (rdr m)) /\ es = [(i, false)]) := by
 have hil := (List.getElem?_eq_some_iff.1 hi).1
 have hi' := hi
 rw [rdr] at hi
 refine CallP.enterV Tryz.mp 7 func67 ntmps67 (congrArg Array.toList results67) rfl ⟨by simp, by simp⟩ (by kernel_rfl) (by kernel_rfl) ?_
 simp -dsimp +decide only [vb, Tryz.mpf, vr, ty, en, ↓reduceIte, Nat.reduceSub, Nat.reduceAdd, Nat.reduceMul, Nat.reduceLT, Int.reduceAdd, Int.reduceSub, Int.reduceToNat, ci]
 simp -dsimp +decide (disch := omega) only [vb, Tryz.mpf, vr, ty, en, ↓reduceIte, Nat.reduceSub, Nat.reduceAdd, Nat.reduceMul, Nat.reduceLT, Int.reduceAdd, Int.reduceSub, Int.reduceToNat, ci, vi, getO_i, vt, vbl, hi]
 refine (need_ok _).mono ?_ ?_
 rotate_left
 . rintro v T' es ⟨hp, rfl, rfl, rfl⟩
   simp -dsimp +decide (disch := omega) only [vb, Tryz.mpf, vr, ty, en, ↓reduceIte, Nat.reduceSub, Nat.reduceAdd, Nat.reduceMul, Nat.reduceLT, Int.reduceAdd, Int.reduceSub, Int.reduceToNat, ci, vi, getO_i, vt]
   have hl : l = [] := by
    have := of_decide_eq_false hp
    cases l with
    | nil => rfl
    | cons => simp at this
   subst hl
   exact Vw.eff (E' := [(i, false)]) (by simp) (Vw.done ⟨rfl, rfl, ⟨_, (set_self hi').symm⟩, rfl⟩)
 rintro v T es ⟨hp, rfl, rfl, rfl⟩
 obtain ⟨c, r, rfl⟩ : ∃ c r, l = c :: r := by
  cases l with
  | nil => have := of_decide_eq_true hp; simp at this
  | cons c r => exact ⟨c, r, rfl⟩
 have h0 : (0 < (((c :: r).length : Nat) : Int)) = True := eq_true (by simp)
 have hg : ((c :: r).map by8)[0]? = some (by8 c) := rfl
 have hl0 : 0 < (c :: r).length := by simp
 have h1 : 1 <= (c :: r).length := by simp
 have hd : ((c :: r).drop 1).take ((c :: r).length - 1) = r := by simp
 simp -dsimp +decide (disch := omega) only [vb, Tryz.mpf, vr, ty, en, ↓reduceIte, Nat.reduceSub, Nat.reduceAdd, Nat.reduceMul, Nat.reduceLT, Int.reduceAdd, Int.reduceSub, Int.reduceToNat, ci, vi, getO_i, vt, vbl, hi, h0, hg, hl0, hd, bb2]
 refine ⟨⟨h1, Nat.le_refl _⟩, rfl, ?_⟩
 simp only [rec1_in hil]
 have he := esc1_idx c
 have hlt := es1_lt c
 have hec := esc_cons c r
 refine (sti_ok (l := es1)).det' ?_
 generalize Lib.indexByte es1 c = x at he hlt ⊢
 by_cases b1 : 0 <= x
 . have b1' : (0 <= x) = True := eq_true b1
   rw [if_pos b1] at he
   obtain ⟨d, hd⟩ : ∃ d, es2[x.toNat]? = some d := ⟨_, List.getElem?_eq_getElem (show x.toNat < es2.length by show x.toNat < 7; omega)⟩
   rw [hd, Option.map_some] at he
   rw [he] at hec
   have hx : (⟨#[34,92,8,12,10,13,9]⟩ : ByteArray)[x.toNat]? = some d := (ba_get es2 x.toNat).trans hd
   have hw : IntKind.i32.wrap (d.toNat : Int) = (d.toNat : Int) := i32_fit (by have := d.toNat_lt; omega)
   simp -dsimp +decide (disch := omega) only [vb, Tryz.mpf, vr, ty, en, ↓reduceIte, Nat.reduceSub, Nat.reduceAdd, Nat.reduceMul, Nat.reduceLT, Int.reduceAdd, Int.reduceSub, Int.reduceToNat, ci, vi, getO_i, vt, b1', hx, bb2, hw]
   exact Vw.done ⟨d.toNat, r, hec, rfl, rfl, rec1_in hil _ _⟩
 have b1' : (0 <= x) = False := eq_false b1
 rw [if_neg b1] at he
 by_cases b2 : c = 47
 . subst b2
   rw [if_pos rfl] at he
   rw [he] at hec
   simp -dsimp +decide (disch := omega) only [vb, Tryz.mpf, vr, ty, en, ↓reduceIte, Nat.reduceSub, Nat.reduceAdd, Nat.reduceMul, Nat.reduceLT, Int.reduceAdd, Int.reduceSub, Int.reduceToNat, ci, vi, getO_i, vt, b1']
   exact Vw.done ⟨47, r, hec, rfl, rfl, rec1_in hil _ _⟩
 rw [if_neg b2] at he
 rw [he] at hec
 have b2' : ((c.toNat : Int) = 47) = False := eq_false fun h => b2 (UInt8.toNat_inj.1 (by show c.toNat = 47; omega))
 have hi1 : ∀ m : List UInt8, (T.set i (AObj.cells 52 [bl m]))[i]? = some (rdr m) := fun m => List.getElem?_set_self hil
 by_cases b3 : c = 117
 rotate_left
 . rw [if_neg b3] at hec
   have b3' : ((c.toNat : Int) = 117) = False := eq_false fun h => b3 (UInt8.toNat_inj.1 (by show c.toNat = 117; omega))
   simp -dsimp +decide (disch := omega) only [vb, Tryz.mpf, vr, ty, en, ↓reduceIte, Nat.reduceSub, Nat.reduceAdd, Nat.reduceMul, Nat.reduceLT, Int.reduceAdd, Int.reduceSub, Int.reduceToNat, ci, vi, getO_i, vt, b1', b2', b3']
   refine (need_ok _).mono ?_ ?_
   . rintro v T' es ⟨h, -⟩
     cases h
   . rintro v T' es ⟨-, rfl, rfl, rfl⟩
     simp -dsimp +decide (disch := omega) only [vb, Tryz.mpf, vr, ty, en, ↓reduceIte, Nat.reduceSub, Nat.reduceAdd, Nat.reduceMul, Nat.reduceLT, Int.reduceAdd, Int.reduceSub, Int.reduceToNat, ci, vi, getO_i, vt]
     exact Vw.done ⟨hec, rfl, ⟨r, rfl⟩, rec1_in hil _ _⟩
 subst b3
 rw [if_pos rfl] at hec
 have hec : esc (117 :: r) = uni r := hec
 simp -dsimp +decide (disch := omega) only [vb, Tryz.mpf, vr, ty, en, ↓reduceIte, Nat.reduceSub, Nat.reduceAdd, Nat.reduceMul, Nat.reduceLT, Int.reduceAdd, Int.reduceSub, Int.reduceToNat, ci, vi, getO_i, vt, b1']
 refine (need_ok _).mono ?_ ?_
 rotate_left
 . rintro v T' es ⟨h, -⟩
   cases h
 rintro v T' es ⟨-, rfl, rfl, rfl⟩
 simp -dsimp +decide (disch := omega) only [vb, Tryz.mpf, vr, ty, en, ↓reduceIte, Nat.reduceSub, Nat.reduceAdd, Nat.reduceMul, Nat.reduceLT, Int.reduceAdd, Int.reduceSub, Int.reduceToNat, ci, vi, getO_i, vt]
 refine (unit_ok (hi1 r)).mono ?_ ?_
 rotate_left
 . rintro v T' es ⟨hn, rfl, rfl, rfl⟩
   simp -dsimp +decide (disch := omega) only [vb, Tryz.mpf, vr, ty, en, ↓reduceIte, Nat.reduceSub, Nat.reduceAdd, Nat.reduceMul, Nat.reduceLT, Int.reduceAdd, Int.reduceSub, Int.reduceToNat, ci, vi, getO_i, vt]
   refine Vw.done ⟨?_, rfl, ⟨r, rfl⟩, rec1_in hil _ _⟩
   rw [hec, uni, hn]
 rintro v T' es ⟨n1, r1, hn1, rfl, rfl, rfl⟩
 obtain ⟨n1l, -⟩ := hex4_spec hn1
 rw [List.set_set]
 have hT1 : ∀ m : List UInt8, (T.set i (rdr m))[i]? = some (rdr m) := fun m => List.getElem?_set_self hil
 by_cases c1 : 55296 <= n1 /\ n1 < 56320
 rotate_left
 . have hu : uni r = if okC n1 then some (n1, r1) else none := by rw [uni, hn1]; exact if_neg c1
   rw [hu] at hec
   have fin : ∀ b : Bool, b = decide (okC n1) -> True := fun _ _ => trivial
   by_cases c2 : 55296 <= n1
   . have c2' : ((55296 : Int) <= (n1 : Int)) = True := eq_true (by omega)
     have c3' : ((n1 : Int) < 56320) = False := eq_false (by omega)
     simp -dsimp +decide (disch := omega) only [vb, Tryz.mpf, vr, ty, en, ↓reduceIte, Nat.reduceSub, Nat.reduceAdd, Nat.reduceMul, Nat.reduceLT, Int.reduceAdd, Int.reduceSub, Int.reduceToNat, ci, vi, getO_i, vt, c2', c3']
     refine (vrune_ok (n := n1) (by omega)).det' ?_
     simp -dsimp +decide (disch := omega) only [vb, Tryz.mpf, vr, ty, en, ↓reduceIte, Nat.reduceSub, Nat.reduceAdd, Nat.reduceMul, Nat.reduceLT, Int.reduceAdd, Int.reduceSub, Int.reduceToNat, ci, vi, getO_i, vt]
     refine (need_ok _).mono ?_ ?_
     . rintro v T' es ⟨ho, rfl, rfl, rfl⟩
       rw [if_pos (of_decide_eq_true ho)] at hec
       simp -dsimp +decide (disch := omega) only [vb, Tryz.mpf, vr, ty, en, ↓reduceIte, Nat.reduceSub, Nat.reduceAdd, Nat.reduceMul, Nat.reduceLT, Int.reduceAdd, Int.reduceSub, Int.reduceToNat, ci, vi, getO_i, vt]
       exact Vw.eff (E' := [(i, false)]) (by simp [rec1_in hil]) (Vw.done ⟨n1, r1, hec, rfl, rfl, rfl⟩)
     . rintro v T' es ⟨ho, rfl, rfl, rfl⟩
       rw [if_neg (of_decide_eq_false ho)] at hec
       simp -dsimp +decide (disch := omega) only [vb, Tryz.mpf, vr, ty, en, ↓reduceIte, Nat.reduceSub, Nat.reduceAdd, Nat.reduceMul, Nat.reduceLT, Int.reduceAdd, Int.reduceSub, Int.reduceToNat, ci, vi, getO_i, vt]
       exact Vw.eff (E' := [(i, false)]) (by simp [rec1_in hil]) (Vw.done ⟨hec, rfl, ⟨r1, rfl⟩, rfl⟩)
   . have c2' : ((55296 : Int) <= (n1 : Int)) = False := eq_false (by omega)
     simp -dsimp +decide (disch := omega) only [vb, Tryz.mpf, vr, ty, en, ↓reduceIte, Nat.reduceSub, Nat.reduceAdd, Nat.reduceMul, Nat.reduceLT, Int.reduceAdd, Int.reduceSub, Int.reduceToNat, ci, vi, getO_i, vt, c2']
     refine (vrune_ok (n := n1) (by omega)).det' ?_
     simp -dsimp +decide (disch := omega) only [vb, Tryz.mpf, vr, ty, en, ↓reduceIte, Nat.reduceSub, Nat.reduceAdd, Nat.reduceMul, Nat.reduceLT, Int.reduceAdd, Int.reduceSub, Int.reduceToNat, ci, vi, getO_i, vt]
     refine (need_ok _).mono ?_ ?_
     . rintro v T' es ⟨ho, rfl, rfl, rfl⟩
       rw [if_pos (of_decide_eq_true ho)] at hec
       simp -dsimp +decide (disch := omega) only [vb, Tryz.mpf, vr, ty, en, ↓reduceIte, Nat.reduceSub, Nat.reduceAdd, Nat.reduceMul, Nat.reduceLT, Int.reduceAdd, Int.reduceSub, Int.reduceToNat, ci, vi, getO_i, vt]
       exact Vw.eff (E' := [(i, false)]) (by simp [rec1_in hil]) (Vw.done ⟨n1, r1, hec, rfl, rfl, rfl⟩)
     . rintro v T' es ⟨ho, rfl, rfl, rfl⟩
       rw [if_neg (of_decide_eq_false ho)] at hec
       simp -dsimp +decide (disch := omega) only [vb, Tryz.mpf, vr, ty, en, ↓reduceIte, Nat.reduceSub, Nat.reduceAdd, Nat.reduceMul, Nat.reduceLT, Int.reduceAdd, Int.reduceSub, Int.reduceToNat, ci, vi, getO_i, vt]
       exact Vw.eff (E' := [(i, false)]) (by simp [rec1_in hil]) (Vw.done ⟨hec, rfl, ⟨r1, rfl⟩, rfl⟩)
 have c2' : ((55296 : Int) <= (n1 : Int)) = True := eq_true (by omega)
 have c3' : ((n1 : Int) < 56320) = True := eq_true (by omega)
 have hu : uni r = pair n1 r1 := by rw [uni, hn1]; exact if_pos c1
 rw [hu] at hec
 simp -dsimp +decide (disch := omega) only [vb, Tryz.mpf, vr, ty, en, ↓reduceIte, Nat.reduceSub, Nat.reduceAdd, Nat.reduceMul, Nat.reduceLT, Int.reduceAdd, Int.reduceSub, Int.reduceToNat, ci, vi, getO_i, vt, c2', c3']
 refine (word_ok (p := [92, 117]) (hT1 r1)).mono ?_ ?_
 rotate_left
 . rintro v T' es ⟨hp, rfl, rfl, rfl⟩
   simp -dsimp +decide (disch := omega) only [vb, Tryz.mpf, vr, ty, en, ↓reduceIte, Nat.reduceSub, Nat.reduceAdd, Nat.reduceMul, Nat.reduceLT, Int.reduceAdd, Int.reduceSub, Int.reduceToNat, ci, vi, getO_i, vt]
   refine Vw.eff (E' := [(i, false)]) (by simp [rec1_in hil]) (Vw.done ⟨hec.trans (pair_not hp), rfl, ⟨r1, rfl⟩, rfl⟩)
 rintro v T' es ⟨hp, rfl, rfl, rfl⟩
 rw [List.set_set]
 rw [pair_is hp] at hec
 simp -dsimp +decide (disch := omega) only [vb, Tryz.mpf, vr, ty, en, ↓reduceIte, Nat.reduceSub, Nat.reduceAdd, Nat.reduceMul, Nat.reduceLT, Int.reduceAdd, Int.reduceSub, Int.reduceToNat, ci, vi, getO_i, vt]
 refine (unit_ok (hT1 _)).mono ?_ ?_
 rotate_left
 . rintro v T' es ⟨hn, rfl, rfl, rfl⟩
   simp -dsimp +decide (disch := omega) only [vb, Tryz.mpf, vr, ty, en, ↓reduceIte, Nat.reduceSub, Nat.reduceAdd, Nat.reduceMul, Nat.reduceLT, Int.reduceAdd, Int.reduceSub, Int.reduceToNat, ci, vi, getO_i, vt]
   refine Vw.eff (E' := [(i, false)]) (by simp [rec1_in hil]) (Vw.done ⟨by rw [show ([92, 117] : List UInt8).length = 2 from rfl] at hn; rw [hec, low, hn], rfl, ⟨_, rfl⟩, rfl⟩)
 rintro v T' es ⟨n2, r3, hn2, rfl, rfl, rfl⟩
 rw [List.set_set]
 obtain ⟨n2l, -⟩ := hex4_spec hn2
 have hlo : low n1 (r1.drop 2) = if 0xdc00 <= n2 /\ n2 < 0xe000 then some (0x10000 + (n1 - 0xd800) * 1024 + (n2 - 0xdc00), r3) else none := by
  rw [show ([92, 117] : List UInt8).length = 2 from rfl] at hn2
  rw [low, hn2]
 rw [hlo] at hec
 by_cases d1 : 56320 <= n2
 rotate_left
 . have d1' : ((56320 : Int) <= (n2 : Int)) = False := eq_false (by omega)
   rw [if_neg (fun h => d1 h.1)] at hec
   simp -dsimp +decide (disch := omega) only [vb, Tryz.mpf, vr, ty, en, ↓reduceIte, Nat.reduceSub, Nat.reduceAdd, Nat.reduceMul, Nat.reduceLT, Int.reduceAdd, Int.reduceSub, Int.reduceToNat, ci, vi, getO_i, vt, d1']
   refine (need_ok _).mono ?_ ?_
   . rintro v T' es ⟨h, -⟩
     cases h
   . rintro v T' es ⟨-, rfl, rfl, rfl⟩
     simp -dsimp +decide (disch := omega) only [vb, Tryz.mpf, vr, ty, en, ↓reduceIte, Nat.reduceSub, Nat.reduceAdd, Nat.reduceMul, Nat.reduceLT, Int.reduceAdd, Int.reduceSub, Int.reduceToNat, ci, vi, getO_i, vt]
     exact Vw.eff (E' := [(i, false)]) (by simp [rec1_in hil]) (Vw.done ⟨hec, rfl, ⟨r3, rfl⟩, rfl⟩)
 have d1' : ((56320 : Int) <= (n2 : Int)) = True := eq_true (by omega)
 by_cases d2 : n2 < 57344
 rotate_left
 . have d2' : ((n2 : Int) < 57344) = False := eq_false (by omega)
   rw [if_neg (fun h => d2 h.2)] at hec
   simp -dsimp +decide (disch := omega) only [vb, Tryz.mpf, vr, ty, en, ↓reduceIte, Nat.reduceSub, Nat.reduceAdd, Nat.reduceMul, Nat.reduceLT, Int.reduceAdd, Int.reduceSub, Int.reduceToNat, ci, vi, getO_i, vt, d1', d2']
   refine (need_ok _).mono ?_ ?_
   . rintro v T' es ⟨h, -⟩
     cases h
   . rintro v T' es ⟨-, rfl, rfl, rfl⟩
     simp -dsimp +decide (disch := omega) only [vb, Tryz.mpf, vr, ty, en, ↓reduceIte, Nat.reduceSub, Nat.reduceAdd, Nat.reduceMul, Nat.reduceLT, Int.reduceAdd, Int.reduceSub, Int.reduceToNat, ci, vi, getO_i, vt]
     exact Vw.eff (E' := [(i, false)]) (by simp [rec1_in hil]) (Vw.done ⟨hec, rfl, ⟨r3, rfl⟩, rfl⟩)
 have d2' : ((n2 : Int) < 57344) = True := eq_true (by omega)
 rw [if_pos ⟨d1, d2⟩] at hec
 simp -dsimp +decide (disch := omega) only [vb, Tryz.mpf, vr, ty, en, ↓reduceIte, Nat.reduceSub, Nat.reduceAdd, Nat.reduceMul, Nat.reduceLT, Int.reduceAdd, Int.reduceSub, Int.reduceToNat, ci, vi, getO_i, vt, d1', d2']
 refine (need_ok _).mono ?_ ?_
 rotate_left
 . rintro v T' es ⟨h, -⟩
   cases h
 rintro v T' es ⟨-, rfl, rfl, rfl⟩
 simp -dsimp +decide (disch := omega) only [vb, Tryz.mpf, vr, ty, en, ↓reduceIte, Nat.reduceSub, Nat.reduceAdd, Nat.reduceMul, Nat.reduceLT, Int.reduceAdd, Int.reduceSub, Int.reduceToNat, ci, vi, getO_i, vt]
 simp only [sur_eq c1.1 c1.2 d1 d2]
 have ho : okC (0x10000 + (n1 - 0xd800) * 1024 + (n2 - 0xdc00)) := ⟨by omega, by omega⟩
 have hN : 0x10000 + (n1 - 0xd800) * 1024 + (n2 - 0xdc00) < 2147483648 := by omega
 generalize hNe : 0x10000 + (n1 - 0xd800) * 1024 + (n2 - 0xdc00) = N at hec ho hN ⊢
 refine (vrune_ok (n := N) hN).det' ?_
 rw [decide_eq_true ho]
 simp -dsimp +decide (disch := omega) only [vb, Tryz.mpf, vr, ty, en, ↓reduceIte, Nat.reduceSub, Nat.reduceAdd, Nat.reduceMul, Nat.reduceLT, Int.reduceAdd, Int.reduceSub, Int.reduceToNat, ci, vi, getO_i, vt]
 refine (need_ok _).mono ?_ ?_
 rotate_left
 . rintro v T' es ⟨h, -⟩
   cases h
 rintro v T' es ⟨-, rfl, rfl, rfl⟩
 simp -dsimp +decide (disch := omega) only [vb, Tryz.mpf, vr, ty, en, ↓reduceIte, Nat.reduceSub, Nat.reduceAdd, Nat.reduceMul, Nat.reduceLT, Int.reduceAdd, Int.reduceSub, Int.reduceToNat, ci, vi, getO_i, vt]
 exact Vw.eff (E' := [(i, false)]) (by simp [rec1_in hil]) (Vw.done ⟨N, r3, hec, by rw [sur_eq c1.1 c1.2 d1 d2, hNe], rfl, rfl⟩)
end Go.Proofs.YtglpcedoongagaaGreatDoor
namespace Go.Proofs.YtglpcedoongagaaGreatDoor
open Go.E Go.Proofs.YtglpcedoongagaaGreatDoor.Tryz Go.Proofs.Tryz Go.J
def bf (l : List UInt8) : AObj := .buf 5 1 (l.map by8)
theorem bf_wo (q : Nat -> Bool) (l : List UInt8) : (bf l).wo q = bf l := by
 rw [bf, AObj.wo, List.map_map]
 congr 1
theorem Vw.bf {G : Nat -> AV} {K : AV -> Tbl -> Eff -> Prop} {T l : Tbl} {j k : Nat} {A : List UInt8} {E : Eff} (wt : T.map (AObj.wo fun i => decide (T.length <= i)) = T) (hj : j < T.length) (h : K (.sl j 0 k) (T.set j (bf A)) E) : Vw G T K (.sl j 0 k) ((T ++ l).set j (bf A)) E := by
 rw [List.set_append_left _ _ hj]
 refine Vw.cutN T.length (Nat.le_refl _) ?_
 rw [List.take_left' (by simp), List.map_set, wt, bf_wo]
 have e : (AV.sl j 0 k).wo (fun i => decide (T.length <= i)) = .sl j 0 k := by
  rw [AV.wo, if_neg (by simp; omega)]
 rw [e]
 exact Vw.done h
theorem Vw.bf' {G : Nat -> AV} {K : AV -> Tbl -> Eff -> Prop} {T l : Tbl} {j k : Nat} {A : List UInt8} {E : Eff} {o : AObj} (ho : o = Go.Proofs.YtglpcedoongagaaGreatDoor.bf A) (wt : T.map (AObj.wo fun i => decide (T.length <= i)) = T) (hj : j < T.length) (h : K (.sl j 0 k) (T.set j (Go.Proofs.YtglpcedoongagaaGreatDoor.bf A)) E) : Vw G T K (.sl j 0 k) ((T ++ l).set j o) E := ho ▸ Vw.bf wt hj h
theorem ofI (n : Nat) : UInt8.ofInt (n : Int) = u8 n := by
 apply UInt8.toNat_inj.1
 have h1 := u8_wrap (n : Int)
 rw [IntKind.wrap_u8] at h1
 have h2 : (u8 n).toNat = n % 256 := by simp [u8]
 omega
theorem u8_mod (n : Nat) : u8 n = u8 (n % 256) := by
 apply UInt8.toNat_inj.1; simp [u8]
theorem b6 (n : Nat) : UInt8.ofInt 128 ||| u8 n &&& UInt8.ofInt 63 = u8 (0x80 + n % 64) := by
 have h : ∀ i : Fin 256, UInt8.ofInt 128 ||| u8 i.val &&& UInt8.ofInt 63 = u8 (0x80 + i.val % 64) := by decide +kernel
 have := h ⟨n % 256, Nat.mod_lt _ (by decide)⟩
 rw [u8_mod n, this]
 show u8 (128 + n % 256 % 64) = _
 rw [show n % 256 % 64 = n % 64 by omega]
theorem b5 {n : Nat} (h : n < 32) : UInt8.ofInt 192 ||| u8 n = u8 (0xc0 + n) := by
 have h' : ∀ i : Fin 32, UInt8.ofInt 192 ||| u8 i.val = u8 (0xc0 + i.val) := by decide +kernel
 exact h' ⟨n, h⟩
theorem b4 {n : Nat} (h : n < 16) : UInt8.ofInt 224 ||| u8 n = u8 (0xe0 + n) := by
 have h' : ∀ i : Fin 16, UInt8.ofInt 224 ||| u8 i.val = u8 (0xe0 + i.val) := by decide +kernel
 exact h' ⟨n, h⟩
theorem b3 {n : Nat} (h : n < 8) : UInt8.ofInt 240 ||| u8 n = u8 (0xf0 + n) := by
 have h' : ∀ i : Fin 8, UInt8.ofInt 240 ||| u8 i.val = u8 (0xf0 + i.val) := by decide +kernel
 exact h' ⟨n, h⟩
theorem fdv (n : Nat) : (n : Int).fdiv ((2 : Int) ^ min 6 IntKind.i32.bits) = ((n / 64 : Nat) : Int) /\ (n : Int).fdiv ((2 : Int) ^ min 12 IntKind.i32.bits) = ((n / 4096 : Nat) : Int) /\ (n : Int).fdiv ((2 : Int) ^ min 18 IntKind.i32.bits) = ((n / 262144 : Nat) : Int) := by
 refine ⟨?_, ?_, ?_⟩
 . rw [show (2 : Int) ^ min 6 IntKind.i32.bits = 64 from rfl, Int.fdiv_eq_ediv_of_nonneg _ (by decide)]; omega
 . rw [show (2 : Int) ^ min 12 IntKind.i32.bits = 4096 from rfl, Int.fdiv_eq_ediv_of_nonneg _ (by decide)]; omega
 . rw [show (2 : Int) ^ min 18 IntKind.i32.bits = 262144 from rfl, Int.fdiv_eq_ediv_of_nonneg _ (by decide)]; omega
theorem repb (a : AV) : (List.replicate 2 [a]).flatten = [a, a] /\ (List.replicate 3 [a]).flatten = [a, a, a] /\ (List.replicate 4 [a]).flatten = [a, a, a, a] := ⟨rfl, rfl, rfl⟩
theorem arna_ok {T : Tbl} {j n : Nat} {A : List UInt8} (hj : T[j]? = some (bf A)) (hA : A.length + 4 <= 140737488355328) (hn : okC n) (hn1 : ¬ n <= 127) (hq : T.map (AObj.wo fun x => x == j) = T) : CallA prog G 83 [.sl j 0 A.length, .p (.int .i32 (n : Nat))] T fun v T' es => v = .sl j 0 (A ++ enc n).length /\ T' = T.set j (bf (A ++ enc n)) /\ es = [(j, true)] := by
 refine CallA.wfs fun wf => ?_
 have wt := wf.t
 have hjl := (List.getElem?_eq_some_iff.1 hj).1
 have hnl : n <= 1114111 := hn.1
 rw [bf] at hj
 have hw : ((UInt32.ofInt (n : Int)).toNat : Int) = (n : Int) := by rw [<- u32_wrap, IntKind.wrap_u32]; omega
 have hj' : ∀ l : Tbl, (T ++ l)[j]? = some (.buf 5 1 (A.map by8)) := fun l => by rw [List.getElem?_append_left hjl]; exact hj
 refine CallA.eV 6 func83 ntmps83 results83 ?_
 simp -dsimp +decide only [vr, ty, en, ↓reduceIte, Nat.reduceSub, Nat.reduceAdd, Nat.reduceMul, Nat.reduceLT, Int.reduceAdd, Int.reduceSub, Int.reduceToNat, ci]
 simp only [hw]
 by_cases h2 : n <= 2047
 . have h2' : ((n : Int) <= 2047) = True := eq_true (by omega)
   have he : enc n = [u8 (0xc0 + n / 64), u8 (0x80 + n % 64)] := by
    rw [enc, if_neg (by have := hn.2; omega), if_neg (by omega), if_pos (by omega)]
   have k5 := b5 (n := n / 64) (by omega)
   simp -dsimp +decide (disch := omega) only [vr, ty, en, ↓reduceIte, Nat.reduceSub, Nat.reduceAdd, Nat.reduceMul, Nat.reduceLT, Int.reduceAdd, Int.reduceSub, Int.reduceToNat, ci, vi, getO_i, vt, h2', hj', bb2, fdv, repb, List.set_cons_zero, List.set_cons_succ, List.length_cons]
   refine ⟨rfl, ⟨by omega, by omega⟩, ?_⟩
   simp only [hq, rec1_in hjl, ofI, b6, k5]
   refine Vw.bf' (A := A ++ enc n) ?_ wt.2.1 hjl ⟨by rw [he, List.length_append]; rfl, rfl, rfl⟩
   rw [bf, List.map_append, he]
   simp only [List.take, List.map, AV.wo, by8]
 have h2' : ((n : Int) <= 2047) = False := eq_false (by omega)
 by_cases h3 : n <= 65535
 . have he : enc n = [u8 (0xe0 + n / 4096), u8 (0x80 + n / 64 % 64), u8 (0x80 + n % 64)] := by
    rw [enc, if_neg (by have := hn.2; omega), if_neg (by omega), if_neg (by omega), if_pos (by omega)]
   have k4 := b4 (n := n / 4096) (by omega)
   by_cases h4 : n < 55296
   . have h4' : ((n : Int) < 55296) = True := eq_true (by omega)
     simp -dsimp +decide (disch := omega) only [vr, ty, en, ↓reduceIte, Nat.reduceSub, Nat.reduceAdd, Nat.reduceMul, Nat.reduceLT, Int.reduceAdd, Int.reduceSub, Int.reduceToNat, ci, vi, getO_i, vt, hw, h2', h4', hj', bb2, fdv, repb, List.set_cons_zero, List.set_cons_succ, List.length_cons]
     refine ⟨rfl, ⟨by omega, by omega⟩, ?_⟩
     simp only [hq, rec1_in hjl, ofI, b6, k4]
     refine Vw.bf' (A := A ++ enc n) ?_ wt.2.1 hjl ⟨by rw [he, List.length_append]; rfl, rfl, rfl⟩
     rw [bf, List.map_append, he]
     simp only [List.take, List.map, AV.wo, by8]
   . have h4' : ((n : Int) < 55296) = False := eq_false (by omega)
     have h5' : ((57343 : Int) < (n : Int)) = True := eq_true (by have := hn.2; omega)
     have h3' : ((n : Int) <= 65535) = True := eq_true (by omega)
     simp -dsimp +decide (disch := omega) only [vr, ty, en, ↓reduceIte, Nat.reduceSub, Nat.reduceAdd, Nat.reduceMul, Nat.reduceLT, Int.reduceAdd, Int.reduceSub, Int.reduceToNat, ci, vi, getO_i, vt, hw, h2', h4', h5', h3', hj', bb2, fdv, repb, List.set_cons_zero, List.set_cons_succ, List.length_cons]
     refine ⟨rfl, ⟨by omega, by omega⟩, ?_⟩
     simp only [hq, rec1_in hjl, ofI, b6, k4]
     refine Vw.bf' (A := A ++ enc n) ?_ wt.2.1 hjl ⟨by rw [he, List.length_append]; rfl, rfl, rfl⟩
     rw [bf, List.map_append, he]
     simp only [List.take, List.map, AV.wo, by8]
 . have he : enc n = [u8 (0xf0 + n / 262144), u8 (0x80 + n / 4096 % 64), u8 (0x80 + n / 64 % 64), u8 (0x80 + n % 64)] := by
    rw [enc, if_neg (by have := hn.2; omega), if_neg (by omega), if_neg (by omega), if_neg (by omega)]
   have k3 := b3 (n := n / 262144) (by omega)
   have h4' : ((n : Int) < 55296) = False := eq_false (by omega)
   have h5' : ((57343 : Int) < (n : Int)) = True := eq_true (by omega)
   have h3' : ((n : Int) <= 65535) = False := eq_false (by omega)
   have h6' : ((65535 : Int) < (n : Int)) = True := eq_true (by omega)
   have h7' : ((n : Int) <= 1114111) = True := eq_true (by omega)
   simp -dsimp +decide (disch := omega) only [vr, ty, en, ↓reduceIte, Nat.reduceSub, Nat.reduceAdd, Nat.reduceMul, Nat.reduceLT, Int.reduceAdd, Int.reduceSub, Int.reduceToNat, ci, vi, getO_i, vt, hw, h2', h4', h5', h3', h6', h7', hj', bb2, fdv, repb, List.set_cons_zero, List.set_cons_succ, List.length_cons]
   refine ⟨rfl, ⟨by omega, by omega⟩, ?_⟩
   simp only [hq, rec1_in hjl, ofI, b6, k3]
   refine Vw.bf' (A := A ++ enc n) ?_ wt.2.1 hjl ⟨by rw [he, List.length_append]; rfl, rfl, rfl⟩
   rw [bf, List.map_append, he]
   simp only [List.take, List.map, AV.wo, by8]
theorem arun_ok {T : Tbl} {j n : Nat} {A : List UInt8} (hj : T[j]? = some (bf A)) (hA : A.length + 4 <= 140737488355328) (hn : okC n) (hq : T.map (AObj.wo fun x => x == j) = T) : CallA prog G 68 [.sl j 0 A.length, .p (.int .i32 (n : Nat))] T fun v T' es => v = .sl j 0 (A ++ enc n).length /\ T' = T.set j (bf (A ++ enc n)) /\ es = [(j, true)] := by
 refine CallA.wfs fun wf => ?_
 have wt := wf.t
 have hjl := (List.getElem?_eq_some_iff.1 hj).1
 have hnl : n <= 1114111 := hn.1
 have hj0 := hj
 rw [bf] at hj
 refine CallA.eV 5 func68 ntmps68 results68 ?_
 simp -dsimp +decide only [vr, ty, en, ↓reduceIte, Nat.reduceSub, Nat.reduceAdd, Nat.reduceMul, Nat.reduceLT, Int.reduceAdd, Int.reduceSub, Int.reduceToNat, ci]
 have hw : ((UInt32.ofInt (n : Int)).toNat : Int) = (n : Int) := by rw [<- u32_wrap, IntKind.wrap_u32]; omega
 have hj' : ∀ l : Tbl, (T ++ l)[j]? = some (.buf 5 1 (A.map by8)) := fun l => by rw [List.getElem?_append_left hjl]; exact hj
 simp only [hw]
 refine CondP.dec (fun h1 => ?_) (fun h1 => ?_)
 . simp -dsimp +decide (disch := omega) only [vr, ty, en, ↓reduceIte, Nat.reduceSub, Nat.reduceAdd, Nat.reduceMul, Nat.reduceLT, Int.reduceAdd, Int.reduceSub, Int.reduceToNat, ci, vi, getO_i, vt, hw, hj', bb2]
   refine ⟨⟨by omega, by omega⟩, ?_⟩
   rw [hq, rec1_in hjl]
   have he : enc n = [UInt8.ofInt (n : Int)] := by
    rw [enc, if_neg (by have := hn.2; omega), if_pos (by omega), ofI]
   refine Vw.bf wt.2.1 hjl ?_
   rw [he]
   exact ⟨by simp, rfl, rfl⟩
 . refine (arna_ok hj0 hA hn (by omega) hq).det' ?_
   simp -dsimp +decide (disch := omega) only [vr, ty, en, ↓reduceIte, Nat.reduceSub, Nat.reduceAdd, Nat.reduceMul, Nat.reduceLT, Int.reduceAdd, Int.reduceSub, Int.reduceToNat, ci, vi, getO_i, vt]
   exact Vw.done ⟨rfl, rfl, rec1_in hjl _ _⟩
end Go.Proofs.YtglpcedoongagaaGreatDoor
namespace Go.Proofs.YtglpcedoongagaaGreatDoor
open Go.E Go.Proofs.YtglpcedoongagaaGreatDoor.Tryz Go.Proofs.Tryz Go.J
def firV (a : UInt8) : UInt8 :=
 if a.toNat < 0x80 then 0xf0 else if a.toNat < 0xc2 then 0xf1 else if a.toNat < 0xe0 then 2 else if a.toNat = 0xe0 then 0x13 else if a.toNat = 0xed then 0x23 else if a.toNat < 0xf0 then 3
 else if a.toNat = 0xf0 then 0x34 else if a.toNat < 0xf4 then 4 else if a.toNat = 0xf4 then 0x44 else 0xf1
theorem fir_get (a : UInt8) : (firL.map by8)[a.toNat]? = some (by8 (firV a)) := by
 have e : firL = (List.range 256).map fun i => firV (u8 i) := by decide +kernel
 rw [e, List.getElem?_map, List.getElem?_map, List.getElem?_range a.toNat_lt, Option.map_some, Option.map_some, u8_eq rfl]
def decR (l : B) : Nat × Nat := match l with
 | [] => (65533, 0)
 | _ => if (dec l).2 = 0 then (65533, 1) else dec l
theorem decR_one {a : UInt8} {r : B} (h : a.toNat < 0x80) : decR (a :: r) = (a.toNat, 1) := by
 show (if (dec (a :: r)).2 = 0 then _ else dec (a :: r)) = _
 rw [dec_one r h]; rfl
theorem slow_nil {T : Tbl} : CallA prog G 84 [bl []] T fun v T' es => v = .tu [.p (.int .i32 65533), .p (.int .i64 0)] /\ T' = T /\ es = [] := by
 refine CallA.eV 13 func84 ntmps84 results84 ?_
 simp -dsimp +decide only [vr, ty, en, ↓reduceIte, Nat.reduceSub, Nat.reduceAdd, Nat.reduceMul, Nat.reduceLT, Int.reduceAdd, Int.reduceSub, Int.reduceToNat, ci]
 have hl : (([] : List UInt8).length : Int) = 0 := rfl
 simp -dsimp +decide (disch := omega) only [vr, ty, en, ↓reduceIte, Nat.reduceSub, Nat.reduceAdd, Nat.reduceMul, Nat.reduceLT, Int.reduceAdd, Int.reduceSub, Int.reduceToNat, ci, vi, getO_i, vt, vbl, hl, vres, vone]
 exact Vw.done ⟨rfl, rfl, rfl⟩
def badF (z : Int) : Int := IntKind.i32.wrap ((BitVec.ofInt IntKind.i32.bits (IntKind.i32.wrap ((BitVec.ofInt IntKind.i32.bits (IntKind.i32.wrap z) &&&
 ~~~BitVec.ofInt IntKind.i32.bits ((IntKind.i32.wrap (IntKind.i32.wrap (UInt8.toNat 241 : Nat) * 2 ^ min 31 IntKind.i32.bits)).fdiv (2 ^ min 31 IntKind.i32.bits))).toNat : Nat)) |||
 BitVec.ofInt IntKind.i32.bits (IntKind.i32.wrap ((BitVec.ofInt IntKind.i32.bits 65533 &&& BitVec.ofInt IntKind.i32.bits ((IntKind.i32.wrap (IntKind.i32.wrap (UInt8.toNat 241 : Nat) * 2 ^ min 31 IntKind.i32.bits)).fdiv (2 ^ min 31 IntKind.i32.bits))).toNat : Nat))).toNat : Nat)
theorem badF_eq (a : UInt8) : badF (a.toNat : Int) = 65533 := by
 have h : ∀ i : Fin 256, badF ((i.val : Nat) : Int) = 65533 := by decide +kernel
 exact h ⟨a.toNat, a.toNat_lt⟩
theorem slow_bad {T : Tbl} {a : UInt8} {r : List UInt8} (h : (0x80 <= a.toNat /\ a.toNat < 0xc2) ∨ 0xf5 <= a.toNat) : CallA prog G 84 [bl (a :: r)] T fun v T' es => v = .tu [.p (.int .i32 65533), .p (.int .i64 1)] /\ T' = T /\ es = [] := by
 have hf : firV a = 0xf1 := by unfold firV; (repeat' split) <;> first | rfl | omega
 have hx := a.toNat_lt
 have hget := fir_get a
 rw [hf] at hget
 have h1 : ((((a :: r).length : Nat) : Int) < 1) = False := eq_false (by simp; omega)
 have h0 : (0 < (((a :: r).length : Nat) : Int)) = True := eq_true (by simp)
 have hg : ((a :: r).map by8)[0]? = some (by8 a) := rfl
 have hl0 : 0 < (a :: r).length := by simp
 refine CallA.eV 13 func84 ntmps84 results84 ?_
 simp -dsimp +decide only [vr, ty, en, ↓reduceIte, Nat.reduceSub, Nat.reduceAdd, Nat.reduceMul, Nat.reduceLT, Int.reduceAdd, Int.reduceSub, Int.reduceToNat, ci]
 simp -dsimp +decide (disch := omega) only [vr, ty, en, ↓reduceIte, Nat.reduceSub, Nat.reduceAdd, Nat.reduceMul, Nat.reduceLT, Int.reduceAdd, Int.reduceSub, Int.reduceToNat, ci, vi, getO_i, vt, vbl, h1, h0, hg, hl0, Gfir, hget, bb2, vres, vone, Int.toNat_natCast]
 refine ⟨by omega, Vw.done ⟨?_, rfl, rfl⟩⟩
 show AV.tu [AV.p (.int .i32 (badF (a.toNat : Int))), AV.p (.int .i64 1)] = _
 rw [badF_eq]
end Go.Proofs.YtglpcedoongagaaGreatDoor
namespace Go.Proofs.YtglpcedoongagaaGreatDoor
open Go.E Go.Proofs.YtglpcedoongagaaGreatDoor.Tryz Go.Proofs.Tryz Go.J
theorem decR_bad {a : UInt8} {r : B} (h : dec (a :: r) = (0, 0)) : decR (a :: r) = (65533, 1) := by
 show (if (dec (a :: r)).2 = 0 then _ else dec (a :: r)) = _
 rw [h]; rfl
theorem decR_ok {a : UInt8} {r : B} (h : (dec (a :: r)).2 ≠ 0) : decR (a :: r) = dec (a :: r) := if_neg h
theorem and31 (a : UInt8) : (a &&& UInt8.ofInt 31).toNat = a.toNat % 32 := by
 have h : ∀ i : Fin 256, (u8 i.val &&& UInt8.ofInt 31).toNat = (u8 i.val).toNat % 32 := by decide +kernel
 have := h ⟨a.toNat, a.toNat_lt⟩
 rwa [u8_eq rfl] at this
theorem and63 (a : UInt8) : (a &&& UInt8.ofInt 63).toNat = a.toNat % 64 := by
 have h : ∀ i : Fin 256, (u8 i.val &&& UInt8.ofInt 63).toNat = (u8 i.val).toNat % 64 := by decide +kernel
 have := h ⟨a.toNat, a.toNat_lt⟩
 rwa [u8_eq rfl] at this
theorem or6 {n m : Nat} (hn : n < 32) (hm : m < 64) : IntKind.i32.wrap ((BitVec.ofInt IntKind.i32.bits (IntKind.i32.wrap (IntKind.i32.wrap (n : Int) * 2 ^ min 6 IntKind.i32.bits)) ||| BitVec.ofInt IntKind.i32.bits (IntKind.i32.wrap (m : Int))).toNat : Nat) = ((64 * n + m : Nat) : Int) := by
 have h : ∀ (i : Fin 32) (j : Fin 64), IntKind.i32.wrap ((BitVec.ofInt IntKind.i32.bits (IntKind.i32.wrap (IntKind.i32.wrap ((i.val : Nat) : Int) * 2 ^ min 6 IntKind.i32.bits)) ||| BitVec.ofInt IntKind.i32.bits (IntKind.i32.wrap ((j.val : Nat) : Int))).toNat : Nat) = ((64 * i.val + j.val : Nat) : Int) := by decide +kernel
 exact h ⟨n, hn⟩ ⟨m, hm⟩
theorem slow_two {T : Tbl} {a : UInt8} {r : List UInt8} (h : 0xc2 <= a.toNat) (h2 : a.toNat < 0xe0) : CallA prog G 84 [bl (a :: r)] T fun v T' es => v = .tu [.p (.int .i32 ((decR (a :: r)).1 : Nat)), .p (.int .i64 ((decR (a :: r)).2 : Nat))] /\ T' = T /\ es = [] := by
 refine CallA.wfs fun wf => ?_
 have wt := wf.t
 have hf : firV a = 2 := by unfold firV; (repeat' split) <;> first | rfl | omega
 have hx := a.toNat_lt
 have hget := fir_get a
 rw [hf] at hget
 have h1 : ((((a :: r).length : Nat) : Int) < 1) = False := eq_false (by simp; omega)
 have h0 : (0 < (((a :: r).length : Nat) : Int)) = True := eq_true (by simp)
 have hg : ((a :: r).map by8)[0]? = some (by8 a) := rfl
 have hl0 : 0 < (a :: r).length := by simp
 have hac : accL.map by8 = [by8 128, by8 191] ++ (accL.drop 2).map by8 := rfl
 refine CallA.eV 13 func84 ntmps84 results84 ?_
 simp -dsimp +decide only [vr, ty, en, ↓reduceIte, Nat.reduceSub, Nat.reduceAdd, Nat.reduceMul, Nat.reduceLT, Int.reduceAdd, Int.reduceSub, Int.reduceToNat, ci]
 simp -dsimp +decide (disch := omega) only [vr, ty, en, ↓reduceIte, Nat.reduceSub, Nat.reduceAdd, Nat.reduceMul, Nat.reduceLT, Int.reduceAdd, Int.reduceSub, Int.reduceToNat, ci, vi, getO_i, vt, vbl, h1, h0, hg, hl0, Gfir, Gacc, hget, hac, bb2, vres, vone, Int.toNat_natCast]
 refine ⟨by omega, ?_⟩
 have sz : IntKind.i64.wrap ((2 &&& UInt8.ofInt 7 : UInt8).toNat : Nat) = 2 := by decide
 have hs : (u8_shr 2 4).toNat * 2 = 0 := by decide
 have hcs : wrA [oB, oB] 0 (List.take 2 (List.drop 0 (AV.p (Value.int IntKind.u8 (UInt8.toNat 128 : Nat)) :: AV.p (Value.int IntKind.u8 (UInt8.toNat 191 : Nat)) :: List.map by8 (List.drop 2 accL)))) = [AV.p (.int .u8 (UInt8.toNat 128 : Nat)), AV.p (.int .u8 (UInt8.toNat 191 : Nat))] := rfl
 rw [hs, hcs, sz]
 refine CondP.dec (fun hc => ?_) (fun hc => ?_)
 . have hr : r = [] := by cases r with | nil => rfl | cons => simp at hc; omega
   subst hr
   rw [decR_bad (r := []) (by rw [dec_two [] h h2])]
   simp -dsimp +decide (disch := omega) only [vr, ty, en, ↓reduceIte, Nat.reduceSub, Nat.reduceAdd, Nat.reduceMul, Nat.reduceLT, Int.reduceAdd, Int.reduceSub, Int.reduceToNat, ci, vi, getO_i, vt, vres, vone]
   exact Vw.cut ⟨by simp only [AV.wo, AV.woL]; rfl, rfl, rfl⟩
 obtain ⟨x, r, rfl⟩ : ∃ x r', r = x :: r' := by cases r with | nil => simp at hc | cons x r => exact ⟨x, r, rfl⟩
 have hg1 : ((a :: x :: r).map by8)[1]? = some (by8 x) := rfl
 have h11 : (1 < (((a :: x :: r).length : Nat) : Int)) = True := eq_true (by simp; omega)
 have hl1 : 1 < (a :: x :: r).length := by simp
 have hl2 : ((2 : Int) <= 2) = True := eq_true (by decide)
 by_cases c1 : x.toNat < 128
 . have c1' : ((x.toNat : Int) < ((UInt8.toNat 128 : Nat) : Int)) = True := eq_true (by show (x.toNat : Int) < 128; omega)
   rw [decR_bad (by rw [dec_two _ h h2]; exact if_neg (by omega))]
   simp -dsimp +decide (disch := omega) only [vr, ty, en, ↓reduceIte, Nat.reduceSub, Nat.reduceAdd, Nat.reduceMul, Nat.reduceLT, Int.reduceAdd, Int.reduceSub, Int.reduceToNat, ci, vi, getO_i, vt, vbl, h11, hg1, hl1, bb2, vres, vone, c1']
   exact Vw.cut ⟨by simp only [AV.wo, AV.woL]; rfl, rfl, rfl⟩
 . have c1' : ((x.toNat : Int) < ((UInt8.toNat 128 : Nat) : Int)) = False := eq_false (by show ¬ (x.toNat : Int) < 128; omega)
   simp -dsimp +decide (disch := omega) only [vr, ty, en, ↓reduceIte, Nat.reduceSub, Nat.reduceAdd, Nat.reduceMul, Nat.reduceLT, Int.reduceAdd, Int.reduceSub, Int.reduceToNat, ci, vi, getO_i, vt, vbl, h11, hg1, hl1, bb2, vres, vone, c1']
   refine CondP.dec (fun hc => ?_) (fun hc => ?_)
   . have hc' : (191 : Int) < (x.toNat : Int) := hc
     rw [decR_bad (by rw [dec_two _ h h2]; exact if_neg (by omega))]
     simp -dsimp +decide (disch := omega) only [vr, ty, en, ↓reduceIte, Nat.reduceSub, Nat.reduceAdd, Nat.reduceMul, Nat.reduceLT, Int.reduceAdd, Int.reduceSub, Int.reduceToNat, ci, vi, getO_i, vt, vres, vone]
     exact Vw.cut ⟨by simp only [AV.wo, AV.woL]; rfl, rfl, rfl⟩
   . have hc' : ¬ (191 : Int) < (x.toNat : Int) := hc
     have hd : dec (a :: x :: r) = (64 * (a.toNat - 0xc0) + (x.toNat - 0x80), 2) := by rw [dec_two _ h h2]; exact if_pos (by omega)
     rw [decR_ok (by rw [hd]; exact Nat.succ_ne_zero 1), hd]
     simp -dsimp +decide (disch := omega) only [vr, ty, en, ↓reduceIte, Nat.reduceSub, Nat.reduceAdd, Nat.reduceMul, Nat.reduceLT, Int.reduceAdd, Int.reduceSub, Int.reduceToNat, ci, vi, getO_i, vt, vres, vone]
     rw [and31, and63, or6 (Nat.mod_lt _ (by decide)) (Nat.mod_lt _ (by decide)), show 64 * (a.toNat % 32) + x.toNat % 64 = 64 * (a.toNat - 0xc0) + (x.toNat - 0x80) by omega]
     exact Vw.cut ⟨by simp only [AV.wo, AV.woL]; rfl, rfl, rfl⟩
end Go.Proofs.YtglpcedoongagaaGreatDoor
namespace Go.Proofs.YtglpcedoongagaaGreatDoor
open Go.E Go.Proofs.YtglpcedoongagaaGreatDoor.Tryz Go.Proofs.Tryz Go.J
theorem shlS {n s : Nat} (hs : s < 32) (h : n * 2 ^ s < 2147483648) : IntKind.i32.wrap (IntKind.i32.wrap (n : Int) * 2 ^ min s IntKind.i32.bits) = ((n * 2 ^ s : Nat) : Int) := by
 have h1 : n <= n * 2 ^ s := Nat.le_mul_of_pos_right n (Nat.two_pow_pos s)
 have e : min s IntKind.i32.bits = s := Nat.min_eq_left (Nat.le_of_lt hs)
 rw [i32_fit (n := n) (by omega), e, show (n : Int) * 2 ^ s = ((n * 2 ^ s : Nat) : Int) by rw [Int.natCast_mul, Int.natCast_pow]; rfl, i32_fit h]
theorem orW {a b : Nat} (ha : a < 2147483648) (hb : b < 2147483648) : IntKind.i32.wrap ((BitVec.ofInt IntKind.i32.bits (a : Int) ||| BitVec.ofInt IntKind.i32.bits (b : Int)).toNat : Nat) = ((a ||| b : Nat) : Int) := by
 show IntKind.i32.wrap ((BitVec.ofInt 32 (a : Int) ||| BitVec.ofInt 32 (b : Int)).toNat : Nat) = _
 rw [BitVec.ofInt_natCast, BitVec.ofInt_natCast, BitVec.toNat_or, BitVec.toNat_ofNat, BitVec.toNat_ofNat, Nat.mod_eq_of_lt (show a < 2 ^ 32 by omega), Nat.mod_eq_of_lt (show b < 2 ^ 32 by omega), i32_fit (Nat.or_lt_two_pow (n := 31) ha hb)]
theorem orAdd {a b s : Nat} (h : b < 2 ^ s) : a * 2 ^ s ||| b = a * 2 ^ s + b := by rw [<- Nat.shiftLeft_eq, Nat.shiftLeft_add_eq_or_of_lt h]
theorem and15 (a : UInt8) : (a &&& UInt8.ofInt 15).toNat = a.toNat % 16 := by
 have h : ∀ i : Fin 256, (u8 i.val &&& UInt8.ofInt 15).toNat = (u8 i.val).toNat % 16 := by decide +kernel
 have := h ⟨a.toNat, a.toNat_lt⟩
 rwa [u8_eq rfl] at this
theorem and7 (a : UInt8) : (a &&& UInt8.ofInt 7).toNat = a.toNat % 8 := by
 have h : ∀ i : Fin 256, (u8 i.val &&& UInt8.ofInt 7).toNat = (u8 i.val).toNat % 8 := by decide +kernel
 have := h ⟨a.toNat, a.toNat_lt⟩
 rwa [u8_eq rfl] at this
theorem or3 {n m k : Nat} (hn : n < 16) (hm : m < 64) (hk : k < 64) : IntKind.i32.wrap ((BitVec.ofInt IntKind.i32.bits (IntKind.i32.wrap ((BitVec.ofInt IntKind.i32.bits (IntKind.i32.wrap (IntKind.i32.wrap (n : Int) * 2 ^ min 12 IntKind.i32.bits)) ||| BitVec.ofInt IntKind.i32.bits (IntKind.i32.wrap (IntKind.i32.wrap (m : Int) * 2 ^ min 6 IntKind.i32.bits))).toNat : Nat)) |||
 BitVec.ofInt IntKind.i32.bits (IntKind.i32.wrap (k : Int))).toNat : Nat) = ((4096 * n + 64 * m + k : Nat) : Int) := by
 rw [shlS (n := n) (s := 12) (by decide) (by omega), shlS (n := m) (s := 6) (by decide) (by omega), orW (by omega) (by omega), orAdd (by omega), i32_fit (n := k) (by omega), orW (by omega) (by omega),
  show n * 2 ^ 12 + m * 2 ^ 6 = (64 * n + m) * 2 ^ 6 by omega, orAdd (by omega)]
 congr 1; omega
theorem or4 {n m k j : Nat} (hn : n < 8) (hm : m < 64) (hk : k < 64) (hj : j < 64) : IntKind.i32.wrap ((BitVec.ofInt IntKind.i32.bits (IntKind.i32.wrap ((BitVec.ofInt IntKind.i32.bits (IntKind.i32.wrap ((BitVec.ofInt IntKind.i32.bits (IntKind.i32.wrap (IntKind.i32.wrap (n : Int) * 2 ^ min 18 IntKind.i32.bits)) |||
 BitVec.ofInt IntKind.i32.bits (IntKind.i32.wrap (IntKind.i32.wrap (m : Int) * 2 ^ min 12 IntKind.i32.bits))).toNat : Nat)) ||| BitVec.ofInt IntKind.i32.bits (IntKind.i32.wrap (IntKind.i32.wrap (k : Int) * 2 ^ min 6 IntKind.i32.bits))).toNat : Nat)) |||
 BitVec.ofInt IntKind.i32.bits (IntKind.i32.wrap (j : Int))).toNat : Nat) = ((262144 * n + 4096 * m + 64 * k + j : Nat) : Int) := by
 rw [shlS (n := n) (s := 18) (by decide) (by omega), shlS (n := m) (s := 12) (by decide) (by omega), shlS (n := k) (s := 6) (by decide) (by omega), orW (by omega) (by omega), orAdd (by omega), orW (by omega) (by omega), show n * 2 ^ 18 + m * 2 ^ 12 = (64 * n + m) * 2 ^ 12 by omega, orAdd (by omega), i32_fit (n := j) (by omega), orW (by omega) (by omega),
  show (64 * n + m) * 2 ^ 12 + k * 2 ^ 6 = (64 * (64 * n + m) + k) * 2 ^ 6 by omega, orAdd (by omega)]
 congr 1; omega
theorem slow_three {T : Tbl} {a f lo hi : UInt8} {r : List UInt8} (h : 0xe0 <= a.toNat) (h2 : a.toNat < 0xf0) (hf : firV a = f) (hf1 : ¬ (240 : Int) <= (f.toNat : Int)) (hsz : IntKind.i64.wrap ((f &&& UInt8.ofInt 7 : UInt8).toNat : Nat) = 3) (hs : (u8_shr f 4).toNat < 15)
 (hac : List.take 2 (List.drop ((u8_shr f 4).toNat * 2) accL) = [lo, hi]) (hlo : lo.toNat = if a.toNat = 0xe0 then 0xa0 else 0x80) (hhi : hi.toNat = if a.toNat = 0xed then 0x9f else 0xbf) :
 CallA prog G 84 [bl (a :: r)] T fun v T' es => v = .tu [.p (.int .i32 ((decR (a :: r)).1 : Nat)), .p (.int .i64 ((decR (a :: r)).2 : Nat))] /\ T' = T /\ es = [] := by
 refine CallA.wfs fun wf => ?_
 have wt := wf.t
 have hx := a.toNat_lt
 have hget := fir_get a
 rw [hf] at hget
 have h1 : ((((a :: r).length : Nat) : Int) < 1) = False := eq_false (by simp; omega)
 have h0 : (0 < (((a :: r).length : Nat) : Int)) = True := eq_true (by simp)
 have hg : ((a :: r).map by8)[0]? = some (by8 a) := rfl
 have hl0 : 0 < (a :: r).length := by simp
 have hf2 := eq_false hf1
 have hal : accL.length = 32 := rfl
 have hd := dec_three r h h2
 refine CallA.eV 13 func84 ntmps84 results84 ?_
 simp -dsimp +decide only [vr, ty, en, ↓reduceIte, Nat.reduceSub, Nat.reduceAdd, Nat.reduceMul, Nat.reduceLT, Int.reduceAdd, Int.reduceSub, Int.reduceToNat, ci]
 simp -dsimp +decide (disch := omega) only [vr, ty, en, ↓reduceIte, Nat.reduceSub, Nat.reduceAdd, Nat.reduceMul, Nat.reduceLT, Int.reduceAdd, Int.reduceSub, Int.reduceToNat, ci, vi, getO_i, vt, vbl, h1, h0, hg, hl0, Gfir, Gacc, hget, hf2, hac, hal, hsz, bb2, vres, vone, Int.toNat_natCast]
 refine ⟨by omega, by omega, by omega, by simp, ?_⟩
 rw [show wrA [oB, oB] 0 (List.map by8 [lo, hi]) = [AV.p (.int .u8 (lo.toNat : Nat)), AV.p (.int .u8 (hi.toNat : Nat))] from rfl]
 refine CondP.dec (fun hc => ?_) (fun hc => ?_)
 . rw [decR_bad (by
    rw [hd]
    match r, hc with
    | [], _ => rfl
    | [_], _ => rfl
    | _ :: _ :: _, hc => simp at hc; omega)]
   simp -dsimp +decide (disch := omega) only [vr, ty, en, ↓reduceIte, Nat.reduceSub, Nat.reduceAdd, Nat.reduceMul, Nat.reduceLT, Int.reduceAdd, Int.reduceSub, Int.reduceToNat, ci, vi, getO_i, vt, vres, vone]
   exact Vw.cut ⟨by simp only [AV.wo, AV.woL]; rfl, rfl, rfl⟩
 obtain ⟨x, y, r, rfl⟩ : ∃ x y r', r = x :: y :: r' := by
  match r, hc with
  | [], hc => simp at hc
  | [_], hc => simp at hc
  | x :: y :: r, _ => exact ⟨x, y, r, rfl⟩
 have hg1 : ((a :: x :: y :: r).map by8)[1]? = some (by8 x) := rfl
 have hg2 : ((a :: x :: y :: r).map by8)[2]? = some (by8 y) := rfl
 have h11 : (1 < (((a :: x :: y :: r).length : Nat) : Int)) = True := eq_true (by simp; omega)
 have h12 : (2 < (((a :: x :: y :: r).length : Nat) : Int)) = True := eq_true (by simp; omega)
 have hl1 : 1 < (a :: x :: y :: r).length := by simp
 have hl2 : 2 < (a :: x :: y :: r).length := by simp
 have hl3 : ((3 : Int) <= 2) = False := eq_false (by decide)
 have hl4 : ((3 : Int) <= 3) = True := eq_true (by decide)
 dsimp only at hd
 have bad : ¬ (lo.toNat <= x.toNat /\ x.toNat <= hi.toNat /\ 0x80 <= y.toNat /\ y.toNat < 0xc0) -> decR (a :: x :: y :: r) = (65533, 1) := fun hn => decR_bad (by
  rw [hd, if_neg]; rw [<- hlo, <- hhi]; exact hn)
 by_cases c1 : x.toNat < lo.toNat
 . have c1' : ((x.toNat : Int) < (lo.toNat : Int)) = True := eq_true (by omega)
   rw [bad (by omega)]
   simp -dsimp +decide (disch := omega) only [vr, ty, en, ↓reduceIte, Nat.reduceSub, Nat.reduceAdd, Nat.reduceMul, Nat.reduceLT, Int.reduceAdd, Int.reduceSub, Int.reduceToNat, ci, vi, getO_i, vt, vbl, h11, hg1, hl1, bb2, vres, vone, c1']
   exact Vw.cut ⟨by simp only [AV.wo, AV.woL]; rfl, rfl, rfl⟩
 have c1' : ((x.toNat : Int) < (lo.toNat : Int)) = False := eq_false (by omega)
 simp -dsimp +decide (disch := omega) only [vr, ty, en, ↓reduceIte, Nat.reduceSub, Nat.reduceAdd, Nat.reduceMul, Nat.reduceLT, Int.reduceAdd, Int.reduceSub, Int.reduceToNat, ci, vi, getO_i, vt, vbl, h11, hg1, hl1, bb2, vres, vone, c1']
 refine CondP.dec (fun hc => ?_) (fun hc => ?_)
 . rw [bad (by omega)]
   simp -dsimp +decide (disch := omega) only [vr, ty, en, ↓reduceIte, Nat.reduceSub, Nat.reduceAdd, Nat.reduceMul, Nat.reduceLT, Int.reduceAdd, Int.reduceSub, Int.reduceToNat, ci, vi, getO_i, vt, vres, vone]
   exact Vw.cut ⟨by simp only [AV.wo, AV.woL]; rfl, rfl, rfl⟩
 simp -dsimp +decide (disch := omega) only [vr, ty, en, ↓reduceIte, Nat.reduceSub, Nat.reduceAdd, Nat.reduceMul, Nat.reduceLT, Int.reduceAdd, Int.reduceSub, Int.reduceToNat, ci, vi, getO_i, vt, vbl, hl3, h12, hg2, hl2, bb2, vres, vone]
 by_cases c2 : y.toNat < 128
 . have c2' : ((y.toNat : Int) < 128) = True := eq_true (by omega)
   rw [bad (by omega)]
   simp -dsimp +decide (disch := omega) only [vr, ty, en, ↓reduceIte, Nat.reduceSub, Nat.reduceAdd, Nat.reduceMul, Nat.reduceLT, Int.reduceAdd, Int.reduceSub, Int.reduceToNat, ci, vi, getO_i, vt, vbl, bb2, vres, vone, c2']
   exact Vw.cut ⟨by simp only [AV.wo, AV.woL]; rfl, rfl, rfl⟩
 have c2' : ((y.toNat : Int) < 128) = False := eq_false (by omega)
 simp -dsimp +decide (disch := omega) only [vr, ty, en, ↓reduceIte, Nat.reduceSub, Nat.reduceAdd, Nat.reduceMul, Nat.reduceLT, Int.reduceAdd, Int.reduceSub, Int.reduceToNat, ci, vi, getO_i, vt, vbl, bb2, vres, vone, c2']
 refine CondP.dec (fun hc => ?_) (fun hc => ?_)
 . rw [bad (by omega)]
   simp -dsimp +decide (disch := omega) only [vr, ty, en, ↓reduceIte, Nat.reduceSub, Nat.reduceAdd, Nat.reduceMul, Nat.reduceLT, Int.reduceAdd, Int.reduceSub, Int.reduceToNat, ci, vi, getO_i, vt, vres, vone]
   exact Vw.cut ⟨by simp only [AV.wo, AV.woL]; rfl, rfl, rfl⟩
 rw [if_pos (by rw [<- hlo, <- hhi]; omega)] at hd
 rw [decR_ok (by rw [hd]; exact Nat.succ_ne_zero 2), hd]
 have hb : 0x80 <= x.toNat /\ x.toNat <= 0xbf := by
  constructor
  . split at hlo <;> omega
  . split at hhi <;> omega
 simp -dsimp +decide (disch := omega) only [vr, ty, en, ↓reduceIte, Nat.reduceSub, Nat.reduceAdd, Nat.reduceMul, Nat.reduceLT, Int.reduceAdd, Int.reduceSub, Int.reduceToNat, ci, vi, getO_i, vt, vbl, hl4, bb2, vres, vone]
 rw [and15, and63, and63, or3 (Nat.mod_lt _ (by decide)) (Nat.mod_lt _ (by decide)) (Nat.mod_lt _ (by decide)), show 4096 * (a.toNat % 16) + 64 * (x.toNat % 64) + y.toNat % 64 = 4096 * (a.toNat - 0xe0) + 64 * (x.toNat - 0x80) + (y.toNat - 0x80) by omega]
 exact Vw.cut ⟨by simp only [AV.wo, AV.woL]; rfl, rfl, rfl⟩
end Go.Proofs.YtglpcedoongagaaGreatDoor
namespace Go.Proofs.YtglpcedoongagaaGreatDoor
open Go.E Go.Proofs.YtglpcedoongagaaGreatDoor.Tryz Go.Proofs.Tryz Go.J
theorem slow_four {T : Tbl} {a f lo hi : UInt8} {r : List UInt8} (h : 0xf0 <= a.toNat) (h2 : a.toNat < 0xf5) (hf : firV a = f) (hf1 : ¬ (240 : Int) <= (f.toNat : Int)) (hsz : IntKind.i64.wrap ((f &&& UInt8.ofInt 7 : UInt8).toNat : Nat) = 4) (hs : (u8_shr f 4).toNat < 15)
 (hac : List.take 2 (List.drop ((u8_shr f 4).toNat * 2) accL) = [lo, hi]) (hlo : lo.toNat = if a.toNat = 0xf0 then 0x90 else 0x80) (hhi : hi.toNat = if a.toNat = 0xf4 then 0x8f else 0xbf) :
 CallA prog G 84 [bl (a :: r)] T fun v T' es => v = .tu [.p (.int .i32 ((decR (a :: r)).1 : Nat)), .p (.int .i64 ((decR (a :: r)).2 : Nat))] /\ T' = T /\ es = [] := by
 refine CallA.wfs fun wf => ?_
 have wt := wf.t
 have hx := a.toNat_lt
 have hget := fir_get a
 rw [hf] at hget
 have h1 : ((((a :: r).length : Nat) : Int) < 1) = False := eq_false (by simp; omega)
 have h0 : (0 < (((a :: r).length : Nat) : Int)) = True := eq_true (by simp)
 have hg : ((a :: r).map by8)[0]? = some (by8 a) := rfl
 have hl0 : 0 < (a :: r).length := by simp
 have hf2 := eq_false hf1
 have hal : accL.length = 32 := rfl
 have hd := dec_four r h h2
 refine CallA.eV 13 func84 ntmps84 results84 ?_
 simp -dsimp +decide only [vsk, vr, ty, en, ↓reduceIte, Nat.reduceSub, Nat.reduceAdd, Nat.reduceMul, Nat.reduceLT, Int.reduceAdd, Int.reduceSub, Int.reduceToNat, ci]
 simp -dsimp +decide (disch := omega) only [vsk, vr, ty, en, ↓reduceIte, Nat.reduceSub, Nat.reduceAdd, Nat.reduceMul, Nat.reduceLT, Int.reduceAdd, Int.reduceSub, Int.reduceToNat, ci, vi, getO_i, vt, vbl, h1, h0, hg, hl0, Gfir, Gacc, hget, hf2, hac, hal, hsz, bb2, vres, vone, Int.toNat_natCast]
 refine ⟨by omega, by omega, by omega, by simp, ?_⟩
 rw [show wrA [oB, oB] 0 (List.map by8 [lo, hi]) = [AV.p (.int .u8 (lo.toNat : Nat)), AV.p (.int .u8 (hi.toNat : Nat))] from rfl]
 refine CondP.dec (fun hc => ?_) (fun hc => ?_)
 . rw [decR_bad (by
    rw [hd]
    match r, hc with
    | [], _ => rfl
    | [_], _ => rfl
    | [_, _], _ => rfl
    | _ :: _ :: _ :: _, hc => simp at hc; omega)]
   simp -dsimp +decide (disch := omega) only [vsk, vr, ty, en, ↓reduceIte, Nat.reduceSub, Nat.reduceAdd, Nat.reduceMul, Nat.reduceLT, Int.reduceAdd, Int.reduceSub, Int.reduceToNat, ci, vi, getO_i, vt, vres, vone]
   exact Vw.cut ⟨by simp only [AV.wo, AV.woL]; rfl, rfl, rfl⟩
 obtain ⟨x, y, z, r, rfl⟩ : ∃ x y z r', r = x :: y :: z :: r' := by
  match r, hc with
  | [], hc => simp at hc
  | [_], hc => simp at hc
  | [_, _], hc => simp at hc
  | x :: y :: z :: r, _ => exact ⟨x, y, z, r, rfl⟩
 have hg1 : ((a :: x :: y :: z :: r).map by8)[1]? = some (by8 x) := rfl
 have hg2 : ((a :: x :: y :: z :: r).map by8)[2]? = some (by8 y) := rfl
 have h11 : (1 < (((a :: x :: y :: z :: r).length : Nat) : Int)) = True := eq_true (by simp; omega)
 have h12 : (2 < (((a :: x :: y :: z :: r).length : Nat) : Int)) = True := eq_true (by simp; omega)
 have hl1 : 1 < (a :: x :: y :: z :: r).length := by simp
 have hl2 : 2 < (a :: x :: y :: z :: r).length := by simp
 have hl3 : ((4 : Int) <= 2) = False := eq_false (by decide)
 have hl4 : ((4 : Int) <= 3) = False := eq_false (by decide)
 have hg3 : ((a :: x :: y :: z :: r).map by8)[3]? = some (by8 z) := rfl
 have h13 : (3 < (((a :: x :: y :: z :: r).length : Nat) : Int)) = True := eq_true (by simp; omega)
 have hl5 : 3 < (a :: x :: y :: z :: r).length := by simp
 dsimp only at hd
 have bad : ¬ (lo.toNat <= x.toNat /\ x.toNat <= hi.toNat /\ (0x80 <= y.toNat /\ y.toNat < 0xc0) /\ 0x80 <= z.toNat /\ z.toNat < 0xc0) -> decR (a :: x :: y :: z :: r) = (65533, 1) := fun hn => decR_bad (by
  rw [hd, if_neg]; rw [<- hlo, <- hhi]; exact hn)
 by_cases c1 : x.toNat < lo.toNat
 . have c1' : ((x.toNat : Int) < (lo.toNat : Int)) = True := eq_true (by omega)
   rw [bad (by omega)]
   simp -dsimp +decide (disch := omega) only [vsk, vr, ty, en, ↓reduceIte, Nat.reduceSub, Nat.reduceAdd, Nat.reduceMul, Nat.reduceLT, Int.reduceAdd, Int.reduceSub, Int.reduceToNat, ci, vi, getO_i, vt, vbl, h11, hg1, hl1, bb2, vres, vone, c1']
   exact Vw.cut ⟨by simp only [AV.wo, AV.woL]; rfl, rfl, rfl⟩
 have c1' : ((x.toNat : Int) < (lo.toNat : Int)) = False := eq_false (by omega)
 simp -dsimp +decide (disch := omega) only [vsk, vr, ty, en, ↓reduceIte, Nat.reduceSub, Nat.reduceAdd, Nat.reduceMul, Nat.reduceLT, Int.reduceAdd, Int.reduceSub, Int.reduceToNat, ci, vi, getO_i, vt, vbl, h11, hg1, hl1, bb2, vres, vone, c1']
 refine CondP.dec (fun hc => ?_) (fun hc => ?_)
 . rw [bad (by omega)]
   simp -dsimp +decide (disch := omega) only [vsk, vr, ty, en, ↓reduceIte, Nat.reduceSub, Nat.reduceAdd, Nat.reduceMul, Nat.reduceLT, Int.reduceAdd, Int.reduceSub, Int.reduceToNat, ci, vi, getO_i, vt, vres, vone]
   exact Vw.cut ⟨by simp only [AV.wo, AV.woL]; rfl, rfl, rfl⟩
 simp -dsimp +decide (disch := omega) only [vsk, vr, ty, en, ↓reduceIte, Nat.reduceSub, Nat.reduceAdd, Nat.reduceMul, Nat.reduceLT, Int.reduceAdd, Int.reduceSub, Int.reduceToNat, ci, vi, getO_i, vt, vbl, hl3, h12, hg2, hl2, bb2, vres, vone]
 by_cases c2 : y.toNat < 128
 . have c2' : ((y.toNat : Int) < 128) = True := eq_true (by omega)
   rw [bad (by omega)]
   simp -dsimp +decide (disch := omega) only [vsk, vr, ty, en, ↓reduceIte, Nat.reduceSub, Nat.reduceAdd, Nat.reduceMul, Nat.reduceLT, Int.reduceAdd, Int.reduceSub, Int.reduceToNat, ci, vi, getO_i, vt, vbl, bb2, vres, vone, c2']
   exact Vw.cut ⟨by simp only [AV.wo, AV.woL]; rfl, rfl, rfl⟩
 have c2' : ((y.toNat : Int) < 128) = False := eq_false (by omega)
 simp -dsimp +decide (disch := omega) only [vsk, vr, ty, en, ↓reduceIte, Nat.reduceSub, Nat.reduceAdd, Nat.reduceMul, Nat.reduceLT, Int.reduceAdd, Int.reduceSub, Int.reduceToNat, ci, vi, getO_i, vt, vbl, bb2, vres, vone, c2']
 refine CondP.dec (fun hc => ?_) (fun hc => ?_)
 . rw [bad (by omega)]
   simp -dsimp +decide (disch := omega) only [vsk, vr, ty, en, ↓reduceIte, Nat.reduceSub, Nat.reduceAdd, Nat.reduceMul, Nat.reduceLT, Int.reduceAdd, Int.reduceSub, Int.reduceToNat, ci, vi, getO_i, vt, vres, vone]
   exact Vw.cut ⟨by simp only [AV.wo, AV.woL]; rfl, rfl, rfl⟩
 simp -dsimp +decide (disch := omega) only [vsk, vr, ty, en, ↓reduceIte, Nat.reduceSub, Nat.reduceAdd, Nat.reduceMul, Nat.reduceLT, Int.reduceAdd, Int.reduceSub, Int.reduceToNat, ci, vi, getO_i, vt, vbl, hl4, h13, hg3, hl5, bb2, vres, vone]
 by_cases c3 : z.toNat < 128
 . have c3' : ((z.toNat : Int) < 128) = True := eq_true (by omega)
   rw [bad (by omega)]
   simp -dsimp +decide (disch := omega) only [vsk, vr, ty, en, ↓reduceIte, Nat.reduceSub, Nat.reduceAdd, Nat.reduceMul, Nat.reduceLT, Int.reduceAdd, Int.reduceSub, Int.reduceToNat, ci, vi, getO_i, vt, vbl, bb2, vres, vone, c3']
   exact Vw.cut ⟨by simp only [AV.wo, AV.woL]; rfl, rfl, rfl⟩
 have c3' : ((z.toNat : Int) < 128) = False := eq_false (by omega)
 simp -dsimp +decide (disch := omega) only [vsk, vr, ty, en, ↓reduceIte, Nat.reduceSub, Nat.reduceAdd, Nat.reduceMul, Nat.reduceLT, Int.reduceAdd, Int.reduceSub, Int.reduceToNat, ci, vi, getO_i, vt, vbl, bb2, vres, vone, c3']
 refine CondP.dec (fun hc => ?_) (fun hc => ?_)
 . rw [bad (by omega)]
   simp -dsimp +decide (disch := omega) only [vsk, vr, ty, en, ↓reduceIte, Nat.reduceSub, Nat.reduceAdd, Nat.reduceMul, Nat.reduceLT, Int.reduceAdd, Int.reduceSub, Int.reduceToNat, ci, vi, getO_i, vt, vres, vone]
   exact Vw.cut ⟨by simp only [AV.wo, AV.woL]; rfl, rfl, rfl⟩
 rw [if_pos (by rw [<- hlo, <- hhi]; omega)] at hd
 rw [decR_ok (by rw [hd]; exact Nat.succ_ne_zero 3), hd]
 have hb : 0x80 <= x.toNat /\ x.toNat <= 0xbf := by
  constructor
  . split at hlo <;> omega
  . split at hhi <;> omega
 simp -dsimp +decide (disch := omega) only [vsk, vr, ty, en, ↓reduceIte, Nat.reduceSub, Nat.reduceAdd, Nat.reduceMul, Nat.reduceLT, Int.reduceAdd, Int.reduceSub, Int.reduceToNat, ci, vi, getO_i, vt, vbl, bb2, vres, vone]
 rw [and7, and63, and63, and63, or4 (Nat.mod_lt _ (by decide)) (Nat.mod_lt _ (by decide)) (Nat.mod_lt _ (by decide)) (Nat.mod_lt _ (by decide)), show 262144 * (a.toNat % 8) + 4096 * (x.toNat % 64) + 64 * (y.toNat % 64) + z.toNat % 64 = 262144 * (a.toNat - 0xf0) + 4096 * (x.toNat - 0x80) + 64 * (y.toNat - 0x80) + (z.toNat - 0x80) by omega]
 exact Vw.cut ⟨by simp only [AV.wo, AV.woL]; rfl, rfl, rfl⟩
theorem firV_range (a : UInt8) (h : 0xe0 <= a.toNat) (h2 : a.toNat < 0xf5) : ∃ lo hi : UInt8, List.take 2 (List.drop ((u8_shr (firV a) 4).toNat * 2) accL) = [lo, hi] /\ (u8_shr (firV a) 4).toNat < 15 /\ (¬ (240 : Int) <= ((firV a).toNat : Int)) /\
 (a.toNat < 0xf0 -> IntKind.i64.wrap ((firV a &&& UInt8.ofInt 7 : UInt8).toNat : Nat) = 3 /\ (lo.toNat = if a.toNat = 0xe0 then 0xa0 else 0x80) /\ hi.toNat = if a.toNat = 0xed then 0x9f else 0xbf) /\
 (0xf0 <= a.toNat -> IntKind.i64.wrap ((firV a &&& UInt8.ofInt 7 : UInt8).toNat : Nat) = 4 /\ (lo.toNat = if a.toNat = 0xf0 then 0x90 else 0x80) /\ hi.toNat = if a.toNat = 0xf4 then 0x8f else 0xbf) := by
 suffices H : ∃ f lo hi : UInt8, firV a = f /\ List.take 2 (List.drop ((u8_shr f 4).toNat * 2) accL) = [lo, hi] /\ (u8_shr f 4).toNat < 15 /\ (¬ (240 : Int) <= (f.toNat : Int)) /\
  (a.toNat < 0xf0 -> IntKind.i64.wrap ((f &&& UInt8.ofInt 7 : UInt8).toNat : Nat) = 3 /\ (lo.toNat = if a.toNat = 0xe0 then 0xa0 else 0x80) /\ hi.toNat = if a.toNat = 0xed then 0x9f else 0xbf) /\
  (0xf0 <= a.toNat -> IntKind.i64.wrap ((f &&& UInt8.ofInt 7 : UInt8).toNat : Nat) = 4 /\ (lo.toNat = if a.toNat = 0xf0 then 0x90 else 0x80) /\ hi.toNat = if a.toNat = 0xf4 then 0x8f else 0xbf) by
  obtain ⟨f, lo, hi, e, h⟩ := H
  exact ⟨lo, hi, by rw [e]; exact h⟩
 rcases (show a.toNat = 0xe0 ∨ a.toNat = 0xed ∨ (a.toNat < 0xf0 /\ a.toNat ≠ 0xe0 /\ a.toNat ≠ 0xed) ∨ a.toNat = 0xf0 ∨ a.toNat = 0xf4 ∨ (0xf0 < a.toNat /\ a.toNat < 0xf4) by omega) with e | e | ⟨e, e1, e2⟩ | e | e | ⟨e, e1⟩
 . exact ⟨0x13, 160, 191, by unfold firV; (repeat' split) <;> first | rfl | omega, by decide, by decide, by decide, fun _ => ⟨by decide, by rw [if_pos e]; rfl, by rw [if_neg (by omega)]; rfl⟩, fun _ => by omega⟩
 . exact ⟨0x23, 128, 159, by unfold firV; (repeat' split) <;> first | rfl | omega, by decide, by decide, by decide, fun _ => ⟨by decide, by rw [if_neg (by omega)]; rfl, by rw [if_pos e]; rfl⟩, fun _ => by omega⟩
 . exact ⟨3, 128, 191, by unfold firV; (repeat' split) <;> first | rfl | omega, by decide, by decide, by decide, fun _ => ⟨by decide, by rw [if_neg e1]; rfl, by rw [if_neg e2]; rfl⟩, fun _ => by omega⟩
 . exact ⟨0x34, 144, 191, by unfold firV; (repeat' split) <;> first | rfl | omega, by decide, by decide, by decide, fun _ => by omega, fun _ => ⟨by decide, by rw [if_pos e]; rfl, by rw [if_neg (by omega)]; rfl⟩⟩
 . exact ⟨0x44, 128, 143, by unfold firV; (repeat' split) <;> first | rfl | omega, by decide, by decide, by decide, fun _ => by omega, fun _ => ⟨by decide, by rw [if_neg (by omega)]; rfl, by rw [if_pos e]; rfl⟩⟩
 . exact ⟨4, 128, 191, by unfold firV; (repeat' split) <;> first | rfl | omega, by decide, by decide, by decide, fun _ => by omega, fun _ => ⟨by decide, by rw [if_neg (by omega)]; rfl, by rw [if_neg (by omega)]; rfl⟩⟩
theorem slow_ok {T : Tbl} {l : List UInt8} (h : ∀ a r, l = a :: r -> 0x80 <= a.toNat) : CallA prog G 84 [bl l] T fun v T' es => v = .tu [.p (.int .i32 ((decR l).1 : Nat)), .p (.int .i64 ((decR l).2 : Nat))] /\ T' = T /\ es = [] := by
 cases l with
 | nil => exact slow_nil
 | cons a r =>
   have ha := h a r rfl
   by_cases h1 : a.toNat < 0xc2 ∨ 0xf5 <= a.toNat
   . rw [decR_bad (dec_bad r (by omega))]
     exact slow_bad (by omega)
   by_cases h2 : a.toNat < 0xe0
   . exact slow_two (by omega) h2
   obtain ⟨lo, hi, e1, e2, e3, e4, e5⟩ := firV_range a (by omega) (by omega)
   by_cases h3 : a.toNat < 0xf0
   . obtain ⟨g1, g2, g3⟩ := e4 h3
     exact slow_three (by omega) h3 rfl e3 g1 e2 e1 g2 g3
   . obtain ⟨g1, g2, g3⟩ := e5 (by omega)
     exact slow_four (by omega) (by omega) rfl e3 g1 e2 e1 g2 g3
theorem drune_ok {T : Tbl} {l : List UInt8} : CallA prog G 69 [bl l] T fun v T' es => v = .tu [.p (.int .i32 ((decR l).1 : Nat)), .p (.int .i64 ((decR l).2 : Nat))] /\ T' = T /\ es = [] := by
 refine CallA.eV 9 func69 ntmps69 results69 ?_
 simp -dsimp +decide only [vsk, vr, ty, en, ↓reduceIte, Nat.reduceSub, Nat.reduceAdd, Nat.reduceMul, Nat.reduceLT, Int.reduceAdd, Int.reduceSub, Int.reduceToNat, ci]
 simp -dsimp +decide (disch := omega) only [vsk, vr, ty, en, ↓reduceIte, Nat.reduceSub, Nat.reduceAdd, Nat.reduceMul, Nat.reduceLT, Int.reduceAdd, Int.reduceSub, Int.reduceToNat, ci, vi, getO_i, vt, vbl]
 refine SemA.loopS (fun _ : Unit => [(0, bl l), (6, bl l), (7, wint (l.length : Int)), (8, wint 0)]) (fun _ => T) (fun _ => True) (fun _ => 0) () [] 0
  (fun _ : Unit => [(0, bl l)]) (fun _ => T) (fun _ => ∀ a r, l = a :: r -> 0x80 <= a.toNat) trivial ⟨rfl, rfl, rfl, rfl, rfl⟩ rfl (by simp) ?_ ?_
 . rintro _ g -
   refine SemA.o ?_
   cases l with
   | nil =>
     have hl : (0 < (([] : List UInt8).length : Int)) = False := eq_false (by decide)
     simp -dsimp +decide (disch := omega) only [vsk, vr, ty, en, ↓reduceIte, Nat.reduceSub, Nat.reduceAdd, Nat.reduceMul, Nat.reduceLT, Int.reduceAdd, Int.reduceSub, Int.reduceToNat, ci, vi, getO_i, vt, vbl, hl, bb2]
     exact ⟨(), (fun _ _ h => by cases h), SeeL.done ⟨rfl, ⟨rfl, rfl⟩, rfl, by simp⟩⟩
   | cons a r =>
     have h0 : (0 < (((a :: r).length : Nat) : Int)) = True := eq_true (by simp)
     have hg : ((a :: r).map by8)[0]? = some (by8 a) := rfl
     have hl0 : 0 < (a :: r).length := by simp
     simp -dsimp +decide (disch := omega) only [vsk, vr, ty, en, ↓reduceIte, Nat.reduceSub, Nat.reduceAdd, Nat.reduceMul, Nat.reduceLT, Int.reduceAdd, Int.reduceSub, Int.reduceToNat, ci, vi, getO_i, vt, vbl, h0, hg, hl0, bb2]
     refine CondP.dec (fun hc => ?_) (fun hc => ?_)
     . simp -dsimp +decide (disch := omega) only [vsk, vr, ty, en, ↓reduceIte, Nat.reduceSub, Nat.reduceAdd, Nat.reduceMul, Nat.reduceLT, Int.reduceAdd, Int.reduceSub, Int.reduceToNat, ci, vi, getO_i, vt, vbl, h0, hg, hl0, vres, vone]
       rw [decR_one (by omega), i32_fit (n := a.toNat) (by omega)]
       exact Vw.done ⟨rfl, rfl, rfl⟩
     . simp -dsimp +decide (disch := omega) only [vsk, vr, ty, en, ↓reduceIte, Nat.reduceSub, Nat.reduceAdd, Nat.reduceMul, Nat.reduceLT, Int.reduceAdd, Int.reduceSub, Int.reduceToNat, ci, vi, getO_i, vt, vbl]
       exact ⟨(), (fun _ _ h => by cases h; omega), SeeL.done ⟨rfl, ⟨rfl, rfl⟩, rfl, by simp⟩⟩
 . rintro _ g tmp hs
   simp -dsimp +decide (disch := omega) only [vsk, vr, ty, en, ↓reduceIte, Nat.reduceSub, Nat.reduceAdd, Nat.reduceMul, Nat.reduceLT, Int.reduceAdd, Int.reduceSub, Int.reduceToNat, ci, vi, getO_i, vt, vbl]
   refine (slow_ok hs).det' ?_
   simp -dsimp +decide (disch := omega) only [vsk, vr, ty, en, ↓reduceIte, Nat.reduceSub, Nat.reduceAdd, Nat.reduceMul, Nat.reduceLT, Int.reduceAdd, Int.reduceSub, Int.reduceToNat, ci, vi, getO_i, vt, vres, vone]
   exact Vw.done ⟨rfl, rfl, rfl⟩
end Go.Proofs.YtglpcedoongagaaGreatDoor
namespace Go.E
section
variable {P : Program} {G : GG} {T : Tbl} {E : Eff} {N n m : Nat} {ro : Option Nat} {ds loc : List AV} {tmp : List (Nat × AV)} {Nk R : AKont} {X : Nat -> AKont}
theorem SemB.adopt {c : Code} (j : Nat) (El : TypeId) (sz : Nat) (h0 : 0 < sz) (hj : loc[j]? = some (.p (.slice none 0 0)))
 (h : SemB P G N ro n m c ds (loc.set j (.sl T.length 0 0)) tmp (T ++ [.buf El sz []]) E Nk X R) : SemB P G N ro n m c ds loc tmp T E Nk X R := by
 refine SemB.view ?_ h
 intro Z0 ρ0 T0 w0 Z ρ w dv lv tv hN hf ha
 obtain ⟨k1, k2⟩ := hf.st.push (w' := w) ⟨none, 0, true⟩ (.buf El sz []) hf.st.of (fun _ _ => rfl) ⟨⟨rfl, h0⟩, 0, by simp, Nat.le_refl _, .inl ⟨rfl, rfl, rfl⟩⟩ (fun b hb => by cases hb)
 have h1 := hf.step k1 k2
 have h2 := ha.step k2
 refine ⟨_, _, h1, ⟨h2.ds, ?_, h2.tmp⟩⟩
 obtain ⟨v, hv, hr⟩ := ha.loc.get hj
 have := hr.p_inv; subst this
 have h3 := h2.loc.set (a := .sl T.length 0 0) (v := .slice none 0 0) (.sl (x := ⟨none, 0, true⟩) (by rw [<- hf.st.len]; simp) (fun _ => rfl) (Nat.le_refl _) (fun _ _ => rfl)) j
 have e : lv.set j (.slice none 0 0) = lv := by
  refine List.ext_getElem? fun i => ?_
  rw [List.getElem?_set]
  by_cases hi : j = i
  . subst hi
    obtain ⟨hl, he⟩ := List.getElem?_eq_some_iff.1 hv
    rw [if_pos rfl, if_pos hl, hv]
  . rw [if_neg hi]
 rw [e] at h3
 exact h3
end
theorem vni (P : Program) : (∀ op t u v b xo yo T K, bin2A P op t (.ic u v) b xo yo T K = binA P op t (.ic u v) b xo yo K) /\ (∀ op t u v xo yo K, binA P op t (.ic u v) (.p .nilIface) xo yo K = nilI (tk P t) op K) /\
 (∀ ms K, nilI (.interface ms) .eql K = K (.p (.bool false))) /\ (∀ ms K, nilI (.interface ms) .neq K = K (.p (.bool true))) := ⟨fun _ _ _ _ b _ _ _ _ => by cases b <;> rfl, fun _ _ _ _ _ _ _ => rfl, fun _ _ => rfl, fun _ _ => rfl⟩
theorem vnn {P : Program} {t : TypeId} {ms : Array (String × TypeId)} (ht : tk P t = .interface ms) : (∀ xo c K, pureK P K (do eqGuard .eql t xo (.const c) .nilIface .nilIface; binOp .eql t .nilIface .nilIface) = K (.p (.bool true))) /\
 (∀ xo c K, pureK P K (do eqGuard .neq t xo (.const c) .nilIface .nilIface; binOp .neq t .nilIface .nilIface) = K (.p (.bool false))) := by
 have h : ∀ w, (Op.equal t .nilIface .nilIface).run P w = .ok true w := fun w => by
  unfold Op.equal
  rw [show Op.maxDepth = 9999 + 1 from rfl, Op.equalIn]
  simp only [Sem.run_bind, tis_of ht rfl]
  rfl
 refine ⟨fun xo c K => ?_, fun xo c K => ?_⟩
 . exact pureK_det fun w => run_guarded (by simp [eqGuard]) (by simp only [binOp, Sem.run_bind, h w]; rfl)
 . exact pureK_det fun w => run_guarded (by simp [eqGuard]) (by simp only [binOp, Sem.run_bind, h w]; rfl)
end Go.E
