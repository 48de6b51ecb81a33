/-
  Part 2 of the proof: no statement of its own. No condition but those in each theorem.
-/
import Derived.Test.YtfpjalgfnjjcmaaGreatDoorQh1
import Derived.Sort.LoopGhostIn
import Derived.Test.YtfpjalgfnjjcmaaGreatDoorProg
import Derived.KernelRfl
import Derived.DeepKeys3
import Derived.MapKept
set_option linter.unusedSimpArgs false
set_option linter.unusedVariables false
set_option linter.unusedSectionVars false
set_option maxRecDepth 8000
set_option maxHeartbeats 4000000
namespace Go.E
def lkA : List (Nat × AV) -> Nat -> AV
 | [], _ => .any
 | (s, v) :: r, t => if t = s then v else lkA r t
def evA (G : Nat -> AV) (n : Nat) (loc : List AV) (tmp : List (Nat × AV)) : Operand -> AV
 | .tmp t => if t < n then loc.getD t .any else lkA tmp t
 | .const v => .p v
 | .global g => G g
 | .func f => .p (.func (.func f) #[] #[])
def moved : Eff -> Nat -> Bool
 | [], _ => false
 | (j, b) :: es, i => (b && decide (i = j)) || moved es i
def still : Eff -> Bool
 | [] => true
 | (_, b) :: es => !b && still es
def slots (es : Eff) (l : List AV) : List AV := match still es with
 | true => l
 | false => l.map (AV.wo (moved es))
def slotsT (es : Eff) (l : List (Nat × AV)) : List (Nat × AV) := match still es with
 | true => l
 | false => l.map fun p => (p.1, p.2.wo (moved es))
def rec1 (n i : Nat) (b : Bool) (E : Eff) : Eff := if i < n then (i, b) :: E else E
def recE (n : Nat) : Eff -> Eff -> Eff
 | [], E => E
 | (i, b) :: es, E => rec1 n i b (recE n es E)
abbrev AKont := List AV -> List AV -> List (Nat × AV) -> Tbl -> Eff -> Prop
def putA (n : Nat) (d : Option Tmp) (v : AV) (loc : List AV) (tmp : List (Nat × AV)) (K : List AV -> List (Nat × AV) -> Prop) (_ : Tag K := .mk) : Prop :=
 match d with
 | none => K loc tmp
 | some d => if d < n then K (loc.set d v) tmp else K loc ((d, v) :: tmp)
def gvaloA (o : Option Oper) (look : Operand -> AV) : AV :=
 match o with
 | some o => (match o.dst with | some t => look (.tmp t) | none => .p undef)
 | none => .p undef
def grdA (ops : List Oper) (o : Oper) (look : Operand -> AV) (A B : Prop) (_ : Tag A := .mk) (_ : Tag B := .mk) : Prop :=
 match o.guard with
 | none => A
 | some (j, want) => isP (gvaloA ops[j]? look) fun v => GuardP v want A B
def opsA (P : Program) (G : Nat -> AV) (N n : Nat) (ops : List Oper) : List AV -> List Oper -> List AV -> List (Nat × AV) -> Tbl -> Eff -> (K : AKont) -> (_ : Tag K := .mk) -> Prop
 | ds, [], loc, tmp, T, E, K, _ => K ds loc tmp T E
 | ds, o :: r, loc, tmp, T, E, K, _ =>
   grdA ops o (evA G n loc tmp)
    (opA P G (evA G n loc tmp) o.op o.type T fun v T' es => putA n o.dst v (slots es loc) (slotsT es tmp) fun loc tmp => opsA P G N n ops (slots es ds) r loc tmp T' (recE N es E) K)
    (putA n o.dst (.p undef) loc tmp fun loc tmp => opsA P G N n ops ds r loc tmp T E K)
structure Frm (G : Nat -> AV) (Z0 : Heap) (ρ0 : List BI) (T0 : Tbl) (w0 : World) (Z : Heap) (ρ : List BI) (T : Tbl) (w : World) (E : Eff) : Prop where
 g : GOK G Z
 st : St Z ρ T w
 ext : Ext Z0 ρ0 T0 w0 Z ρ T w E
inductive RelT (Z : Heap) (ρ : List BI) : List (Nat × AV) -> List (Nat × Value) -> Prop
 | nil : RelT Z ρ [] []
 | cons {t : Nat} {a : AV} {v : Value} {r : List (Nat × AV)} {s : List (Nat × Value)} (h : Rel Z ρ a v) (hs : RelT Z ρ r s) : RelT Z ρ ((t, a) :: r) ((t, v) :: s)
theorem RelT.lk {Z : Heap} {ρ : List BI} {tmp : List (Nat × AV)} {tv : List (Nat × Value)} (h : RelT Z ρ tmp tv) (base : Nat -> Value) (t : Nat) : Rel Z ρ (lkA tmp t) (Go.E.lk base tv t) := by
 induction h with
 | nil => exact .any _
 | cons h hs ih =>
   simp only [lkA, Go.E.lk]
   split
   . exact h
   . exact ih
theorem moved_spec {es : Eff} {i : Nat} : moved es i = true ↔ (i, true) ∈ es := by
 induction es with
 | nil => simp [moved]
 | cons e es ih =>
   obtain ⟨j, b⟩ := e
   cases b <;> simp [moved, ih]
theorem still_spec {es : Eff} (h : still es = true) (i : Nat) : moved es i = false := by
 induction es with
 | nil => rfl
 | cons e es ih =>
   obtain ⟨j, b⟩ := e
   simp only [still, Bool.and_eq_true, Bool.not_eq_true'] at h
   simp [moved, h.1, ih h.2]
theorem recE_mem {n : Nat} {es E : Eff} {x : Nat × Bool} : x ∈ recE n es E ↔ (x ∈ es /\ x.1 < n) ∨ x ∈ E := by
 induction es with
 | nil => simp [recE]
 | cons e es ih =>
   obtain ⟨j, b⟩ := e
   simp only [recE, rec1]
   split
   . simp only [List.mem_cons, ih]
     constructor
     . rintro (rfl | h | h)
       . exact .inl ⟨.inl rfl, by assumption⟩
       . exact .inl ⟨.inr h.1, h.2⟩
       . exact .inr h
     . rintro (⟨rfl | h, h2⟩ | h)
       . exact .inl rfl
       . exact .inr (.inl ⟨h, h2⟩)
       . exact .inr (.inr h)
   . simp only [List.mem_cons, ih]
     constructor
     . rintro (h | h)
       . exact .inl ⟨.inr h.1, h.2⟩
       . exact .inr h
     . rintro (⟨rfl | h, h2⟩ | h)
       . exact absurd h2 (by assumption)
       . exact .inl ⟨h, h2⟩
       . exact .inr h
section
variable {P : Program} {G : Nat -> AV} {Z Z' Z0 : Heap} {ρ ρ' ρ0 : List BI} {T T' T0 : Tbl} {w w' w0 : World} {a b : AV} {u v : Value} {K : AV -> Tbl -> Eff -> Prop} {cs : List AV} {es E : Eff}
theorem GOK.mono (h : GOK G Z) (hle : Heap.le Z Z') : GOK G Z' := fun g => (h g).mono hle (by simp)
theorem Ext.kept (h : Ext Z ρ T w Z' ρ' T' w' es) : Kept (moved es) ρ ρ' := fun i x hi hx => h.place i x hx fun hm => by rw [moved_spec.2 hm] at hi; cases hi
theorem Rel.step (h : Rel Z ρ a v) (hx : Ext Z ρ T w Z' ρ' T' w' es) : Rel Z' ρ' (a.wo (moved es)) v := (h.wo (ρ' := ρ') hx.kept).mono hx.le (fun _ _ h => h)
theorem Rel.stay (h : Rel Z ρ a v) (hx : Ext Z ρ T w Z' ρ' T' w' es) (hs : still es = true) : Rel Z' ρ' a v := h.mono hx.le fun i x hi => hx.place i x hi fun hm => by
 have := still_spec hs i
 rw [moved_spec.2 hm] at this; cases this
theorem slots_rel {vs : List Value} (h : RelL Z ρ cs vs) (hx : Ext Z ρ T w Z' ρ' T' w' es) : RelL Z' ρ' (slots es cs) vs := by
 unfold slots
 split
 . exact ⟨h.1, fun k a v ha hv => (h.2 k a v ha hv).stay hx (by assumption)⟩
 . exact (h.wo (ρ' := ρ') hx.kept).mono hx.le (fun _ _ h => h)
theorem slotsT_rel {tmp : List (Nat × AV)} {tv : List (Nat × Value)} (h : RelT Z ρ tmp tv) (hx : Ext Z ρ T w Z' ρ' T' w' es) : RelT Z' ρ' (slotsT es tmp) tv := by
 unfold slotsT
 split
 . induction h with
   | nil => exact .nil
   | cons h hs ih => exact .cons (h.stay hx (by assumption)) ih
 . induction h with
   | nil => exact .nil
   | cons h hs ih => exact .cons (h.step hx) ih
theorem Frm.step (h : Frm G Z0 ρ0 T0 w0 Z ρ T w E) (hs : St Z' ρ' T' w') (hx : Ext Z ρ T w Z' ρ' T' w' es) : Frm G Z0 ρ0 T0 w0 Z' ρ' T' w' (recE ρ0.length es E) :=
 ⟨h.g.mono hx.le, hs, (h.ext.trans hx).more fun x hx' hl => by
  rw [recE_mem]
  rcases List.mem_append.1 hx' with h | h
  . exact .inl ⟨h, hl⟩
  . exact .inr h⟩
theorem evA_rel {n : Nat} {loc : List AV} {tmp : List (Nat × AV)} {vs : List Value} {tv : List (Nat × Value)} {base : Nat -> Value} (hG : GOK G Z) (hl : RelL Z ρ loc vs) (ht : RelT Z ρ tmp tv) (x : Operand) : Rel Z ρ (evA G n loc tmp x) (ev n base vs tv x) := by
 cases x with
 | tmp t =>
   simp only [evA, ev]
   split
   . by_cases hk : t < loc.length
     . have h2 : t < vs.length := by rw [<- hl.1]; exact hk
       have := hl.2 t loc[t] vs[t] (by simp [hk]) (by simp [h2])
       simpa [List.getD, hk, h2] using this
     . rw [show loc.getD t .any = .any by rw [List.getD_eq_getElem?_getD, List.getElem?_eq_none (Nat.le_of_not_lt hk)]; rfl]; exact .any _
   . exact ht.lk base t
 | const v => exact .p v
 | global g => exact (hG g).mono (Heap.le_refl _) (by simp)
 | func f => exact .p _
def LK (G : Nat -> AV) (Z0 : Heap) (ρ0 : List BI) (T0 : Tbl) (w0 : World) (K : AKont) : Kont := fun dv lv tv w =>
 ∃ (Z : Heap) (ρ : List BI) (T : Tbl) (E : Eff) (ds loc : List AV) (tmp : List (Nat × AV)), Frm G Z0 ρ0 T0 w0 Z ρ T w E /\ RelL Z ρ ds (dv.map fun b => .pointer (some ⟨b, 0, none⟩)) /\ RelL Z ρ loc lv /\ RelT Z ρ tmp tv /\ K ds loc tmp T E
structure At (Z : Heap) (ρ : List BI) (ds loc : List AV) (tmp : List (Nat × AV)) (dv : List Nat) (lv : List Value) (tv : List (Nat × Value)) : Prop where
 ds : RelL Z ρ ds (dv.map fun b => .pointer (some ⟨b, 0, none⟩))
 loc : RelL Z ρ loc lv
 tmp : RelT Z ρ tmp tv
theorem At.step {ds loc : List AV} {tmp : List (Nat × AV)} {dv : List Nat} {lv : List Value} {tv : List (Nat × Value)} (h : At Z ρ ds loc tmp dv lv tv) (hx : Ext Z ρ T w Z' ρ' T' w' es) : At Z' ρ' (slots es ds) (slots es loc) (slotsT es tmp) dv lv tv :=
 ⟨slots_rel h.ds hx, slots_rel h.loc hx, slotsT_rel h.tmp hx⟩
theorem putA_sound {n : Nat} {d : Option Tmp} {ds loc : List AV} {tmp : List (Nat × AV)} {dv : List Nat} {lv : List Value} {tv : List (Nat × Value)} {KA : List AV -> List (Nat × AV) -> Prop} (h : putA n d a loc tmp KA) (hr : Rel Z ρ a v) (hat : At Z ρ ds loc tmp dv lv tv)
 {KV : List Value -> List (Nat × Value) -> Prop} (hk : ∀ loc tmp lv tv, KA loc tmp -> At Z ρ ds loc tmp dv lv tv -> KV lv tv) : putK n d v lv tv KV := by
 cases d with
 | none => exact hk _ _ _ _ h hat
 | some d =>
   simp only [putA, putK] at h ⊢
   split
   . rename_i hd; rw [if_pos hd] at h; exact hk _ _ _ _ h ⟨hat.ds, hat.loc.set hr d, hat.tmp⟩
   . rename_i hd; rw [if_neg hd] at h; exact hk _ _ _ _ h ⟨hat.ds, hat.loc, .cons hr hat.tmp⟩
theorem grdA_sound {ops : List Oper} {o : Oper} {lookA : Operand -> AV} {lookV : Operand -> Value} {A B A' B' : Prop} (h : grdA ops o lookA A B) (he : ∀ x, Rel Z ρ (lookA x) (lookV x)) (ha : A -> A') (hb : B -> B') : grdV ops o lookV A' B' := by
 unfold grdA at h
 unfold grdV
 cases hg : o.guard with
 | none => rw [hg] at h; exact ha h
 | some jw =>
   obtain ⟨j, want⟩ := jw
   rw [hg] at h
   simp only at h ⊢
   have hr : Rel Z ρ (gvaloA ops[j]? lookA) (gval ops j lookV) := by
    unfold gvaloA gval gvalo
    cases ops[j]? with
    | none => exact .p _
    | some o' => cases hd : o'.dst with
      | none => simp only [hd]; exact .p _
      | some t => simp only [hd]; exact he _
   have h' := isP_elim h hr
   exact ⟨fun e => ha (h'.1 e), fun e => hb (h'.2 e)⟩
theorem callV_mono {f : Value} {args : List Value} {K K' : Value -> World -> Prop} (h : callV P f args w K) (hk : ∀ v w, K v w -> K' v w) : callV P f args w K' := by
 cases f with
 | func fn first cap =>
   cases fn with
   | func g =>
     simp only [callV] at h ⊢
     cases he : entered P g with
     | true => rw [he] at h; exact Ret.mono h hk
     | false => rw [he] at h; obtain ⟨v, w', h1, h2⟩ := h; exact ⟨v, w', h1, hk _ _ h2⟩
   | yield l => exact Yld.mono h hk
   | _ => exact h.elim
 | _ => exact h.elim
theorem opV_mono {evV : Operand -> Value} {o : Op} {ty : TypeId} {K K' : Value -> World -> Prop} (h : opV P evV o ty w K) (hk : ∀ v w, K v w -> K' v w) : opV P evV o ty w K' :=
 valV_mono h (fun _ _ h => callV_mono h hk) (fun s ⟨v, w', h1, h2⟩ => ⟨v, w', h1, hk _ _ h2⟩) (fun v h => hk _ _ h)
theorem opsA_sound {n : Nat} {base : Nat -> Value} {ops : List Oper} {K : AKont} : ∀ (r : List Oper) (ds loc : List AV) (tmp : List (Nat × AV)) (dv : List Nat) (lv : List Value) (tv : List (Nat × Value)) (Z : Heap) (ρ : List BI) (T : Tbl) (w : World) (E : Eff),
 opsA P G ρ0.length n ops ds r loc tmp T E K -> Frm G Z0 ρ0 T0 w0 Z ρ T w E -> At Z ρ ds loc tmp dv lv tv -> opsV P n base ops dv r lv tv w (LK G Z0 ρ0 T0 w0 K)
 | [], ds, loc, tmp, dv, lv, tv, Z, ρ, T, w, E, h, hf, ha => ⟨Z, ρ, T, E, ds, loc, tmp, hf, ha.ds, ha.loc, ha.tmp, h⟩
 | o :: r, ds, loc, tmp, dv, lv, tv, Z, ρ, T, w, E, h, hf, ha => by
   simp only [opsA] at h
   simp only [opsV]
   have he := evA_rel (n := n) (base := base) hf.g ha.loc ha.tmp
   refine grdA_sound h he (fun h => ?_) (fun h => ?_)
   . refine opV_mono (opA_sound hf.g hf.st he h) fun v w' h2 => ?_
     obtain ⟨Z', ρ', T', es, a, k1, k2, k3, k4⟩ := h2
     exact putA_sound k4 k3 (ha.step k2) fun loc tmp lv tv hk hat => opsA_sound r _ _ _ _ _ _ _ _ _ _ _ hk (hf.step k1 k2) hat
   . exact putA_sound h (.p _) ha fun loc tmp lv tv hk hat => opsA_sound r _ _ _ _ _ _ _ _ _ _ _ hk hf hat
def SemA (P : Program) (G : Nat -> AV) (N : Nat) (ro : Option Nat) (n m : Nat) (c : Code) (ds loc : List AV) (tmp : List (Nat × AV)) (T : Tbl) (E : Eff) (Nk : AKont) (X : Nat -> AKont) (R : AKont) (_ : Tag c := .mk) (_ : Tag Nk := .mk) (_ : Tag X := .mk) (_ : Tag R := .mk) : Prop :=
 ∀ (Z0 : Heap) (ρ0 : List BI) (T0 : Tbl) (w0 : World) (Z : Heap) (ρ : List BI) (w : World) (dv : List Nat) (lv : List Value) (tv : List (Nat × Value)), ρ0.length = N -> Frm G Z0 ρ0 T0 w0 Z ρ T w E -> At Z ρ ds loc tmp dv lv tv ->
  SemV P ro n m c dv lv tv w (mkQ (LK G Z0 ρ0 T0 w0 Nk) (fun i => LK G Z0 ρ0 T0 w0 (X i)) (LK G Z0 ρ0 T0 w0 R))
def codeA (P : Program) (G : Nat -> AV) (N : Nat) (ro : Option Nat) (n m : Nat) : Code -> List AV -> List AV -> List (Nat × AV) -> Tbl -> Eff -> (Nk : AKont) -> (X : Nat -> AKont) -> (R : AKont) -> (_ : Tag Nk := .mk) -> (_ : Tag X := .mk) -> (_ : Tag R := .mk) -> Prop
 | .skip, ds, loc, tmp, T, E, Nk, _, _, _, _, _ => Nk ds loc tmp T E
 | .region id ops draw, ds, loc, _, T, E, Nk, X, R, _, _, _ =>
   if draw then SemA P G N ro n m (.region id ops true) ds loc [] T E Nk X R else opsA P G N n ops.toList ds ops.toList loc [] T E Nk
 | .seq a b, ds, loc, tmp, T, E, Nk, X, R, _, _, _ => codeA P G N ro n m a ds loc tmp T E (fun ds loc tmp T E => codeA P G N ro n m b ds loc tmp T E Nk X R) X R
 | .cond c t e, ds, loc, tmp, T, E, Nk, X, R, _, _, _ => bpA (evA G n loc tmp c) (codeA P G N ro n m t ds loc tmp T E Nk X R) (codeA P G N ro n m e ds loc tmp T E Nk X R)
 | .block i c, ds, loc, tmp, T, E, Nk, X, R, _, _, _ => codeA P G N ro n m c ds loc tmp T E Nk (fun j => if j = i then Nk else X j) R
 | .loop c, ds, loc, _, T, E, Nk, X, R, _, _, _ => SemA P G N ro n m (.loop c) ds loc [] T E Nk X R
 | .exit i, ds, loc, tmp, T, E, _, X, _, _, _, _ => X i ds loc tmp T E
 | .ret, ds, loc, tmp, T, E, _, _, R, _, _, _ => R ds loc tmp T E
 | .rangeFunc f ps a b, ds, loc, tmp, T, E, Nk, X, R, _, _, _ => SemA P G N ro n m (.rangeFunc f ps a b) ds loc tmp T E Nk X R
 | .scope b, ds, loc, tmp, T, E, Nk, X, R, _, _, _ => codeA P G N ro n m b ds loc tmp T E Nk X R
 | .label _, ds, loc, tmp, T, E, Nk, _, _, _, _, _ => Nk ds loc tmp T E
 | .goto l, ds, loc, tmp, T, E, Nk, X, R, _, _, _ => SemA P G N ro n m (.goto l) ds loc tmp T E Nk X R
 | .refuse y, ds, loc, tmp, T, E, Nk, X, R, _, _, _ => SemA P G N ro n m (.refuse y) ds loc tmp T E Nk X R
theorem At.clear {ds loc : List AV} {tmp : List (Nat × AV)} {dv : List Nat} {lv : List Value} {tv : List (Nat × Value)} (h : At Z ρ ds loc tmp dv lv tv) : At Z ρ ds loc [] dv lv [] := ⟨h.ds, h.loc, .nil⟩
theorem codeA_sound {N n m : Nat} {ro : Option Nat} : ∀ (c : Code) (ds loc : List AV) (tmp : List (Nat × AV)) (T : Tbl) (E : Eff) (Nk : AKont) (X : Nat -> AKont) (R : AKont), codeA P G N ro n m c ds loc tmp T E Nk X R -> codeOK m c = true -> SemA P G N ro n m c ds loc tmp T E Nk X R
 | .skip, ds, loc, tmp, T, E, Nk, X, R, h, _ => fun Z0 ρ0 T0 w0 Z ρ w dv lv tv hN hf ha a haa Qs hQs => wpIn_skip (hQs .normal _ _ _ _ _ haa ⟨Z, ρ, T, E, ds, loc, tmp, hf, ha.ds, ha.loc, ha.tmp, h⟩)
 | .region id ops draw, ds, loc, tmp, T, E, Nk, X, R, h, hok => fun Z0 ρ0 T0 w0 Z ρ w dv lv tv hN hf ha => by
   simp only [codeA] at h
   cases draw with
   | true => exact SemV.cleared (h Z0 ρ0 T0 w0 Z ρ w dv lv [] hN hf ha.clear)
   | false =>
     refine codeV_sem _ _ _ _ _ _ _ _ ?_ hok
     simp only [Bool.false_eq_true, if_false] at h
     subst hN
     simp only [codeV, Bool.false_eq_true, if_false]
     exact fun base => opsA_sound _ _ _ _ _ _ _ _ _ _ _ _ h hf ha.clear
 | .seq a b, ds, loc, tmp, T, E, Nk, X, R, h, hok => fun Z0 ρ0 T0 w0 Z ρ w dv lv tv hN hf ha => by
   simp only [codeOK, Bool.and_eq_true] at hok
   exact SemV.seq (codeA_sound a ds loc tmp T E _ _ _ h hok.1 Z0 ρ0 T0 w0 Z ρ w dv lv tv hN hf ha) fun dv lv tv w ⟨Z, ρ, T, E, ds, loc, tmp, hf, h1, h2, h3, hk⟩ =>
    codeA_sound b ds loc tmp T E Nk X R hk hok.2 Z0 ρ0 T0 w0 Z ρ w dv lv tv hN hf ⟨h1, h2, h3⟩
 | .cond c t e, ds, loc, tmp, T, E, Nk, X, R, h, hok => fun Z0 ρ0 T0 w0 Z ρ w dv lv tv hN hf ha => by
   simp only [codeOK, Bool.and_eq_true] at hok
   simp only [codeA, bpA] at h
   split at h
   . rename_i v hv
     obtain ⟨h1, h2, x, hx⟩ := h
     subst hx
     intro a haa Qs hQs
     obtain ⟨base, hb⟩ := haa.base
     have hr := evA_rel (base := base) (n := n) hf.g ha.loc ha.tmp c
     rw [hv] at hr
     have hc : a.eval c = .bool x := by rw [hb.ev]; exact hr.p_inv
     cases x with
     | true => exact wpIn_cond hc (codeA_sound t ds loc tmp T E Nk X R (h1 rfl) hok.1 Z0 ρ0 T0 w0 Z ρ w dv lv tv hN hf ha a haa Qs hQs)
     | false => exact wpIn_cond hc (codeA_sound e ds loc tmp T E Nk X R (h2 rfl) hok.2 Z0 ρ0 T0 w0 Z ρ w dv lv tv hN hf ha a haa Qs hQs)
   . exact h.elim
 | .block i c, ds, loc, tmp, T, E, Nk, X, R, h, hok => fun Z0 ρ0 T0 w0 Z ρ w dv lv tv hN hf ha => by
   refine SemV.block ((codeA_sound c ds loc tmp T E _ _ _ h hok Z0 ρ0 T0 w0 Z ρ w dv lv tv hN hf ha).mono fun e dv lv tv w hq => ?_)
   cases e with
   | exit j =>
     simp only [mkQ] at hq ⊢
     by_cases hj : j = i
     . simp only [hj, if_true] at hq ⊢; exact hq
     . simp only [hj, if_false] at hq ⊢; exact hq
   | _ => exact hq
 | .loop c, ds, loc, tmp, T, E, Nk, X, R, h, _ => fun Z0 ρ0 T0 w0 Z ρ w dv lv tv hN hf ha => SemV.cleared (h Z0 ρ0 T0 w0 Z ρ w dv lv [] hN hf ha.clear)
 | .exit i, ds, loc, tmp, T, E, Nk, X, R, h, _ => fun Z0 ρ0 T0 w0 Z ρ w dv lv tv hN hf ha a haa Qs hQs => wpIn_exit (hQs (.exit i) _ _ _ _ _ haa ⟨Z, ρ, T, E, ds, loc, tmp, hf, ha.ds, ha.loc, ha.tmp, h⟩)
 | .ret, ds, loc, tmp, T, E, Nk, X, R, h, _ => fun Z0 ρ0 T0 w0 Z ρ w dv lv tv hN hf ha a haa Qs hQs => wpIn_ret (hQs .ret _ _ _ _ _ haa ⟨Z, ρ, T, E, ds, loc, tmp, hf, ha.ds, ha.loc, ha.tmp, h⟩)
 | .rangeFunc f ps a b, ds, loc, tmp, T, E, Nk, X, R, h, _ => h
 | .scope c, ds, loc, tmp, T, E, Nk, X, R, h, hok => fun Z0 ρ0 T0 w0 Z ρ w dv lv tv hN hf ha => SemV.scope (codeA_sound c ds loc tmp T E Nk X R h hok Z0 ρ0 T0 w0 Z ρ w dv lv tv hN hf ha)
 | .label _, ds, loc, tmp, T, E, Nk, X, R, h, _ => fun Z0 ρ0 T0 w0 Z ρ w dv lv tv hN hf ha a haa Qs hQs => wpIn_label (hQs .normal _ _ _ _ _ haa ⟨Z, ρ, T, E, ds, loc, tmp, hf, ha.ds, ha.loc, ha.tmp, h⟩)
 | .goto l, ds, loc, tmp, T, E, Nk, X, R, h, _ => h
 | .refuse y, ds, loc, tmp, T, E, Nk, X, R, h, _ => h
end
end Go.E
namespace Go.E
section
variable {P : Program} {G : Nat -> AV} {Z Z' Z0 : Heap} {ρ ρ' ρ0 : List BI} {T T' T0 : Tbl} {w w' w0 : World} {a b : AV} {u v : Value} {K : AV -> Tbl -> Eff -> Prop} {cs : List AV} {es E : Eff}
variable {N n m : Nat} {ro : Option Nat} {ds loc : List AV} {tmp : List (Nat × AV)} {Nk R : AKont} {X : Nat -> AKont}
theorem Frm.more (h : Frm G Z0 ρ0 T0 w0 Z ρ T w E) {E' : Eff} (hE : ∀ x ∈ E, x ∈ E') : Frm G Z0 ρ0 T0 w0 Z ρ T w E' := ⟨h.g, h.st, h.ext.more fun x hx _ => hE x hx⟩
def Lc (n : Nat) : List (Nat × AV) -> List AV -> Prop
 | [], loc => loc.length = n
 | (i, a) :: r, loc => loc[i]? = some a /\ Lc n r loc
def look (i : Nat) (d : AV) : List (Nat × AV) -> AV
 | [] => d
 | (j, a) :: r => if i = j then a else look i d r
def mkA (g : Nat -> AV) (l : List (Nat × AV)) : Nat -> Nat -> List AV
 | _, 0 => []
 | i, n + 1 => look i (g i) l :: mkA g l (i + 1) n
theorem mkA_get (g : Nat -> AV) (l : List (Nat × AV)) : ∀ (n i k : Nat), k < n -> (mkA g l i n)[k]? = some (look (i + k) (g (i + k)) l)
 | 0, _, _, h => absurd h (Nat.not_lt_zero _)
 | n + 1, i, 0, _ => by simp [mkA]
 | n + 1, i, k + 1, h => by
   rw [mkA, List.getElem?_cons_succ, mkA_get g l n (i + 1) k (by omega), show i + 1 + k = i + (k + 1) by omega]
theorem mkA_len (g : Nat -> AV) (l : List (Nat × AV)) : ∀ (n i : Nat), (mkA g l i n).length = n
 | 0, _ => rfl
 | n + 1, i => by rw [mkA, List.length_cons, mkA_len g l n]
theorem Lc.len {n : Nat} : ∀ {l : List (Nat × AV)} {loc : List AV}, Lc n l loc -> loc.length = n
 | [], _, h => h
 | (_, _) :: _, _, h => Lc.len h.2
theorem Lc.get {n : Nat} {loc : List AV} : ∀ {l : List (Nat × AV)}, Lc n l loc -> ∀ k, k < n -> loc[k]? = some (look k (loc.getD k .any) l)
 | [], h, k, hk => by
   have : k < loc.length := by rw [h]; exact hk
   simp [look, List.getD, this]
 | (j, a) :: r, h, k, hk => by
   rw [look]
   split
   . rename_i e; subst e; exact h.1
   . exact h.2.get k hk
theorem Lc.elim {n : Nat} {l : List (Nat × AV)} {loc : List AV} (h : Lc n l loc) : ∃ g, loc = mkA g l 0 n := by
 refine ⟨fun i => loc.getD i .any, List.ext_getElem? fun k => ?_⟩
 by_cases hk : k < n
 . rw [h.get k hk, mkA_get _ _ _ _ _ hk, Nat.zero_add]
 . rw [List.getElem?_eq_none (by have := h.len; omega), List.getElem?_eq_none (by rw [mkA_len]; omega)]
theorem SemA.loopL {σ : Type} {c : Code} (L : σ -> List (Nat × AV)) (Tb : σ -> Tbl) (Q : σ -> Prop) (μ : σ -> Nat) (s0 : σ) (Ei : Eff) (hok : codeOK m c = true) (hQ : Q s0) (hL : Lc n (L s0) loc) (hT : T = Tb s0) (hE : ∀ x ∈ E, x ∈ Ei)
 (round : ∀ s g, Q s -> codeA P G N ro n m c ds (mkA g (L s) 0 n) [] (Tb s) Ei (fun ds' loc' _ T' E' => ds' = ds /\ (∃ s', Q s' /\ μ s' < μ s /\ Lc n (L s') loc' /\ T' = Tb s') /\ ∀ x ∈ E', x ∈ Ei) X R) : SemA P G N ro n m (.loop c) ds loc [] T E Nk X R := by
 intro Z0 ρ0 T0 w0 Z ρ w dv lv tv hN hf ha a haa Qs hQs
 refine wpIn_loop_ghost (fun k a w => ∃ (Z : Heap) (ρ : List BI) (s : σ) (loc : List AV) (dv : List Nat) (lv : List Value) (tv : List (Nat × Value)), Fits' n m dv lv tv a /\ Frm G Z0 ρ0 T0 w0 Z ρ (Tb s) w Ei /\ At Z ρ ds loc [] dv lv [] /\ (Q s /\ Lc n (L s) loc) /\ μ s = k)
  (μ s0) ⟨Z, ρ, s0, loc, dv, lv, tv, haa, hT ▸ hf.more hE, ha.clear, ⟨hQ, hL⟩, rfl⟩ ?_
 rintro k a w ⟨Z, ρ, s, loc, dv, lv, tv, haa, hf, hat, ⟨hI, hL⟩, rfl⟩
 obtain ⟨g, rfl⟩ := hL.elim
 have hr := codeA_sound c ds _ [] (Tb s) Ei _ _ _ (round s g hI) hok Z0 ρ0 T0 w0 Z ρ w dv lv [] hN hf hat
 refine hr a haa.cleared _ fun e dv' lv' tv' w' a' haa' hq => ?_
 cases e with
 | normal =>
   obtain ⟨Z', ρ', T', E', ds', loc', tmp', g1, g2, g3, g4, rfl, ⟨s', h1, h2, h3, rfl⟩, g6⟩ := hq
   exact ⟨_, h2, Z', ρ', s', loc', dv', lv', tv', haa', g1.more g6, ⟨g2, g3, .nil⟩, ⟨h1, h3⟩, rfl⟩
 | exit i => exact hQs (.exit i) _ _ _ _ _ haa' hq
 | ret => exact hQs .ret _ _ _ _ _ haa' hq
 | _ => exact hq.elim
theorem SemA.view {c : Code} {loc' : List AV} {T' : Tbl} {ds' : List AV} {tmp' : List (Nat × AV)} (hv : ∀ (Z0 : Heap) (ρ0 : List BI) (T0 : Tbl) (w0 : World) (Z : Heap) (ρ : List BI) (w : World) (dv : List Nat) (lv : List Value) (tv : List (Nat × Value)), ρ0.length = N -> Frm G Z0 ρ0 T0 w0 Z ρ T w E -> At Z ρ ds loc tmp dv lv tv ->
 ∃ Z' ρ', Frm G Z0 ρ0 T0 w0 Z' ρ' T' w es /\ At Z' ρ' ds' loc' tmp' dv lv tv) (h : SemA P G N ro n m c ds' loc' tmp' T' es Nk X R) : SemA P G N ro n m c ds loc tmp T E Nk X R := by
 intro Z0 ρ0 T0 w0 Z ρ w dv lv tv hN hf ha
 obtain ⟨Z', ρ', h1, h2⟩ := hv Z0 ρ0 T0 w0 Z ρ w dv lv tv hN hf ha
 exact h Z0 ρ0 T0 w0 Z' ρ' w dv lv tv hN h1 h2
theorem AnyI.mono {ops : Array Oper} {Q : Exit -> Act -> World -> Prop} {cl : Nat} {I J : World -> Prop} (hIJ : ∀ w, I w -> J w) : ∀ (f : Nat) (listed : Array Bool) (a : Act) (w : World), AnyI ro P ops Q cl I f listed a w -> AnyI ro P ops Q cl J f listed a w
 | 0, _, _, _, h => ⟨fun hl => hIJ _ (h.1 hl), h.2⟩
 | f + 1, _, _, _, h => ⟨fun hl => hIJ _ (h.1 hl), h.2.1, fun i hi => wpOpIn_mono (fun a w => AnyI.mono hIJ f _ a w) (h.2.2 i hi)⟩
def waitsFor (ops : Array Oper) (i : Nat) : List Nat := ((List.range ops.size).foldl (fun S j => match ops[j]? with
 | none => S
 | some o => if o.after.any fun e => Region.binds .any e && (e.on == i || S.contains e.on) then j :: S else S) [])
def waitsOK (ops : Array Oper) (i : Nat) (S : List Nat) : Bool := S.all fun j => match ops[j]? with
 | none => true
 | some o => o.after.any fun e => Region.binds .any e && (e.on == i || S.contains e.on)
def blocks (ops : Array Oper) (cl i : Nat) (listed : Array Bool) : Bool :=
 let S := waitsFor ops i
 waitsOK ops i S && (S.contains cl || (match ops[cl]? with | none => true | some _ => false)) && !(listed.getD cl false) && S.all fun j => !(listed.getD j false)
def planOK3 (ops : Array Oper) (cl : Nat) (o : Option Nat) : List (Nat × Bool) -> Array Bool -> Bool
 | [], listed => (Region.ready .any ops listed).isEmpty
 | (i, fl) :: r, listed =>
   (if fl then (Region.ready .any ops listed).contains i && Region.free .any ops listed i && (cl != i && ((match ops[i]? with | none => false | some oi => pureOp oi.op) || blocks ops cl i listed))
    else Region.ready .any ops listed == [i] && (if r.isEmpty || some i == o then i == cl && decide (i < listed.size) else !(listed.getD cl false) && i != cl)) &&
   planOK3 ops cl o r (listed.setIfInBounds i true)
theorem AnyI.listed {ops : Array Oper} {Q : Exit -> Act -> World -> Prop} {cl : Nat} {I J : World -> Prop} : ∀ (f : Nat) (listed : Array Bool) (a : Act) (w : World), listed.getD cl false = true -> AnyI ro P ops Q cl I f listed a w -> AnyI ro P ops Q cl J f listed a w
 | 0, _, _, _, hl, h => ⟨fun h' => (by rw [hl] at h'; cases h'), h.2⟩
 | f + 1, listed, _, _, hl, h => ⟨fun h' => (by rw [hl] at h'; cases h'), h.2.1, fun i hi => wpOpIn_mono (fun a w => AnyI.listed f _ a w (by
  by_cases hic : i = cl
  . subst hic
    simp only [Array.getD_eq_getD_getElem?, Array.getElem?_setIfInBounds]
    by_cases hb : i < listed.size
    . simp [hb]
    . simp [hb] at hl
  . rw [getD_set_ne false hic]; exact hl)) (h.2.2 i hi)⟩
theorem AnyI_first2 {ops : Array Oper} {Q : Exit -> Act -> World -> Prop} {I J : World -> Prop} {cl i : Nat} {oi : Oper} {v : Value} (S : List Nat)
 (hcb : (∀ w, J w) ∨ ((∀ w, I w -> J w) /\ (cl ∈ S ∨ ops[cl]? = none) /\ ∀ j ∈ S, ∀ oj, ops[j]? = some oj -> ∃ e ∈ oj.after, Region.binds .any e = true /\ (e.on = i ∨ e.on ∈ S))) (hci : cl ≠ i) (hi : ops[i]? = some oi) (hsel : ∀ (j : Nat) (o : Oper) cs b, ops[j]? = some o -> o.op ≠ .select cs b) (hdef : ∀ (j : Nat) (o : Oper) c, ops[j]? = some o -> o.op ≠ .defer c)
 (hQ : ∀ c a w, Q (.panic c) (a.put oi.dst v) w -> Q (.panic c) a w) :
 ∀ (f : Nat) (listed : Array Bool) (a : Act) (w : World),
  (∀ j oj, ops[j]? = some oj -> j ≠ i -> listed.getD j true = false -> (∀ e ∈ oj.after, Region.binds .any e = true -> e.on ≠ i) -> oi.apart ops oj = true) ->
  ((∀ w, J w) ∨ (listed.getD cl false = false /\ ∀ k ∈ S, listed.getD k false = false)) -> i ∈ Region.ready .any ops listed -> GivesI P ops J oi v a -> AnyI ro P ops Q cl I f (listed.setIfInBounds i true) (a.put oi.dst v) w -> AnyI ro P ops Q cl I (f + 1) listed a w := by
 have hIJ : ∀ (listed : Array Bool) (w : World), ((∀ w, J w) ∨ (listed.getD cl false = false /\ ∀ k ∈ S, listed.getD k false = false)) -> (listed.getD cl false = false -> I w) -> J w := by
  intro listed w hc h
  rcases hc with h1 | h1
  . exact h1 w
  . rcases hcb with h2 | h2
    . exact h2 w
    . exact h2.1 w (h h1.1)
 intro f
 induction f with
 | zero =>
   intro listed a w _ hc hr hy H
   have hI : listed.getD cl false = false -> I w := fun hl => H.1 (by rw [getD_set_ne false (Ne.symm hci)]; exact hl)
   refine ⟨hI, fun h => (by rw [h] at hr; cases hr), fun j hj => ?_⟩
   by_cases hji : j = i
   . subst hji; exact hy.wpOp hi (hIJ _ w hc hI) H
   . have := ready_mono hj hji
     rw [H.2.1] at this
     cases this
 | succ f ih =>
   intro listed a w hfree hc hr hy H
   have hI : listed.getD cl false = false -> I w := fun hl => H.1 (by rw [getD_set_ne false (Ne.symm hci)]; exact hl)
   refine ⟨hI, fun h => (by rw [h] at hr; cases hr), fun j hj => ?_⟩
   by_cases hji : j = i
   . subst hji; exact hy.wpOp hi (hIJ _ w hc hI) H
   . obtain ⟨hjun, oj, hoj, hall⟩ := mem_ready.1 hj
     have hun : listed.getD i true = false := (mem_ready.1 hr).1
     have hlst : ∀ k, listed.getD k true = false -> ∀ e ∈ oj.after, Region.binds .any e = true -> e.on ≠ k := by
      intro k hun e he hb heq
      have h1 := hall e he hb
      rw [heq] at h1
      by_cases hl : k < listed.size
      . simp [hl] at h1 hun; rw [hun] at h1; cases h1
      . simp [Array.getElem?_eq_none (Nat.le_of_not_lt hl)] at h1
     have hlst2 : ∀ k, listed.getD k false = false -> ∀ e ∈ oj.after, Region.binds .any e = true -> e.on ≠ k := by
      intro k hun e he hb heq
      have h1 := hall e he hb
      rw [heq] at h1
      by_cases hl : k < listed.size
      . simp [hl] at h1 hun; rw [hun] at h1; cases h1
      . simp [Array.getElem?_eq_none (Nat.le_of_not_lt hl)] at h1
     have hnot := hlst i hun
     have h2 := wpOp_swap hoj (hfree j oj hoj hji hjun hnot) (fun cs b => hsel i oi cs b hi) (fun cs b => hsel j oj cs b hoj) (fun c => hdef j oj c hoj) hQ hy (H.2.2 j (ready_mono hj hji))
     have hc' : (∀ w, J w) ∨ ((listed.setIfInBounds j true).getD cl false = false /\ ∀ k ∈ S, (listed.setIfInBounds j true).getD k false = false) := by
      rcases hc with h1 | h1
      . exact .inl h1
      . rcases hcb with h3 | h3
        . exact .inl h3
        . have hjS : j ∉ S := by
           intro hjS
           obtain ⟨e, he, hb, heq | heq⟩ := h3.2.2 j hjS oj hoj
           . exact hnot e he hb heq
           . exact hlst2 _ (h1.2 _ heq) e he hb rfl
          refine .inr ⟨?_, fun k hk => ?_⟩
          . have hjc : j ≠ cl := by
             rintro rfl
             rcases h3.2.1 with h4 | h4
             . exact hjS h4
             . rw [h4] at hoj; cases hoj
            rw [getD_set_ne false hjc]; exact h1.1
          . have hjk : j ≠ k := by rintro rfl; exact hjS hk
            rw [getD_set_ne false hjk]; exact h1.2 k hk
     refine wpOpIn_mono (fun a' w' h3 => ih (listed.setIfInBounds j true) a' w' ?_ hc' (ready_mono hr (Ne.symm hji)) h3.1 ?_) h2
     . intro k ok hk hki hkun hno
       refine hfree k ok hk hki ?_ hno
       by_cases hjk : j = k
       . subst hjk; exact hjun
       . rw [getD_set_ne true hjk] at hkun; exact hkun
     . rw [Array.setIfInBounds_comm _ _ hji]
       exact h3.2
def planW (P : Program) (n : Nat) (base : Nat -> Value) (ops : List Oper) (cl : Option Nat) (I : World -> Prop) (ds : List Nat) : List (Nat × Bool) -> List Value -> List (Nat × Value) -> World -> (K : Kont) -> Prop
 | [], loc, tmp, w, K => K ds loc tmp w
 | (i, true) :: r, loc, tmp, w, K => planO n base ops ops[i]? loc tmp
   (fun o => floatV P (ev n base loc tmp) o.op o.type I fun v => putK n o.dst v loc tmp fun loc tmp => planW P n base ops cl I ds r loc tmp w K)
   (fun o => putK n o.dst undef loc tmp fun loc tmp => planW P n base ops cl I ds r loc tmp w K)
 | (i, false) :: r, loc, tmp, w, K => planO n base ops ops[i]? loc tmp
   (fun o => opV P (ev n base loc tmp) o.op o.type w fun v w' => putK n o.dst v loc tmp fun loc tmp => ∃ I', (r ≠ [] -> some i ≠ cl -> I' w' /\ ∀ w, I' w -> I w) /\ planW P n base ops cl I' ds r loc tmp w' K)
   (fun o => putK n o.dst undef loc tmp fun loc tmp => planW P n base ops cl I ds r loc tmp w K)
theorem planW_any {Q : Exit -> Act -> World -> Prop} {n m cl : Nat} {oc : Option Nat} {base : Nat -> Value} {l : List Oper} {ds : List Nat} {K : Kont} (hsel : Region.noSelect l.toArray = true) (hdef : noDefer l.toArray = true) (hQ : ∀ c (a a' : Act) w, Q (.panic c) a w -> Q (.panic c) a' w) (hall : l.all (dstIn m) = true) :
 ∀ (pl : List (Nat × Bool)) (listed : Array Bool) (I : World -> Prop) (loc : List Value) (tmp : List (Nat × Value)) (w : World) (a : Act), planW P n base l oc I ds pl loc tmp w K -> planOK3 l.toArray cl oc pl listed = true -> (listed.getD cl false = false -> I w) ->
  Agree n base loc tmp a -> a.tmps.size = m -> a.defers = ds.map markOf ->
  (∀ loc tmp w a, Agree n base loc tmp a -> a.tmps.size = m -> a.defers = ds.map markOf -> K ds loc tmp w -> Q .normal a w) -> AnyI ro P l.toArray Q cl I pl.length listed a w
 | [], listed, I, loc, tmp, w, a, h, hpl, hI, ha, hs, hd, hK => by
   simp only [planOK3, List.isEmpty_iff] at hpl
   exact ⟨hI, hpl, hK loc tmp w a ha hs hd h⟩
 | (i, fl) :: r, listed, I, loc, tmp, w, a, h, hpl, hI, ha, hs, hd, hK => by
   rw [planOK3, Bool.and_eq_true] at hpl
   obtain ⟨hpl1, hpl2⟩ := hpl
   cases ho : l[i]? with
   | none => cases fl <;> (simp only [planW, ho, planO] at h)
   | some o =>
     have hoi : l.toArray[i]? = some o := by simpa using ho
     have hmem : o ∈ l := List.mem_of_getElem? ho
     have hd1 : dstIn m o = true := List.all_eq_true.1 hall o hmem
     have hdst : ∀ t, o.dst = some t -> t < a.tmps.size := by rw [hs]; exact dstIn_spec hd1
     have hnext : ∀ (I' : World -> Prop) v w', ((listed.setIfInBounds i true).getD cl false = false -> I' w') -> (putK n o.dst v loc tmp fun loc tmp => planW P n base l oc I' ds r loc tmp w' K) -> AnyI ro P l.toArray Q cl I' r.length (listed.setIfInBounds i true) (a.put o.dst v) w' := by
      intro I' v w' hI' hv
      obtain ⟨loc', tmp', ha', hv'⟩ := ha.put hdst v hv
      exact planW_any hsel hdef hQ hall r _ I' loc' tmp' w' _ hv' hpl2 hI' ha' (by cases o.dst <;> simp [Act.put, hs]) (by cases o.dst <;> simp [Act.put, hd]) hK
     cases fl with
     | true =>
       simp only [planW, ho, planO] at h
       rw [<- ha.ev] at h
       simp only [if_true, Bool.and_eq_true, List.contains_iff_mem, Bool.or_eq_true, Bool.not_eq_true', bne_iff_ne, ne_eq, hoi] at hpl1
       obtain ⟨⟨hp1, hp2⟩, hp4, hp3⟩ := hpl1
       have hnext' : ∀ v, (putK n o.dst v loc tmp fun loc tmp => planW P n base l oc I ds r loc tmp w K) -> AnyI ro P l.toArray Q cl I r.length (listed.setIfInBounds i true) (a.put o.dst v) w := fun v hk =>
        hnext I v w (fun hl => hI (by rw [getD_set_ne false (Ne.symm hp4)] at hl; exact hl)) hk
       rcases hp3 with hp3 | hp3
       . have hgive : ∃ v, GivesI P l.toArray (fun _ => True) o v a /\ putK n o.dst v loc tmp fun loc tmp => planW P n base l oc I ds r loc tmp w K := by
          rcases grdV_wanted h with ⟨hw, h⟩ | ⟨hw, h⟩
          . obtain ⟨v, hv, hk⟩ := floatV_run (floatV_pure hp3 h)
            exact ⟨v, .inl ⟨hw, hv⟩, hk⟩
          . exact ⟨undef, .inr ⟨hw, rfl⟩, h⟩
         obtain ⟨v, hg, hk⟩ := hgive
         exact AnyI_first2 [] (.inl fun _ => trivial) hp4 hoi (Region.noSelect_spec hsel) (noDefer_spec hdef) (fun c a w => hQ c _ _ w) r.length listed a w (fun j oj hj hne hun hno => Region.free_spec hoi hp2 j oj hj hne hun hno) (.inl fun _ => trivial) hp1 hg (hnext' v hk)
       . have hgive : ∃ v, GivesI P l.toArray I o v a /\ putK n o.dst v loc tmp fun loc tmp => planW P n base l oc I ds r loc tmp w K := by
          rcases grdV_wanted h with ⟨hw, h⟩ | ⟨hw, h⟩
          . obtain ⟨v, hv, hk⟩ := floatV_run h
            exact ⟨v, .inl ⟨hw, hv⟩, hk⟩
          . exact ⟨undef, .inr ⟨hw, rfl⟩, h⟩
         obtain ⟨v, hg, hk⟩ := hgive
         simp only [blocks, Bool.and_eq_true, Bool.or_eq_true, Bool.not_eq_true', List.contains_iff_mem, List.all_eq_true] at hp3
         obtain ⟨⟨⟨hb1, hb2⟩, hb3⟩, hb4⟩ := hp3
         refine AnyI_first2 (waitsFor l.toArray i) (.inr ⟨fun _ h => h, ?_, fun j hj oj hoj => ?_⟩) hp4 hoi (Region.noSelect_spec hsel) (noDefer_spec hdef) (fun c a w => hQ c _ _ w) r.length listed a w (fun j oj hj hne hun hno => Region.free_spec hoi hp2 j oj hj hne hun hno) (.inr ⟨hb3, hb4⟩) hp1 hg (hnext' v hk)
         . rcases hb2 with h | h
           . exact .inl h
           . right
             split at h
             . assumption
             . cases h
         . have := List.all_eq_true.1 hb1 j hj
           rw [hoj] at this
           obtain ⟨k, hk, hk'⟩ := Array.any_eq_true.1 this
           simp only [Bool.and_eq_true, Bool.or_eq_true, beq_iff_eq, List.contains_iff_mem] at hk'
           exact ⟨_, Array.getElem_mem hk, hk'⟩
     | false =>
       simp only [Bool.false_eq_true, if_false, beq_iff_eq, Bool.and_eq_true] at hpl1
       obtain ⟨hp1, hp2⟩ := hpl1
       refine ⟨hI, fun e => (by rw [e] at hp1; cases hp1), fun j hj => ?_⟩
       rw [hp1, List.mem_singleton] at hj
       subst hj
       unfold wpOpIn
       simp only [hoi]
       simp only [planW, ho, planO] at h
       rw [<- ha.ev] at h
       by_cases hcl : r = [] ∨ some j = oc
       . have hcl' : (r.isEmpty || some j == oc) = true := by
          rcases hcl with h | h
          . simp [h]
          . simp [h]
         rw [hcl', if_pos rfl, Bool.and_eq_true, beq_iff_eq, decide_eq_true_eq] at hp2
         have hset : (listed.setIfInBounds j true).getD cl false = true := by
          rw [<- hp2.1]; simp [hp2.2]
         have hfin : ∀ (I' : World -> Prop) v w', (putK n o.dst v loc tmp fun loc tmp => planW P n base l oc I' ds r loc tmp w' K) -> AnyI ro P l.toArray Q cl I r.length (listed.setIfInBounds j true) (a.put o.dst v) w' := fun I' v w' hv =>
          (hnext I' v w' (fun hf => by rw [hset] at hf; cases hf) hv).listed _ _ _ _ hset
         rcases grdV_wanted h with ⟨hw, h⟩ | ⟨hw, h⟩
         . rw [if_pos hw]
           refine (opV_step h).wp fun v w' hv => ?_
           obtain ⟨loc', tmp', ha', I', hI', hv'⟩ := ha.put hdst v hv
           exact (planW_any hsel hdef hQ hall r _ I' loc' tmp' w' _ hv' hpl2 (fun hf => by rw [hset] at hf; cases hf) ha' (by cases o.dst <;> simp [Act.put, hs]) (by cases o.dst <;> simp [Act.put, hd]) hK).listed _ _ _ _ hset
         . rw [if_neg (by rw [hw]; simp)]
           exact ⟨fun f _ => fz_fn f, hfin I _ _ h⟩
       . have hcl' : (r.isEmpty || some j == oc) = false := by
          rw [not_or] at hcl
          simp [hcl.1, hcl.2]
         rw [hcl'] at hp2
         simp only [Bool.false_eq_true, if_false, Bool.and_eq_true, Bool.not_eq_true', bne_iff_ne, ne_eq] at hp2
         rw [not_or] at hcl
         have hfin : ∀ v w', (putK n o.dst v loc tmp fun loc tmp => ∃ I', (r ≠ [] -> some j ≠ oc -> I' w' /\ ∀ w, I' w -> I w) /\ planW P n base l oc I' ds r loc tmp w' K) -> AnyI ro P l.toArray Q cl I r.length (listed.setIfInBounds j true) (a.put o.dst v) w' := by
          intro v w' hv
          obtain ⟨loc', tmp', ha', I', hI', hv'⟩ := ha.put hdst v hv
          have hi' := hI' hcl.1 hcl.2
          exact (planW_any hsel hdef hQ hall r _ I' loc' tmp' w' (a.put o.dst v) hv' hpl2 (fun _ => hi'.1) ha' (by cases o.dst <;> simp [Act.put, hs]) (by cases o.dst <;> simp [Act.put, hd]) hK).mono hi'.2
         rcases grdV_wanted h with ⟨hw, h⟩ | ⟨hw, h⟩
         . rw [if_pos hw]
           exact (opV_step h).wp hfin
         . rw [if_neg (by rw [hw]; simp)]
           exact ⟨fun f _ => fz_fn f, hnext I _ _ (fun _ => hI hp2.1) h⟩
end
end Go.E
namespace Go.E
def keepO (keep : Nat -> Bool) (i : Nat) (o : AObj) : AObj := match keep i with
 | true => o
 | false => .gone
def keepT (keep : Nat -> Bool) (T : Tbl) : Tbl := T.mapIdx fun i o => keepO keep i o
theorem keepT_get (keep : Nat -> Bool) (T : Tbl) (i : Nat) : (keepT keep T)[i]? = T[i]?.map (keepO keep i) := by simp [keepT, List.getElem?_mapIdx]
def keepOK (keep : Nat -> Bool) (es : Eff) : Bool := es.all fun e => !keep e.1
def planOA (ops : List Oper) (o : Option Oper) (look : Operand -> AV) (A B : Oper -> Prop) (_ : Tag A := .mk) (_ : Tag B := .mk) : Prop :=
 match o with
 | none => False
 | some o => grdA ops o look (A o) (B o)
def planA (P : Program) (G : Nat -> AV) (N n : Nat) (ops : List Oper) (cl : Option Nat) (keep : Nat -> Bool) : List AV -> List (Nat × Bool) -> List AV -> List (Nat × AV) -> Tbl -> Eff -> (K : AKont) -> (_ : Tag K := .mk) -> Prop
 | ds, [], loc, tmp, T, E, K, _ => K ds loc tmp T E
 | ds, (i, true) :: r, loc, tmp, T, E, K, _ => planOA ops ops[i]? (evA G n loc tmp)
   (fun o => rdF P (evA G n loc tmp) o.op o.type (keepT keep T) fun v => putA n o.dst v loc tmp fun loc tmp => planA P G N n ops cl keep ds r loc tmp T E K)
   (fun o => putA n o.dst (.p undef) loc tmp fun loc tmp => planA P G N n ops cl keep ds r loc tmp T E K)
 | ds, (i, false) :: r, loc, tmp, T, E, K, _ => planOA ops ops[i]? (evA G n loc tmp)
   (fun o => opA P G (evA G n loc tmp) o.op o.type T fun v T' es => putA n o.dst v (slots es loc) (slotsT es tmp) fun loc tmp => (keepOK keep es = true ∨ r = [] ∨ some i = cl) /\ planA P G N n ops cl keep (slots es ds) r loc tmp T' (recE N es E) K)
   (fun o => putA n o.dst (.p undef) loc tmp fun loc tmp => planA P G N n ops cl keep ds r loc tmp T E K)
section
variable {P : Program} {G : Nat -> AV} {Z Z' Z0 : Heap} {ρ ρ' ρ0 : List BI} {T T' T0 : Tbl} {w w' w0 : World} {a b : AV} {u v : Value} {K : AV -> Tbl -> Eff -> Prop} {cs : List AV} {es E : Eff}
variable {N n m : Nat} {ro : Option Nat} {ds loc : List AV} {tmp : List (Nat × AV)} {Nk R : AKont} {X : Nat -> AKont}
theorem keepT_live {keep : Nat -> Bool} {i : Nat} {o : AObj} (h : (keepT keep T)[i]? = some o) (hl : o.live = true) : T[i]? = some o /\ keep i = true := by
 rw [keepT_get] at h
 cases hT : T[i]? with
 | none => rw [hT] at h; cases h
 | some o' =>
   rw [hT] at h
   simp only [Option.map_some, Option.some.injEq, keepO] at h
   split at h
   . subst h; exact ⟨rfl, by assumption⟩
   . subst h; cases hl
theorem St.keepT (h : St Z ρ T w) (keep : Nat -> Bool) : St Z ρ (keepT keep T) w := by
 refine ⟨h.of, by simp [Go.E.keepT, h.len], fun i o x h1 h2 => ?_, fun i o x b h1 hl h2 hb => ?_⟩
 . by_cases hl : o.live = true
   . exact h.obj i o x (keepT_live h1 hl).1 h2
   . cases o <;> first | exact (hl rfl).elim | trivial
 . obtain ⟨g1, g2⟩ := h.apart i o x b (keepT_live h1 hl).1 hl h2 hb
   exact ⟨g1, fun j o' y hj k1 k2 => g2 j o' y hj (keepT_live k1 k2).1 k2⟩
theorem agr_step {keep : Nat -> Bool} (hx : Ext Z ρ T w Z' ρ' T' w' es) (hk : keepOK keep es = true) (w2 : World) (h : Agr Z' ρ' (keepT keep T') w' w2) : Agr Z ρ (keepT keep T) w w2 := by
 refine ⟨⟨fun b o hb => h.1.1 b o (hx.le.1 b o hb), h.1.2.1.trans hx.le.2.1, h.1.2.2.trans hx.le.2.2⟩, fun i o x b h1 hl h2 hb => ?_⟩
 obtain ⟨g1, g2⟩ := keepT_live h1 hl
 have hn : ∀ t, (i, t) ∉ es := fun t hm => by
  have := List.all_eq_true.1 hk _ hm
  simp [g2] at this
 obtain ⟨k1, o', k2, k3⟩ := hx.same i x o b g1 hl h2 hb hn
 have k4 := hx.place i x h2 (hn true)
 have := h.2 i o' x b (by rw [keepT_get, k2]; simp only [Option.map_some, keepO]; split <;> simp_all) k3 k4 hb
 rw [this, k1]
theorem planA_sound {n : Nat} {base : Nat -> Value} {ops : List Oper} {cl : Option Nat} {keep : Nat -> Bool} {K : AKont} : ∀ (pl : List (Nat × Bool)) (ds loc : List AV) (tmp : List (Nat × AV)) (dv : List Nat) (lv : List Value) (tv : List (Nat × Value)) (Z : Heap) (ρ : List BI) (T : Tbl) (w : World) (E : Eff),
 planA P G ρ0.length n ops cl keep ds pl loc tmp T E K -> Frm G Z0 ρ0 T0 w0 Z ρ T w E -> At Z ρ ds loc tmp dv lv tv -> planW P n base ops cl (Agr Z ρ (keepT keep T) w) dv pl lv tv w (LK G Z0 ρ0 T0 w0 K)
 | [], ds, loc, tmp, dv, lv, tv, Z, ρ, T, w, E, h, hf, ha => ⟨Z, ρ, T, E, ds, loc, tmp, hf, ha.ds, ha.loc, ha.tmp, h⟩
 | (i, true) :: r, ds, loc, tmp, dv, lv, tv, Z, ρ, T, w, E, h, hf, ha => by
   simp only [planA, planOA] at h
   simp only [planW, planO]
   have he := evA_rel (n := n) (base := base) hf.g ha.loc ha.tmp
   cases ho : ops[i]? with
   | none => rw [ho] at h; exact h.elim
   | some o =>
     rw [ho] at h
     simp only at h ⊢
     refine grdA_sound h he (fun h => ?_) (fun h => ?_)
     . refine valV_mono (rdF_sound (hf.st.keepT keep) he h) (fun _ _ h => h) (fun s h => FloatP.mono h (fun _ h => h) ?_) ?_
       all_goals
        rintro v ⟨a, h1, h2⟩
        exact putA_sound h2 h1 ha fun loc tmp lv tv hk hat => planA_sound r _ _ _ _ _ _ _ _ _ _ _ hk hf hat
     . exact putA_sound h (.p _) ha fun loc tmp lv tv hk hat => planA_sound r _ _ _ _ _ _ _ _ _ _ _ hk hf hat
 | (i, false) :: r, ds, loc, tmp, dv, lv, tv, Z, ρ, T, w, E, h, hf, ha => by
   simp only [planA, planOA] at h
   simp only [planW, planO]
   have he := evA_rel (n := n) (base := base) hf.g ha.loc ha.tmp
   cases ho : ops[i]? with
   | none => rw [ho] at h; exact h.elim
   | some o =>
     rw [ho] at h
     simp only at h ⊢
     refine grdA_sound h he (fun h => ?_) (fun h => ?_)
     . refine opV_mono (opA_sound hf.g hf.st he h) fun v w' h2 => ?_
       obtain ⟨Z', ρ', T', es, a, k1, k2, k3, k4⟩ := h2
       refine putA_sound k4 k3 (ha.step k2) fun loc tmp lv tv hk hat => ⟨Agr Z' ρ' (keepT keep T') w', fun hr hc => ?_, planA_sound r _ _ _ _ _ _ _ _ _ _ _ hk.2 (hf.step k1 k2) hat⟩
       exact ⟨agr_self (k1.keepT keep), agr_step k2 (hk.1.resolve_right (fun h => h.elim hr hc))⟩
     . exact putA_sound h (.p _) ha fun loc tmp lv tv hk hat => planA_sound r _ _ _ _ _ _ _ _ _ _ _ hk hf hat
theorem Frm.same (h : Frm G Z0 ρ0 T0 w0 Z ρ T w E) (e : Alike w' w) : Frm G Z0 ρ0 T0 w0 Z ρ T w' E :=
 ⟨h.g, h.st.same e, ⟨h.ext.le, h.ext.place, fun i x o b h1 h2 h3 h4 h5 => by rw [e.1]; exact h.ext.same i x o b h1 h2 h3 h4 h5⟩⟩
theorem SemA.drawC {id : Nat} {ops : Array Oper} (cl : Nat) (oc : Option Nat) (keep : Nat -> Bool) (pl : List (Nat × Bool)) (hm : P.follows .mixedOrders = true)
 (hok : (Region.noSelect ops && noDefer ops && ops.toList.all (dstIn m) && pl.length == ops.size && planOK3 ops cl oc pl (Array.replicate ops.size false)) = true)
 (h : planA P G N n ops.toList oc keep ds pl loc [] T E Nk) : SemA P G N ro n m (.region id ops true) ds loc tmp T E Nk X R := by
 simp only [Bool.and_eq_true, beq_iff_eq] at hok
 obtain ⟨⟨⟨⟨h1, h0⟩, h2⟩, h3⟩, h4⟩ := hok
 intro Z0 ρ0 T0 w0 Z ρ w dv lv tv hN hf ha
 refine SemV.cleared ?_
 intro a haa Qs hQs
 refine wpIn_mono (Q := fun e a w => ∃ dv lv tv, Fits' n m dv lv tv a /\ mkQ (LK G Z0 ρ0 T0 w0 Nk) (fun i => LK G Z0 ρ0 T0 w0 (X i)) (LK G Z0 ρ0 T0 w0 R) e dv lv tv w) ?_ (fun e a w ⟨ds, loc, tmp, hf, hq⟩ => hQs _ _ _ _ _ _ hf hq)
 have hdr : Alike { w with drawn := w.drawn + 1 } w := ⟨rfl, rfl, rfl⟩
 have hf' := hf.same hdr
 subst hN
 refine wpIn_region_any hm (AnyI.any (cl := cl) (I := Agr Z ρ (keepT keep T) { w with drawn := w.drawn + 1 }) _ _ _ _ ?_)
 have := planW_any (P := P) (cl := cl) (oc := oc) (ro := ro) (Q := fun e a w => ∃ dv lv tv, Fits' n m dv lv tv a /\ mkQ (LK G Z0 ρ0 T0 w0 Nk) (fun i => LK G Z0 ρ0 T0 w0 (X i)) (LK G Z0 ρ0 T0 w0 R) e dv lv tv w) (l := ops.toList) (K := LK G Z0 ρ0 T0 w0 Nk) (by simpa using h1) (by simpa using h0) (fun c a a' w ⟨ds, loc, tmp, _, hq⟩ => hq.elim) h2 pl
  (Array.replicate ops.size false) (Agr Z ρ (keepT keep T) { w with drawn := w.drawn + 1 }) lv [] { w with drawn := w.drawn + 1 } a (planA_sound pl ds loc [] dv lv [] Z ρ T _ E h hf' ha.clear) (by simpa using h4) (fun _ => agr_self (hf'.st.keepT keep)) haa.clear haa.size haa.defers
  (fun loc tmp w a h1 h2 h3 hk => ⟨dv, loc, tmp, ⟨⟨_, h1⟩, h2, h3⟩, hk⟩)
 rw [h3] at this
 simpa using this
theorem SemA.draw {id : Nat} {ops : Array Oper} (keep : Nat -> Bool) (pl : List (Nat × Bool)) (hm : P.follows .mixedOrders = true)
 (hok : (Region.noSelect ops && noDefer ops && ops.toList.all (dstIn m) && pl.length == ops.size && planOK3 ops (clOf ops pl) none pl (Array.replicate ops.size false)) = true)
 (h : planA P G N n ops.toList none keep ds pl loc [] T E Nk) : SemA P G N ro n m (.region id ops true) ds loc tmp T E Nk X R := SemA.drawC (clOf ops pl) none keep pl hm hok h
theorem SemA.drawE {id : Nat} {ops : Array Oper} (cl : Nat) (keep : Nat -> Bool) (pl : List (Nat × Bool)) (hm : P.follows .mixedOrders = true)
 (hok : (Region.noSelect ops && noDefer ops && ops.toList.all (dstIn m) && pl.length == ops.size && planOK3 ops cl (some cl) pl (Array.replicate ops.size false)) = true)
 (h : planA P G N n ops.toList (some cl) keep ds pl loc [] T E Nk) : SemA P G N ro n m (.region id ops true) ds loc tmp T E Nk X R := SemA.drawC cl (some cl) keep pl hm hok h
theorem RelT.wo {tmp : List (Nat × AV)} {tv : List (Nat × Value)} {q : Nat -> Bool} (h : RelT Z ρ tmp tv) (hk : Kept q ρ ρ') : RelT Z ρ' (tmp.map fun p => (p.1, p.2.wo q)) tv := by
 induction h with
 | nil => exact .nil
 | cons h hs ih => exact .cons (h.wo hk) ih
theorem At.wo {dv : List Nat} {lv : List Value} {tv : List (Nat × Value)} {q : Nat -> Bool} (h : At Z ρ ds loc tmp dv lv tv) (hk : Kept q ρ ρ') : At Z ρ' (ds.map (AV.wo q)) (loc.map (AV.wo q)) (tmp.map fun p => (p.1, p.2.wo q)) dv lv tv :=
 ⟨h.ds.wo hk, h.loc.wo hk, h.tmp.wo hk⟩
theorem RelT.mono {tmp : List (Nat × AV)} {tv : List (Nat × Value)} (h : RelT Z ρ tmp tv) (hr : ∀ a v, Rel Z ρ a v -> Rel Z' ρ' a v) : RelT Z' ρ' tmp tv := by
 induction h with
 | nil => exact .nil
 | cons h hs ih => exact .cons (hr _ _ h) ih
theorem Frm.cut (h : Frm G Z0 ρ0 T0 w0 Z ρ T w E) (k : Nat) (hk : ρ0.length <= k) : Frm G Z0 ρ0 T0 w0 Z (ρ.take k) ((T.take k).map (AObj.wo (k <= ·))) w E := by
 obtain ⟨h1, h2⟩ := h.st.cut k
 refine ⟨h.g, h1, ⟨h.ext.le, fun i x hx hn => ?_, fun i x o b h3 h4 h5 h6 h7 => ?_⟩⟩
 . exact h2 i x (by simp; have := (List.getElem?_eq_some_iff.1 hx).1; omega) (h.ext.place i x hx hn)
 . obtain ⟨g1, o', g2, g3⟩ := h.ext.same i x o b h3 h4 h5 h6 h7
   refine ⟨g1, o'.wo (k <= ·), ?_, by rwa [AObj.live_wo]⟩
   have : i < k := by have := (List.getElem?_eq_some_iff.1 h5).1; omega
   rw [List.getElem?_map, List.getElem?_take_of_lt this, g2]; rfl
theorem SemA.cut {c : Code} (k : Nat) (hk : N <= k) (h : SemA P G N ro n m c (ds.map (AV.wo (k <= ·))) (loc.map (AV.wo (k <= ·))) (tmp.map fun p => (p.1, p.2.wo (k <= ·))) ((T.take k).map (AObj.wo (k <= ·))) E Nk X R) : SemA P G N ro n m c ds loc tmp T E Nk X R :=
 SemA.view (fun Z0 ρ0 T0 w0 Z ρ w dv lv tv hN hf ha => ⟨Z, ρ.take k, hf.cut k (by omega), ha.wo (hf.st.cut k).2⟩) h
theorem SemA.loopC {σ : Type} {c : Code} (L : σ -> List (Nat × AV)) (Tb : σ -> Tbl) (Q : σ -> Prop) (μ : σ -> Nat) (k : Nat) (s0 : σ) (Ei : Eff) (hok : codeOK m c = true) (hk : N <= k) (hQ : Q s0) (hL : Lc n (L s0) loc) (hT : T = Tb s0) (hE : ∀ x ∈ E, x ∈ Ei)
 (round : ∀ s g, Q s -> codeA P G N ro n m c ds (mkA g (L s) 0 n) [] (Tb s) Ei (fun ds' loc' _ T' E' => ds'.map (AV.wo (k <= ·)) = ds /\ (∃ s', Q s' /\ μ s' < μ s /\ Lc n (L s') (loc'.map (AV.wo (k <= ·))) /\ (T'.take k).map (AObj.wo (k <= ·)) = Tb s') /\ ∀ x ∈ E', x ∈ Ei) X R) : SemA P G N ro n m (.loop c) ds loc [] T E Nk X R := by
 intro Z0 ρ0 T0 w0 Z ρ w dv lv tv hN hf ha a haa Qs hQs
 refine wpIn_loop_ghost (fun k a w => ∃ (Z : Heap) (ρ : List BI) (s : σ) (loc : List AV) (dv : List Nat) (lv : List Value) (tv : List (Nat × Value)), Fits' n m dv lv tv a /\ Frm G Z0 ρ0 T0 w0 Z ρ (Tb s) w Ei /\ At Z ρ ds loc [] dv lv [] /\ (Q s /\ Lc n (L s) loc) /\ μ s = k)
  (μ s0) ⟨Z, ρ, s0, loc, dv, lv, tv, haa, hT ▸ hf.more hE, ha.clear, ⟨hQ, hL⟩, rfl⟩ ?_
 rintro j a w ⟨Z, ρ, s, loc, dv, lv, tv, haa, hf, hat, ⟨hI, hL⟩, rfl⟩
 obtain ⟨g, rfl⟩ := hL.elim
 have hr := codeA_sound c ds _ [] (Tb s) Ei _ _ _ (round s g hI) hok Z0 ρ0 T0 w0 Z ρ w dv lv [] hN hf hat
 refine hr a haa.cleared _ fun e dv' lv' tv' w' a' haa' hq => ?_
 cases e with
 | normal =>
   obtain ⟨Z', ρ', T', E', ds', loc', tmp', g1, g2, g3, g4, e1, ⟨s', h1, h2, h3, e2⟩, g6⟩ := hq
   have hc := (g1.more g6).cut k (by omega)
   have hw := (g1.st.cut k).2
   rw [e2] at hc
   exact ⟨_, h2, Z', _, s', _, dv', lv', tv', haa', hc, ⟨e1 ▸ g2.wo hw, g3.wo hw, .nil⟩, ⟨h1, h3⟩, rfl⟩
 | exit i => exact hQs (.exit i) _ _ _ _ _ haa' hq
 | ret => exact hQs .ret _ _ _ _ _ haa' hq
 | _ => exact hq.elim
theorem Frm.pub (h : Frm G Z0 ρ0 T0 w0 Z ρ T w E) {i : Nat} {o : AObj} (hT : T[i]? = some o) (hc : o.cs = some cs) (hcl : ∀ a ∈ cs, a.Clean) :
 ∃ Z', Frm G Z0 ρ0 T0 w0 Z' ρ ((T.map (AObj.pub i cs)).set i .gone) w (rec1 ρ0.length i false E) /\ ∀ a v, Rel Z ρ a v -> Rel Z' ρ (a.pub i cs) v := by
 obtain ⟨Z', h1, h2, h3, h4⟩ := h.st.publish hT hc hcl
 exact ⟨Z', h.step h2 h3, h4⟩
theorem RelL.pub' {vs : List Value} {i : Nat} (h : RelL Z ρ ds vs) (hr : ∀ a v, Rel Z ρ a v -> Rel Z' ρ (a.pub i cs) v) : RelL Z' ρ (ds.map (AV.pub i cs)) vs := by
 refine ⟨by simpa using h.1, fun k x y hx hy => ?_⟩
 rw [List.getElem?_map] at hx
 cases ha : ds[k]? with
 | none => rw [ha] at hx; cases hx
 | some a => rw [ha] at hx; cases hx; exact hr _ _ (h.2 k a y ha hy)
theorem SemA.pub {c : Code} (i : Nat) {o : AObj} (hT : T[i]? = some o) (hc : o.cs = some cs) (hcl : ∀ a ∈ cs, a.Clean)
 (h : SemA P G N ro n m c (ds.map (AV.pub i cs)) (loc.map (AV.pub i cs)) (tmp.map fun p => (p.1, p.2.pub i cs)) ((T.map (AObj.pub i cs)).set i .gone) (rec1 N i false E) Nk X R) : SemA P G N ro n m c ds loc tmp T E Nk X R := by
 refine SemA.view (fun Z0 ρ0 T0 w0 Z ρ w dv lv tv hN hf ha => ?_) h
 obtain ⟨Z', h1, h2⟩ := hf.pub hT hc hcl
 subst hN
 refine ⟨Z', ρ, h1, ha.ds.pub' h2, ha.loc.pub' h2, ?_⟩
 have := ha.tmp
 clear h
 induction this with
 | nil => exact .nil
 | cons h hs ih => exact .cons (h2 _ _ h) (ih ⟨ha.ds, ha.loc, hs⟩)
def SeeL (G : Nat -> AV) (N n : Nat) (ds loc : List AV) (T : Tbl) (E : Eff) (ds' : List AV) (L : List (Nat × AV)) (T' : Tbl) (E' : Eff) : Prop :=
 ∀ (Z0 : Heap) (ρ0 : List BI) (T0 : Tbl) (w0 : World) (Z : Heap) (ρ : List BI) (w : World) (dv : List Nat) (lv : List Value), ρ0.length = N -> Frm G Z0 ρ0 T0 w0 Z ρ T w E -> At Z ρ ds loc [] dv lv [] ->
  ∃ Z' ρ' loc', Frm G Z0 ρ0 T0 w0 Z' ρ' T' w E' /\ At Z' ρ' ds' loc' [] dv lv [] /\ Lc n L loc'
theorem SeeL.done {ds' : List AV} {L : List (Nat × AV)} {E' : Eff} (h : ds = ds' /\ Lc n L loc /\ T = T' /\ ∀ x ∈ E, x ∈ E') : SeeL G N n ds loc T E ds' L T' E' := by
 obtain ⟨rfl, h1, rfl, h2⟩ := h
 exact fun Z0 ρ0 T0 w0 Z ρ w dv lv hN hf ha => ⟨Z, ρ, loc, hf.more h2, ha, h1⟩
theorem SeeL.cut {ds' : List AV} {L : List (Nat × AV)} {E' : Eff} (k : Nat) (hk : N <= k) (h : SeeL G N n (ds.map (AV.wo (k <= ·))) (loc.map (AV.wo (k <= ·))) ((T.take k).map (AObj.wo (k <= ·))) E ds' L T' E') : SeeL G N n ds loc T E ds' L T' E' :=
 fun Z0 ρ0 T0 w0 Z ρ w dv lv hN hf ha => h Z0 ρ0 T0 w0 Z _ w dv lv hN (hf.cut k (by omega)) (ha.wo (hf.st.cut k).2)
theorem SeeL.pub {ds' : List AV} {L : List (Nat × AV)} {E' : Eff} (i : Nat) {o : AObj} (hT : T[i]? = some o) (hc : o.cs = some cs) (hcl : ∀ a ∈ cs, a.Clean) (h : SeeL G N n (ds.map (AV.pub i cs)) (loc.map (AV.pub i cs)) ((T.map (AObj.pub i cs)).set i .gone) (rec1 N i false E) ds' L T' E') : SeeL G N n ds loc T E ds' L T' E' := by
 intro Z0 ρ0 T0 w0 Z ρ w dv lv hN hf ha
 obtain ⟨Z', h1, h2⟩ := hf.pub hT hc hcl
 subst hN
 exact h Z0 ρ0 T0 w0 Z' ρ w dv lv rfl h1 ⟨ha.ds.pub' h2, ha.loc.pub' h2, .nil⟩
theorem SemA.loopV {σ : Type} {c : Code} (L : σ -> List (Nat × AV)) (Tb : σ -> Tbl) (Q : σ -> Prop) (μ : σ -> Nat) (s0 : σ) (Ei : Eff) (hok : codeOK m c = true) (hQ : Q s0) (hL : Lc n (L s0) loc) (hT : T = Tb s0) (hE : ∀ x ∈ E, x ∈ Ei)
 (round : ∀ s g, Q s -> codeA P G N ro n m c ds (mkA g (L s) 0 n) [] (Tb s) Ei (fun ds' loc' _ T' E' => ∃ s', Q s' /\ μ s' < μ s /\ SeeL G N n ds' loc' T' E' ds (L s') (Tb s') Ei) X R) : SemA P G N ro n m (.loop c) ds loc [] T E Nk X R := by
 intro Z0 ρ0 T0 w0 Z ρ w dv lv tv hN hf ha a haa Qs hQs
 refine wpIn_loop_ghost (fun k a w => ∃ (Z : Heap) (ρ : List BI) (s : σ) (loc : List AV) (dv : List Nat) (lv : List Value) (tv : List (Nat × Value)), Fits' n m dv lv tv a /\ Frm G Z0 ρ0 T0 w0 Z ρ (Tb s) w Ei /\ At Z ρ ds loc [] dv lv [] /\ (Q s /\ Lc n (L s) loc) /\ μ s = k)
  (μ s0) ⟨Z, ρ, s0, loc, dv, lv, tv, haa, hT ▸ hf.more hE, ha.clear, ⟨hQ, hL⟩, rfl⟩ ?_
 rintro j a w ⟨Z, ρ, s, loc, dv, lv, tv, haa, hf, hat, ⟨hI, hL⟩, rfl⟩
 obtain ⟨g, rfl⟩ := hL.elim
 have hr := codeA_sound c ds _ [] (Tb s) Ei _ _ _ (round s g hI) hok Z0 ρ0 T0 w0 Z ρ w dv lv [] hN hf hat
 refine hr a haa.cleared _ fun e dv' lv' tv' w' a' haa' hq => ?_
 cases e with
 | normal =>
   obtain ⟨Z', ρ', T', E', ds', loc', tmp', g1, g2, g3, g4, s', h1, h2, hv⟩ := hq
   obtain ⟨Z2, ρ2, loc2, k1, k2, k3⟩ := hv Z0 ρ0 T0 w0 Z' ρ' w' dv' lv' hN g1 ⟨g2, g3, .nil⟩
   exact ⟨_, h2, Z2, ρ2, s', loc2, dv', lv', tv', haa', k1, k2, ⟨h1, k3⟩, rfl⟩
 | exit i => exact hQs (.exit i) _ _ _ _ _ haa' hq
 | ret => exact hQs .ret _ _ _ _ _ haa' hq
 | _ => exact hq.elim
def rsA (P : Program) (loc : List AV) (T : Tbl) : List ResultVar -> (List AV -> Prop) -> Prop
 | [], K => K []
 | .tmp t :: r, K => rsA P loc T r fun l => K (loc.getD t .any :: l)
 | .cell t ty :: r, K => loadA P ty (loc.getD t .any) T fun v => rsA P loc T r fun l => K (v :: l)
def oneA (l : List AV) (K : AV -> Prop) : Prop := match l with
 | [v] => K v
 | l => K (.tu l)
def resA (P : Program) (rs : List ResultVar) (loc : List AV) (T : Tbl) (K : AV -> Prop) : Prop := rsA P loc T rs fun l => oneA l K
def rsLt (n : Nat) : List ResultVar -> Bool
 | [] => true
 | .tmp t :: r => decide (t < n) && rsLt n r
 | .cell t _ :: r => decide (t < n) && rsLt n r
def defO (o : AObj) (A : Prop) (_ : Tag A := .mk) : Prop := match o with
 | .raw (.deferred (some [])) => A
 | _ => False
def retA (P : Program) (rs : List ResultVar) (K : AV -> Tbl -> Eff -> Prop) : AKont := fun ds loc _ T E => match ds with
 | [] => resA P rs loc T fun v => K v T E
 | [.ptr i 0] => getO T[i]? fun o => defO o (resA P rs loc (T.set i (.raw (.deferred none))) fun v => K v (T.set i (.raw (.deferred none))) ((i, false) :: E))
 | _ => False
theorem getD_rel {vs : List Value} (h : RelL Z ρ loc vs) (t : Nat) : Rel Z ρ (loc.getD t .any) (vs.getD t undef) := by
 by_cases hk : t < loc.length
 . have h2 : t < vs.length := by rw [<- h.1]; exact hk
   have := h.2 t loc[t] vs[t] (by simp [hk]) (by simp [h2])
   simpa [List.getD, hk, h2] using this
 . rw [show loc.getD t .any = .any by rw [List.getD_eq_getElem?_getD, List.getElem?_eq_none (Nat.le_of_not_lt hk)]; rfl]; exact .any _
def rsF (tmps : Array Value) : ResultVar -> Sem Value
 | .tmp t => pure (tmps.getD t undef)
 | .cell a t => do loadVar t (<- asAddr (tmps.getD a undef))
theorem rsF_tmp (tmps : Array Value) (t : Tmp) (w : World) : (rsF tmps (.tmp t)).run P w = .ok (tmps.getD t undef) w := by simp [rsF]
theorem rsF_cell {tmps : Array Value} {t : Tmp} {ty : TypeId} {p : Addr} {v : Value} (h : tmps.getD t undef = .pointer (some p)) (hv : (Instr.loadAt ty (.pointer (some p))).run P w = .ok v w) : (rsF tmps (.cell t ty)).run P w = .ok v w := by
 simp only [rsF, h, asAddr, Sem.run_bind, Sem.run_pure, Result.andThen_ok]
 simpa [Instr.loadAt, Instr.sureAddr] using hv
theorem rsF_mapM {tmps : Array Value} {x : ResultVar} {r : List ResultVar} {v : Value} {vs : List Value} (h : (rsF tmps x).run P w = .ok v w) (h' : (r.mapM (rsF tmps)).run P w = .ok vs w) : ((x :: r).mapM (rsF tmps)).run P w = .ok (v :: vs) w := by
 simp only [List.mapM_cons, Sem.run_bind, h, h', Result.andThen_ok, Sem.run_pure]
theorem rsA_run (hs : St Z ρ T w) {lv : List Value} (hl : RelL Z ρ loc lv) : ∀ (rs : List ResultVar) (K : List AV -> Prop), rsA P loc T rs K -> ∃ (l : List AV) (vs : List Value), RelL Z ρ l vs /\ K l /\ l.length = rs.length /\
 ∀ (n : Nat) (tmps : Array Value), rsLt n rs = true -> (∀ t, t < n -> tmps.getD t undef = lv.getD t undef) -> (rs.mapM (rsF tmps)).run P w = .ok vs w
 | [], K, h => ⟨[], [], .nil, h, rfl, fun n tmps _ _ => by simp⟩
 | .tmp t :: r, K, h => by
   obtain ⟨l, vs, h1, h2, h3, h4⟩ := rsA_run hs hl r _ h
   refine ⟨_, _ :: vs, .cons (getD_rel hl t) h1, h2, by simp [h3], fun n tmps hn ht => ?_⟩
   simp only [rsLt, Bool.and_eq_true, decide_eq_true_eq] at hn
   rw [<- ht t hn.1]
   exact rsF_mapM (rsF_tmp tmps t w) (h4 n tmps hn.2 ht)
 | .cell t ty :: r, K, h => by
   have h0 := loadA_sound hs (getD_rel hl t) h
   obtain ⟨p, hp, v, hv, a, ha, hk⟩ := ptrV_elim h0
   obtain ⟨l, vs, h1, h2, h3, h4⟩ := rsA_run hs hl r _ hk
   refine ⟨_, v :: vs, .cons ha h1, h2, by simp [h3], fun n tmps hn ht => ?_⟩
   simp only [rsLt, Bool.and_eq_true, decide_eq_true_eq] at hn
   have e := ht t hn.1
   rw [hp] at e
   have hv' := hv w (agr_self hs)
   cases p with
   | none => simp [Instr.loadAt, Instr.sureAddr, stuck] at hv'
   | some p => exact rsF_mapM (rsF_cell e hv') (h4 n tmps hn.2 ht)
theorem resA_sound {fn : Func} (hf : Frm G Z0 ρ0 T0 w0 Z ρ T w E) {lv : List Value} (hl : RelL Z ρ loc lv) (hn : rsLt n fn.results.toList = true) (h : resA P fn.results.toList loc T fun v => K v T E) :
 ResP P fn n (Post Z0 ρ0 T0 w0 K) [] lv w := by
 obtain ⟨l, vs, h1, h2, h3, h4⟩ := rsA_run hf.st hl _ _ h
 refine ResP.run (v := if h : vs.toArray.size = 1 then vs.toArray[0] else .tuple vs.toArray) (fun tmps ht => ?_) ?_
 . have := h4 n tmps hn ht
   have e : results fn tmps = (do
    let vs <- fn.results.mapM (rsF tmps)
    pure (if h : vs.size = 1 then vs[0] else .tuple vs)) := by
    unfold results
    congr 2
   rw [e, Array.mapM_eq_mapM_toList]
   simp [this]
 . unfold oneA at h2
   split at h2
   . obtain ⟨v, us, rfl, h5, h6⟩ := h1.uncons
     cases h6.unnil
     exact ⟨Z, ρ, T, E, _, hf.st, hf.ext, by simpa using h5, h2⟩
   . rename_i hne
     have hv : ¬ vs.toArray.size = 1 := by
      intro hs
      have : vs.length = 1 := by simpa using hs
      rw [<- h1.1] at this
      match l, this with
      | [x], _ => exact hne x rfl
     rw [dif_neg hv]
     exact ⟨Z, ρ, T, E, _, hf.st, hf.ext, Rel.tu' h1, h2⟩
theorem retA_sound {fn : Func} (hf : Frm G Z0 ρ0 T0 w0 Z ρ T w E) {dv : List Nat} {lv : List Value} (hd : RelL Z ρ ds (dv.map fun b => .pointer (some ⟨b, 0, none⟩))) (hl : RelL Z ρ loc lv) (hn : rsLt n fn.results.toList = true) (h : retA P fn.results.toList K ds loc tmp T E) :
 ResP P fn n (Post Z0 ρ0 T0 w0 K) dv lv w := by
 unfold retA at h
 split at h
 . have hdv : dv = [] := by have := hd.unnil; simpa using this
   subst hdv
   exact resA_sound hf hl hn h
 . rename_i i
   obtain ⟨o, hT, h⟩ := getO_elim h
   unfold defO at h
   split at h
   . obtain ⟨v, us, hv, hr, hrs⟩ := hd.uncons
     have hus := hrs.unnil
     subst hus
     obtain ⟨b, rfl, hb⟩ : ∃ b, dv = [b] /\ v = .pointer (some ⟨b, 0, none⟩) := by
      cases dv with
      | nil => cases hv
      | cons b r => cases r with
        | nil => simp at hv; exact ⟨b, rfl, hv.symm⟩
        | cons c r => simp at hv
     subst hb
     cases hr with
     | @ptr _ _ _ _ x hx hb =>
     obtain ⟨b', g1, g2⟩ := hf.st.obj _ _ _ hT hx
     rw [hb] at g1; cases g1
     have hb' : b < w.heap.size := (Array.getElem?_eq_some_iff.1 g2).1
     refine ⟨_, run_takeDeferred g2, ?_⟩
     obtain ⟨k1, k2⟩ := hf.st.write (w' := w.putObj b (.deferred none)) hT hx rfl (.raw (.deferred none)) rfl (fun k hk => World.putObj_heap_other fun e => hk (by rw [e]; exact hb)) ⟨rfl, rfl⟩ ⟨b, hb, World.putObj_heap_same hb'⟩
     have hf' := hf.step k1 k2
     have hl' : RelL Z ρ loc lv := hl
     have hE : Frm G Z0 ρ0 T0 w0 Z ρ (T.set i (.raw (.deferred none))) (w.putObj b (.deferred none)) ((i, false) :: E) := ⟨hf'.g, hf'.st, hf'.ext.more fun x hx _ => by
      rcases recE_mem.1 hx with ⟨h1, _⟩ | h1
      . simp at h1; simp [h1]
      . simp [h1]⟩
     exact resA_sound hE hl' hn h
   . exact h.elim
 . exact h.elim
theorem Ret.enterS {f : FuncId} {fn : Func} {c : Code} {args : Array Value} {Q : Value -> World -> Prop} (n : Nat)
 (hf : P.funcs[f]? = some fn) (hb : fn.body = some c) (hn : (args.size <= n /\ n <= fn.ntmps))
 (hs : SemV P none n fn.ntmps c [] (args.toList ++ List.replicate (n - args.size) undef) [] w (mkQ (retQ P fn n Q) (fun _ _ _ _ _ => False) (retQ P fn n Q))) : Ret P f args w Q := by
 refine callsIn_wide (n := 0).1 (callsIn_of_wp_marks hf hb trivial ?_)
 refine hs { tmps := args ++ Array.replicate (fn.ntmps - args.size) undef, defers := [] } ⟨⟨fun _ => undef, by simp; omega, by simp; omega, fun t ht => ?_, fun t ht => ?_⟩, by simp; omega, rfl⟩ _ ?_
 . simp only [Array.getD_eq_getD_getElem?, List.getD_eq_getElem?_getD]
   by_cases h1 : t < args.size
   . rw [Array.getElem?_append_left h1, List.getElem?_append_left (by simpa using h1), Array.getElem?_toList]
   . rw [Array.getElem?_append_right (by omega), List.getElem?_append_right (by simp; omega)]
     simp only [Array.getElem?_replicate, List.getElem?_replicate, Array.length_toList]
     rw [if_pos (by omega), if_pos (by omega)]
 . simp only [Array.getD_eq_getD_getElem?, lk]
   rw [Array.getElem?_append_right (by omega), Array.getElem?_replicate]
   split <;> rfl
 . intro e ds loc tmp w a ha hq
   have key : ResP P fn n Q ds loc w -> LeavesInM Fence.wide 0 P fn a.tmps (fun e w' => ∃ v, e = .returned v /\ Q v w') a.defers .returning w := by
    intro hr
    obtain ⟨base, _, _, h3, _⟩ := ha.base
    rw [ha.defers]
    exact hr.leaves _ _ _ h3
   cases e with
   | normal => exact key hq
   | ret => exact key hq
   | _ => exact hq.elim
theorem CallA.enter {f : FuncId} {fn : Func} {c : Code} {args : List AV} (n : Nat) (hf : P.funcs[f]? = some fn) (hb : fn.body = some c) (hn : (args.length <= n /\ n <= fn.ntmps)) (hok : codeOK fn.ntmps c = true) (hr : rsLt n fn.results.toList = true)
 (h : codeA P G T.length none n fn.ntmps c [] (args ++ List.replicate (n - args.length) (.p undef)) [] T [] (retA P fn.results.toList K) (fun _ _ _ _ _ _ => False) (retA P fn.results.toList K)) : CallA P G f args T K := by
 intro Z ρ w vs hG hs ha
 have hl := ha.1
 refine Ret.enterS n hf hb ⟨by simp; omega, hn.2⟩ ?_
 have hsem := codeA_sound c _ _ _ _ _ _ _ _ h hok Z ρ T w Z ρ w [] (vs ++ List.replicate (n - vs.length) undef) [] hs.len ⟨hG, hs, Ext.refl rfl⟩ ⟨.nil, ha.append (by rw [hl]; have := RelL.ps (Z := Z) (ρ := ρ) (List.replicate (n - vs.length) undef); rwa [List.map_replicate] at this), .nil⟩
 have e : (vs.toArray.toList ++ List.replicate (n - vs.toArray.size) undef) = vs ++ List.replicate (n - vs.length) undef := by simp
 rw [e]
 refine hsem.mono fun e dv lv tv w' hq => ?_
 cases e with
 | normal => obtain ⟨Z', ρ', T', E', ds', loc', tmp', g1, g2, g3, g4, g5⟩ := hq; exact retA_sound g1 g2 g3 hr g5
 | ret => obtain ⟨Z', ρ', T', E', ds', loc', tmp', g1, g2, g3, g4, g5⟩ := hq; exact retA_sound g1 g2 g3 hr g5
 | exit i => obtain ⟨Z', ρ', T', E', ds', loc', tmp', g1, g2, g3, g4, g5⟩ := hq; exact g5.elim
 | _ => exact hq.elim
def Vw (G : Nat -> AV) (T0 : Tbl) (K : AV -> Tbl -> Eff -> Prop) (v : AV) (T : Tbl) (E : Eff) (_ : Tag K := .mk) : Prop :=
 ∀ (Z0 : Heap) (ρ0 : List BI) (w0 : World) (Z : Heap) (ρ : List BI) (w : World) (x : Value), St Z0 ρ0 T0 w0 -> Frm G Z0 ρ0 T0 w0 Z ρ T w E -> Rel Z ρ v x -> Post Z0 ρ0 T0 w0 K x w
theorem Vw.done {v : AV} (h : K v T E) : Vw G T0 K v T E := fun Z0 ρ0 w0 Z ρ w x _ hf hr => ⟨Z, ρ, T, E, v, hf.st, hf.ext, hr, h⟩
theorem Vw.cut {v : AV} {l : Tbl} (h : K (v.wo (T0.length <= ·)) T0 E) : Vw G T0 K v (T0 ++ l) E := by
 intro Z0 ρ0 w0 Z ρ w x hs hf hr
 have hc := hf.cut T0.length (by rw [hs.len]; exact Nat.le_refl _)
 rw [List.take_left, hs.wf (fun i hi => by simp; omega)] at hc
 exact ⟨Z, _, T0, E, _, hc.st, hc.ext, hr.wo (hf.st.cut T0.length).2, h⟩
theorem Vw.cutN {v : AV} (n : Nat) (hn : T0.length <= n) (h : Vw G T0 K (v.wo (n <= ·)) ((T.take n).map (AObj.wo (n <= ·))) E) : Vw G T0 K v T E := by
 intro Z0 ρ0 w0 Z ρ w x hs hf hr
 exact h Z0 ρ0 w0 Z _ w x hs (hf.cut n (by rw [hs.len]; exact hn)) (hr.wo (hf.st.cut n).2)
theorem Vw.pub {v : AV} (i : Nat) {o : AObj} (hT : T[i]? = some o) (hc : o.cs = some cs) (hcl : ∀ a ∈ cs, a.Clean) (h : Vw G T0 K (v.pub i cs) ((T.map (AObj.pub i cs)).set i .gone) (rec1 T0.length i false E)) : Vw G T0 K v T E := by
 intro Z0 ρ0 w0 Z ρ w x hs hf hr
 obtain ⟨Z', h1, h2⟩ := hf.pub hT hc hcl
 rw [hs.len] at h1
 exact h Z0 ρ0 w0 Z' ρ w x hs h1 (h2 _ _ hr)
theorem CallA.enterV {f : FuncId} {fn : Func} {c : Code} {args : List AV} {m : Nat} {rs : List ResultVar} (n : Nat) (hf : P.funcs[f]? = some fn) (hm : fn.ntmps = m) (hrs : fn.results.toList = rs) (hb : fn.body = some c) (hn : (args.length <= n /\ n <= m)) (hok : codeOK m c = true) (hr : rsLt n rs = true)
 (h : codeA P G T.length none n m c [] (args ++ List.replicate (n - args.length) (.p undef)) [] T [] (retA P rs (Vw G T K)) (fun _ _ _ _ _ _ => False) (retA P rs (Vw G T K))) : CallA P G f args T K := by
 subst hm; subst hrs
 have := CallA.enter n hf hb hn hok hr h
 intro Z ρ w vs hG hs ha
 refine (this Z ρ w vs hG hs ha).mono fun x w' ⟨Z', ρ', T', es, a, h1, h2, h3, h4⟩ => ?_
 exact h4 Z ρ w Z' ρ' w' x hs ⟨hG.mono h2.le, h1, h2⟩ h3
theorem CallA.eV {f : FuncId} {fn : Func} {c : Code} {args : List AV} {m : Nat} {rs : List ResultVar} (n : Nat) (hf : P.funcs[f]? = some fn) (hm : fn.ntmps = m) (hrs : fn.results = List.toArray rs) (h : codeA P G T.length none n m c [] (args ++ List.replicate (n - args.length) (.p undef)) [] T [] (retA P rs (Vw G T K)) (fun _ _ _ _ _ _ => False) (retA P rs (Vw G T K)))
 (hb : fn.body = some c := by exact rfl) (hn : (args.length <= n /\ n <= m) := by exact ⟨by simp, by simp⟩) (hok : codeOK m c = true := by kernel_rfl) (hr : rsLt n rs = true := by kernel_rfl) : CallA P G f args T K := CallA.enterV n hf hm (congrArg Array.toList hrs) hb hn hok hr h
theorem CallA.mono {f : FuncId} {args : List AV} {K' : AV -> Tbl -> Eff -> Prop} (h : CallA P G f args T K) (hk : ∀ v T E, K v T E -> K' v T E) : CallA P G f args T K' := by
 intro Z ρ w vs hG hs ha
 refine (h Z ρ w vs hG hs ha).mono fun v w' ⟨Z', ρ', T', es, a, h1, h2, h3, h4⟩ => ⟨Z', ρ', T', es, a, h1, h2, h3, hk _ _ _ h4⟩
theorem CallA.wf {f : FuncId} {args : List AV} (h : (∀ q : Nat -> Bool, (∀ i, i < T.length -> q i = false) -> T.map (AObj.wo q) = T /\ args.map (AV.wo q) = args) -> CallA P G f args T K) : CallA P G f args T K := by
 intro Z ρ w vs hG hs ha
 exact h (fun q hq => ⟨hs.wf hq, ha.wo_eq (by rw [hs.len]; exact hq)⟩) Z ρ w vs hG hs ha
theorem CallA.det {f : FuncId} {args : List AV} {r : AV} (h : CallA P G f args T fun v T' es => v = r /\ T' = T /\ es = []) (hk : K r T []) : CallA P G f args T K :=
 h.mono fun v T' es ⟨h1, h2, h3⟩ => by subst h1; subst h2; subst h3; exact hk
end
end Go.E
namespace Go.E
theorem moved1 (i : Nat) : moved [(i, true)] = (· == i) := by funext j; simp only [moved, Bool.true_and, Bool.or_false]; rfl
theorem slots1 (i : Nat) (l : List AV) : slots [(i, true)] l = l.map (AV.wo (· == i)) := by show l.map (AV.wo (moved [(i, true)])) = _; rw [moved1]
theorem slotsT1 (i : Nat) (l : List (Nat × AV)) : slotsT [(i, true)] l = l.map fun p => (p.1, p.2.wo (· == i)) := by show (l.map fun p => (p.1, p.2.wo (moved [(i, true)]))) = _; rw [moved1]
theorem and_self_of {p q : Prop} (h : p) : (p /\ q) = q := by simp [h]
theorem get_app (a b : Tbl) (k : Nat) : (a ++ b)[a.length + k]? = b[k]? := by rw [List.getElem?_append_right (by omega)]; congr 1; omega
theorem get_app0 (a b : Tbl) : (a ++ b)[a.length]? = b[0]? := by rw [List.getElem?_append_right (by omega)]; congr 1; omega
theorem take_app (a b : Tbl) (k : Nat) : (a ++ b).take (a.length + k) = a ++ b.take k := by rw [List.take_append, List.take_of_length_le (by omega)]; congr 2; omega
theorem beq_app (n k j : Nat) : (n + k == n + j) = (k == j) := by rw [Bool.eq_iff_iff]; simp
set_option maxRecDepth 100000 in
theorem va :
 (∀ (t : Nat), lkA [] t = (AV.any)) /\
 (∀ (s : Nat) (a : AV) (r : List (Nat × AV)) (t : Nat), lkA ((s, a) :: r) t = (if t = s then a else lkA r t)) /\
 (∀ (G : Nat -> AV) (n : Nat) (loc : List AV) (tmp : List (Nat × AV)) (t : Nat), evA G n loc tmp (.tmp t) = (if t < n then loc.getD t .any else lkA tmp t)) /\
 (∀ (G : Nat -> AV) (n : Nat) (loc : List AV) (tmp : List (Nat × AV)) (v : Value), evA G n loc tmp (.const v) = (.p v)) /\
 (∀ (G : Nat -> AV) (n : Nat) (loc : List AV) (tmp : List (Nat × AV)) (g : Nat), evA G n loc tmp (.global g) = (G g)) /\
 (∀ (G : Nat -> AV) (n : Nat) (loc : List AV) (tmp : List (Nat × AV)) (f : Nat), evA G n loc tmp (.func f) = (.p (.func (.func f) #[] #[]))) /\
 (∀ (n : Nat) (a : AV) (loc : List AV) (tmp : List (Nat × AV)) (K2 : List AV -> List (Nat × AV) -> Prop), putA n none a loc tmp K2 = (K2 loc tmp)) /\
 (∀ (n : Nat) (d : Tmp) (a : AV) (loc : List AV) (tmp : List (Nat × AV)) (K2 : List AV -> List (Nat × AV) -> Prop), putA n (some d) a loc tmp K2 = (if d < n then K2 (loc.set d a) tmp else K2 loc ((d, a) :: tmp))) /\
 (∀ (l : List AV), slots [] l = (l)) /\
 (∀ (i : Nat) (l : List AV), slots [(i, false)] l = (l)) /\
 (∀ (i : Nat) (l : List AV), slots [(i, true)] l = (l.map (AV.wo (· == i)))) /\
 (∀ (tmp : List (Nat × AV)), slotsT [] tmp = (tmp)) /\
 (∀ (i : Nat) (tmp : List (Nat × AV)), slotsT [(i, false)] tmp = (tmp)) /\
 (∀ (i : Nat) (tmp : List (Nat × AV)), slotsT [(i, true)] tmp = (tmp.map fun p => (p.1, p.2.wo (· == i)))) /\
 (∀ (q : Nat -> Bool) (v : Value), AV.wo q (.p v) = (.p v)) /\
 (∀ (q : Nat -> Bool), AV.wo q .any = (.any)) /\
 (∀ (q : Nat -> Bool) (cs : List AV) (off : Nat), AV.wo q (.vp cs off) = (.vp cs off)) /\
 (∀ (q : Nat -> Bool) (cs : List AV) (n : Nat), AV.wo q (.vs cs n) = (.vs cs n)) /\
 (∀ (q : Nat -> Bool) (i : Nat) (off : Nat), AV.wo q (.ptr i off) = (if q i then .any else .ptr i off)) /\
 (∀ (q : Nat -> Bool) (i : Nat) (off : Nat) (n : Nat), AV.wo q (.sl i off n) = (if q i then .any else .sl i off n)) /\
 (∀ (q : Nat -> Bool) (i : Nat), AV.wo q (.mp i) = (if q i then .any else .mp i)) /\
 (∀ (q : Nat -> Bool) (cs : List AV), AV.wo q (.ag cs) = (.ag (cs.map (AV.wo q)))) /\
 (∀ (q : Nat -> Bool) (cs : List AV), AV.wo q (.tu cs) = (.tu (cs.map (AV.wo q)))) /\
 (∀ (q : Nat -> Bool) (ty : TypeId) (cs : List AV), AObj.wo q (.cells ty cs) = (.cells ty (cs.map (AV.wo q)))) /\
 (∀ (q : Nat -> Bool) (ty : TypeId) (sz : Nat) (cs : List AV), AObj.wo q (.buf ty sz cs) = (.buf ty sz (cs.map (AV.wo q)))) /\
 (∀ (q : Nat -> Bool), AObj.wo q .gone = (.gone)) /\
 (∀ (q : Nat -> Bool) (hob : Obj), AObj.wo q (.raw hob) = (.raw hob)) /\
 (∀ (q : Nat -> Bool) (hob : Obj) (cs : List AV) (lv : List Value), AObj.wo q (.rcd hob cs lv) = (.rcd hob (cs.map (AV.wo q)) lv)) /\
 (∀ (i : Nat) (cs : List AV) (v : Value), AV.pub i cs (.p v) = (.p v)) /\
 (∀ (i : Nat) (cs : List AV), AV.pub i cs .any = (.any)) /\
 (∀ (i : Nat) (cs : List AV) (l : List AV) (off : Nat), AV.pub i cs (.vp l off) = (.vp l off)) /\
 (∀ (i : Nat) (cs : List AV) (l : List AV) (n : Nat), AV.pub i cs (.vs l n) = (.vs l n)) /\
 (∀ (i : Nat) (cs : List AV) (j : Nat) (off : Nat), AV.pub i cs (.ptr j off) = (if j = i then .vp cs off else .ptr j off)) /\
 (∀ (i : Nat) (cs : List AV) (j : Nat) (off : Nat) (n : Nat), AV.pub i cs (.sl j off n) = (if j = i then .vs (if off = 0 then cs else cs.drop off) n else .sl j off n)) /\
 (∀ (i : Nat) (cs : List AV) (l : List AV), AV.pub i cs (.tu l) = (.tu (l.map (AV.pub i cs)))) /\
 (∀ (i : Nat) (vs : List AV) (ty : TypeId) (cs : List AV), AObj.pub i vs (.cells ty cs) = (.cells ty (cs.map (AV.pub i vs)))) /\
 (∀ (i : Nat) (vs : List AV) (ty : TypeId) (sz : Nat) (cs : List AV), AObj.pub i vs (.buf ty sz cs) = (.buf ty sz (cs.map (AV.pub i vs)))) /\
 (∀ (i : Nat) (vs : List AV), AObj.pub i vs .gone = (.gone)) /\
 (∀ (n : Nat) (E : Eff), recE n [] E = (E)) /\
 (∀ (n : Nat) (i : Nat) (bb : Bool) (es : Eff) (E : Eff), recE n ((i, bb) :: es) E = (rec1 n i bb (recE n es E))) /\
 (∀ (n : Nat) (bb : Bool) (E : Eff), rec1 n n bb E = (E)) /\
 (∀ (n : Nat) (k : Nat) (bb : Bool) (E : Eff), rec1 n (n + k) bb E = (E)) /\
 (∀ (i : Nat) (bb : Bool) (E : Eff), rec1 0 i bb E = (E)) /\
 (∀ (ops : List Oper) (dd : Option Tmp) (o : Op) (ty : TypeId) (pos : String) (after : Array Edge) (look : Operand -> AV) (A : Prop) (B : Prop), grdA ops ⟨dd, o, ty, pos, after, none⟩ look A B = (A)) /\
 (∀ (ops : List Oper) (dd : Option Tmp) (o : Op) (ty : TypeId) (pos : String) (after : Array Edge) (j : Nat) (bb : Bool) (look : Operand -> AV) (A : Prop) (B : Prop), grdA ops ⟨dd, o, ty, pos, after, some (j, bb)⟩ look A B = (isP (gvaloA (ops[j]?) look) fun v => GuardP v bb A B)) /\
 (∀ (d : Tmp) (o : Op) (ty : TypeId) (pos : String) (after : Array Edge) (gd : Option (Nat × Bool)) (look : Operand -> AV), gvaloA (some ⟨some d, o, ty, pos, after, gd⟩) look = (look (.tmp d))) /\
 (∀ (v : Value) (KV : Value -> Prop), isP (.p v) KV = (KV v)) /\
 (∀ (P : Program) (G : Nat -> AV) (N : Nat) (n : Nat) (ops : List Oper) (ds : List AV) (loc : List AV) (tmp : List (Nat × AV)) (Tb : Tbl) (E : Eff) (K : AKont), opsA P G N n ops ds [] loc tmp Tb E K = (K ds loc tmp Tb E)) /\
 (∀ (P : Program) (G : Nat -> AV) (N : Nat) (n : Nat) (ops : List Oper) (ds : List AV) (dd : Option Tmp) (o : Op) (ty : TypeId) (pos : String) (after : Array Edge) (gd : Option (Nat × Bool)) (rs : List Oper) (loc : List AV) (tmp : List (Nat × AV)) (Tb : Tbl) (E : Eff) (K : AKont), opsA P G N n ops ds (⟨dd, o, ty, pos, after, gd⟩ :: rs) loc tmp Tb E K = (grdA ops ⟨dd, o, ty, pos, after, gd⟩ (evA G n loc tmp) (opA P G (evA G n loc tmp) o ty Tb fun v T' es => putA n dd v (slots es loc) (slotsT es tmp) fun loc tmp => opsA P G N n ops (slots es ds) rs loc tmp T' (recE N es E) K) (putA n dd (.p undef) loc tmp fun loc tmp => opsA P G N n ops ds rs loc tmp Tb E K))) /\
 (∀ (P : Program) (G : Nat -> AV) (N : Nat) (n : Nat) (ops : List Oper) (cl : Option Nat) (keep : Nat -> Bool) (ds : List AV) (loc : List AV) (tmp : List (Nat × AV)) (Tb : Tbl) (E : Eff) (K : AKont), planA P G N n ops cl keep ds [] loc tmp Tb E K = (K ds loc tmp Tb E)) /\
 (∀ (P : Program) (G : Nat -> AV) (N : Nat) (n : Nat) (ops : List Oper) (cl : Option Nat) (keep : Nat -> Bool) (ds : List AV) (i : Nat) (pl : List (Nat × Bool)) (loc : List AV) (tmp : List (Nat × AV)) (Tb : Tbl) (E : Eff) (K : AKont), planA P G N n ops cl keep ds ((i, true) :: pl) loc tmp Tb E K = (planOA ops ops[i]? (evA G n loc tmp) (fun o => rdF P (evA G n loc tmp) o.op o.type (keepT keep Tb) fun v => putA n o.dst v loc tmp fun loc tmp => planA P G N n ops cl keep ds pl loc tmp Tb E K) (fun o => putA n o.dst (.p undef) loc tmp fun loc tmp => planA P G N n ops cl keep ds pl loc tmp Tb E K))) /\
 (∀ (P : Program) (G : Nat -> AV) (N : Nat) (n : Nat) (ops : List Oper) (cl : Option Nat) (keep : Nat -> Bool) (ds : List AV) (i : Nat) (pl : List (Nat × Bool)) (loc : List AV) (tmp : List (Nat × AV)) (Tb : Tbl) (E : Eff) (K : AKont), planA P G N n ops cl keep ds ((i, false) :: pl) loc tmp Tb E K = (planOA ops ops[i]? (evA G n loc tmp) (fun o => opA P G (evA G n loc tmp) o.op o.type Tb fun v T' es => putA n o.dst v (slots es loc) (slotsT es tmp) fun loc tmp => (keepOK keep es = true ∨ pl = [] ∨ some i = cl) /\ planA P G N n ops cl keep (slots es ds) pl loc tmp T' (recE N es E) K) (fun o => putA n o.dst (.p undef) loc tmp fun loc tmp => planA P G N n ops cl keep ds pl loc tmp Tb E K))) /\
 (∀ (ops : List Oper) (oper : Oper) (look : Operand -> AV) (AO : Oper -> Prop) (BO : Oper -> Prop), planOA ops (some oper) look AO BO = (grdA ops oper look (AO oper) (BO oper))) /\
 (∀ (Tb : Tbl) (keep : Nat -> Bool) (i : Nat), (keepT keep Tb)[i]? = (Tb[i]?.map (keepO keep i))) /\
 (∀ (keep : Nat -> Bool), keepOK keep [] = (true)) /\
 (∀ (keep : Nat -> Bool) (i : Nat) (bb : Bool) (es : Eff), keepOK keep ((i, bb) :: es) = ((!keep i && keepOK keep es))) /\
 (∀ (keep : Nat -> Bool) (i : Nat) (ob : AObj), keepO keep i ob = (match keep i with | true => ob | false => .gone)) /\
 (∀ (e : TypeId) (pr_ : List (Nat × Operand)) (P : Program) (ρ : Operand -> AV) (ty : TypeId) (Tb : Tbl) (KA : AV -> Prop), rdF P ρ (.build e ⟨pr_⟩) ty Tb KA = (bldA P e (pr_.map fun p => (p.1, ρ p.2)) KA)) /\
 (∀ (xo : Operand) (P : Program) (ρ : Operand -> AV) (ty : TypeId) (Tb : Tbl) (KA : AV -> Prop), rdA P ρ (.move xo) ty Tb KA = (KA (ρ xo))) /\
 (∀ (xo : Operand) (P : Program) (ρ : Operand -> AV) (ty : TypeId) (Tb : Tbl) (KA : AV -> Prop), rdF P ρ (.move xo) ty Tb KA = (KA (ρ xo))) /\
 (∀ (xo : Operand) (P : Program) (ρ : Operand -> AV) (ty : TypeId) (Tb : Tbl) (KA : AV -> Prop), rdA P ρ (.assign xo) ty Tb KA = (KA (ρ xo))) /\
 (∀ (xo : Operand) (P : Program) (ρ : Operand -> AV) (ty : TypeId) (Tb : Tbl) (KA : AV -> Prop), rdF P ρ (.assign xo) ty Tb KA = (KA (ρ xo))) /\
 (∀ (xo : Operand) (yo : Operand) (zo : Operand) (P : Program) (ρ : Operand -> AV) (ty : TypeId) (Tb : Tbl) (KA : AV -> Prop), rdA P ρ (.pick xo yo zo) ty Tb KA = (bpA (ρ xo) (KA (ρ yo)) (KA (ρ zo)))) /\
 (∀ (xo : Operand) (yo : Operand) (zo : Operand) (P : Program) (ρ : Operand -> AV) (ty : TypeId) (Tb : Tbl) (KA : AV -> Prop), rdF P ρ (.pick xo yo zo) ty Tb KA = (bpA (ρ xo) (KA (ρ yo)) (KA (ρ zo)))) /\
 (∀ (t : Nat) (xo : Operand) (P : Program) (ρ : Operand -> AV) (ty : TypeId) (Tb : Tbl) (KA : AV -> Prop), rdA P ρ (.load t xo) ty Tb KA = (loadA P t (ρ xo) Tb KA)) /\
 (∀ (t : Nat) (xo : Operand) (P : Program) (ρ : Operand -> AV) (ty : TypeId) (Tb : Tbl) (KA : AV -> Prop), rdF P ρ (.load t xo) ty Tb KA = (loadA P t (ρ xo) Tb KA)) /\
 (∀ (xo : Operand) (P : Program) (ρ : Operand -> AV) (ty : TypeId) (Tb : Tbl) (KA : AV -> Prop), rdA P ρ (.nilCheck xo) ty Tb KA = (nilA (ρ xo) (KA (ρ xo)))) /\
 (∀ (xo : Operand) (P : Program) (ρ : Operand -> AV) (ty : TypeId) (Tb : Tbl) (KA : AV -> Prop), rdF P ρ (.nilCheck xo) ty Tb KA = (nilA (ρ xo) (KA (ρ xo)))) /\
 (∀ (op : BinOp) (t : Nat) (xo : Operand) (yo : Operand) (u_ : TypeId) (P : Program) (ρ : Operand -> AV) (ty : TypeId) (Tb : Tbl) (KA : AV -> Prop), rdA P ρ (.binOp op t xo yo u_) ty Tb KA = (bin2A P op t (ρ xo) (ρ yo) xo yo Tb KA)) /\
 (∀ (op : BinOp) (t : Nat) (xo : Operand) (yo : Operand) (u_ : TypeId) (P : Program) (ρ : Operand -> AV) (ty : TypeId) (Tb : Tbl) (KA : AV -> Prop), rdF P ρ (.binOp op t xo yo u_) ty Tb KA = (bin2A P op t (ρ xo) (ρ yo) xo yo Tb KA)) /\
 (∀ (uo : UnOp) (t : Nat) (xo : Operand) (P : Program) (ρ : Operand -> AV) (ty : TypeId) (Tb : Tbl) (KA : AV -> Prop), rdA P ρ (.unOp uo t xo) ty Tb KA = (isP (ρ xo) fun v => unV uo v (pureK P KA) fun v => KA (.p v))) /\
 (∀ (uo : UnOp) (t : Nat) (xo : Operand) (P : Program) (ρ : Operand -> AV) (ty : TypeId) (Tb : Tbl) (KA : AV -> Prop), rdF P ρ (.unOp uo t xo) ty Tb KA = (isP (ρ xo) fun v => unV uo v (pureK P KA) fun v => KA (.p v))) /\
 (∀ (s : Nat) (t : Nat) (xo : Operand) (P : Program) (ρ : Operand -> AV) (ty : TypeId) (Tb : Tbl) (KA : AV -> Prop), rdF P ρ (.convert s t xo) ty Tb KA = (cnvA P (tk P s) (tk P t) s t (ρ xo) Tb KA)) /\
 (∀ (t : Nat) (xo : Operand) (yo : Operand) (bb : Bool) (P : Program) (ρ : Operand -> AV) (ty : TypeId) (Tb : Tbl) (KA : AV -> Prop), rdF P ρ (.lookup t xo yo bb) ty Tb KA = (lokA P (tk P t) (ρ xo) (ρ yo) bb Tb KA)) /\
 (∀ (s : Nat) (xo : Operand) (f : Nat) (P : Program) (ρ : Operand -> AV) (ty : TypeId) (Tb : Tbl) (KA : AV -> Prop), rdA P ρ (.fieldAddr s xo f) ty Tb KA = (fldA (tfo P s f) (ρ xo) KA)) /\
 (∀ (s : Nat) (xo : Operand) (f : Nat) (P : Program) (ρ : Operand -> AV) (ty : TypeId) (Tb : Tbl) (KA : AV -> Prop), rdF P ρ (.fieldAddr s xo f) ty Tb KA = (fldA (tfo P s f) (ρ xo) KA)) /\
 (∀ (t : Nat) (xo : Operand) (yo : Operand) (P : Program) (ρ : Operand -> AV) (ty : TypeId) (Tb : Tbl) (KA : AV -> Prop), rdA P ρ (.indexAddr t xo yo) ty Tb KA = (idxA P (tk P t) (ρ xo) (ρ yo) Tb KA)) /\
 (∀ (t : Nat) (xo : Operand) (yo : Operand) (P : Program) (ρ : Operand -> AV) (ty : TypeId) (Tb : Tbl) (KA : AV -> Prop), rdF P ρ (.indexAddr t xo yo) ty Tb KA = (idxA P (tk P t) (ρ xo) (ρ yo) Tb KA)) /\
 (∀ (t : Nat) (xo : Operand) (yo : Operand) (P : Program) (ρ : Operand -> AV) (ty : TypeId) (Tb : Tbl) (KA : AV -> Prop), rdA P ρ (.index t xo yo) ty Tb KA = (ieA P (tk P t) (ρ xo) (ρ yo) KA)) /\
 (∀ (t : Nat) (xo : Operand) (lop : Option Operand) (hop : Option Operand) (mop : Option Operand) (P : Program) (ρ : Operand -> AV) (ty : TypeId) (Tb : Tbl) (KA : AV -> Prop), rdA P ρ (.slice t xo lop hop mop) ty Tb KA = (slcA P (tk P t) (ρ xo) (lop.map ρ) (hop.map ρ) (mop.map ρ) Tb KA)) /\
 (∀ (t : Nat) (xo : Operand) (lop : Option Operand) (hop : Option Operand) (mop : Option Operand) (P : Program) (ρ : Operand -> AV) (ty : TypeId) (Tb : Tbl) (KA : AV -> Prop), rdF P ρ (.slice t xo lop hop mop) ty Tb KA = (slcA P (tk P t) (ρ xo) (lop.map ρ) (hop.map ρ) (mop.map ρ) Tb KA)) /\
 (∀ (xo : Operand) (i : Nat) (P : Program) (ρ : Operand -> AV) (ty : TypeId) (Tb : Tbl) (KA : AV -> Prop), rdA P ρ (.extract xo i) ty Tb KA = (exA (ρ xo) i KA)) /\
 (∀ (xo : Operand) (i : Nat) (P : Program) (ρ : Operand -> AV) (ty : TypeId) (Tb : Tbl) (KA : AV -> Prop), rdF P ρ (.extract xo i) ty Tb KA = (exA (ρ xo) i KA)) /\
 (∀ (g : Nat) (cap : Array Operand) (P : Program) (ρ : Operand -> AV) (ty : TypeId) (Tb : Tbl) (KA : AV -> Prop), rdA P ρ (.makeFunc (.func g) ⟨[]⟩ cap) ty Tb KA = (KA (.fn g (cap.toList.map ρ)))) /\
 (∀ (xo : Operand) (t : Nat) (P : Program) (ρ : Operand -> AV) (ty : TypeId) (Tb : Tbl) (KA : AV -> Prop), rdA P ρ (.call ⟨.builtin .len, ⟨[xo]⟩, ⟨[t]⟩⟩) ty Tb KA = (lnA (tk P t) (ρ xo) Tb KA)) /\
 (∀ (xo : Operand) (t : Nat) (P : Program) (ρ : Operand -> AV) (ty : TypeId) (Tb : Tbl) (KA : AV -> Prop), rdF P ρ (.call ⟨.builtin .len, ⟨[xo]⟩, ⟨[t]⟩⟩) ty Tb KA = (lnA (tk P t) (ρ xo) Tb KA)) /\
 (∀ (xo : Operand) (yo : Operand) (ts : Array TypeId) (P : Program) (ρ : Operand -> AV) (ty : TypeId) (Tb : Tbl) (KA : AV -> Prop), rdA P ρ (.call ⟨.builtin .max, ⟨[xo, yo]⟩, ts⟩) ty Tb KA = (isP (ρ xo) fun v => isP (ρ yo) fun u => pureK P KA (Builtin.max_ ts ty #[v, u]))) /\
 (∀ (xo : Operand) (yo : Operand) (ts : Array TypeId) (P : Program) (ρ : Operand -> AV) (ty : TypeId) (Tb : Tbl) (KA : AV -> Prop), rdF P ρ (.call ⟨.builtin .max, ⟨[xo, yo]⟩, ts⟩) ty Tb KA = (isP (ρ xo) fun v => isP (ρ yo) fun u => pureK P KA (Builtin.max_ ts ty #[v, u]))) /\
 (∀ (xo : Operand) (yo : Operand) (ts : Array TypeId) (P : Program) (ρ : Operand -> AV) (ty : TypeId) (Tb : Tbl) (KA : AV -> Prop), rdA P ρ (.call ⟨.builtin .min, ⟨[xo, yo]⟩, ts⟩) ty Tb KA = (isP (ρ xo) fun v => isP (ρ yo) fun u => pureK P KA (Builtin.min_ ts ty #[v, u]))) /\
 (∀ (e : TypeId) (P : Program) (G : Nat -> AV) (ρ : Operand -> AV) (ty : TypeId) (Tb : Tbl) (KE : AV -> Tbl -> Eff -> Prop), opA P G ρ (.alloc e) ty Tb KE = (getO (tzr P e) fun z => KE (.ptr Tb.length 0) (Tb ++ [.cells e (z.cells.toList.map .p)]) [])) /\
 (∀ (e : TypeId) (xo : Operand) (P : Program) (G : Nat -> AV) (ρ : Operand -> AV) (ty : TypeId) (Tb : Tbl) (KE : AV -> Tbl -> Eff -> Prop), opA P G ρ (.box e xo) ty Tb KE = (getO (ρ xo).known fun cs => KE (.ptr Tb.length 0) (Tb ++ [.cells e cs]) [])) /\
 (∀ (t : Nat) (xo : Operand) (yo : Operand) (P : Program) (G : Nat -> AV) (ρ : Operand -> AV) (ty : TypeId) (Tb : Tbl) (KE : AV -> Tbl -> Eff -> Prop), opA P G ρ (.store t xo yo) ty Tb KE = (storeA P t (ρ xo) (ρ yo) Tb KE)) /\
 (∀ (xo : Operand) (args : Array Operand) (ts : Array TypeId) (P : Program) (G : Nat -> AV) (ρ : Operand -> AV) (ty : TypeId) (Tb : Tbl) (KE : AV -> Tbl -> Eff -> Prop), opA P G ρ (.call ⟨.value xo, args, ts⟩) ty Tb KE = (callA P G (ρ xo) (args.toList.map ρ) Tb KE)) /\
 (∀ (xo : Operand) (yo : Operand) (t : Nat) (P : Program) (G : Nat -> AV) (ρ : Operand -> AV) (ty : TypeId) (Tb : Tbl) (KE : AV -> Tbl -> Eff -> Prop), opA P G ρ (.call ⟨.builtin .append, ⟨[xo, yo]⟩, ⟨[t, t]⟩⟩) ty Tb KE = (appA P (tk P t) (ρ xo) (ρ yo) Tb KE)) /\
 (∀ (e : TypeId) (k : Nat) (pr_ : List (Nat × Operand)) (P : Program) (G : Nat -> AV) (ρ : Operand -> AV) (ty : TypeId) (Tb : Tbl) (KE : AV -> Tbl -> Eff -> Prop), opA P G ρ (.buildSlice e k ⟨pr_⟩) ty Tb KE = (blsA P (tk P e) k (pr_.map fun p => (p.1, ρ p.2)) Tb KE)) /\
 (∀ (e : TypeId) (pr_ : List (Nat × Operand)) (P : Program) (G : Nat -> AV) (ρ : Operand -> AV) (ty : TypeId) (Tb : Tbl) (KE : AV -> Tbl -> Eff -> Prop), opA P G ρ (.build e ⟨pr_⟩) ty Tb KE = (bldA P e (pr_.map fun p => (p.1, ρ p.2)) fun a => KE a Tb [])) /\
 (∀ (t : Nat) (xo : Operand) (yo : Operand) (P : Program) (G : Nat -> AV) (ρ : Operand -> AV) (ty : TypeId) (Tb : Tbl) (KE : AV -> Tbl -> Eff -> Prop), opA P G ρ (.makeSlice t xo yo) ty Tb KE = (mksA P (tk P t) (ρ xo) (ρ yo) Tb KE)) /\
 (∀ (xo : Operand) (yo : Operand) (ts : Array TypeId) (P : Program) (G : Nat -> AV) (ρ : Operand -> AV) (ty : TypeId) (Tb : Tbl) (KE : AV -> Tbl -> Eff -> Prop), opA P G ρ (.call ⟨.builtin .copy, ⟨[xo, yo]⟩, ts⟩) ty Tb KE = (cpyA P ts.toList (ρ xo) (ρ yo) Tb KE)) /\
 (∀ (xo : Operand) (P : Program) (G : Nat -> AV) (ρ : Operand -> AV) (ty : TypeId) (Tb : Tbl) (KE : AV -> Tbl -> Eff -> Prop), opA P G ρ (.move xo) ty Tb KE = (rdA P ρ (.move xo) ty Tb fun a => KE a Tb [])) /\
 (∀ (xo : Operand) (P : Program) (G : Nat -> AV) (ρ : Operand -> AV) (ty : TypeId) (Tb : Tbl) (KE : AV -> Tbl -> Eff -> Prop), opA P G ρ (.assign xo) ty Tb KE = (rdA P ρ (.assign xo) ty Tb fun a => KE a Tb [])) /\
 (∀ (xo : Operand) (yo : Operand) (zo : Operand) (P : Program) (G : Nat -> AV) (ρ : Operand -> AV) (ty : TypeId) (Tb : Tbl) (KE : AV -> Tbl -> Eff -> Prop), opA P G ρ (.pick xo yo zo) ty Tb KE = (rdA P ρ (.pick xo yo zo) ty Tb fun a => KE a Tb [])) /\
 (∀ (t : Nat) (xo : Operand) (P : Program) (G : Nat -> AV) (ρ : Operand -> AV) (ty : TypeId) (Tb : Tbl) (KE : AV -> Tbl -> Eff -> Prop), opA P G ρ (.load t xo) ty Tb KE = (rdA P ρ (.load t xo) ty Tb fun a => KE a Tb [])) /\
 (∀ (xo : Operand) (P : Program) (G : Nat -> AV) (ρ : Operand -> AV) (ty : TypeId) (Tb : Tbl) (KE : AV -> Tbl -> Eff -> Prop), opA P G ρ (.nilCheck xo) ty Tb KE = (rdA P ρ (.nilCheck xo) ty Tb fun a => KE a Tb [])) /\
 (∀ (op : BinOp) (t : Nat) (xo : Operand) (yo : Operand) (u_ : TypeId) (P : Program) (G : Nat -> AV) (ρ : Operand -> AV) (ty : TypeId) (Tb : Tbl) (KE : AV -> Tbl -> Eff -> Prop), opA P G ρ (.binOp op t xo yo u_) ty Tb KE = (rdA P ρ (.binOp op t xo yo u_) ty Tb fun a => KE a Tb [])) /\
 (∀ (uo : UnOp) (t : Nat) (xo : Operand) (P : Program) (G : Nat -> AV) (ρ : Operand -> AV) (ty : TypeId) (Tb : Tbl) (KE : AV -> Tbl -> Eff -> Prop), opA P G ρ (.unOp uo t xo) ty Tb KE = (rdA P ρ (.unOp uo t xo) ty Tb fun a => KE a Tb [])) /\
 (∀ (s : Nat) (xo : Operand) (f : Nat) (P : Program) (G : Nat -> AV) (ρ : Operand -> AV) (ty : TypeId) (Tb : Tbl) (KE : AV -> Tbl -> Eff -> Prop), opA P G ρ (.fieldAddr s xo f) ty Tb KE = (rdA P ρ (.fieldAddr s xo f) ty Tb fun a => KE a Tb [])) /\
 (∀ (t : Nat) (xo : Operand) (yo : Operand) (P : Program) (G : Nat -> AV) (ρ : Operand -> AV) (ty : TypeId) (Tb : Tbl) (KE : AV -> Tbl -> Eff -> Prop), opA P G ρ (.indexAddr t xo yo) ty Tb KE = (rdA P ρ (.indexAddr t xo yo) ty Tb fun a => KE a Tb [])) /\
 (∀ (t : Nat) (xo : Operand) (yo : Operand) (P : Program) (G : Nat -> AV) (ρ : Operand -> AV) (ty : TypeId) (Tb : Tbl) (KE : AV -> Tbl -> Eff -> Prop), opA P G ρ (.index t xo yo) ty Tb KE = (rdA P ρ (.index t xo yo) ty Tb fun a => KE a Tb [])) /\
 (∀ (t : Nat) (xo : Operand) (lop : Option Operand) (hop : Option Operand) (mop : Option Operand) (P : Program) (G : Nat -> AV) (ρ : Operand -> AV) (ty : TypeId) (Tb : Tbl) (KE : AV -> Tbl -> Eff -> Prop), opA P G ρ (.slice t xo lop hop mop) ty Tb KE = (rdA P ρ (.slice t xo lop hop mop) ty Tb fun a => KE a Tb [])) /\
 (∀ (xo : Operand) (i : Nat) (P : Program) (G : Nat -> AV) (ρ : Operand -> AV) (ty : TypeId) (Tb : Tbl) (KE : AV -> Tbl -> Eff -> Prop), opA P G ρ (.extract xo i) ty Tb KE = (rdA P ρ (.extract xo i) ty Tb fun a => KE a Tb [])) /\
 (∀ (g : Nat) (cap : Array Operand) (P : Program) (G : Nat -> AV) (ρ : Operand -> AV) (ty : TypeId) (Tb : Tbl) (KE : AV -> Tbl -> Eff -> Prop), opA P G ρ (.makeFunc (.func g) ⟨[]⟩ cap) ty Tb KE = (rdA P ρ (.makeFunc (.func g) ⟨[]⟩ cap) ty Tb fun a => KE a Tb [])) /\
 (∀ (xo : Operand) (t : Nat) (P : Program) (G : Nat -> AV) (ρ : Operand -> AV) (ty : TypeId) (Tb : Tbl) (KE : AV -> Tbl -> Eff -> Prop), opA P G ρ (.call ⟨.builtin .len, ⟨[xo]⟩, ⟨[t]⟩⟩) ty Tb KE = (rdA P ρ (.call ⟨.builtin .len, ⟨[xo]⟩, ⟨[t]⟩⟩) ty Tb fun a => KE a Tb [])) /\
 (∀ (xo : Operand) (yo : Operand) (ts : Array TypeId) (P : Program) (G : Nat -> AV) (ρ : Operand -> AV) (ty : TypeId) (Tb : Tbl) (KE : AV -> Tbl -> Eff -> Prop), opA P G ρ (.call ⟨.builtin .max, ⟨[xo, yo]⟩, ts⟩) ty Tb KE = (rdA P ρ (.call ⟨.builtin .max, ⟨[xo, yo]⟩, ts⟩) ty Tb fun a => KE a Tb [])) /\
 (∀ (xo : Operand) (yo : Operand) (ts : Array TypeId) (P : Program) (G : Nat -> AV) (ρ : Operand -> AV) (ty : TypeId) (Tb : Tbl) (KE : AV -> Tbl -> Eff -> Prop), opA P G ρ (.call ⟨.builtin .min, ⟨[xo, yo]⟩, ts⟩) ty Tb KE = (rdA P ρ (.call ⟨.builtin .min, ⟨[xo, yo]⟩, ts⟩) ty Tb fun a => KE a Tb [])) /\
 (∀ (P : Program) (t : Nat) (i : Nat) (off : Nat) (Tb : Tbl) (KA : AV -> Prop), loadA P t (.ptr i off) Tb KA = (csA Tb[i]? fun cs => getA (tak P t) (tsz P t) cs off KA)) /\
 (∀ (P : Program) (t : Nat) (cs : List AV) (off : Nat) (Tb : Tbl) (KA : AV -> Prop), loadA P t (.vp cs off) Tb KA = (getA (tak P t) (tsz P t) cs off KA)) /\
 (∀ (e : TypeId) (cs : List AV) (KC : List AV -> Prop), csA (some (.cells e cs)) KC = (KC cs)) /\
 (∀ (e : TypeId) (sz : Nat) (cs : List AV) (KC : List AV -> Prop), csA (some (.buf e sz cs)) KC = (KC cs)) /\
 (∀ (e : TypeId) (cs : List AV) (A : Prop), celA (some (.cells e cs)) A = (A)) /\
 (∀ (n : Nat) (cs : List AV) (off : Nat) (KA : AV -> Prop), getA (some false) n cs off KA = (getO cs[off]? KA)) /\
 (∀ (n : Nat) (cs : List AV) (off : Nat) (KA : AV -> Prop), getA (some true) n cs off KA = ((0 < n /\ off + n <= cs.length) /\ KA (.ag ((cs.drop off).take n)))) /\
 (∀ (a : AV) (KA : AV -> Prop), getO (some a) KA = (KA a)) /\
 (∀ (v : Value) (A : Prop) (B : Prop), bpA (.p v) A B = (CondP v A B)) /\
 (∀ (i : Nat) (off : Nat) (A : Prop), nilA (.ptr i off) A = (A)) /\
 (∀ (k : Nat) (i : Nat) (off : Nat) (KA : AV -> Prop), fldA (some k) (.ptr i off) KA = (KA (.ptr i (off + k)))) /\
 (∀ (P : Program) (e : TypeId) (a : AV) (b : AV) (Tb : Tbl) (KA : AV -> Prop), idxA P (.slice e) a b Tb KA = (if tsz P e = 0 then False else ixA (tsz P e) a b Tb KA)) /\
 (∀ (P : Program) (n : Nat) (e : TypeId) (a : AV) (b : AV) (Tb : Tbl) (KA : AV -> Prop), idxA P (.array n e) a b Tb KA = (if tsz P e = 0 then False else ixaA (tsz P e) n a b KA)) /\
 (∀ (sz : Nat) (j : Nat) (off : Nat) (n : Nat) (ik : IntKind) (z : Int) (Tb : Tbl) (KA : AV -> Prop), ixA sz (.sl j off n) (.p (.int ik z)) Tb KA = (csA Tb[j]? fun cs => (0 <= z /\ z < n /\ cs ≠ []) /\ KA (.ptr j (off + z.toNat * sz)))) /\
 (∀ (sz : Nat) (cs : List AV) (n : Nat) (ik : IntKind) (z : Int) (Tb : Tbl) (KA : AV -> Prop), ixA sz (.vs cs n) (.p (.int ik z)) Tb KA = ((0 <= z /\ z < n /\ cs ≠ []) /\ KA (.vp cs (z.toNat * sz)))) /\
 (∀ (sz : Nat) (n : Nat) (j : Nat) (off : Nat) (ik : IntKind) (z : Int) (KA : AV -> Prop), ixaA sz n (.ptr j off) (.p (.int ik z)) KA = ((0 <= z /\ z < n) /\ KA (.ptr j (off + z.toNat * sz)))) /\
 (∀ (cs : List AV) (KC : List AV -> Prop), agA (.ag cs) KC = (KC cs)) /\
 (∀ (P : Program) (n : Nat) (e : TypeId) (a : AV) (ik : IntKind) (z : Int) (KA : AV -> Prop), ieA P (.array n e) a (.p (.int ik z)) KA = ((0 <= z /\ z < n) /\ agA a fun cs => if tsz P e = 0 then False else getA (tak P e) (tsz P e) cs (z.toNat * tsz P e) KA)) /\
 (∀ (P : Program) (sb : ByteArray) (ik : IntKind) (z : Int) (KA : AV -> Prop), ieA P .string (.p (.string sb)) (.p (.int ik z)) KA = (0 <= z /\ getO sb[z.toNat]? fun b => KA (.p (.int .u8 b.toNat)))) /\
 (∀ (cs : List AV) (i : Nat) (KA : AV -> Prop), exA (.tu cs) i KA = (getO cs[i]? KA)) /\
 (∀ (s : Nat) (i : Nat) (off : Nat) (n : Nat) (Tb : Tbl) (KA : AV -> Prop), lnA (.slice s) (.sl i off n) Tb KA = (KA (.p (.int .i64 n)))) /\
 (∀ (P : Program) (op : BinOp) (t : Nat) (u : Value) (v : Value) (xo : Operand) (yo : Operand) (KA : AV -> Prop), binA P op t (.p u) (.p v) xo yo KA = (binV P op t u v xo yo (pureK P KA) fun v => KA (.p v))) /\
 (∀ (P : Program) (op : BinOp) (t : Nat) (i : Nat) (off : Nat) (xo : Operand) (yo : Operand) (KA : AV -> Prop), binA P op t (.ptr i off) (.p (.pointer none)) xo yo KA = (nilK (tk P t) op KA)) /\
 (∀ (s : Nat) (KA : AV -> Prop), nilK (.pointer s) .eql KA = (KA (.p (.bool false)))) /\
 (∀ (s : Nat) (KA : AV -> Prop), nilK (.pointer s) .neq KA = (KA (.p (.bool true)))) /\
 (∀ (v : Value), AV.flat (.p v) = (some v)) /\
 (∀ (cs : List AV), AV.flat (.ag cs) = ((plains cs).map fun vs => .agg vs.toArray)) /\
 (∀ (P : Program) (e : TypeId) (a : AV) (lo : Option AV) (hi : Option AV) (Tb : Tbl) (KA : AV -> Prop), slcA P (.slice e) a lo hi none Tb KA = (if tsz P e = 0 then False else lenA a fun n => bdA hi n fun h => bdA lo 0 fun l => pcA (tsz P e) a l h Tb KA)) /\
 (∀ (P : Program) (n : Nat) (e : TypeId) (i : Nat) (off : Nat) (lo : Option AV) (hi : Option AV) (Tb : Tbl) (KA : AV -> Prop), slcA P (.array n e) (.ptr i off) lo hi none Tb KA = (if tsz P e = 0 then False else celA Tb[i]? (bdA hi n fun h => bdA lo 0 fun l => (l <= h /\ h <= n) /\ KA (.sl i (off + l * tsz P e) (h - l))))) /\
 (∀ (i : Nat) (off : Nat) (n : Nat) (KN : Nat -> Prop), lenA (.sl i off n) KN = (KN n)) /\
 (∀ (n : Nat) (KN : Nat -> Prop), bdA none n KN = (KN n)) /\
 (∀ (ik : IntKind) (z : Int) (n : Nat) (KN : Nat -> Prop), bdA (some (.p (.int ik z))) n KN = (0 <= z /\ KN z.toNat)) /\
 (∀ (sz : Nat) (i : Nat) (off : Nat) (n : Nat) (j : Nat) (k : Nat) (Tb : Tbl) (KA : AV -> Prop), pcA sz (.sl i off n) j k Tb KA = ((j <= k /\ k <= n) /\ KA (.sl i (off + j * sz) (k - j)))) /\
 (∀ (P : Program) (t : Nat) (i : Nat) (off : Nat) (x : AV) (Tb : Tbl) (KE : AV -> Tbl -> Eff -> Prop), storeA P t (.ptr i off) x Tb KE = (getO x.known fun vs => getO Tb[i]? fun o => stoA P t i off vs o Tb KE)) /\
 (∀ (P : Program) (t : Nat) (i : Nat) (off : Nat) (vs : List AV) (e : TypeId) (cs : List AV) (Tb : Tbl) (KE : AV -> Tbl -> Eff -> Prop), stoA P t i off vs (.cells e cs) Tb KE = ((tsz P t = vs.length /\ 0 < vs.length /\ off + vs.length <= cs.length /\ ones vs = true) /\ KE (.p undef) (Tb.set i (.cells e (wrA cs off vs))) [(i, false)])) /\
 (∀ (P : Program) (t : Nat) (i : Nat) (off : Nat) (vs : List AV) (e : TypeId) (sz : Nat) (cs : List AV) (Tb : Tbl) (KE : AV -> Tbl -> Eff -> Prop), stoA P t i off vs (.buf e sz cs) Tb KE = ((tsz P t = vs.length /\ 0 < vs.length /\ off + vs.length <= cs.length /\ ones vs = true) /\ KE (.p undef) (Tb.set i (.buf e sz (wrA cs off vs))) [(i, false)])) /\
 (∀ (cs : List AV) (k : Nat) (a : AV), wrA cs k [a] = (cs.set k a)) /\
 (∀ (ik : IntKind) (z : Int), AV.known (.p (.int ik z)) = (some [.p (.int ik z)])) /\
 (∀ (bb : Bool), AV.known (.p (.bool bb)) = (some [.p (.bool bb)])) /\
 (∀ (ad : Option Addr) (n : Nat) (k : Nat), AV.known (.p (.slice ad n k)) = (some [.p (.slice ad n k)])) /\
 (AV.known (.p .nilFunc) = (some [.p .nilFunc])) /\
 (AV.known (.p .nilIface) = (some [.p .nilIface])) /\
 (∀ (cs : List AV), AV.known (.ag cs) = (some cs)) /\
 (∀ (va : Array Value), Value.cells (.agg va) = (va)) /\
 (∀ (ik : IntKind) (z : Int), Value.cells (.int ik z) = (#[.int ik z])) /\
 (∀ (bb : Bool), Value.cells (.bool bb) = (#[.bool bb])) /\
 (∀ (ad : Option Addr), Value.cells (.pointer ad) = (#[.pointer ad])) /\
 (∀ (ad : Option Addr) (n : Nat) (k : Nat), Value.cells (.slice ad n k) = (#[.slice ad n k])) /\
 (∀ (va : Array Value), (va.toList.toArray) = (va)) /\
 (∀ (i : Nat) (off : Nat), AV.known (.ptr i off) = (some [.ptr i off])) /\
 (∀ (i : Nat) (off : Nat), AV.one (.ptr i off) = (true)) /\
 (∀ (i : Nat) (off : Nat) (n : Nat), AV.known (.sl i off n) = (some [.sl i off n])) /\
 (∀ (i : Nat) (off : Nat) (n : Nat), AV.one (.sl i off n) = (true)) /\
 (∀ (cs : List AV) (n : Nat), AV.one (.vs cs n) = (true)) /\
 (∀ (f : Nat) (cs : List AV), AV.known (.fn f cs) = (some [.fn f cs])) /\
 (∀ (f : Nat) (cs : List AV), AV.one (.fn f cs) = (true)) /\
 (∀ (ty : TypeId) (a : AV), AV.one (.ic ty a) = (true)) /\
 (∀ (i : Nat), AV.known (.mp i) = (some [.mp i])) /\
 (∀ (i : Nat), AV.one (.mp i) = (true)) /\
 (∀ (i : Nat), AV.known (.yl i) = (some [.yl i])) /\
 (∀ (i : Nat), AV.one (.yl i) = (true)) /\
 (∀ (v : Value), AV.one (.p v) = (v.oneCell')) /\
 (ones [] = (true)) /\
 (∀ (a : AV) (l : List AV), ones (a :: l) = ((a.one && ones l))) /\
 (∀ (ik : IntKind) (z : Int), Value.oneCell' (.int ik z) = (true)) /\
 (∀ (bb : Bool), Value.oneCell' (.bool bb) = (true)) /\
 (∀ (sb : ByteArray), Value.oneCell' (.string sb) = (true)) /\
 (∀ (on : Option Nat), Value.oneCell' (.map on) = (true)) /\
 (Value.oneCell' (.nilFunc) = (true)) /\
 (Value.oneCell' (.nilIface) = (true)) /\
 (∀ (sz : Nat) (i : Nat) (off : Nat) (n : Nat) (Tb : Tbl) (KCN : List AV -> Nat -> Prop), srcA sz (.sl i off n) Tb KCN = (csA Tb[i]? fun cs => off + n * sz <= cs.length /\ KCN ((cs.drop off).take (n * sz)) n)) /\
 (∀ (P : Program) (e : TypeId) (a : AV) (y : AV) (Tb : Tbl) (KE : AV -> Tbl -> Eff -> Prop), appA P (.slice e) a y Tb KE = (if tsz P e = 0 then False else getO (tzr P e) fun z => z.cells.size = tsz P e /\ srcA (tsz P e) y Tb fun ys m => ones ys = true /\ appB P e a ys m Tb KE)) /\
 (∀ (P : Program) (e : TypeId) (l : List AV) (m : Nat) (Tb : Tbl) (KE : AV -> Tbl -> Eff -> Prop), appB P e (.p (.slice none 0 0)) l m Tb KE = (lim P e m /\ KE (.sl Tb.length 0 m) (Tb ++ [.buf e (tsz P e) l]) [])) /\
 (∀ (P : Program) (e : TypeId) (i : Nat) (off : Nat) (n : Nat) (l : List AV) (m : Nat) (Tb : Tbl) (KE : AV -> Tbl -> Eff -> Prop), appB P e (.sl i off n) l m Tb KE = (getO Tb[i]? fun o => appC P e i off n l m o Tb KE)) /\
 (∀ (P : Program) (e : TypeId) (f : Nat) (i : Nat) (off : Nat) (n : Nat) (l : List AV) (m : Nat) (sz : Nat) (cs : List AV) (Tb : Tbl) (KE : AV -> Tbl -> Eff -> Prop), appC P e i off n l m (.buf f sz cs) Tb KE = ((f = e /\ sz = tsz P e /\ off = 0 /\ cs.length = n * sz /\ lim P e (n + m)) /\ KE (.sl i 0 (n + m)) ((Tb.map (AObj.wo (· == i))).set i (.buf e sz ((cs ++ l).map (AV.wo (· == i))))) [(i, true)])) /\
 (∀ (P : Program) (G : Nat -> AV) (g : Nat) (args_ : List AV) (Tb : Tbl) (KE : AV -> Tbl -> Eff -> Prop), callA P G (.p (.func (.func g) ⟨[]⟩ ⟨[]⟩)) args_ Tb KE = (callF (entered P g) P G g args_ Tb KE)) /\
 (∀ (P : Program) (G : Nat -> AV) (k : Nat) (args_ : List AV) (Tb : Tbl) (KE : AV -> Tbl -> Eff -> Prop), callA P G (.yl k) args_ Tb KE = (YldI P G k args_ Tb KE)) /\
 (∀ (P : Program) (G : Nat -> AV) (g : Nat) (cs : List AV) (args_ : List AV) (Tb : Tbl) (KE : AV -> Tbl -> Eff -> Prop), callA P G (.fn g cs) args_ Tb KE = (callF (entered P g) P G g (args_ ++ cs) Tb KE)) /\
 (∀ (P : Program) (G : Nat -> AV) (g : Nat) (args_ : List AV) (Tb : Tbl) (KE : AV -> Tbl -> Eff -> Prop), callF true P G g args_ Tb KE = (CallA P G g args_ Tb KE)) /\
 (∀ (P : Program) (G : Nat -> AV) (g : Nat) (args_ : List AV) (Tb : Tbl) (KE : AV -> Tbl -> Eff -> Prop), callF false P G g args_ Tb KE = (ExtA P G g args_ Tb KE)) /\
 (∀ (P : Program) (G : Nat -> AV) (N : Nat) (ro : Option Nat) (n : Nat) (m : Nat) (ds : List AV) (loc : List AV) (tmp : List (Nat × AV)) (Tb : Tbl) (E : Eff) (Nk : AKont) (X : Nat -> AKont) (R : AKont), codeA P G N ro n m (.skip) ds loc tmp Tb E Nk X R = (Nk ds loc tmp Tb E)) /\
 (∀ (i : Nat) (aops : Array Oper) (P : Program) (G : Nat -> AV) (N : Nat) (ro : Option Nat) (n : Nat) (m : Nat) (ds : List AV) (loc : List AV) (tmp : List (Nat × AV)) (Tb : Tbl) (E : Eff) (Nk : AKont) (X : Nat -> AKont) (R : AKont), codeA P G N ro n m (.region i aops true) ds loc tmp Tb E Nk X R = (SemA P G N ro n m (.region i aops true) ds loc [] Tb E Nk X R)) /\
 (∀ (i : Nat) (aops : Array Oper) (P : Program) (G : Nat -> AV) (N : Nat) (ro : Option Nat) (n : Nat) (m : Nat) (ds : List AV) (loc : List AV) (tmp : List (Nat × AV)) (Tb : Tbl) (E : Eff) (Nk : AKont) (X : Nat -> AKont) (R : AKont), codeA P G N ro n m (.region i aops false) ds loc tmp Tb E Nk X R = (opsA P G N n aops.toList ds aops.toList loc [] Tb E Nk)) /\
 (∀ (c1 : Code) (c2 : Code) (P : Program) (G : Nat -> AV) (N : Nat) (ro : Option Nat) (n : Nat) (m : Nat) (ds : List AV) (loc : List AV) (tmp : List (Nat × AV)) (Tb : Tbl) (E : Eff) (Nk : AKont) (X : Nat -> AKont) (R : AKont), codeA P G N ro n m (.seq c1 c2) ds loc tmp Tb E Nk X R = (codeA P G N ro n m c1 ds loc tmp Tb E (fun ds loc tmp T E => codeA P G N ro n m c2 ds loc tmp T E Nk X R) X R)) /\
 (∀ (xo : Operand) (c1 : Code) (c2 : Code) (P : Program) (G : Nat -> AV) (N : Nat) (ro : Option Nat) (n : Nat) (m : Nat) (ds : List AV) (loc : List AV) (tmp : List (Nat × AV)) (Tb : Tbl) (E : Eff) (Nk : AKont) (X : Nat -> AKont) (R : AKont), codeA P G N ro n m (.cond xo c1 c2) ds loc tmp Tb E Nk X R = (bpA (evA G n loc tmp xo) (codeA P G N ro n m c1 ds loc tmp Tb E Nk X R) (codeA P G N ro n m c2 ds loc tmp Tb E Nk X R))) /\
 (∀ (i : Nat) (c1 : Code) (P : Program) (G : Nat -> AV) (N : Nat) (ro : Option Nat) (n : Nat) (m : Nat) (ds : List AV) (loc : List AV) (tmp : List (Nat × AV)) (Tb : Tbl) (E : Eff) (Nk : AKont) (X : Nat -> AKont) (R : AKont), codeA P G N ro n m (.block i c1) ds loc tmp Tb E Nk X R = (codeA P G N ro n m c1 ds loc tmp Tb E Nk (fun j => if j = i then Nk else X j) R)) /\
 (∀ (c1 : Code) (P : Program) (G : Nat -> AV) (N : Nat) (ro : Option Nat) (n : Nat) (m : Nat) (ds : List AV) (loc : List AV) (tmp : List (Nat × AV)) (Tb : Tbl) (E : Eff) (Nk : AKont) (X : Nat -> AKont) (R : AKont), codeA P G N ro n m (.loop c1) ds loc tmp Tb E Nk X R = (SemA P G N ro n m (.loop c1) ds loc [] Tb E Nk X R)) /\
 (∀ (i : Nat) (P : Program) (G : Nat -> AV) (N : Nat) (ro : Option Nat) (n : Nat) (m : Nat) (ds : List AV) (loc : List AV) (tmp : List (Nat × AV)) (Tb : Tbl) (E : Eff) (Nk : AKont) (X : Nat -> AKont) (R : AKont), codeA P G N ro n m (.exit i) ds loc tmp Tb E Nk X R = (X i ds loc tmp Tb E)) /\
 (∀ (P : Program) (G : Nat -> AV) (N : Nat) (ro : Option Nat) (n : Nat) (m : Nat) (ds : List AV) (loc : List AV) (tmp : List (Nat × AV)) (Tb : Tbl) (E : Eff) (Nk : AKont) (X : Nat -> AKont) (R : AKont), codeA P G N ro n m (.ret) ds loc tmp Tb E Nk X R = (R ds loc tmp Tb E)) /\
 (∀ (xo : Operand) (ps : Array Tmp) (c1 : Code) (c2 : Code) (P : Program) (G : Nat -> AV) (N : Nat) (ro : Option Nat) (n : Nat) (m : Nat) (ds : List AV) (loc : List AV) (tmp : List (Nat × AV)) (Tb : Tbl) (E : Eff) (Nk : AKont) (X : Nat -> AKont) (R : AKont), codeA P G N ro n m (.rangeFunc xo ps c1 c2) ds loc tmp Tb E Nk X R = (SemA P G N ro n m (.rangeFunc xo ps c1 c2) ds loc tmp Tb E Nk X R)) /\
 (∀ (P : Program) (rv : List ResultVar) (KE : AV -> Tbl -> Eff -> Prop) (loc : List AV) (tmp : List (Nat × AV)) (Tb : Tbl) (E : Eff), retA P rv KE [] loc tmp Tb E = (resA P rv loc Tb fun v => KE v Tb E)) /\
 (∀ (A : Prop), defO (.raw (.deferred (some []))) A = (A)) /\
 (∀ (P : Program) (loc : List AV) (Tb : Tbl) (KA : AV -> Prop), resA P [] loc Tb KA = (KA (.tu []))) /\
 (∀ (P : Program) (t : Nat) (loc : List AV) (Tb : Tbl) (KA : AV -> Prop), resA P [.tmp t] loc Tb KA = (KA (loc.getD t .any))) /\
 (∀ (P : Program) (t : Nat) (s : Nat) (loc : List AV) (Tb : Tbl) (KA : AV -> Prop), resA P [.tmp t, .tmp s] loc Tb KA = (KA (.tu [loc.getD t .any, loc.getD s .any]))) /\
 (∀ (P : Program) (t : Nat) (e : TypeId) (loc : List AV) (Tb : Tbl) (KA : AV -> Prop), resA P [.cell t e] loc Tb KA = (loadA P e (loc.getD t .any) Tb KA)) /\
 (∀ (a : AV) (l : List AV) (x : AV), List.getD (a :: l) 0 x = (a)) /\
 (∀ (a : AV) (l : List AV) (k : Nat) (x : AV), List.getD (a :: l) (k + 1) x = (List.getD l k x)) /\
 (∀ (k : Nat) (x : AV), List.getD [] k x = (x)) /\
 (∀ (a : AV) (l : List AV) (b : AV), List.set (a :: l) 0 b = (b :: l)) /\
 (∀ (a : AV) (l : List AV) (b : AV) (k : Nat), List.set (a :: l) (k + 1) b = (a :: List.set l k b)) /\
 (∀ (a : AV) (l : List AV), (a :: l)[0]? = (some a)) /\
 (∀ (a : AV) (l : List AV) (k : Nat), (a :: l)[k + 1]? = (l[k]?)) /\
 (∀ (a : AV) (l : List AV), (a :: l).length = (l.length + 1)) /\
 (([] : List AV).length = (0)) /\
 (∀ (l : List AV), [] ++ l = (l)) /\
 (∀ (l : List AV), l ++ [] = (l)) /\
 (∀ (a : AV) (l : List AV) (l2 : List AV), (a :: l) ++ l2 = (a :: (l ++ l2))) /\
 (∀ (ob : AObj) (tb : Tbl) (oc : AObj), List.set (ob :: tb) 0 oc = (oc :: tb)) /\
 (∀ (ob : AObj) (tb : Tbl) (oc : AObj) (k : Nat), List.set (ob :: tb) (k + 1) oc = (ob :: List.set tb k oc)) /\
 (∀ (ob : AObj) (tb : Tbl), (ob :: tb)[0]? = (some ob)) /\
 (∀ (ob : AObj) (tb : Tbl) (k : Nat), (ob :: tb)[k + 1]? = (tb[k]?)) /\
 (∀ (ob : AObj) (tb : Tbl), (ob :: tb).length = (tb.length + 1)) /\
 (([] : List AObj).length = (0)) /\
 (∀ (tb : Tbl), [] ++ tb = (tb)) /\
 (∀ (tb : Tbl), tb ++ [] = (tb)) /\
 (∀ (ob : AObj) (tb : Tbl) (tb2 : Tbl), (ob :: tb) ++ tb2 = (ob :: (tb ++ tb2))) /\
 (∀ (a : AV), List.replicate 0 a = ([])) /\
 (∀ (a : AV) (k : Nat), List.replicate (k + 1) a = (a :: List.replicate k a)) /\
 (∀ (tb : Tbl) (tb2 : Tbl) (tb3 : Tbl), (tb ++ tb2) ++ tb3 = (tb ++ (tb2 ++ tb3))) /\
 (∀ (tb : Tbl) (tb2 : Tbl), (tb ++ tb2).length = (tb.length + tb2.length)) /\
 (∀ (tb : Tbl) (tb2 : Tbl) (k : Nat), (tb ++ tb2)[tb.length + k]? = (tb2[k]?)) /\
 (∀ (tb : Tbl) (tb2 : Tbl), (tb ++ tb2)[tb.length]? = (tb2[0]?)) /\
 (∀ (tb : Tbl) (tb2 : Tbl) (k : Nat) (ob : AObj), (tb ++ tb2).set (tb.length + k) ob = (tb ++ tb2.set k ob)) /\
 (∀ (tb : Tbl) (tb2 : Tbl) (ob : AObj), (tb ++ tb2).set tb.length ob = (tb ++ tb2.set 0 ob)) /\
 (∀ (n : Nat) (k : Nat) (j : Nat), n + k + j = (n + (k + j))) /\
 (∀ (qo : AObj -> AObj) (tb : Tbl) (tb2 : Tbl), (tb ++ tb2).map qo = (tb.map qo ++ tb2.map qo)) /\
 (∀ (qo : AObj -> AObj) (ob : AObj) (tb : Tbl), List.map qo (ob :: tb) = (qo ob :: List.map qo tb)) /\
 (∀ (qo : AObj -> AObj), List.map qo [] = ([])) /\
 (∀ (qa : AV -> AV) (a : AV) (l : List AV), List.map qa (a :: l) = (qa a :: List.map qa l)) /\
 (∀ (qa : AV -> AV), List.map qa [] = ([])) /\
 (∀ (qp : Nat × AV -> Nat × AV), List.map qp [] = ([])) /\
 (∀ (qp : Nat × AV -> Nat × AV) (pa : Nat×AV) (r : List (Nat × AV)), List.map qp (pa :: r) = (qp pa :: List.map qp r)) /\
 (∀ (fo : Operand -> AV), List.map fo [] = ([])) /\
 (∀ (fo : Operand -> AV) (xo : Operand) (lo_ : List Operand), List.map fo (xo :: lo_) = (fo xo :: List.map fo lo_)) /\
 (∀ (fo : Operand -> AV), Option.map fo none = (none)) /\
 (∀ (fp : Nat×Operand->Nat×AV), List.map fp [] = ([])) /\
 (∀ (fp : Nat×Operand->Nat×AV) (po : Nat×Operand) (pr_ : List (Nat × Operand)), List.map fp (po :: pr_) = (fp po :: List.map fp pr_)) /\
 (∀ (fv : Value->AV), List.map fv [] = ([])) /\
 (∀ (fv : Value->AV) (v : Value) (lv : List Value), List.map fv (v :: lv) = (fv v :: List.map fv lv)) /\
 (∀ (l : List Value), (List.toArray l).toList = (l)) /\
 (∀ (lo_ : List Operand), (List.toArray lo_).toList = (lo_)) /\
 (∀ (lo_ : List Oper), (List.toArray lo_).toList = (lo_)) /\
 (∀ (tb : Tbl), tb.take tb.length = (tb)) /\
 (∀ (tb : Tbl) (tb2 : Tbl) (k : Nat), (tb ++ tb2).take (tb.length + k) = (tb ++ tb2.take k)) /\
 (∀ (tb : Tbl), List.take 0 tb = ([])) /\
 (∀ (ob : AObj) (tb : Tbl) (k : Nat), List.take (k + 1) (ob :: tb) = (ob :: List.take k tb)) /\
 (∀ (o_ : Oper) (lop_ : List Oper), (o_ :: lop_)[0]? = (some o_)) /\
 (∀ (o_ : Oper) (lop_ : List Oper) (k : Nat), (o_ :: lop_)[k + 1]? = (lop_[k]?)) /\
 (∀ (P : Program) (e : TypeId) (n : Nat), lim P e n = ((n * tby P e <= 140737488355328 /\ n <= 140737488355328))) /\
 (∀ (P : Program) (k : Nat) (t : Nat) (pr : List (Nat × AV)) (KE : AV -> Tbl -> Eff -> Prop) (Tb : Tbl), blsA P (.slice t) k pr Tb KE = (if tsz P t = 0 then False else getO (tzr P t) fun z => (z.cells.size = tsz P t /\ k * tsz P t <= 16777216) /\ getO (fillA (tsz P t) (List.replicate k (z.cells.toList.map AV.p)).flatten pr) fun cs => KE (.sl Tb.length 0 k) (Tb ++ [.buf t (tsz P t) cs]) [])) /\
 (∀ (sz : Nat) (cs : List AV), fillA sz cs [] = (some cs)) /\
 (∀ (sz : Nat) (cs : List AV) (i : Nat) (a : AV) (r : List (Nat × AV)), fillA sz cs ((i, a) :: r) = (fillB sz cs i a.known r)) /\
 (∀ (sz : Nat) (cs : List AV) (i : Nat) (vs : List AV) (r : List (Nat × AV)), fillB sz cs i (some vs) r = (if vs.length = sz /\ i * sz + vs.length <= cs.length then fillA sz (wrA cs (i * sz) vs) r else none)) /\
 (∀ (P : Program) (t : Nat) (pr : List (Nat × AV)) (KA : AV -> Prop), bldA P t pr KA = (getO (tzr P t) fun z => bldC P t (tst P t) (z.cells.toList.map AV.p) pr KA)) /\
 (∀ (P : Program) (t : Nat) (cs : List AV) (pr : List (Nat × AV)) (KA : AV -> Prop), bldC P t true cs pr KA = (getO (fillS P t cs pr) fun cs => KA (.ag cs))) /\
 (∀ (P : Program) (t : Nat) (cs : List AV) (pr : List (Nat × AV)) (KA : AV -> Prop), bldC P t false cs pr KA = (bldB P (tk P t) cs pr KA)) /\
 (∀ (P : Program) (n : Nat) (e : TypeId) (cs : List AV) (pr : List (Nat × AV)) (KA : AV -> Prop), bldB P (.array n e) cs pr KA = (if tsz P e = 0 then False else getO (fillA (tsz P e) cs pr) fun cs => KA (.ag cs))) /\
 (∀ (P : Program) (t : Nat) (cs : List AV), fillS P t cs [] = (some cs)) /\
 (∀ (P : Program) (t : Nat) (cs : List AV) (i : Nat) (a : AV) (r : List (Nat × AV)), fillS P t cs ((i, a) :: r) = (fillT P t cs (tff P t i) a.known r)) /\
 (∀ (P : Program) (t : Nat) (cs : List AV) (off : Nat) (e : TypeId) (vs : List AV) (r : List (Nat × AV)), fillT P t cs (some (off, e)) (some vs) r = (if vs.length = tsz P e /\ off + vs.length <= cs.length then fillS P t (wrA cs off vs) r else none)) /\
 (∀ (P : Program) (e : TypeId) (ik : IntKind) (z : Int) (ik2 : IntKind) (z2 : Int) (Tb : Tbl) (KE : AV -> Tbl -> Eff -> Prop), mksA P (.slice e) (.p (.int ik z)) (.p (.int ik2 z2)) Tb KE = (if tsz P e = 0 then False else getO (tzr P e) fun c => (0 <= z /\ z <= z2 /\ c.cells.size = tsz P e /\ lim P e z2.toNat) /\ KE (.sl Tb.length 0 z.toNat) (Tb ++ [.buf e (tsz P e) (List.replicate z.toNat (c.cells.toList.map AV.p)).flatten]) [])) /\
 (∀ (P : Program) (t : Nat) (s : Nat) (a : AV) (b : AV) (Tb : Tbl) (KE : AV -> Tbl -> Eff -> Prop), cpyA P [t, s] a b Tb KE = (cpyE P (tk P t) a b Tb KE)) /\
 (∀ (P : Program) (e : TypeId) (i : Nat) (off : Nat) (n : Nat) (y : AV) (Tb : Tbl) (KE : AV -> Tbl -> Eff -> Prop), cpyE P (.slice e) (.sl i off n) y Tb KE = (tsz P e = 1 /\ srcA 1 y Tb fun ys m => (ones ys = true /\ ys.length = m /\ 0 < m /\ 0 < n) /\ getO Tb[i]? fun o => cpyB P i off n ys m o Tb KE)) /\
 (∀ (P : Program) (i : Nat) (off : Nat) (n : Nat) (l : List AV) (m : Nat) (e : TypeId) (cs : List AV) (Tb : Tbl) (KE : AV -> Tbl -> Eff -> Prop), cpyB P i off n l m (.cells e cs) Tb KE = (off + (l.take (min m n)).length <= cs.length /\ KE (.p (.int .i64 (min m n : Nat))) (Tb.set i (.cells e (wrA cs off (l.take (min m n))))) [(i, false)])) /\
 (∀ (P : Program) (i : Nat) (off : Nat) (n : Nat) (l : List AV) (m : Nat) (e : TypeId) (sz : Nat) (cs : List AV) (Tb : Tbl) (KE : AV -> Tbl -> Eff -> Prop), cpyB P i off n l m (.buf e sz cs) Tb KE = (off + (l.take (min m n)).length <= cs.length /\ KE (.p (.int .i64 (min m n : Nat))) (Tb.set i (.buf e sz (wrA cs off (l.take (min m n))))) [(i, false)])) /\
 (∀ (s : Nat) (t : Nat) (xo : Operand) (P : Program) (G : Nat -> AV) (ρ : Operand -> AV) (ty : TypeId) (Tb : Tbl) (KE : AV -> Tbl -> Eff -> Prop), opA P G ρ (.convert s t xo) ty Tb KE = (cvoA P (tk P s) (tk P t) s t (ρ xo) Tb KE)) /\
 (∀ (P : Program) (ik : IntKind) (dsc : TypeDesc) (s : Nat) (t : Nat) (a : AV) (Tb : Tbl) (KE : AV -> Tbl -> Eff -> Prop), cvoA P (.int ik) dsc s t a Tb KE = (cnvA P (.int ik) dsc s t a Tb fun a => KE a Tb [])) /\
 (∀ (t : Nat) (P : Program) (G : Nat -> AV) (ρ : Operand -> AV) (ty : TypeId) (Tb : Tbl) (KE : AV -> Tbl -> Eff -> Prop), opA P G ρ (.makeMap t none) ty Tb KE = (mkmA P (tk P t) none Tb KE)) /\
 (∀ (t : Nat) (xo : Operand) (yo : Operand) (zo : Operand) (P : Program) (G : Nat -> AV) (ρ : Operand -> AV) (ty : TypeId) (Tb : Tbl) (KE : AV -> Tbl -> Eff -> Prop), opA P G ρ (.insert t xo yo zo) ty Tb KE = (mupA P (tk P t) (ρ xo) (ρ yo) (ρ zo) Tb KE)) /\
 (∀ (t : Nat) (xo : Operand) (yo : Operand) (P : Program) (G : Nat -> AV) (ρ : Operand -> AV) (ty : TypeId) (Tb : Tbl) (KE : AV -> Tbl -> Eff -> Prop), opA P G ρ (.mapEntry t xo yo) ty Tb KE = (menA P (tk P t) (ρ xo) (ρ yo) Tb KE)) /\
 (∀ (t : Nat) (xo : Operand) (yo : Operand) (zo : Operand) (P : Program) (G : Nat -> AV) (ρ : Operand -> AV) (ty : TypeId) (Tb : Tbl) (KE : AV -> Tbl -> Eff -> Prop), opA P G ρ (.entryStore t xo yo zo) ty Tb KE = (estA (ρ xo) (ρ yo) (ρ zo) Tb KE)) /\
 (∀ (xo : Operand) (yo : Operand) (t : Nat) (tsl : List TypeId) (P : Program) (G : Nat -> AV) (ρ : Operand -> AV) (ty : TypeId) (Tb : Tbl) (KE : AV -> Tbl -> Eff -> Prop), opA P G ρ (.call ⟨.builtin .delete, ⟨[xo, yo]⟩, ⟨t :: tsl⟩⟩) ty Tb KE = (mdlA P (tk P t) (ρ xo) (ρ yo) Tb KE)) /\
 (∀ (P : Program) (dsc : TypeDesc) (Tb : Tbl) (KE : AV -> Tbl -> Eff -> Prop), mkmA P dsc none Tb KE = (KE (.mp Tb.length) (Tb ++ [.map []]) [])) /\
 (∀ (P : Program) (e : TypeId) (el : TypeId) (a : AV) (x : AV) (y : AV) (Tb : Tbl) (KE : AV -> Tbl -> Eff -> Prop), mupA P (.map e el) a x y Tb KE = (getO x.flat fun k => mupB P e a k y Tb KE)) /\
 (∀ (P : Program) (e : TypeId) (i : Nat) (kv : Value) (y : AV) (Tb : Tbl) (KE : AV -> Tbl -> Eff -> Prop), mupB P e (.mp i) kv y Tb KE = (getO Tb[i]? fun o => mupC P e i kv y o Tb KE)) /\
 (∀ (P : Program) (e : TypeId) (i : Nat) (kv : Value) (y : AV) (mm : List (Value × AV)) (Tb : Tbl) (KE : AV -> Tbl -> Eff -> Prop), mupC P e i kv y (.map mm) Tb KE = (mapKO P e mm kv /\ KE (.p undef) (Tb.set i (.map (mset mm kv y))) [(i, false)])) /\
 (∀ (P : Program) (e : TypeId) (el : TypeId) (a : AV) (x : AV) (Tb : Tbl) (KE : AV -> Tbl -> Eff -> Prop), menA P (.map e el) a x Tb KE = (getO x.flat fun k => getO (tzr P el) fun z => menB P e a k z Tb KE)) /\
 (∀ (P : Program) (e : TypeId) (i : Nat) (kv : Value) (v : Value) (Tb : Tbl) (KE : AV -> Tbl -> Eff -> Prop), menB P e (.mp i) kv v Tb KE = (getO Tb[i]? fun o => menC P e i kv v o Tb KE)) /\
 (∀ (P : Program) (e : TypeId) (i : Nat) (kv : Value) (v : Value) (mm : List (Value × AV)) (Tb : Tbl) (KE : AV -> Tbl -> Eff -> Prop), menC P e i kv v (.map mm) Tb KE = (mapKO P e mm kv /\ ∀ (ms : Array MapEntry) (c b : Nat), MF (mset mm kv ((mfind mm kv).getD (.p v))) ms c -> MB (mset mm kv ((mfind mm kv).getD (.p v))) ms kv b -> KE (.tu [(mfind mm kv).getD (.p v), .p (.int .i64 (b : Int))]) (Tb.set i (.rcd (.map ms c) ((mset mm kv ((mfind mm kv).getD (.p v))).map (·.2)) (ms.toList.map (·.val)))) [(i, false)])) /\
 (∀ (i : Nat) (kz : IntKind) (zz : Int) (az : AV) (Tb : Tbl) (KE : AV -> Tbl -> Eff -> Prop), estA (.mp i) (.p (.int kz zz)) az Tb KE = (getO Tb[i]? fun o => estC i zz az o Tb KE)) /\
 (∀ (i : Nat) (zz : Int) (az : AV) (mz : Array MapEntry) (cz : Nat) (cs : List AV) (vz : List Value) (Tb : Tbl) (KE : AV -> Tbl -> Eff -> Prop), estC i zz az (.rcd (.map mz cz) cs vz) Tb KE = (∃ (es : List (Value × AV)) (k : Value) (s : Nat), zz = (s : Int) /\ MF es mz cz /\ MB es mz k s /\ es.map (·.2) = cs /\ vz = mz.toList.map (·.val) /\ KE (.p undef) (Tb.set i (.map (mset es k az))) [(i, false)])) /\
 (∀ (P : Program) (e : TypeId) (el : TypeId) (a : AV) (x : AV) (Tb : Tbl) (KE : AV -> Tbl -> Eff -> Prop), mdlA P (.map e el) a x Tb KE = (getO x.flat fun k => mdlB P e a k Tb KE)) /\
 (∀ (P : Program) (e : TypeId) (i : Nat) (kv : Value) (Tb : Tbl) (KE : AV -> Tbl -> Eff -> Prop), mdlB P e (.mp i) kv Tb KE = (getO Tb[i]? fun o => mdlC P e i kv o Tb KE)) /\
 (∀ (P : Program) (e : TypeId) (i : Nat) (kv : Value) (mm : List (Value × AV)) (Tb : Tbl) (KE : AV -> Tbl -> Eff -> Prop), mdlC P e i kv (.map mm) Tb KE = (mapKO P e mm kv /\ KE (.p (.tuple #[])) (Tb.set i (.map (mdel mm kv))) [(i, false)])) /\
 (∀ (P : Program) (e : TypeId) (el : TypeId) (a : AV) (x : AV) (bb : Bool) (Tb : Tbl) (KA : AV -> Prop), lokA P (.map e el) a x bb Tb KA = (getO x.flat fun k => getO (tzr P el) fun z => lokB P e a k bb z Tb KA)) /\
 (∀ (P : Program) (e : TypeId) (i : Nat) (kv : Value) (bb : Bool) (v : Value) (Tb : Tbl) (KA : AV -> Prop), lokB P e (.mp i) kv bb v Tb KA = (lokC P e Tb[i]? kv bb v KA)) /\
 (∀ (P : Program) (e : TypeId) (mm : List (Value × AV)) (kv : Value) (bb : Bool) (v : Value) (KA : AV -> Prop), lokC P e (some (.map mm)) kv bb v KA = (mapKO P e mm kv /\ lkK bb (mfind mm kv) v KA)) /\
 (∀ (a : AV) (v : Value) (KA : AV -> Prop), lkK false (some a) v KA = (KA a)) /\
 (∀ (v : Value) (KA : AV -> Prop), lkK false none v KA = (KA (.p v))) /\
 (∀ (P : Program) (ik : IntKind) (dsc : TypeDesc) (s : Nat) (t : Nat) (a : AV) (Tb : Tbl) (KA : AV -> Prop), cnvA P (.int ik) dsc s t a Tb KA = (isP a fun v => convV (.int ik) dsc s t v (pureK P KA) fun v => KA (.p v))) /\
 (∀ (P : Program) (op : BinOp) (t : Nat) (v : Value) (b : AV) (xo : Operand) (yo : Operand) (Tb : Tbl) (KA : AV -> Prop), bin2A P op t (.p v) b xo yo Tb KA = (binA P op t (.p v) b xo yo KA)) /\
 (∀ (P : Program) (op : BinOp) (t : Nat) (cs : List AV) (b : AV) (xo : Operand) (yo : Operand) (Tb : Tbl) (KA : AV -> Prop), bin2A P op t (.ag cs) b xo yo Tb KA = (binA P op t (.ag cs) b xo yo KA)) /\
 (∀ (P : Program) (op : BinOp) (t : Nat) (v : Value) (i : Nat) (off : Nat) (xo : Operand) (yo : Operand) (Tb : Tbl) (KA : AV -> Prop), bin2A P op t (.ptr i off) (.p v) xo yo Tb KA = (binA P op t (.ptr i off) (.p v) xo yo KA)) /\
 (∀ (P : Program) (op : BinOp) (t : Nat) (i : Nat) (off : Nat) (j : Nat) (off2 : Nat) (xo : Operand) (yo : Operand) (Tb : Tbl) (KA : AV -> Prop), bin2A P op t (.ptr i off) (.ptr j off2) xo yo Tb KA = (ccO Tb[i]? (ccO Tb[j]? (peqA P (tk P t) op (decide (i = j /\ off = off2)) KA)))) /\
 (∀ (P : Program) (e : TypeId) (bb : Bool) (KA : AV -> Prop), peqA P (.pointer e) .eql bb KA = (if tsz P e = 0 then False else KA (.p (.bool bb)))) /\
 (∀ (gg : Nat -> AV) (r : List (Nat × AV)) (i : Nat), mkA gg r i 0 = ([])) /\
 (∀ (gg : Nat -> AV) (r : List (Nat × AV)) (i : Nat) (n : Nat), mkA gg r i (n + 1) = (look i (gg i) r :: mkA gg r (i + 1) n)) /\
 (∀ (i : Nat) (a : AV), look i a [] = (a)) /\
 (∀ (i : Nat) (a : AV) (j : Nat) (b : AV) (r : List (Nat × AV)), look i a ((j, b) :: r) = (if i = j then b else look i a r)) /\
 (∀ (n : Nat) (loc : List AV), Lc n [] loc = (loc.length = n)) /\
 (∀ (n : Nat) (i : Nat) (a : AV) (r : List (Nat × AV)) (loc : List AV), Lc n ((i, a) :: r) loc = (loc[i]? = some a /\ Lc n r loc)) /\
 (∀ (a b : AV), (some a = some b) = (a = b)) /\
 (∀ (a : AV), (a = a) = True) /\
 (∀ (t : Tbl), (t = t) = True) /\
 (∀ (e : Eff), (e = e) = True) /\
 (∀ (e : Eff), (∀ x ∈ ([] : Eff), x ∈ e) = True) /\
 (∀ (e : Eff), (∀ x ∈ e, x ∈ e) = True) /\
 (∀ (d : List AV), (d = d) = True) /\
 (∀ (α : Type) (x y : α), (if True then x else y) = x) /\
 (∀ (α : Type) (x y : α), (if False then x else y) = y) /\
 (∀ (x y : Prop), (if True then x else y) = x) /\
 (∀ (x y : Prop), (if False then x else y) = y) /\
 ((AV.p undef) = .p (.tuple #[])) /\
 (∀ (α : Type) (x : α) (K : α -> Prop), getO (some x) K = K x) /\
 (∀ (l : List Nat) (x : Nat), (x == x) = true) /\
 (∀ (α β : Type) (f : α -> β) (x : α), Option.map f (some x) = some (f x)) /\
 (∀ (α β : Type) (f : α -> β), Option.map f none = none) /\
 (∀ (n k : Nat), (n + (k + 1) == n) = false) /\
 (∀ (n k : Nat), (n == n + (k + 1)) = false) /\
 (∀ (n k j : Nat), (n + k == n + j) = (k == j)) /\
 (∀ (n k j : Nat), (n + k = n + j) = (k = j)) /\
 (∀ (n k : Nat), (n + (k + 1) = n) = False) /\
 (∀ (n k : Nat), (n = n + (k + 1)) = False) /\
 (∀ (k : Nat), ((k : Int)).toNat = k) /\
 ((Nat.cast 0 : Int) = 0) /\
 ((Nat.cast 1 : Int) = 1) /\
 (∀ (k : Nat), k * 1 = k) /\
 (∀ (k : Nat), 0 + k = k) /\
 (∀ (k : Nat), k + 0 = k) /\
 (∀ (k : Nat), 0 * k = 0) /\
 (∀ (k : Nat), k - 0 = k) /\
 (∀ (p : Prop), (True /\ p) = p) /\
 (∀ (p : Prop), (p /\ True) = p) /\
 (∀ (p : Prop), (p ∨ True) = True) /\
 (∀ (p : Prop), (True ∨ p) = True) /\
 ((true = true) = True) /\
 ((false = true) = False) /\
 (∀ (k : IntKind), (k = k) = True) /\
 (∀ (k : Nat), (k = k) = True) /\
 ((([] : List AV) = []) = True) /\
 ((([] : List (Nat × Bool)) = []) = True) /\
 ((([] : Eff) = []) = True) /\
 decide True = true /\
 decide False = false /\
 (!true) = false /\
 (!false) = true /\
 (∀ b : Bool, (true && b) = b) /\
 (∀ b : Bool, (false && b) = false) /\
 (∀ b : Bool, (b && true) = b) /\
 (∀ (a : AV) (l : List AV), (a :: l ≠ []) = True) /\
 (∀ (l : List AV), List.drop 0 l = l) := by
 refine ⟨?_, ?_, ?_, ?_, ?_, ?_, ?_, ?_, ?_, ?_, ?_, ?_, ?_, ?_, ?_, ?_, ?_, ?_, ?_, ?_, ?_, ?_, ?_, ?_, ?_, ?_, ?_, ?_, ?_, ?_, ?_, ?_, ?_, ?_, ?_, ?_, ?_, ?_, ?_, ?_, ?_, ?_, ?_, ?_, ?_, ?_, ?_, ?_, ?_, ?_, ?_, ?_, ?_, ?_, ?_, ?_, ?_, ?_, ?_, ?_, ?_, ?_, ?_, ?_, ?_, ?_, ?_, ?_, ?_, ?_, ?_, ?_, ?_, ?_, ?_, ?_, ?_, ?_, ?_, ?_, ?_, ?_, ?_, ?_, ?_, ?_, ?_, ?_, ?_, ?_, ?_, ?_, ?_, ?_, ?_, ?_, ?_, ?_, ?_, ?_, ?_, ?_, ?_, ?_, ?_, ?_, ?_, ?_, ?_, ?_, ?_, ?_, ?_, ?_, ?_, ?_, ?_, ?_, ?_, ?_, ?_, ?_, ?_, ?_, ?_, ?_, ?_, ?_, ?_, ?_, ?_, ?_, ?_, ?_, ?_, ?_, ?_, ?_, ?_, ?_, ?_, ?_, ?_, ?_, ?_, ?_, ?_, ?_, ?_, ?_, ?_, ?_, ?_, ?_, ?_, ?_, ?_, ?_, ?_, ?_, ?_, ?_, ?_, ?_, ?_, ?_, ?_, ?_, ?_, ?_, ?_, ?_, ?_, ?_, ?_, ?_, ?_, ?_, ?_, ?_, ?_, ?_, ?_, ?_, ?_, ?_, ?_, ?_, ?_, ?_, ?_, ?_, ?_, ?_, ?_, ?_, ?_, ?_, ?_, ?_, ?_, ?_, ?_, ?_, ?_, ?_, ?_, ?_, ?_, ?_, ?_, ?_, ?_, ?_, ?_, ?_, ?_, ?_, ?_, ?_, ?_, ?_, ?_, ?_, ?_, ?_, ?_, ?_, ?_, ?_, ?_, ?_, ?_, ?_, ?_, ?_, ?_, ?_, ?_, ?_, ?_, ?_, ?_, ?_, ?_, ?_, ?_, ?_, ?_, ?_, ?_, ?_, ?_, ?_, ?_, ?_, ?_, ?_, ?_, ?_, ?_, ?_, ?_, ?_, ?_, ?_, ?_, ?_, ?_, ?_, ?_, ?_, ?_, ?_, ?_, ?_, ?_, ?_, ?_, ?_, ?_, ?_, ?_, ?_, ?_, ?_, ?_, ?_, ?_, ?_, ?_, ?_, ?_, ?_, ?_, ?_, ?_, ?_, ?_, ?_, ?_, ?_, ?_, ?_, ?_, ?_, ?_, ?_, ?_, ?_, ?_, ?_, ?_, ?_, ?_, ?_, ?_, ?_, ?_, ?_, ?_, ?_, ?_, ?_, ?_, ?_, ?_, ?_, ?_, ?_, ?_, ?_, ?_, ?_, ?_, ?_, ?_, ?_, ?_, ?_, ?_, ?_, ?_, ?_, ?_, ?_, ?_, ?_, ?_, ?_, ?_, ?_, ?_, ?_, ?_, ?_, ?_, ?_, ?_, ?_, ?_, ?_, ?_, ?_, ?_, ?_⟩ <;> (intros; first | rfl | (exact propext ⟨fun h => h, fun h => h⟩) | (exact slots1 _ _) | (exact slotsT1 _ _) | (exact and_self_of rfl) | (exact get_app _ _ _) | (exact get_app0 _ _) | (exact take_app _ _ _) | (exact beq_app _ _ _) | (simp [AV.wo, AV.pub, AV.woL_eq, AV.pubL_eq, AObj.wo, AObj.pub, slots, slotsT, still, moved, keepT_get, rec1, Nat.add_assoc]; done) | (simp [AV.wo, AV.pub, AV.woL_eq, AV.pubL_eq, slots, slotsT, still, moved]; try rfl))
end Go.E
namespace Go.E
theorem u8_nat (m : Nat) : UInt8.ofInt (m : Int) = UInt8.ofNat m := by rw [<- UInt8.toNat_inj]; simp [UInt8.ofInt, Int.emod_emod_of_dvd]; omega
theorem u8_self (x : UInt8) : UInt8.ofInt (x.toNat : Int) = x := by rw [u8_nat, UInt8.ofNat_toNat]
theorem u8_toNat (z : Int) : ((UInt8.ofInt z).toNat : Int) = z % 2 ^ 8 := by
 have h0 : 0 <= z % 2 ^ 8 := Int.emod_nonneg _ (by decide)
 have h1 : z % 2 ^ 8 < 2 ^ 8 := Int.emod_lt_of_pos _ (by decide)
 simp only [UInt8.ofInt]
 rw [UInt8.toNat_ofNat']
 omega
theorem u8_wrap (z : Int) : IntKind.u8.wrap z = ((UInt8.ofInt z).toNat : Int) := by rw [u8_toNat]; simp [IntKind.wrap, IntKind.bits, IntKind.signed]
theorem u8_sub (x y : Int) : UInt8.ofInt (x - y) = UInt8.ofInt x - UInt8.ofInt y := by
 have := UInt8.ofInt_add (x - y) y
 rw [Int.sub_add_cancel] at this
 rw [this, UInt8.add_sub_cancel]
theorem u8_bv (z : Int) : BitVec.ofInt IntKind.u8.bits z = (UInt8.ofInt z).toBitVec := by
 apply BitVec.eq_of_toInt_eq
 have h := u8_toNat z
 apply congrArg
 apply BitVec.eq_of_toNat_eq
 show (BitVec.ofInt 8 z).toNat = (UInt8.ofInt z).toNat
 rw [BitVec.toNat_ofInt, show ((2 ^ 8 : Nat) : Int) = 2 ^ 8 from rfl]
 omega
theorem u8_and (x y : Int) : UInt8.ofInt (((BitVec.ofInt IntKind.u8.bits x &&& BitVec.ofInt IntKind.u8.bits y).toNat : Nat) : Int) = UInt8.ofInt x &&& UInt8.ofInt y := by rw [u8_bv, u8_bv]; exact u8_self (UInt8.ofInt x &&& UInt8.ofInt y)
theorem u8_or (x y : Int) : UInt8.ofInt (((BitVec.ofInt IntKind.u8.bits x ||| BitVec.ofInt IntKind.u8.bits y).toNat : Nat) : Int) = UInt8.ofInt x ||| UInt8.ofInt y := by rw [u8_bv, u8_bv]; exact u8_self (UInt8.ofInt x ||| UInt8.ofInt y)
theorem u8_xor (x y : Int) : UInt8.ofInt (((BitVec.ofInt IntKind.u8.bits x ^^^ BitVec.ofInt IntKind.u8.bits y).toNat : Nat) : Int) = UInt8.ofInt x ^^^ UInt8.ofInt y := by rw [u8_bv, u8_bv]; exact u8_self (UInt8.ofInt x ^^^ UInt8.ofInt y)
theorem u8_andNot (x y : Int) : UInt8.ofInt (((BitVec.ofInt IntKind.u8.bits x &&& ~~~ BitVec.ofInt IntKind.u8.bits y).toNat : Nat) : Int) = UInt8.ofInt x &&& ~~~ UInt8.ofInt y := by rw [u8_bv, u8_bv]; exact u8_self (UInt8.ofInt x &&& ~~~ UInt8.ofInt y)
def u8_shl (x : UInt8) (k : Nat) : UInt8 := if k < 8 then x <<< (UInt8.ofNat k) else 0
def u8_shr (x : UInt8) (k : Nat) : UInt8 := if k < 8 then x >>> (UInt8.ofNat k) else 0
theorem u8_shl_eq (x : UInt8) (k : Nat) : x * UInt8.ofInt (2 ^ (min k IntKind.u8.bits)) = u8_shl x k := by
 unfold u8_shl
 rw [<- UInt8.toNat_inj]
 have e : UInt8.ofInt (2 ^ (min k IntKind.u8.bits)) = UInt8.ofNat (2 ^ (min k 8)) := by
  rw [<- u8_nat]; simp [IntKind.bits]
 rw [e, UInt8.toNat_mul, UInt8.toNat_ofNat']
 split
 . rename_i h
   rw [Nat.min_eq_left (by omega), UInt8.toNat_shiftLeft, UInt8.toNat_ofNat', Nat.mod_eq_of_lt (show k < 2 ^ 8 from Nat.lt_trans h (by decide)), Nat.mod_eq_of_lt h, Nat.shiftLeft_eq, Nat.mul_mod, Nat.mod_mod, <- Nat.mul_mod]
 . rename_i h
   rw [Nat.min_eq_right (by omega)]
   simp
theorem u8_shr_eq (x : UInt8) (k : Nat) : ((x.toNat : Int)).fdiv (2 ^ (min k IntKind.u8.bits)) = ((u8_shr x k).toNat : Int) := by
 unfold u8_shr
 have e : ((x.toNat : Int)).fdiv (2 ^ (min k IntKind.u8.bits)) = ((x.toNat / 2 ^ (min k 8) : Nat) : Int) := by
  rw [Int.fdiv_eq_ediv_of_nonneg _ (Int.le_of_lt (Int.pow_pos (by decide)))]
  simp [IntKind.bits]
 rw [e]
 congr 1
 split
 . rename_i h
   rw [Nat.min_eq_left (by omega), UInt8.toNat_shiftRight, UInt8.toNat_ofNat', Nat.mod_eq_of_lt (show k < 2 ^ 8 from Nat.lt_trans h (by decide)), Nat.mod_eq_of_lt h, Nat.shiftRight_eq_div_pow]
 . rename_i h
   rw [Nat.min_eq_right (by omega)]
   have := x.toNat_lt
   simp
   omega
theorem u8_nonneg (x : UInt8) : (0 <= (x.toNat : Int)) = True := by simp
theorem u8_toInt (x : UInt8) : ((x.toNat : Int)).toNat = x.toNat := by simp
theorem u16_nat (m : Nat) : UInt16.ofInt (m : Int) = UInt16.ofNat m := by rw [<- UInt16.toNat_inj]; simp [UInt16.ofInt, Int.emod_emod_of_dvd]; omega
theorem u16_self (x : UInt16) : UInt16.ofInt (x.toNat : Int) = x := by rw [u16_nat, UInt16.ofNat_toNat]
theorem u16_toNat (z : Int) : ((UInt16.ofInt z).toNat : Int) = z % 2 ^ 16 := by
 have h0 : 0 <= z % 2 ^ 16 := Int.emod_nonneg _ (by decide)
 have h1 : z % 2 ^ 16 < 2 ^ 16 := Int.emod_lt_of_pos _ (by decide)
 simp only [UInt16.ofInt]
 rw [UInt16.toNat_ofNat']
 omega
theorem u16_wrap (z : Int) : IntKind.u16.wrap z = ((UInt16.ofInt z).toNat : Int) := by rw [u16_toNat]; simp [IntKind.wrap, IntKind.bits, IntKind.signed]
theorem u16_sub (x y : Int) : UInt16.ofInt (x - y) = UInt16.ofInt x - UInt16.ofInt y := by
 have := UInt16.ofInt_add (x - y) y
 rw [Int.sub_add_cancel] at this
 rw [this, UInt16.add_sub_cancel]
theorem u16_bv (z : Int) : BitVec.ofInt IntKind.u16.bits z = (UInt16.ofInt z).toBitVec := by
 apply BitVec.eq_of_toInt_eq
 have h := u16_toNat z
 apply congrArg
 apply BitVec.eq_of_toNat_eq
 show (BitVec.ofInt 16 z).toNat = (UInt16.ofInt z).toNat
 rw [BitVec.toNat_ofInt, show ((2 ^ 16 : Nat) : Int) = 2 ^ 16 from rfl]
 omega
theorem u16_and (x y : Int) : UInt16.ofInt (((BitVec.ofInt IntKind.u16.bits x &&& BitVec.ofInt IntKind.u16.bits y).toNat : Nat) : Int) = UInt16.ofInt x &&& UInt16.ofInt y := by rw [u16_bv, u16_bv]; exact u16_self (UInt16.ofInt x &&& UInt16.ofInt y)
theorem u16_or (x y : Int) : UInt16.ofInt (((BitVec.ofInt IntKind.u16.bits x ||| BitVec.ofInt IntKind.u16.bits y).toNat : Nat) : Int) = UInt16.ofInt x ||| UInt16.ofInt y := by rw [u16_bv, u16_bv]; exact u16_self (UInt16.ofInt x ||| UInt16.ofInt y)
theorem u16_xor (x y : Int) : UInt16.ofInt (((BitVec.ofInt IntKind.u16.bits x ^^^ BitVec.ofInt IntKind.u16.bits y).toNat : Nat) : Int) = UInt16.ofInt x ^^^ UInt16.ofInt y := by rw [u16_bv, u16_bv]; exact u16_self (UInt16.ofInt x ^^^ UInt16.ofInt y)
theorem u16_andNot (x y : Int) : UInt16.ofInt (((BitVec.ofInt IntKind.u16.bits x &&& ~~~ BitVec.ofInt IntKind.u16.bits y).toNat : Nat) : Int) = UInt16.ofInt x &&& ~~~ UInt16.ofInt y := by rw [u16_bv, u16_bv]; exact u16_self (UInt16.ofInt x &&& ~~~ UInt16.ofInt y)
def u16_shl (x : UInt16) (k : Nat) : UInt16 := if k < 16 then x <<< (UInt16.ofNat k) else 0
def u16_shr (x : UInt16) (k : Nat) : UInt16 := if k < 16 then x >>> (UInt16.ofNat k) else 0
theorem u16_shl_eq (x : UInt16) (k : Nat) : x * UInt16.ofInt (2 ^ (min k IntKind.u16.bits)) = u16_shl x k := by
 unfold u16_shl
 rw [<- UInt16.toNat_inj]
 have e : UInt16.ofInt (2 ^ (min k IntKind.u16.bits)) = UInt16.ofNat (2 ^ (min k 16)) := by
  rw [<- u16_nat]; simp [IntKind.bits]
 rw [e, UInt16.toNat_mul, UInt16.toNat_ofNat']
 split
 . rename_i h
   rw [Nat.min_eq_left (by omega), UInt16.toNat_shiftLeft, UInt16.toNat_ofNat', Nat.mod_eq_of_lt (show k < 2 ^ 16 from Nat.lt_trans h (by decide)), Nat.mod_eq_of_lt h, Nat.shiftLeft_eq, Nat.mul_mod, Nat.mod_mod, <- Nat.mul_mod]
 . rename_i h
   rw [Nat.min_eq_right (by omega)]
   simp
theorem u16_shr_eq (x : UInt16) (k : Nat) : ((x.toNat : Int)).fdiv (2 ^ (min k IntKind.u16.bits)) = ((u16_shr x k).toNat : Int) := by
 unfold u16_shr
 have e : ((x.toNat : Int)).fdiv (2 ^ (min k IntKind.u16.bits)) = ((x.toNat / 2 ^ (min k 16) : Nat) : Int) := by
  rw [Int.fdiv_eq_ediv_of_nonneg _ (Int.le_of_lt (Int.pow_pos (by decide)))]
  simp [IntKind.bits]
 rw [e]
 congr 1
 split
 . rename_i h
   rw [Nat.min_eq_left (by omega), UInt16.toNat_shiftRight, UInt16.toNat_ofNat', Nat.mod_eq_of_lt (show k < 2 ^ 16 from Nat.lt_trans h (by decide)), Nat.mod_eq_of_lt h, Nat.shiftRight_eq_div_pow]
 . rename_i h
   rw [Nat.min_eq_right (by omega)]
   have := x.toNat_lt
   simp
   omega
theorem u16_nonneg (x : UInt16) : (0 <= (x.toNat : Int)) = True := by simp
theorem u16_toInt (x : UInt16) : ((x.toNat : Int)).toNat = x.toNat := by simp
theorem u32_nat (m : Nat) : UInt32.ofInt (m : Int) = UInt32.ofNat m := by rw [<- UInt32.toNat_inj]; simp [UInt32.ofInt, Int.emod_emod_of_dvd]; omega
theorem u32_self (x : UInt32) : UInt32.ofInt (x.toNat : Int) = x := by rw [u32_nat, UInt32.ofNat_toNat]
theorem u32_toNat (z : Int) : ((UInt32.ofInt z).toNat : Int) = z % 2 ^ 32 := by
 have h0 : 0 <= z % 2 ^ 32 := Int.emod_nonneg _ (by decide)
 have h1 : z % 2 ^ 32 < 2 ^ 32 := Int.emod_lt_of_pos _ (by decide)
 simp only [UInt32.ofInt]
 rw [UInt32.toNat_ofNat']
 omega
theorem u32_wrap (z : Int) : IntKind.u32.wrap z = ((UInt32.ofInt z).toNat : Int) := by rw [u32_toNat]; simp [IntKind.wrap, IntKind.bits, IntKind.signed]
theorem u32_sub (x y : Int) : UInt32.ofInt (x - y) = UInt32.ofInt x - UInt32.ofInt y := by
 have := UInt32.ofInt_add (x - y) y
 rw [Int.sub_add_cancel] at this
 rw [this, UInt32.add_sub_cancel]
theorem u32_bv (z : Int) : BitVec.ofInt IntKind.u32.bits z = (UInt32.ofInt z).toBitVec := by
 apply BitVec.eq_of_toInt_eq
 have h := u32_toNat z
 apply congrArg
 apply BitVec.eq_of_toNat_eq
 show (BitVec.ofInt 32 z).toNat = (UInt32.ofInt z).toNat
 rw [BitVec.toNat_ofInt, show ((2 ^ 32 : Nat) : Int) = 2 ^ 32 from rfl]
 omega
theorem u32_and (x y : Int) : UInt32.ofInt (((BitVec.ofInt IntKind.u32.bits x &&& BitVec.ofInt IntKind.u32.bits y).toNat : Nat) : Int) = UInt32.ofInt x &&& UInt32.ofInt y := by rw [u32_bv, u32_bv]; exact u32_self (UInt32.ofInt x &&& UInt32.ofInt y)
theorem u32_or (x y : Int) : UInt32.ofInt (((BitVec.ofInt IntKind.u32.bits x ||| BitVec.ofInt IntKind.u32.bits y).toNat : Nat) : Int) = UInt32.ofInt x ||| UInt32.ofInt y := by rw [u32_bv, u32_bv]; exact u32_self (UInt32.ofInt x ||| UInt32.ofInt y)
theorem u32_xor (x y : Int) : UInt32.ofInt (((BitVec.ofInt IntKind.u32.bits x ^^^ BitVec.ofInt IntKind.u32.bits y).toNat : Nat) : Int) = UInt32.ofInt x ^^^ UInt32.ofInt y := by rw [u32_bv, u32_bv]; exact u32_self (UInt32.ofInt x ^^^ UInt32.ofInt y)
theorem u32_andNot (x y : Int) : UInt32.ofInt (((BitVec.ofInt IntKind.u32.bits x &&& ~~~ BitVec.ofInt IntKind.u32.bits y).toNat : Nat) : Int) = UInt32.ofInt x &&& ~~~ UInt32.ofInt y := by rw [u32_bv, u32_bv]; exact u32_self (UInt32.ofInt x &&& ~~~ UInt32.ofInt y)
def u32_shl (x : UInt32) (k : Nat) : UInt32 := if k < 32 then x <<< (UInt32.ofNat k) else 0
def u32_shr (x : UInt32) (k : Nat) : UInt32 := if k < 32 then x >>> (UInt32.ofNat k) else 0
theorem u32_shl_eq (x : UInt32) (k : Nat) : x * UInt32.ofInt (2 ^ (min k IntKind.u32.bits)) = u32_shl x k := by
 unfold u32_shl
 rw [<- UInt32.toNat_inj]
 have e : UInt32.ofInt (2 ^ (min k IntKind.u32.bits)) = UInt32.ofNat (2 ^ (min k 32)) := by
  rw [<- u32_nat]; simp [IntKind.bits]
 rw [e, UInt32.toNat_mul, UInt32.toNat_ofNat']
 split
 . rename_i h
   rw [Nat.min_eq_left (by omega), UInt32.toNat_shiftLeft, UInt32.toNat_ofNat', Nat.mod_eq_of_lt (show k < 2 ^ 32 from Nat.lt_trans h (by decide)), Nat.mod_eq_of_lt h, Nat.shiftLeft_eq, Nat.mul_mod, Nat.mod_mod, <- Nat.mul_mod]
 . rename_i h
   rw [Nat.min_eq_right (by omega)]
   simp
theorem u32_shr_eq (x : UInt32) (k : Nat) : ((x.toNat : Int)).fdiv (2 ^ (min k IntKind.u32.bits)) = ((u32_shr x k).toNat : Int) := by
 unfold u32_shr
 have e : ((x.toNat : Int)).fdiv (2 ^ (min k IntKind.u32.bits)) = ((x.toNat / 2 ^ (min k 32) : Nat) : Int) := by
  rw [Int.fdiv_eq_ediv_of_nonneg _ (Int.le_of_lt (Int.pow_pos (by decide)))]
  simp [IntKind.bits]
 rw [e]
 congr 1
 split
 . rename_i h
   rw [Nat.min_eq_left (by omega), UInt32.toNat_shiftRight, UInt32.toNat_ofNat', Nat.mod_eq_of_lt (show k < 2 ^ 32 from Nat.lt_trans h (by decide)), Nat.mod_eq_of_lt h, Nat.shiftRight_eq_div_pow]
 . rename_i h
   rw [Nat.min_eq_right (by omega)]
   have := x.toNat_lt
   simp
   omega
theorem u32_nonneg (x : UInt32) : (0 <= (x.toNat : Int)) = True := by simp
theorem u32_toInt (x : UInt32) : ((x.toNat : Int)).toNat = x.toNat := by simp
theorem u64_nat (m : Nat) : UInt64.ofInt (m : Int) = UInt64.ofNat m := by rw [<- UInt64.toNat_inj]; simp [UInt64.ofInt, Int.emod_emod_of_dvd]; omega
theorem u64_self (x : UInt64) : UInt64.ofInt (x.toNat : Int) = x := by rw [u64_nat, UInt64.ofNat_toNat]
theorem u64_toNat (z : Int) : ((UInt64.ofInt z).toNat : Int) = z % 2 ^ 64 := by
 have h0 : 0 <= z % 2 ^ 64 := Int.emod_nonneg _ (by decide)
 have h1 : z % 2 ^ 64 < 2 ^ 64 := Int.emod_lt_of_pos _ (by decide)
 simp only [UInt64.ofInt]
 rw [UInt64.toNat_ofNat']
 omega
theorem u64_wrap (z : Int) : IntKind.u64.wrap z = ((UInt64.ofInt z).toNat : Int) := by rw [u64_toNat]; simp [IntKind.wrap, IntKind.bits, IntKind.signed]
theorem u64_sub (x y : Int) : UInt64.ofInt (x - y) = UInt64.ofInt x - UInt64.ofInt y := by
 have := UInt64.ofInt_add (x - y) y
 rw [Int.sub_add_cancel] at this
 rw [this, UInt64.add_sub_cancel]
theorem u64_bv (z : Int) : BitVec.ofInt IntKind.u64.bits z = (UInt64.ofInt z).toBitVec := by
 apply BitVec.eq_of_toInt_eq
 have h := u64_toNat z
 apply congrArg
 apply BitVec.eq_of_toNat_eq
 show (BitVec.ofInt 64 z).toNat = (UInt64.ofInt z).toNat
 rw [BitVec.toNat_ofInt, show ((2 ^ 64 : Nat) : Int) = 2 ^ 64 from rfl]
 omega
theorem u64_and (x y : Int) : UInt64.ofInt (((BitVec.ofInt IntKind.u64.bits x &&& BitVec.ofInt IntKind.u64.bits y).toNat : Nat) : Int) = UInt64.ofInt x &&& UInt64.ofInt y := by rw [u64_bv, u64_bv]; exact u64_self (UInt64.ofInt x &&& UInt64.ofInt y)
theorem u64_or (x y : Int) : UInt64.ofInt (((BitVec.ofInt IntKind.u64.bits x ||| BitVec.ofInt IntKind.u64.bits y).toNat : Nat) : Int) = UInt64.ofInt x ||| UInt64.ofInt y := by rw [u64_bv, u64_bv]; exact u64_self (UInt64.ofInt x ||| UInt64.ofInt y)
theorem u64_xor (x y : Int) : UInt64.ofInt (((BitVec.ofInt IntKind.u64.bits x ^^^ BitVec.ofInt IntKind.u64.bits y).toNat : Nat) : Int) = UInt64.ofInt x ^^^ UInt64.ofInt y := by rw [u64_bv, u64_bv]; exact u64_self (UInt64.ofInt x ^^^ UInt64.ofInt y)
theorem u64_andNot (x y : Int) : UInt64.ofInt (((BitVec.ofInt IntKind.u64.bits x &&& ~~~ BitVec.ofInt IntKind.u64.bits y).toNat : Nat) : Int) = UInt64.ofInt x &&& ~~~ UInt64.ofInt y := by rw [u64_bv, u64_bv]; exact u64_self (UInt64.ofInt x &&& ~~~ UInt64.ofInt y)
def u64_shl (x : UInt64) (k : Nat) : UInt64 := if k < 64 then x <<< (UInt64.ofNat k) else 0
def u64_shr (x : UInt64) (k : Nat) : UInt64 := if k < 64 then x >>> (UInt64.ofNat k) else 0
theorem u64_shl_eq (x : UInt64) (k : Nat) : x * UInt64.ofInt (2 ^ (min k IntKind.u64.bits)) = u64_shl x k := by
 unfold u64_shl
 rw [<- UInt64.toNat_inj]
 have e : UInt64.ofInt (2 ^ (min k IntKind.u64.bits)) = UInt64.ofNat (2 ^ (min k 64)) := by
  rw [<- u64_nat]; simp [IntKind.bits]
 rw [e, UInt64.toNat_mul, UInt64.toNat_ofNat']
 split
 . rename_i h
   rw [Nat.min_eq_left (by omega), UInt64.toNat_shiftLeft, UInt64.toNat_ofNat', Nat.mod_eq_of_lt (show k < 2 ^ 64 from Nat.lt_trans h (by decide)), Nat.mod_eq_of_lt h, Nat.shiftLeft_eq, Nat.mul_mod, Nat.mod_mod, <- Nat.mul_mod]
 . rename_i h
   rw [Nat.min_eq_right (by omega)]
   simp
theorem u64_shr_eq (x : UInt64) (k : Nat) : ((x.toNat : Int)).fdiv (2 ^ (min k IntKind.u64.bits)) = ((u64_shr x k).toNat : Int) := by
 unfold u64_shr
 have e : ((x.toNat : Int)).fdiv (2 ^ (min k IntKind.u64.bits)) = ((x.toNat / 2 ^ (min k 64) : Nat) : Int) := by
  rw [Int.fdiv_eq_ediv_of_nonneg _ (Int.le_of_lt (Int.pow_pos (by decide)))]
  simp [IntKind.bits]
 rw [e]
 congr 1
 split
 . rename_i h
   rw [Nat.min_eq_left (by omega), UInt64.toNat_shiftRight, UInt64.toNat_ofNat', Nat.mod_eq_of_lt (show k < 2 ^ 64 from Nat.lt_trans h (by decide)), Nat.mod_eq_of_lt h, Nat.shiftRight_eq_div_pow]
 . rename_i h
   rw [Nat.min_eq_right (by omega)]
   have := x.toNat_lt
   simp
   omega
theorem u64_nonneg (x : UInt64) : (0 <= (x.toNat : Int)) = True := by simp
theorem u64_toInt (x : UInt64) : ((x.toNat : Int)).toNat = x.toNat := by simp
theorem u8_of_u16 (y : UInt16) : UInt8.ofInt (y.toNat : Int) = y.toUInt8 := by rw [u8_nat, <- UInt8.toNat_inj]; simp
theorem u8_of_u32 (y : UInt32) : UInt8.ofInt (y.toNat : Int) = y.toUInt8 := by rw [u8_nat, <- UInt8.toNat_inj]; simp
theorem u8_of_u64 (y : UInt64) : UInt8.ofInt (y.toNat : Int) = y.toUInt8 := by rw [u8_nat, <- UInt8.toNat_inj]; simp
theorem u16_of_u8 (y : UInt8) : UInt16.ofInt (y.toNat : Int) = y.toUInt16 := by rw [u16_nat, <- UInt16.toNat_inj]; simp
theorem u16_of_u32 (y : UInt32) : UInt16.ofInt (y.toNat : Int) = y.toUInt16 := by rw [u16_nat, <- UInt16.toNat_inj]; simp
theorem u16_of_u64 (y : UInt64) : UInt16.ofInt (y.toNat : Int) = y.toUInt16 := by rw [u16_nat, <- UInt16.toNat_inj]; simp
theorem u32_of_u8 (y : UInt8) : UInt32.ofInt (y.toNat : Int) = y.toUInt32 := by rw [u32_nat, <- UInt32.toNat_inj]; simp
theorem u32_of_u16 (y : UInt16) : UInt32.ofInt (y.toNat : Int) = y.toUInt32 := by rw [u32_nat, <- UInt32.toNat_inj]; simp
theorem u32_of_u64 (y : UInt64) : UInt32.ofInt (y.toNat : Int) = y.toUInt32 := by rw [u32_nat, <- UInt32.toNat_inj]; simp
theorem u64_of_u8 (y : UInt8) : UInt64.ofInt (y.toNat : Int) = y.toUInt64 := by rw [u64_nat, <- UInt64.toNat_inj]; simp
theorem u64_of_u16 (y : UInt16) : UInt64.ofInt (y.toNat : Int) = y.toUInt64 := by rw [u64_nat, <- UInt64.toNat_inj]; simp
theorem u64_of_u32 (y : UInt32) : UInt64.ofInt (y.toNat : Int) = y.toUInt64 := by rw [u64_nat, <- UInt64.toNat_inj]; simp
def by8 (x : UInt8) : AV := .p (.int .u8 (x.toNat : Int))
def w16 (x : UInt16) : AV := .p (.int .u16 (x.toNat : Int))
def w32 (x : UInt32) : AV := .p (.int .u32 (x.toNat : Int))
def w64 (x : UInt64) : AV := .p (.int .u64 (x.toNat : Int))
def wint (x : Int) : AV := .p (.int .i64 x)
theorem getO_mapf {α β : Type} (f : α -> β) (o : Option α) (K : β -> Prop) : getO (Option.map f o) K = getO o fun x => K (f x) := by cases o <;> rfl
theorem getO_lt {α : Type} [Inhabited α] (l : List α) (k : Nat) (K : α -> Prop) (h : k < l.length) : getO l[k]? K = K l[k]! := by
 rw [List.getElem?_eq_getElem h, getElem!_pos l k h]; rfl
theorem ones_map {α : Type} (f : α -> AV) (hf : ∀ x, (f x).one = true) (l : List α) : ones (l.map f) = true := by simp [ones, hf]
theorem plains_mapv {α : Type} (f : α -> AV) (g : α -> Value) (hf : ∀ x, f x = .p (g x)) (l : List α) : plains (l.map f) = some (l.map g) := by rw [show f = fun x => .p (g x) from funext hf]; exact plains_map' g l
theorem wo_map {α : Type} (f : α -> AV) (q : Nat -> Bool) (hf : ∀ x, (f x).wo q = f x) (l : List α) : List.map (AV.wo q) (List.map f l) = List.map f l := by simp [List.map_map, Function.comp_def, hf]
theorem pub_map {α : Type} (f : α -> AV) (i : Nat) (cs : List AV) (hf : ∀ x, (f x).pub i cs = f x) (l : List α) : List.map (AV.pub i cs) (List.map f l) = List.map f l := by simp [List.map_map, Function.comp_def, hf]
theorem vl :
 (∀ x : UInt8, by8 x = AV.p (.int .u8 (x.toNat : Int))) /\
 (∀ l : List UInt8, ones (l.map by8) = true) /\
 (∀ (q : Nat -> Bool) (l : List UInt8), List.map (AV.wo q) (List.map by8 l) = List.map by8 l) /\
 (∀ (i : Nat) (cs : List AV) (l : List UInt8), List.map (AV.pub i cs) (List.map by8 l) = List.map by8 l) /\
 (∀ (l : List UInt8), (List.map by8 l).length = l.length) /\
 (∀ (l : List UInt8) (k : Nat) (x : UInt8), List.set (List.map by8 l) k (AV.p (.int .u8 (x.toNat : Int))) = List.map by8 (l.set k x)) /\
 (∀ (l : List UInt8) (x : UInt8), List.map by8 l ++ [AV.p (.int .u8 (x.toNat : Int))] = List.map by8 (l ++ [x])) /\
 (∀ (l m : List UInt8), List.map by8 l ++ List.map by8 m = List.map by8 (l ++ m)) /\
 (∀ (l : List UInt8) (k : Nat), List.drop k (List.map by8 l) = List.map by8 (l.drop k)) /\
 (∀ (l : List UInt8) (k : Nat), List.take k (List.map by8 l) = List.map by8 (l.take k)) /\
 (∀ (l : List UInt8) (k : Nat), (List.map by8 l)[k]? = Option.map by8 l[k]?) /\
 (∀ (o : Option UInt8) (K : AV -> Prop), getO (Option.map by8 o) K = getO o fun x => K (by8 x)) /\
 (∀ (l : List UInt8), (List.map by8 l = []) = (l = [])) /\
 (List.map by8 [] = []) /\
 (∀ x : UInt16, w16 x = AV.p (.int .u16 (x.toNat : Int))) /\
 (∀ l : List UInt16, ones (l.map w16) = true) /\
 (∀ (l : List UInt16), (List.map w16 l).length = l.length) /\
 (∀ (l : List UInt16), (List.map w16 l = []) = (l = [])) /\
 (List.map w16 [] = []) /\
 (∀ x : UInt32, w32 x = AV.p (.int .u32 (x.toNat : Int))) /\
 (∀ l : List UInt32, ones (l.map w32) = true) /\
 (∀ (q : Nat -> Bool) (l : List UInt32), List.map (AV.wo q) (List.map w32 l) = List.map w32 l) /\
 (∀ (i : Nat) (cs : List AV) (l : List UInt32), List.map (AV.pub i cs) (List.map w32 l) = List.map w32 l) /\
 (∀ (l : List UInt32), (List.map w32 l).length = l.length) /\
 (∀ (l : List UInt32) (k : Nat) (x : UInt32), List.set (List.map w32 l) k (AV.p (.int .u32 (x.toNat : Int))) = List.map w32 (l.set k x)) /\
 (∀ (l : List UInt32) (x : UInt32), List.map w32 l ++ [AV.p (.int .u32 (x.toNat : Int))] = List.map w32 (l ++ [x])) /\
 (∀ (l : List UInt32) (k : Nat), List.drop k (List.map w32 l) = List.map w32 (l.drop k)) /\
 (∀ (l : List UInt32) (k : Nat), List.take k (List.map w32 l) = List.map w32 (l.take k)) /\
 (∀ (l : List UInt32) (k : Nat), (List.map w32 l)[k]? = Option.map w32 l[k]?) /\
 (∀ (o : Option UInt32) (K : AV -> Prop), getO (Option.map w32 o) K = getO o fun x => K (w32 x)) /\
 (∀ (l : List UInt32), (List.map w32 l = []) = (l = [])) /\
 (List.map w32 [] = []) /\
 (∀ x : UInt64, w64 x = AV.p (.int .u64 (x.toNat : Int))) /\
 (∀ l : List UInt64, ones (l.map w64) = true) /\
 (∀ (l : List UInt64), (List.map w64 l).length = l.length) /\
 (∀ (l : List UInt64), (List.map w64 l = []) = (l = [])) /\
 (List.map w64 [] = []) /\
 (∀ x : Int, wint x = AV.p (.int .i64 x)) /\
 (∀ l : List Int, ones (l.map wint) = true) /\
 (∀ (q : Nat -> Bool) (l : List Int), List.map (AV.wo q) (List.map wint l) = List.map wint l) /\
 (∀ (l : List Int), (List.map wint l).length = l.length) /\
 (∀ (l : List Int) (k : Nat) (x : Int), List.set (List.map wint l) k (AV.p (.int .i64 x)) = List.map wint (l.set k x)) /\
 (∀ (l : List Int) (x : Int), List.map wint l ++ [AV.p (.int .i64 x)] = List.map wint (l ++ [x])) /\
 (∀ (l : List Int), (List.map wint l = []) = (l = [])) /\
 (List.map wint [] = []) := by
 refine ⟨?_, ?_, ?_, ?_, ?_, ?_, ?_, ?_, ?_, ?_, ?_, ?_, ?_, ?_, ?_, ?_, ?_, ?_, ?_, ?_, ?_, ?_, ?_, ?_, ?_, ?_, ?_, ?_, ?_, ?_, ?_, ?_, ?_, ?_, ?_, ?_, ?_, ?_, ?_, ?_, ?_, ?_, ?_, ?_, ?_⟩ <;> intros
 . exact rfl
 . exact ones_map _ (fun _ => rfl) _
 . exact wo_map _ _ (fun _ => by rw [by8, AV.wo]) _
 . exact pub_map _ _ _ (fun _ => by rw [by8, AV.pub]) _
 . simp
 . simp [List.map_set, by8]
 . simp [by8]
 . simp
 . simp [List.map_drop]
 . simp [List.map_take]
 . simp
 . exact getO_mapf _ _ _
 . simp
 . exact rfl
 . exact rfl
 . exact ones_map _ (fun _ => rfl) _
 . simp
 . simp
 . exact rfl
 . exact rfl
 . exact ones_map _ (fun _ => rfl) _
 . exact wo_map _ _ (fun _ => by rw [w32, AV.wo]) _
 . exact pub_map _ _ _ (fun _ => by rw [w32, AV.pub]) _
 . simp
 . simp [List.map_set, w32]
 . simp [w32]
 . simp [List.map_drop]
 . simp [List.map_take]
 . simp
 . exact getO_mapf _ _ _
 . simp
 . exact rfl
 . exact rfl
 . exact ones_map _ (fun _ => rfl) _
 . simp
 . simp
 . exact rfl
 . exact rfl
 . exact ones_map _ (fun _ => rfl) _
 . exact wo_map _ _ (fun _ => by rw [wint, AV.wo]) _
 . simp
 . simp [List.map_set, wint]
 . simp [wint]
 . simp
 . exact rfl
theorem vi :
 (∀ z : Int, -9223372036854775808 <= z /\ z <= 9223372036854775807 -> IntKind.i64.wrap z = z) /\
 (∀ x y : Int, 0 <= x /\ 0 <= y -> (x + y).toNat = x.toNat + y.toNat) /\
 (∀ x y : Int, 0 <= y /\ 0 <= x -> (x - y).toNat = x.toNat - y.toNat) /\
 (∀ x y : Int, 0 <= x /\ 0 <= y -> (x * y).toNat = x.toNat * y.toNat) := by
 refine ⟨fun z h => IntWalk.i64_in z h, fun x y h => by omega, fun x y h => by omega, fun x y ⟨h1, h2⟩ => ?_⟩
 obtain ⟨a, rfl⟩ := Int.eq_ofNat_of_zero_le h1
 obtain ⟨b, rfl⟩ := Int.eq_ofNat_of_zero_le h2
 simp [<- Int.natCast_mul]
theorem CondP.dec {p : Prop} [Decidable p] {A B : Prop} (h1 : p -> A) (h2 : ¬ p -> B) : CondP (.bool (decide p)) A B := CondP.split (fun h => h1 (of_decide_eq_true h)) (fun h => h2 (of_decide_eq_false h))
theorem CondP.ndec {p : Prop} [Decidable p] {A B : Prop} (h1 : ¬ p -> A) (h2 : p -> B) : CondP (.bool (!decide p)) A B := CondP.split (fun h => h1 (by simpa using h)) (fun h => h2 (by simpa using h))
theorem getO_i {α : Type} [Inhabited α] : ∀ (l : List α) (k : Nat) (K : α -> Prop), k < l.length -> getO l[k]? K = K l[k]! := getO_lt
theorem vu :
 (∀ z : Int, IntKind.u8.wrap z = ((UInt8.ofInt z).toNat : Int)) /\
 (∀ x : UInt8, UInt8.ofInt (x.toNat : Int) = x) /\
 (∀ x y : Int, UInt8.ofInt (x * y) = UInt8.ofInt x * UInt8.ofInt y) /\
 (∀ x y : Int, UInt8.ofInt (((BitVec.ofInt IntKind.u8.bits x &&& BitVec.ofInt IntKind.u8.bits y).toNat : Nat) : Int) = UInt8.ofInt x &&& UInt8.ofInt y) /\
 (∀ x y : Int, UInt8.ofInt (((BitVec.ofInt IntKind.u8.bits x ^^^ BitVec.ofInt IntKind.u8.bits y).toNat : Nat) : Int) = UInt8.ofInt x ^^^ UInt8.ofInt y) /\
 (∀ (x : UInt8) (k : Nat), x * UInt8.ofInt (2 ^ (min k IntKind.u8.bits)) = u8_shl x k) /\
 (∀ (x : UInt8) (k : Nat), ((x.toNat : Int)).fdiv (2 ^ (min k IntKind.u8.bits)) = ((u8_shr x k).toNat : Int)) /\
 (∀ x : UInt8, (0 <= (x.toNat : Int)) = True) /\
 (∀ x : UInt8, ((x.toNat : Int)).toNat = x.toNat) /\
 (∀ y : UInt16, UInt8.ofInt (y.toNat : Int) = y.toUInt8) /\
 (∀ y : UInt32, UInt8.ofInt (y.toNat : Int) = y.toUInt8) /\
 (∀ y : UInt64, UInt8.ofInt (y.toNat : Int) = y.toUInt8) /\
 (∀ x : UInt16, UInt16.ofInt (x.toNat : Int) = x) /\
 (∀ x : UInt16, (0 <= (x.toNat : Int)) = True) /\
 (∀ x : UInt16, ((x.toNat : Int)).toNat = x.toNat) /\
 (∀ y : UInt8, UInt16.ofInt (y.toNat : Int) = y.toUInt16) /\
 (∀ y : UInt32, UInt16.ofInt (y.toNat : Int) = y.toUInt16) /\
 (∀ y : UInt64, UInt16.ofInt (y.toNat : Int) = y.toUInt16) /\
 (∀ z : Int, IntKind.u32.wrap z = ((UInt32.ofInt z).toNat : Int)) /\
 (∀ x : UInt32, UInt32.ofInt (x.toNat : Int) = x) /\
 (∀ x y : Int, UInt32.ofInt (x + y) = UInt32.ofInt x + UInt32.ofInt y) /\
 (∀ x y : Int, UInt32.ofInt (x * y) = UInt32.ofInt x * UInt32.ofInt y) /\
 (∀ x y : Int, UInt32.ofInt (((BitVec.ofInt IntKind.u32.bits x &&& BitVec.ofInt IntKind.u32.bits y).toNat : Nat) : Int) = UInt32.ofInt x &&& UInt32.ofInt y) /\
 (∀ x y : Int, UInt32.ofInt (((BitVec.ofInt IntKind.u32.bits x ||| BitVec.ofInt IntKind.u32.bits y).toNat : Nat) : Int) = UInt32.ofInt x ||| UInt32.ofInt y) /\
 (∀ x y : Int, UInt32.ofInt (((BitVec.ofInt IntKind.u32.bits x ^^^ BitVec.ofInt IntKind.u32.bits y).toNat : Nat) : Int) = UInt32.ofInt x ^^^ UInt32.ofInt y) /\
 (∀ (x : UInt32) (k : Nat), x * UInt32.ofInt (2 ^ (min k IntKind.u32.bits)) = u32_shl x k) /\
 (∀ (x : UInt32) (k : Nat), ((x.toNat : Int)).fdiv (2 ^ (min k IntKind.u32.bits)) = ((u32_shr x k).toNat : Int)) /\
 (∀ x : UInt32, (0 <= (x.toNat : Int)) = True) /\
 (∀ x : UInt32, ((x.toNat : Int)).toNat = x.toNat) /\
 (∀ y : UInt8, UInt32.ofInt (y.toNat : Int) = y.toUInt32) /\
 (∀ y : UInt16, UInt32.ofInt (y.toNat : Int) = y.toUInt32) /\
 (∀ y : UInt64, UInt32.ofInt (y.toNat : Int) = y.toUInt32) /\
 (∀ z : Int, IntKind.u64.wrap z = ((UInt64.ofInt z).toNat : Int)) /\
 (∀ x : UInt64, UInt64.ofInt (x.toNat : Int) = x) /\
 (∀ x y : Int, UInt64.ofInt (x - y) = UInt64.ofInt x - UInt64.ofInt y) /\
 (∀ x y : Int, UInt64.ofInt (x + y) = UInt64.ofInt x + UInt64.ofInt y) /\
 (∀ x y : Int, UInt64.ofInt (x * y) = UInt64.ofInt x * UInt64.ofInt y) /\
 (∀ x y : Int, UInt64.ofInt (((BitVec.ofInt IntKind.u64.bits x &&& BitVec.ofInt IntKind.u64.bits y).toNat : Nat) : Int) = UInt64.ofInt x &&& UInt64.ofInt y) /\
 (∀ x y : Int, UInt64.ofInt (((BitVec.ofInt IntKind.u64.bits x ||| BitVec.ofInt IntKind.u64.bits y).toNat : Nat) : Int) = UInt64.ofInt x ||| UInt64.ofInt y) /\
 (∀ (x : UInt64) (k : Nat), x * UInt64.ofInt (2 ^ (min k IntKind.u64.bits)) = u64_shl x k) /\
 (∀ (x : UInt64) (k : Nat), ((x.toNat : Int)).fdiv (2 ^ (min k IntKind.u64.bits)) = ((u64_shr x k).toNat : Int)) /\
 (∀ x : UInt64, (0 <= (x.toNat : Int)) = True) /\
 (∀ x : UInt64, ((x.toNat : Int)).toNat = x.toNat) /\
 (∀ y : UInt8, UInt64.ofInt (y.toNat : Int) = y.toUInt64) /\
 (∀ y : UInt16, UInt64.ofInt (y.toNat : Int) = y.toUInt64) /\
 (∀ y : UInt32, UInt64.ofInt (y.toNat : Int) = y.toUInt64) :=
 ⟨@u8_wrap, @u8_self, @UInt8.ofInt_mul, @u8_and, @u8_xor, @u8_shl_eq, @u8_shr_eq, @u8_nonneg, @u8_toInt, @u8_of_u16, @u8_of_u32, @u8_of_u64, @u16_self, @u16_nonneg, @u16_toInt, @u16_of_u8, @u16_of_u32, @u16_of_u64, @u32_wrap, @u32_self, @UInt32.ofInt_add, @UInt32.ofInt_mul, @u32_and, @u32_or, @u32_xor, @u32_shl_eq, @u32_shr_eq, @u32_nonneg, @u32_toInt, @u32_of_u8, @u32_of_u16, @u32_of_u64, @u64_wrap, @u64_self, @u64_sub, @UInt64.ofInt_add, @UInt64.ofInt_mul, @u64_and, @u64_or, @u64_shl_eq, @u64_shr_eq, @u64_nonneg, @u64_toInt, @u64_of_u8, @u64_of_u16, @u64_of_u32⟩
abbrev ci := @Int.cast_ofNat_Int
abbrev vp0 := And.intro va vc
abbrev vq := And.intro va (And.intro vc vl)
abbrev vr := And.intro va (And.intro vc (And.intro vu vl))
end Go.E
namespace Go.Proofs.YtfpjalgfnjjcmaaGreatDoor
open Go.E Go.Proofs.Tryz
theorem Tryz.ty0 : tk prog 2 = .int .i64 /\ tk prog 3 = .int .i64 /\ tsz prog 3 = 1 /\ tby prog 3 = 8 /\ tzr prog 3 = some (.int .i64 0) /\ tak prog 3 = some false /\ tk prog 4 = .bool /\ tsz prog 4 = 1 /\ tak prog 4 = some false /\ tk prog 5 = .int .u8 /\ tsz prog 5 = 1 /\ tby prog 5 = 1 /\ tzr prog 5 = some (.int .u8 0) /\ tak prog 5 = some false /\ tk prog 9 = .string /\ tk prog 22 = .slice 82 /\ tk prog 23 = .int .u32 /\ tsz prog 23 = 1 /\ tby prog 23 = 4 /\ tzr prog 23 = some (.int .u32 0) /\ tak prog 23 = some false /\ tk prog 24 = .slice 71 /\ tsz prog 24 = 1 /\ tak prog 24 = some false /\ tk prog 26 = .array 32 5 /\ tsz prog 26 = 32 /\ tby prog 26 = 32 /\ tzr prog 26 = some (.agg #[.int .u8 0, .int .u8 0, .int .u8 0, .int .u8 0, .int .u8 0, .int .u8 0, .int .u8 0, .int .u8 0, .int .u8 0, .int .u8 0, .int .u8 0, .int .u8 0, .int .u8 0, .int .u8 0, .int .u8 0, .int .u8 0, .int .u8 0, .int .u8 0, .int .u8 0, .int .u8 0, .int .u8 0, .int .u8 0, .int .u8 0, .int .u8 0, .int .u8 0, .int .u8 0, .int .u8 0, .int .u8 0, .int .u8 0, .int .u8 0, .int .u8 0, .int .u8 0]) /\ tak prog 26 = some true /\ tst prog 26 = false /\ tsz prog 28 = 68 /\ tby prog 28 = 80 /\ tzr prog 28 = some (.agg #[.int .u32 0, .int .u8 0, .int .u8 0, .int .u8 0, .int .u8 0, .int .u8 0, .int .u8 0, .int .u8 0, .int .u8 0, .int .u8 0, .int .u8 0, .int .u8 0, .int .u8 0, .int .u8 0, .int .u8 0, .int .u8 0, .int .u8 0, .int .u8 0, .int .u8 0, .int .u8 0, .int .u8 0, .int .u8 0, .int .u8 0, .int .u8 0, .int .u8 0, .int .u8 0, .int .u8 0, .int .u8 0, .int .u8 0, .int .u8 0, .int .u8 0, .int .u8 0, .int .u8 0, .int .u8 0, .int .u8 0, .int .u8 0, .int .u8 0, .int .u8 0, .int .u8 0, .int .u8 0, .int .u8 0, .int .u8 0, .int .u8 0, .int .u8 0, .int .u8 0, .int .u8 0, .int .u8 0, .int .u8 0, .int .u8 0, .int .u8 0, .int .u8 0, .int .u8 0, .int .u8 0, .int .u8 0, .int .u8 0, .int .u8 0, .int .u8 0, .int .u8 0, .int .u8 0, .int .u8 0, .int .u8 0, .int .u8 0, .int .u8 0, .int .u8 0, .int .u8 0, .int .u32 0, .int .u32 0, .int .u32 0]) /\ tak prog 28 = some true /\ tfo prog 28 0 = some 0 /\ tff prog 28 0 = some (0, 23) /\ tfo prog 28 1 = some 1 /\ tff prog 28 1 = some (1, 26) /\ tfo prog 28 2 = some 33 /\ tff prog 28 2 = some (33, 26) := by refine ⟨?_, ?_, ?_, ?_, ?_, ?_, ?_, ?_, ?_, ?_, ?_, ?_, ?_, ?_, ?_, ?_, ?_, ?_, ?_, ?_, ?_, ?_, ?_, ?_, ?_, ?_, ?_, ?_, ?_, ?_, ?_, ?_, ?_, ?_, ?_, ?_, ?_, ?_, ?_, ?_⟩ <;> kernel_rfl
theorem Tryz.ty1 : tfo prog 28 3 = some 65 /\ tff prog 28 3 = some (65, 23) /\ tfo prog 28 4 = some 66 /\ tff prog 28 4 = some (66, 23) /\ tfo prog 28 5 = some 67 /\ tff prog 28 5 = some (67, 23) /\ tst prog 28 = true /\ tsz prog 30 = 72 /\ tzr prog 30 = some (.agg #[.int .u32 0, .int .i64 0, .int .u32 0, .slice none 0 0, .int .u32 0, .int .u8 0, .int .u8 0, .int .u8 0, .int .u8 0, .int .u8 0, .int .u8 0, .int .u8 0, .int .u8 0, .int .u8 0, .int .u8 0, .int .u8 0, .int .u8 0, .int .u8 0, .int .u8 0, .int .u8 0, .int .u8 0, .int .u8 0, .int .u8 0, .int .u8 0, .int .u8 0, .int .u8 0, .int .u8 0, .int .u8 0, .int .u8 0, .int .u8 0, .int .u8 0, .int .u8 0, .int .u8 0, .int .u8 0, .int .u8 0, .int .u8 0, .int .u8 0, .int .u8 0, .int .u8 0, .int .u8 0, .int .u8 0, .int .u8 0, .int .u8 0, .int .u8 0, .int .u8 0, .int .u8 0, .int .u8 0, .int .u8 0, .int .u8 0, .int .u8 0, .int .u8 0, .int .u8 0, .int .u8 0, .int .u8 0, .int .u8 0, .int .u8 0, .int .u8 0, .int .u8 0, .int .u8 0, .int .u8 0, .int .u8 0, .int .u8 0, .int .u8 0, .int .u8 0, .int .u8 0, .int .u8 0, .int .u8 0, .int .u8 0, .int .u8 0, .int .u32 0, .int .u32 0, .int .u32 0]) /\ tak prog 30 = some true /\ tfo prog 30 0 = some 0 /\ tff prog 30 0 = some (0, 23) /\ tfo prog 30 1 = some 1 /\ tff prog 30 1 = some (1, 3) /\ tfo prog 30 2 = some 2 /\ tff prog 30 2 = some (2, 23) /\ tfo prog 30 3 = some 3 /\ tfo prog 30 4 = some 4 /\ tff prog 30 4 = some (4, 28) /\ tst prog 30 = true /\ tk prog 32 = .pointer 79 /\ tsz prog 32 = 1 /\ tak prog 32 = some false /\ tsz prog 33 = 1 /\ tak prog 33 = some false /\ tk prog 36 = .slice 28 /\ tsz prog 36 = 1 /\ tby prog 36 = 24 /\ tzr prog 36 = some (.slice none 0 0) /\ tak prog 36 = some false /\ tk prog 38 = .slice 36 /\ tk prog 40 = .slice 26 /\ tsz prog 40 = 1 /\ tzr prog 40 = some (.slice none 0 0) /\ tak prog 40 = some false /\ tk prog 45 = .int .u64 /\ tsz prog 45 = 1 /\ tak prog 45 = some false /\ tk prog 47 = .array 4 45 /\ tsz prog 47 = 4 := by refine ⟨?_, ?_, ?_, ?_, ?_, ?_, ?_, ?_, ?_, ?_, ?_, ?_, ?_, ?_, ?_, ?_, ?_, ?_, ?_, ?_, ?_, ?_, ?_, ?_, ?_, ?_, ?_, ?_, ?_, ?_, ?_, ?_, ?_, ?_, ?_, ?_, ?_, ?_, ?_, ?_⟩ <;> kernel_rfl
theorem Tryz.ty2 : tzr prog 47 = some (.agg #[.int .u64 0, .int .u64 0, .int .u64 0, .int .u64 0]) /\ tak prog 47 = some true /\ tst prog 47 = false /\ tk prog 59 = .slice 5 /\ tsz prog 71 = 33 /\ tzr prog 71 = some (.agg #[.int .i64 0, .int .u8 0, .int .u8 0, .int .u8 0, .int .u8 0, .int .u8 0, .int .u8 0, .int .u8 0, .int .u8 0, .int .u8 0, .int .u8 0, .int .u8 0, .int .u8 0, .int .u8 0, .int .u8 0, .int .u8 0, .int .u8 0, .int .u8 0, .int .u8 0, .int .u8 0, .int .u8 0, .int .u8 0, .int .u8 0, .int .u8 0, .int .u8 0, .int .u8 0, .int .u8 0, .int .u8 0, .int .u8 0, .int .u8 0, .int .u8 0, .int .u8 0, .int .u8 0]) /\ tfo prog 71 0 = some 0 /\ tfo prog 71 1 = some 1 /\ tk prog 72 = .pointer 75 /\ tsz prog 72 = 1 /\ tby prog 72 = 8 /\ tzr prog 72 = some (.pointer none) /\ tak prog 72 = some false /\ tzr prog 75 = some (.agg #[.int .u32 0, .int .u8 0, .int .u8 0, .int .u8 0, .int .u8 0, .int .u8 0, .int .u8 0, .int .u8 0, .int .u8 0, .int .u8 0, .int .u8 0, .int .u8 0, .int .u8 0, .int .u8 0, .int .u8 0, .int .u8 0, .int .u8 0, .int .u8 0, .int .u8 0, .int .u8 0, .int .u8 0, .int .u8 0, .int .u8 0, .int .u8 0, .int .u8 0, .int .u8 0, .int .u8 0, .int .u8 0, .int .u8 0, .int .u8 0, .int .u8 0, .int .u8 0, .int .u8 0, .int .u8 0, .int .u8 0, .int .u8 0, .int .u8 0, .int .u8 0, .int .u8 0, .int .u8 0, .int .u8 0, .int .u8 0, .int .u8 0, .int .u8 0, .int .u8 0, .int .u8 0, .int .u8 0, .int .u8 0, .int .u8 0, .int .u8 0, .int .u8 0, .int .u8 0, .int .u8 0, .int .u8 0, .int .u8 0, .int .u8 0, .int .u8 0, .int .u8 0, .int .u8 0, .int .u8 0, .int .u8 0, .int .u8 0, .int .u8 0, .int .u8 0, .int .u8 0, .int .u32 0, .int .u32 0, .int .u32 0, .int .u8 0, .int .u8 0, .int .u8 0, .int .u8 0, .int .u8 0, .int .u8 0, .int .u8 0, .int .u8 0, .int .u8 0, .int .u8 0, .int .u8 0, .int .u8 0, .int .u8 0, .int .u8 0, .int .u8 0, .int .u8 0, .int .u8 0, .int .u8 0, .int .u8 0, .int .u8 0, .int .u8 0, .int .u8 0, .int .u8 0, .int .u8 0, .int .u8 0, .int .u8 0, .int .u8 0, .int .u8 0, .int .u8 0, .int .u8 0, .int .u8 0, .int .u8 0, .pointer none, .int .i64 0, .int .u64 0, .int .u64 0, .int .u64 0, .int .u64 0, .int .i64 0, .bool false]) /\ tfo prog 75 0 = some 0 /\ tff prog 75 0 = some (0, 28) /\ tfo prog 75 1 = some 68 /\ tff prog 75 1 = some (68, 26) /\ tfo prog 75 2 = some 100 /\ tff prog 75 2 = some (100, 72) /\ tfo prog 75 3 = some 101 /\ tff prog 75 3 = some (101, 3) /\ tfo prog 75 4 = some 102 /\ tff prog 75 4 = some (102, 47) /\ tfo prog 75 5 = some 106 /\ tfo prog 75 6 = some 107 /\ tff prog 75 6 = some (107, 4) /\ tst prog 75 = true /\ tk prog 76 = .map 26 72 /\ tsz prog 76 = 1 /\ tak prog 76 = some false /\ tk prog 77 = .slice 72 /\ tsz prog 77 = 1 /\ tak prog 77 = some false /\ tzr prog 79 = some (.agg #[.int .u32 0, .int .i64 0, .int .u32 0, .slice none 0 0, .int .u32 0, .int .u8 0, .int .u8 0, .int .u8 0, .int .u8 0, .int .u8 0, .int .u8 0, .int .u8 0, .int .u8 0, .int .u8 0, .int .u8 0, .int .u8 0, .int .u8 0, .int .u8 0, .int .u8 0, .int .u8 0, .int .u8 0, .int .u8 0, .int .u8 0, .int .u8 0, .int .u8 0, .int .u8 0, .int .u8 0, .int .u8 0, .int .u8 0, .int .u8 0, .int .u8 0, .int .u8 0, .int .u8 0, .int .u8 0, .int .u8 0, .int .u8 0, .int .u8 0, .int .u8 0, .int .u8 0, .int .u8 0, .int .u8 0, .int .u8 0, .int .u8 0, .int .u8 0, .int .u8 0, .int .u8 0, .int .u8 0, .int .u8 0, .int .u8 0, .int .u8 0, .int .u8 0, .int .u8 0, .int .u8 0, .int .u8 0, .int .u8 0, .int .u8 0, .int .u8 0, .int .u8 0, .int .u8 0, .int .u8 0, .int .u8 0, .int .u8 0, .int .u8 0, .int .u8 0, .int .u8 0, .int .u8 0, .int .u8 0, .int .u8 0, .int .u8 0, .int .u32 0, .int .u32 0, .int .u32 0, .int .i64 0, .map none, .slice none 0 0, .pointer none]) /\ tfo prog 79 0 = some 0 /\ tff prog 79 0 = some (0, 30) /\ tfo prog 79 1 = some 72 /\ tff prog 79 1 = some (72, 3) /\ tfo prog 79 2 = some 73 := by refine ⟨?_, ?_, ?_, ?_, ?_, ?_, ?_, ?_, ?_, ?_, ?_, ?_, ?_, ?_, ?_, ?_, ?_, ?_, ?_, ?_, ?_, ?_, ?_, ?_, ?_, ?_, ?_, ?_, ?_, ?_, ?_, ?_, ?_, ?_, ?_, ?_, ?_, ?_, ?_, ?_⟩ <;> kernel_rfl
theorem Tryz.ty3 : tff prog 79 2 = some (73, 76) /\ tfo prog 79 3 = some 74 /\ tff prog 79 3 = some (74, 77) /\ tfo prog 79 4 = some 75 /\ tff prog 79 4 = some (75, 72) /\ tst prog 79 = true /\ tk prog 80 = .int .u16 /\ tsz prog 82 = 4 /\ tfo prog 82 0 = some 0 /\ tfo prog 82 1 = some 1 /\ tfo prog 82 2 = some 2 /\ tfo prog 82 3 = some 3 /\ tk prog 107 = .slice 3 /\ tk prog 111 = .slice 23 /\ tsz prog 116 = 2 /\ tzr prog 116 = some (.agg #[.int .i64 0, .nilFunc]) /\ tak prog 116 = some true /\ tfo prog 116 0 = some 0 /\ tff prog 116 0 = some (0, 33) /\ tfo prog 116 1 = some 1 /\ tff prog 116 1 = some (1, 53) /\ tst prog 116 = true /\ tk prog 119 = .slice 116 /\ tk prog 126 = .int .u64 /\ tsz prog 136 = 1 /\ tak prog 136 = some false /\ tsz prog 138 = 2 /\ tzr prog 138 = some (.agg #[.int .i64 0, .pointer none]) /\ tak prog 138 = some true /\ tfo prog 138 0 = some 0 /\ tff prog 138 0 = some (0, 3) /\ tfo prog 138 1 = some 1 /\ tff prog 138 1 = some (1, 136) /\ tst prog 138 = true /\ tk prog 139 = .array 4 138 /\ tsz prog 139 = 8 /\ tzr prog 139 = some (.agg #[.int .i64 0, .pointer none, .int .i64 0, .pointer none, .int .i64 0, .pointer none, .int .i64 0, .pointer none]) /\ tak prog 139 = some true /\ tst prog 139 = false /\ tk prog 152 = .array 8 23 := by refine ⟨?_, ?_, ?_, ?_, ?_, ?_, ?_, ?_, ?_, ?_, ?_, ?_, ?_, ?_, ?_, ?_, ?_, ?_, ?_, ?_, ?_, ?_, ?_, ?_, ?_, ?_, ?_, ?_, ?_, ?_, ?_, ?_, ?_, ?_, ?_, ?_, ?_, ?_, ?_, ?_⟩ <;> kernel_rfl
theorem Tryz.ty4 : tsz prog 152 = 8 /\ tzr prog 152 = some (.agg #[.int .u32 0, .int .u32 0, .int .u32 0, .int .u32 0, .int .u32 0, .int .u32 0, .int .u32 0, .int .u32 0]) /\ tak prog 152 = some true /\ tst prog 152 = false /\ tk prog 153 = .array 64 5 /\ tsz prog 155 = 74 /\ tzr prog 155 = some (.agg #[.bool false, .int .u32 0, .int .u32 0, .int .u32 0, .int .u32 0, .int .u32 0, .int .u32 0, .int .u32 0, .int .u32 0, .int .u8 0, .int .u8 0, .int .u8 0, .int .u8 0, .int .u8 0, .int .u8 0, .int .u8 0, .int .u8 0, .int .u8 0, .int .u8 0, .int .u8 0, .int .u8 0, .int .u8 0, .int .u8 0, .int .u8 0, .int .u8 0, .int .u8 0, .int .u8 0, .int .u8 0, .int .u8 0, .int .u8 0, .int .u8 0, .int .u8 0, .int .u8 0, .int .u8 0, .int .u8 0, .int .u8 0, .int .u8 0, .int .u8 0, .int .u8 0, .int .u8 0, .int .u8 0, .int .u8 0, .int .u8 0, .int .u8 0, .int .u8 0, .int .u8 0, .int .u8 0, .int .u8 0, .int .u8 0, .int .u8 0, .int .u8 0, .int .u8 0, .int .u8 0, .int .u8 0, .int .u8 0, .int .u8 0, .int .u8 0, .int .u8 0, .int .u8 0, .int .u8 0, .int .u8 0, .int .u8 0, .int .u8 0, .int .u8 0, .int .u8 0, .int .u8 0, .int .u8 0, .int .u8 0, .int .u8 0, .int .u8 0, .int .u8 0, .int .u8 0, .int .u8 0, .int .u64 0]) /\ tak prog 155 = some true /\ tfo prog 155 0 = some 0 /\ tff prog 155 0 = some (0, 4) /\ tfo prog 155 1 = some 1 /\ tff prog 155 1 = some (1, 152) /\ tfo prog 155 2 = some 9 /\ tfo prog 155 3 = some 73 /\ tst prog 155 = true /\ tk prog 164 = .array 8 5 /\ tzr prog 164 = some (.agg #[.int .u8 0, .int .u8 0, .int .u8 0, .int .u8 0, .int .u8 0, .int .u8 0, .int .u8 0, .int .u8 0]) /\ tk prog 178 = .array 64 23 /\ tsz prog 178 = 64 /\ tzr prog 178 = some (.agg #[.int .u32 0, .int .u32 0, .int .u32 0, .int .u32 0, .int .u32 0, .int .u32 0, .int .u32 0, .int .u32 0, .int .u32 0, .int .u32 0, .int .u32 0, .int .u32 0, .int .u32 0, .int .u32 0, .int .u32 0, .int .u32 0, .int .u32 0, .int .u32 0, .int .u32 0, .int .u32 0, .int .u32 0, .int .u32 0, .int .u32 0, .int .u32 0, .int .u32 0, .int .u32 0, .int .u32 0, .int .u32 0, .int .u32 0, .int .u32 0, .int .u32 0, .int .u32 0, .int .u32 0, .int .u32 0, .int .u32 0, .int .u32 0, .int .u32 0, .int .u32 0, .int .u32 0, .int .u32 0, .int .u32 0, .int .u32 0, .int .u32 0, .int .u32 0, .int .u32 0, .int .u32 0, .int .u32 0, .int .u32 0, .int .u32 0, .int .u32 0, .int .u32 0, .int .u32 0, .int .u32 0, .int .u32 0, .int .u32 0, .int .u32 0, .int .u32 0, .int .u32 0, .int .u32 0, .int .u32 0, .int .u32 0, .int .u32 0, .int .u32 0, .int .u32 0]) /\ tak prog 178 = some true := by refine ⟨?_, ?_, ?_, ?_, ?_, ?_, ?_, ?_, ?_, ?_, ?_, ?_, ?_, ?_, ?_, ?_, ?_, ?_, ?_, ?_, ?_⟩ <;> kernel_rfl
abbrev ty := And.intro Tryz.ty0 (And.intro Tryz.ty1 (And.intro Tryz.ty2 (And.intro Tryz.ty3 Tryz.ty4)))
theorem Tryz.en : entered prog 7 = true /\ entered prog 8 = true /\ entered prog 9 = true /\ entered prog 10 = true /\ entered prog 11 = true /\ entered prog 12 = true /\ entered prog 13 = true /\ entered prog 14 = true /\ entered prog 15 = true /\ entered prog 16 = true /\ entered prog 17 = true /\ entered prog 18 = true /\ entered prog 25 = true /\ entered prog 26 = true /\ entered prog 27 = true /\ entered prog 28 = true /\ entered prog 29 = true /\ entered prog 30 = true /\ entered prog 31 = true /\ entered prog 32 = true /\ entered prog 33 = true /\ entered prog 34 = true /\ entered prog 35 = true /\ entered prog 36 = true /\ entered prog 37 = true /\ entered prog 38 = true /\ entered prog 39 = true /\ entered prog 40 = true /\ entered prog 41 = true /\ entered prog 42 = true /\ entered prog 43 = true /\ entered prog 44 = true /\ entered prog 45 = true /\ entered prog 46 = true /\ entered prog 47 = true /\ entered prog 48 = true /\ entered prog 59 = true /\ entered prog 60 = true /\ entered prog 61 = true /\ entered prog 62 = true /\ entered prog 63 = true /\ entered prog 64 = true /\ entered prog 65 = true /\ entered prog 66 = true /\ entered prog 67 = true /\ entered prog 68 = true /\ entered prog 72 = true /\ entered prog 74 = true /\ entered prog 76 = true /\ entered prog 78 = true /\ entered prog 79 = true /\ entered prog 81 = true /\ entered prog 83 = true /\ entered prog 84 = true /\ entered prog 85 = true /\ entered prog 86 = true /\ entered prog 87 = true /\ entered prog 88 = true /\ entered prog 89 = true /\ entered prog 90 = true /\ entered prog 91 = true /\ entered prog 92 = true /\ entered prog 93 = true /\ entered prog 96 = true /\ entered prog 97 = true /\ entered prog 98 = true /\ entered prog 99 = true /\ entered prog 100 = true /\ entered prog 101 = true /\ entered prog 102 = true /\ entered prog 103 = true /\ entered prog 104 = true /\ entered prog 105 = true /\ entered prog 106 = true /\ entered prog 107 = true /\ entered prog 108 = true /\ entered prog 109 = true /\ entered prog 110 = true /\ entered prog 112 = true /\ entered prog 113 = true /\ entered prog 114 = true /\ entered prog 115 = true /\ entered prog 116 = true /\ entered prog 117 = true /\ entered prog 118 = true /\ entered prog 119 = true /\ entered prog 120 = true /\ entered prog 121 = true /\ entered prog 122 = true /\ entered prog 123 = true /\ entered prog 124 = true /\ entered prog 125 = true /\ entered prog 131 = true /\ entered prog 135 = true /\ entered prog 136 = true /\ entered prog 142 = true /\ entered prog 143 = true := by refine ⟨?_, ?_, ?_, ?_, ?_, ?_, ?_, ?_, ?_, ?_, ?_, ?_, ?_, ?_, ?_, ?_, ?_, ?_, ?_, ?_, ?_, ?_, ?_, ?_, ?_, ?_, ?_, ?_, ?_, ?_, ?_, ?_, ?_, ?_, ?_, ?_, ?_, ?_, ?_, ?_, ?_, ?_, ?_, ?_, ?_, ?_, ?_, ?_, ?_, ?_, ?_, ?_, ?_, ?_, ?_, ?_, ?_, ?_, ?_, ?_, ?_, ?_, ?_, ?_, ?_, ?_, ?_, ?_, ?_, ?_, ?_, ?_, ?_, ?_, ?_, ?_, ?_, ?_, ?_, ?_, ?_, ?_, ?_, ?_, ?_, ?_, ?_, ?_, ?_, ?_, ?_, ?_, ?_, ?_, ?_, ?_, ?_⟩ <;> kernel_rfl
theorem Tryz.mixed : prog.follows .mixedOrders = true := by kernel_rfl
end Go.Proofs.YtfpjalgfnjjcmaaGreatDoor
namespace Go.E
theorem get_old {T : Tbl} {i : Nat} {o : AObj} (h : T[i]? = some o) (l : Tbl) : (T ++ l)[i]? = some o := by
 rw [List.getElem?_append_left (List.getElem?_eq_some_iff.1 h).1]; exact h
def Sl (T : Tbl) (sz : Nat) (a : AV) (cs : List AV) (n : Nat) : Prop := cs.length = n * sz /\ (a = .vs cs n ∨
 (∃ i off o ds, a = .sl i off n /\ T[i]? = some o /\ o.cs = some ds /\ off + n * sz <= ds.length /\ (ds.drop off).take (n * sz) = cs) ∨ (a = .p (.slice none 0 0) /\ n = 0))
def AV.sub (sz : Nat) (a : AV) (l h : Nat) : AV := match a with
 | .sl i off _ => .sl i (off + l * sz) (h - l)
 | .vs cs _ => .vs ((cs.drop (l * sz)).take ((h - l) * sz)) (h - l)
 | a => a
def AV.pl (a : AV) (k : Nat) : AV := match a with
 | .sl i off _ => .ptr i (off + k)
 | .vs cs _ => .vp cs k
 | a => a
section
variable {P : Program} {T : Tbl} {sz n : Nat} {a : AV} {cs : List AV} {K : AV -> Prop}
theorem Sl.app (h : Sl T sz a cs n) (l : Tbl) : Sl (T ++ l) sz a cs n := by
 obtain ⟨hl, h | ⟨i, off, o, ds, h1, h2, h3⟩ | h⟩ := h
 . exact ⟨hl, .inl h⟩
 . exact ⟨hl, .inr (.inl ⟨i, off, o, ds, h1, get_old h2 l, h3⟩)⟩
 . exact ⟨hl, .inr (.inr h)⟩
theorem Sl.ln (h : Sl T sz a cs n) (s : Nat) : lnA (.slice s) a T K = K (.p (.int .i64 n)) := by
 obtain ⟨hl, rfl | ⟨i, off, o, ds, rfl, h2, h3⟩ | ⟨rfl, rfl⟩⟩ := h <;> rfl
theorem Sl.len (h : Sl T sz a cs n) {KN : Nat -> Prop} : lenA a KN = KN n := by
 obtain ⟨hl, rfl | ⟨i, off, o, ds, rfl, h2, h3⟩ | ⟨rfl, rfl⟩⟩ := h <;> rfl
theorem Sl.pc (h : Sl T sz a cs n) (l m : Nat) : pcA sz a l m T K = ((l <= m /\ m <= n) /\ K (a.sub sz l m)) := by
 obtain ⟨hl, rfl | ⟨i, off, o, ds, rfl, h2, h3⟩ | ⟨rfl, rfl⟩⟩ := h
 . rfl
 . rfl
 . simp only [pcA, AV.sub]
   apply propext
   constructor
   . rintro ⟨⟨rfl, rfl⟩, h⟩; exact ⟨by omega, h⟩
   . rintro ⟨⟨h1, h2⟩, h⟩; exact ⟨by omega, h⟩
theorem Sl.sub (h : Sl T sz a cs n) {l m : Nat} (h1 : l <= m) (h2 : m <= n) : Sl T sz (a.sub sz l m) ((cs.drop (l * sz)).take ((m - l) * sz)) (m - l) := by
 have hle : l * sz + (m - l) * sz <= n * sz := by rw [<- Nat.add_mul]; exact Nat.mul_le_mul_right _ (by omega)
 obtain ⟨hl, rfl | ⟨i, off, o, ds, rfl, g1, g2, g3, g4⟩ | ⟨rfl, rfl⟩⟩ := h
 . exact ⟨by simp; omega, .inl rfl⟩
 . refine ⟨by simp; omega, .inr (.inl ⟨i, _, o, ds, rfl, g1, g2, by omega, ?_⟩)⟩
   rw [<- g4, List.drop_take, List.take_take, List.drop_drop]
   congr 1
   omega
 . exact ⟨by simp; omega, .inr (.inr ⟨rfl, by omega⟩)⟩
theorem Sl.src (h : Sl T sz a cs n) {KC : List AV -> Nat -> Prop} : srcA sz a T KC = KC cs n := by
 obtain ⟨hl, rfl | ⟨i, off, o, ds, rfl, g1, g2, g3, g4⟩ | ⟨rfl, rfl⟩⟩ := h
 . simp [srcA, hl]
 . simp only [srcA, g1]
   cases o <;> cases g2 <;> simp [csA, g3, g4]
 . have : cs = [] := List.eq_nil_of_length_eq_zero (by simpa using hl)
   subst this; rfl
theorem Sl.ix (h : Sl T sz a cs n) (h0 : sz ≠ 0) (ik : IntKind) (z : Int) : ixA sz a (.p (.int ik z)) T K = ((0 <= z /\ z < n) /\ K (a.pl (z.toNat * sz))) := by
 have hne : 0 <= z /\ z < n -> 0 < n * sz := fun hz => Nat.mul_pos (by omega) (by omega)
 obtain ⟨hl, rfl | ⟨i, off, o, ds, rfl, g1, g2, g3, g4⟩ | ⟨rfl, rfl⟩⟩ := h
 . simp only [ixA, AV.pl]
   apply propext
   exact ⟨fun h => ⟨⟨h.1.1, h.1.2.1⟩, h.2⟩, fun h => ⟨⟨h.1.1, h.1.2, fun e => by have := hne h.1; subst e; simp at hl; omega⟩, h.2⟩⟩
 . simp only [ixA, g1, AV.pl]
   have hds : 0 <= z /\ z < n -> ds ≠ [] := fun hz e => by
    have := hne hz; subst e; simp at g3; omega
   apply propext
   cases o <;> cases g2 <;> simp only [csA] <;> exact ⟨fun h => ⟨⟨h.1.1, h.1.2.1⟩, h.2⟩, fun h => ⟨⟨h.1.1, h.1.2, hds h.1⟩, h.2⟩⟩
 . simp only [ixA]
   apply propext
   constructor
   . exact fun h => h.elim
   . rintro ⟨h, _⟩; omega
theorem Sl.ld (h : Sl T sz a cs n) {t : TypeId} (ht : tak P t = some false) (k : Nat) (hk : k < n * sz) : loadA P t (a.pl k) T K = getO cs[k]? K := by
 obtain ⟨hl, rfl | ⟨i, off, o, ds, rfl, g1, g2, g3, g4⟩ | ⟨rfl, rfl⟩⟩ := h
 . simp only [AV.pl, loadA, ht, getA]
 . have e : cs[k]? = ds[off + k]? := by rw [<- g4, List.getElem?_take_of_lt hk, List.getElem?_drop]
   simp only [AV.pl, loadA, g1]
   have key : getA (tak P t) (tsz P t) ds (off + k) K = getO cs[k]? K := by rw [ht, e]; rfl
   cases o <;> cases g2 <;> exact key
 . omega
theorem Sl.lds (h : Sl T sz a cs n) {t : TypeId} (ht : tak P t = some true) (k : Nat) (h0 : 0 < tsz P t) (hk : k + tsz P t <= n * sz) : loadA P t (a.pl k) T K = K (.ag ((cs.drop k).take (tsz P t))) := by
 obtain ⟨hl, rfl | ⟨i, off, o, ds, rfl, g1, g2, g3, g4⟩ | ⟨rfl, rfl⟩⟩ := h
 . simp only [AV.pl, loadA, ht, getA]
   apply propext
   exact ⟨fun h => h.2, fun h => ⟨⟨h0, by omega⟩, h⟩⟩
 . have e : (cs.drop k).take (tsz P t) = (ds.drop (off + k)).take (tsz P t) := by
    rw [<- g4, List.drop_take, List.take_take, List.drop_drop]; congr 1; omega
   simp only [AV.pl, loadA, g1]
   have key : getA (tak P t) (tsz P t) ds (off + k) K = K (.ag ((cs.drop k).take (tsz P t))) := by
    rw [ht, e]; exact propext ⟨fun h => h.2, fun h => ⟨⟨h0, by omega⟩, h⟩⟩
   cases o <;> cases g2 <;> exact key
 . omega
theorem Sl.wo (h : Sl T sz a cs n) (q : Nat -> Bool) (hq : ∀ i, i < T.length -> q i = false) : a.wo q = a := by
 obtain ⟨hl, rfl | ⟨i, off, o, ds, rfl, g1, g2, g3, g4⟩ | ⟨rfl, rfl⟩⟩ := h
 . rw [AV.wo]
 . rw [AV.wo, if_neg (by rw [hq _ (List.getElem?_eq_some_iff.1 g1).1]; simp)]
 . rw [AV.wo]
theorem Sl.rules (h : Sl T sz a cs n) (h0 : sz ≠ 0) :
 (∀ (l : Tbl) (s : Nat) (K : AV -> Prop), lnA (.slice s) a (T ++ l) K = K (.p (.int .i64 n))) /\ (∀ (s : Nat) (K : AV -> Prop), lnA (.slice s) a T K = K (.p (.int .i64 n))) /\ (∀ KN : Nat -> Prop, lenA a KN = KN n) /\
 (∀ (l : Tbl) (i j : Nat) (K : AV -> Prop), pcA sz a i j (T ++ l) K = ((i <= j /\ j <= n) /\ K (a.sub sz i j))) /\ (∀ (i j : Nat) (K : AV -> Prop), pcA sz a i j T K = ((i <= j /\ j <= n) /\ K (a.sub sz i j))) /\
 (∀ (l : Tbl) (KC : List AV -> Nat -> Prop), srcA sz a (T ++ l) KC = KC cs n) /\ (∀ (KC : List AV -> Nat -> Prop), srcA sz a T KC = KC cs n) /\
 (∀ (l : Tbl) (ik : IntKind) (z : Int) (K : AV -> Prop), ixA sz a (.p (.int ik z)) (T ++ l) K = ((0 <= z /\ z < n) /\ K (a.pl (z.toNat * sz)))) /\ (∀ (ik : IntKind) (z : Int) (K : AV -> Prop), ixA sz a (.p (.int ik z)) T K = ((0 <= z /\ z < n) /\ K (a.pl (z.toNat * sz)))) /\
 (∀ k : Nat, a.wo (· == T.length + k) = a) /\ (a.wo (· == T.length) = a) /\ (a.wo (fun i => decide (T.length <= i)) = a) :=
 ⟨fun l _ _ => (h.app l).ln _, fun _ _ => h.ln _, fun _ => h.len, fun l _ _ _ => (h.app l).pc _ _, fun _ _ _ => h.pc _ _, fun l _ => (h.app l).src, fun _ => h.src, fun l _ _ _ => (h.app l).ix h0 _ _, fun _ _ _ => h.ix h0 _ _,
  fun k => h.wo _ fun i hi => by simp; omega, h.wo _ fun i hi => by simp; omega, h.wo _ fun i hi => by simp; omega⟩
theorem Sl.loads (h : Sl T sz a cs n) {t : TypeId} (ht : tak P t = some false) :
 (∀ (l : Tbl) (k : Nat) (K : AV -> Prop), k < n * sz -> loadA P t (a.pl k) (T ++ l) K = getO cs[k]? K) /\ (∀ (k : Nat) (K : AV -> Prop), k < n * sz -> loadA P t (a.pl k) T K = getO cs[k]? K) :=
 ⟨fun l k _ hk => (h.app l).ld ht k hk, fun k _ hk => h.ld ht k hk⟩
theorem Sl.loadss (h : Sl T sz a cs n) {t : TypeId} (ht : tak P t = some true) (h0 : 0 < tsz P t) :
 (∀ (l : Tbl) (k : Nat) (K : AV -> Prop), k + tsz P t <= n * sz -> loadA P t (a.pl k) (T ++ l) K = K (.ag ((cs.drop k).take (tsz P t)))) /\ (∀ (k : Nat) (K : AV -> Prop), k + tsz P t <= n * sz -> loadA P t (a.pl k) T K = K (.ag ((cs.drop k).take (tsz P t)))) :=
 ⟨fun l k _ hk => (h.app l).lds ht k h0 hk, fun k _ hk => h.lds ht k h0 hk⟩
theorem Sl.vs (cs : List AV) (n : Nat) (h : cs.length = n * sz) : Sl T sz (.vs cs n) cs n := ⟨h, .inl rfl⟩
theorem Sl.obj {i : Nat} {o : AObj} (hT : T[i]? = some o) (hc : o.cs = some cs) (h : cs.length = n * sz) : Sl T sz (.sl i 0 n) cs n := ⟨h, .inr (.inl ⟨i, 0, o, cs, rfl, hT, hc, by omega, by rw [List.drop_zero, List.take_of_length_le (by omega)]⟩)⟩
theorem Sl.nil : Sl T sz (.p (.slice none 0 0)) [] 0 := ⟨by simp, .inr (.inr ⟨rfl, rfl⟩)⟩
end
def Bs (T : Tbl) (a : AV) (bs : List UInt8) : Prop := Sl T 1 a (bs.map by8) bs.length
theorem Bs.app {T : Tbl} {a : AV} {bs : List UInt8} (h : Bs T a bs) (l : Tbl) : Bs (T ++ l) a bs := Sl.app h l
theorem Bs.vs {T : Tbl} (bs : List UInt8) : Bs T (.vs (bs.map by8) bs.length) bs := Sl.vs _ _ (by simp)
theorem Bs.obj {T : Tbl} {i : Nat} {o : AObj} {bs : List UInt8} (hT : T[i]? = some o) (hc : o.cs = some (bs.map by8)) : Bs T (.sl i 0 bs.length) bs := Sl.obj hT hc (by simp)
theorem Bs.sub {T : Tbl} {a : AV} {bs : List UInt8} (h : Bs T a bs) {l m : Nat} (h1 : l <= m) (h2 : m <= bs.length) : Bs T (a.sub 1 l m) ((bs.drop l).take (m - l)) := by
 have := Sl.sub h h1 h2
 rw [Nat.mul_one, Nat.mul_one, <- List.map_drop, <- List.map_take] at this
 have hl : ((bs.drop l).take (m - l)).length = m - l := by simp; omega
 unfold Bs; rwa [hl]
theorem take_more {α : Type} (T l : List α) (k : Nat) : List.take (T.length + k) (T ++ l) = T ++ l.take k := by rw [List.take_append, List.take_of_length_le (by omega), Nat.add_sub_cancel_left]
theorem keep_all (T : Tbl) : keepT (fun _ => true) T = T := by
 refine List.ext_getElem? fun i => ?_
 rw [keepT_get]
 cases T[i]? with
 | none => rfl
 | some o => simp [keepO]
theorem vt :
 (∀ (T l : Tbl) (k : Nat), List.take (T.length + k) (T ++ l) = T ++ l.take k) /\
 (∀ n k j : Nat, decide (n + k <= n + j) = decide (k <= j)) /\ (∀ n k : Nat, decide (n + k <= n) = decide (k <= 0)) /\ (∀ n k : Nat, decide (n <= n + k) = true) /\ (∀ n : Nat, decide (n <= n) = true) /\
 (∀ (q : Nat -> Bool) (a b : List AV), List.map (AV.wo q) (a ++ b) = List.map (AV.wo q) a ++ List.map (AV.wo q) b) /\
 (∀ (q : Nat -> Bool) (a b : Tbl), List.map (AObj.wo q) (a ++ b) = List.map (AObj.wo q) a ++ List.map (AObj.wo q) b) /\
 (∀ a b : List AV, ones (a ++ b) = (ones a && ones b)) /\ (∀ l : List AV, (List.replicate 0 l).flatten = []) /\ (∀ x : AV, (List.replicate 1 [x]).flatten = [x]) /\ (∀ l : List AV, [] ++ l = l) /\ (∀ x y : AV, [x].set 0 y = [y]) /\ (∀ x : AV, List.take 1 [x] = [x]) /\ (∀ T, keepT (fun _ => true) T = T) /\ (∀ (i : Nat) (cs : List AV) (a b : Tbl), List.map (AObj.pub i cs) (a ++ b) = List.map (AObj.pub i cs) a ++ List.map (AObj.pub i cs) b) /\ (∀ n k j : Nat, (n + k = n + j) = (k = j)) /\ (∀ n k : Nat, (n = n + k) = (k = 0)) /\ (∀ n k : Nat, (n + k = n) = (k = 0)) /\
 (∀ a : Nat, (a : Int).tmod 64 = ((a % 64 : Nat) : Int)) /\ (∀ a : Nat, (a : Int).tmod 4 = ((a % 4 : Nat) : Int)) /\ (∀ a : Nat, (a : Int).tdiv 4 = ((a / 4 : Nat) : Int)) /\ (∀ a : Nat, (a : Int).tmod 8 = ((a % 8 : Nat) : Int)) /\ (∀ a : Nat, (a : Int).tdiv 8 = ((a / 8 : Nat) : Int)) /\ (∀ a : Nat, (a : Int).tmod 2 = ((a % 2 : Nat) : Int)) /\ (∀ a : Nat, (a : Int).tdiv 2 = ((a / 2 : Nat) : Int)) := by
 refine ⟨take_more, ?_, ?_, ?_, ?_, fun _ _ _ => List.map_append, fun _ _ _ => List.map_append, fun _ _ => List.all_append, fun _ => rfl, fun _ => rfl, fun _ => rfl, fun _ _ => rfl, fun _ => rfl, keep_all, fun _ _ _ _ => List.map_append, ?_, ?_, ?_, fun _ => rfl, fun _ => rfl, fun _ => rfl, fun _ => rfl, fun _ => rfl, fun _ => rfl, fun _ => rfl⟩ <;> intros <;> simp <;> omega
structure Wfs (T : Tbl) (args : List AV) : Prop where
 wf : ∀ q : Nat -> Bool, (∀ i, i < T.length -> q i = false) -> T.map (AObj.wo q) = T /\ args.map (AV.wo q) = args
theorem Wfs.t {T : Tbl} {args : List AV} (h : Wfs T args) : (∀ k, T.map (AObj.wo (fun i => decide (T.length + k <= i))) = T) /\ (T.map (AObj.wo (fun i => decide (T.length <= i))) = T) /\ (∀ k, T.map (AObj.wo (fun i => i == T.length + k)) = T) /\ (T.map (AObj.wo (fun i => i == T.length)) = T) :=
 ⟨fun k => (h.wf _ fun i hi => by simp; omega).1, (h.wf _ fun i hi => by simp; omega).1, fun k => (h.wf _ fun i hi => by simp; omega).1, (h.wf _ fun i hi => by simp; omega).1⟩
theorem Wfs.arg {T : Tbl} {args : List AV} (h : Wfs T args) (a : AV) (ha : a ∈ args) : (∀ k, a.wo (fun i => decide (T.length + k <= i)) = a) /\ (a.wo (fun i => decide (T.length <= i)) = a) /\ (∀ k, a.wo (fun i => i == T.length + k) = a) /\ (a.wo (fun i => i == T.length) = a) := by
 have key : ∀ q : Nat -> Bool, (∀ i, i < T.length -> q i = false) -> a.wo q = a := fun q hq => List.map_inj_left.1 ((h.wf q hq).2.trans (List.map_id args).symm) a ha
 exact ⟨fun k => key _ fun i hi => by simp; omega, key _ fun i hi => by simp; omega, fun k => key _ fun i hi => by simp; omega, key _ fun i hi => by simp; omega⟩
mutual
theorem pub_wo (i : Nat) (cs : List AV) : ∀ a : AV, a.wo (fun j => j == i) = a -> a.pub i cs = a
 | .ptr j o, h => by
   rw [AV.wo] at h; rw [AV.pub]
   by_cases hj : j = i
   . simp [hj] at h
   . rw [if_neg hj]
 | .sl j o n, h => by
   rw [AV.wo] at h; rw [AV.pub]
   by_cases hj : j = i
   . simp [hj] at h
   . rw [if_neg hj]
 | .mp j, h => by
   rw [AV.wo] at h; rw [AV.pub]
   by_cases hj : j = i
   . simp [hj] at h
   . rw [if_neg hj]
 | .yl j, h => by
   rw [AV.wo] at h; rw [AV.pub]
   by_cases hj : j = i
   . simp [hj] at h
   . rw [if_neg hj]
 | .ag l, h => by rw [AV.wo, AV.ag.injEq] at h; rw [AV.pub, pub_woL i cs l h]
 | .tu l, h => by rw [AV.wo, AV.tu.injEq] at h; rw [AV.pub, pub_woL i cs l h]
 | .fn f l, h => by rw [AV.wo, AV.fn.injEq] at h; rw [AV.pub, pub_woL i cs l h.2]
 | .ic t v, h => by rw [AV.wo, AV.ic.injEq] at h; rw [AV.pub, pub_wo i cs v h.2]
 | .p v, _ => by rw [AV.pub]
 | .any, _ => by rw [AV.pub]
 | .vp l o, _ => by rw [AV.pub]
 | .vs l n, _ => by rw [AV.pub]
theorem pub_woL (i : Nat) (cs : List AV) : ∀ l : List AV, AV.woL (fun j => j == i) l = l -> AV.pubL i cs l = l
 | [], _ => by rw [AV.pubL]
 | a :: r, h => by rw [AV.woL, List.cons.injEq] at h; rw [AV.pubL, pub_wo i cs a h.1, pub_woL i cs r h.2]
end
theorem pub_woO (i : Nat) (cs : List AV) (o : AObj) (h : o.wo (fun j => j == i) = o) : o.pub i cs = o := by
 cases o with
 | cells T l => rw [AObj.wo, AObj.cells.injEq, <- AV.woL_eq] at h; rw [AObj.pub, <- AV.pubL_eq, pub_woL i cs l h.2]
 | buf T sz l => rw [AObj.wo, AObj.buf.injEq, <- AV.woL_eq] at h; rw [AObj.pub, <- AV.pubL_eq, pub_woL i cs l h.2.2]
 | map es =>
   rw [AObj.wo, AObj.map.injEq] at h
   rw [AObj.pub, AObj.map.injEq]
   refine (List.map_congr_left fun e he => ?_).trans (List.map_id es)
   have := List.map_inj_left.1 (h.trans (List.map_id es).symm) e he
   have h2 : e.2.wo (fun j => j == i) = e.2 := congrArg Prod.snd this
   rw [pub_wo i cs e.2 h2]; rfl
 | raw o => rfl
 | rcd o l vs => rw [AObj.wo, AObj.rcd.injEq, <- AV.woL_eq] at h; rw [AObj.pub, <- AV.pubL_eq, pub_woL i cs l h.2.1]
 | gone => rfl
theorem Wfs.p {T : Tbl} {args : List AV} (h : Wfs T args) : (∀ k cs, T.map (AObj.pub (T.length + k) cs) = T) /\ (∀ cs, T.map (AObj.pub T.length cs) = T) := by
 have key : ∀ j, T.length <= j -> ∀ cs, T.map (AObj.pub j cs) = T := by
  intro j hj cs
  refine (List.map_congr_left fun o ho => ?_).trans (List.map_id T)
  refine pub_woO j cs o ?_
  exact List.map_inj_left.1 ((h.wf (fun i => i == j) fun i hi => by simp; omega).1.trans (List.map_id T).symm) o ho
 exact ⟨fun k cs => key _ (by omega) cs, fun cs => key _ (Nat.le_refl _) cs⟩
theorem Wfs.argp {T : Tbl} {args : List AV} (h : Wfs T args) (a : AV) (ha : a ∈ args) : (∀ k cs, a.pub (T.length + k) cs = a) /\ (∀ cs, a.pub T.length cs = a) := by
 have key : ∀ j, T.length <= j -> ∀ cs, a.pub j cs = a := fun j hj cs => pub_wo j cs a (List.map_inj_left.1 ((h.wf (fun i => i == j) fun i hi => by simp; omega).2.trans (List.map_id args).symm) a ha)
 exact ⟨fun k cs => key _ (by omega) cs, fun cs => key _ (Nat.le_refl _) cs⟩
theorem CallA.wfs {P : Program} {G : Nat -> AV} {T : Tbl} {K : AV -> Tbl -> Eff -> Prop} {f : FuncId} {args : List AV} (h : Wfs T args -> CallA P G f args T K) : CallA P G f args T K := CallA.wf fun w => h ⟨w⟩
end Go.E
namespace Go.E
section
variable {P : Program} {k : TypeId}
def Ky (P : Program) (k : TypeId) (v : Value) : Prop := ∃ l, keyOf P k v = some l
open Classical in
theorem kfind_none {es : List MapEntry} {x : Value} (h : ∀ e ∈ es, e.key ≠ x) : kfind es x = none := by
 unfold kfind
 rw [List.findIdx?_eq_none_iff.2 fun e he => by simpa using h e he]; rfl
open Classical in
theorem kfind_some {es : List MapEntry} {x : Value} {j : Nat} {e : MapEntry} (hn : (es.map (·.key)).Nodup) (hj : es[j]? = some e) (hk : e.key = x) : kfind es x = some (j, e.val) := by
 unfold kfind
 obtain ⟨h1, h2⟩ := List.getElem?_eq_some_iff.1 hj
 have : es.findIdx? (fun e => decide (e.key = x)) = some j := by
  rw [List.findIdx?_eq_some_iff_getElem]
  refine ⟨h1, by simp [h2, hk], fun i hi => ?_⟩
  intro he
  have he' : (es[i]'(by omega)).key = x := by simpa using he
  have := nodup_at hn (i := i) (j := j) (a := es[i]'(by omega)) (b := e) (by simp) hj (by rw [he', hk])
  omega
 rw [this]
 simp [hj]
theorem KL.of (h : WideMaps.KeyLaw P k) : KL P k (Ky P k) where
 check := fun w em v ⟨l, hl⟩ => h.check w em hl
 find := fun w x ⟨l, hl⟩ es hes hn => by
  rcases h.find w hl es hes with ⟨h1, h2⟩ | ⟨j, e, h1, h2, h3⟩
  . rw [h1, kfind_none h2]
  . rw [h1, kfind_some hn h2 h3]
 stays := fun w v ⟨l, hl⟩ => h.stays w hl
open Classical in
theorem findNow_of {d : TypeDesc} {x : Value} (hs : ∀ y : Value, (Instr.sameNow d x y).isSome = true -> Instr.sameNow d x y = some (decide (y = x))) : ∀ (es : List MapEntry) (i : Nat), (∀ e ∈ es, (Instr.sameNow d x e.key).isSome = true) ->
 Instr.findNow d x es i = some ((kfind es x).map fun p => (p.1 + i, p.2))
 | [], i, _ => rfl
 | e :: es, i, h => by
   have h1 := hs e.key (h e (by simp))
   have ih := findNow_of hs es (i + 1) fun e he => h e (by simp [he])
   by_cases hk : e.key = x
   . have : Instr.findNow d x (e :: es) i = some (some (i, e.val)) := by rw [Instr.findNow, h1, decide_eq_true hk]
     rw [this]
     simp [kfind, List.findIdx?_cons, hk]
   . have : Instr.findNow d x (e :: es) i = Instr.findNow d x es (i + 1) := by rw [Instr.findNow, h1, decide_eq_false hk]
     rw [this, ih]
     unfold kfind
     rw [List.findIdx?_cons]
     simp only [decide_eq_false hk, Bool.false_eq_true, if_false]
     cases hf : es.findIdx? (fun e => decide (e.key = x)) with
     | none => rfl
     | some j =>
       have hj := (List.findIdx?_eq_some_iff_getElem.1 hf).1
       simp [hj]; omega
open Classical in
theorem KL.plain {d : TypeDesc} {S : Value -> Prop} (hd : tk P k = d) (hk : tis d = true) (hw : ∀ v, S v -> MapKept.IsKey d v) (hb : ∀ v, S v -> Instr.sameBits 10000 v v = true)
 (hs : ∀ x y, S x -> S y -> Instr.sameNow d x y = some (decide (y = x))) (hs' : ∀ x y, S x -> (Instr.sameNow d x y).isSome = true -> Instr.sameNow d x y = some (decide (y = x))) : KL P k S where
 check := fun w em v h => MapKept.run_checkKey (und_of hd hk) (hw v h) em 9999
 find := fun w x hx es hes _ => by
  have := findNow_of (d := d) (x := x) (fun y => hs' x y hx) es 0 fun e he => by rw [hs x e.key hx (hes e he)]; rfl
  have e2 : ((kfind es x).map fun p => (p.1 + 0, p.2)) = kfind es x := by cases kfind es x <;> rfl
  rw [e2] at this
  exact MapKept.run_findKey (und_of hd hk) this
 stays := fun w v h => by simp [Instr.keyThatStays, hb v h]
theorem sb_int (q : IntKind) (m : Int) : ∀ n, Instr.sameBits n (.int q m) (.int q m) = true
 | 0 => by rw [Instr.sameBits]; simp only [beq_self_eq_true, Bool.and_self]
 | n + 1 => by rw [Instr.sameBits]; simp only [beq_self_eq_true, Bool.and_self]
theorem sn_int (q q' : IntKind) (n m : Int) : Instr.sameNow (.int q) (.int q n) (.int q' m) = if q = q' then some (n == m) else none := rfl
open Classical in
theorem KL.int {q : IntKind} (hd : tk P k = .int q) : KL P k (fun v => ∃ n, v = .int q n) := by
 refine .plain hd rfl ?_ ?_ ?_ ?_
 . rintro _ ⟨n, rfl⟩; simp [MapKept.IsKey]
 . rintro _ ⟨n, rfl⟩; exact sb_int _ _ _
 . rintro _ _ ⟨n, rfl⟩ ⟨m, rfl⟩
   simp only [sn_int, if_true, Option.some.injEq, Value.int.injEq, true_and]
   rw [Bool.eq_iff_iff]; simp only [beq_iff_eq, decide_eq_true_iff]; exact eq_comm
 . rintro _ y ⟨n, rfl⟩ h
   cases y <;> first | (simp [Instr.sameNow] at h; done) | skip
   rename_i k' m
   rw [sn_int] at h
   by_cases e : q = k'
   . subst e
     simp only [sn_int, if_true, Option.some.injEq, Value.int.injEq, true_and]
     rw [Bool.eq_iff_iff]; simp only [beq_iff_eq, decide_eq_true_iff]; exact eq_comm
   . simp [e] at h
inductive Lf where
 | b
 | i (q : IntKind)
 | s
def leafL (P : Program) (t : TypeId) (l : List Lf) : Option (List Lf) := if l.length = P.cellsOf t then some l else none
def leaf (P : Program) : Nat -> TypeId -> Option (List Lf)
 | 0, _ => none
 | d + 1, t => match P.underlying t with
   | some .bool => leafL P t [.b]
   | some (.int q) => leafL P t [.i q]
   | some .string => leafL P t [.s]
   | some (.array n e) => (leaf P d e).bind fun l => leafL P t (List.replicate n l).flatten
   | some (.struct fs) => (fs.toList.mapM fun f => leaf P d f.type).bind fun ls => leafL P t ls.flatten
   | _ => none
def Fit : Lf -> Value -> Prop
 | .b, .bool _ => True
 | .i q, .int q' n => q' = q /\ (Lit.int q n).wf = true
 | .s, .string s => s.size <= maxLen
 | _, _ => False
inductive FitL : List Lf -> List Value -> Prop
 | nil : FitL [] []
 | cons {l : Lf} {v : Value} {ls : List Lf} {vs : List Value} (h : Fit l v) (hs : FitL ls vs) : FitL (l :: ls) (v :: vs)
theorem FitL.length : ∀ {ls : List Lf} {vs : List Value}, FitL ls vs -> ls.length = vs.length
 | _, _, .nil => rfl
 | _, _, .cons _ h => by simp [h.length]
theorem FitL.append : ∀ {ls ms : List Lf} {vs us : List Value}, FitL ls vs -> FitL ms us -> FitL (ls ++ ms) (vs ++ us)
 | _, _, _, _, .nil, h => h
 | _, _, _, _, .cons a h', h => .cons a (h'.append h)
theorem FitL.split : ∀ {ls ms : List Lf} {vs : List Value}, FitL (ls ++ ms) vs -> FitL ls (vs.take ls.length) /\ FitL ms (vs.drop ls.length)
 | [], ms, vs, h => ⟨by simpa using FitL.nil, by simpa using h⟩
 | l :: ls, ms, _, .cons a h => by
   obtain ⟨h1, h2⟩ := h.split
   exact ⟨by simpa using FitL.cons a h1, by simpa using h2⟩
theorem FitL.rep (l : List Lf) : ∀ {n : Nat} {vs : List Value}, FitL (List.replicate n l).flatten vs -> ∀ i, i < n -> FitL l ((vs.drop (i * l.length)).take l.length)
 | 0, _, _, i, hi => by omega
 | n + 1, vs, h, i, hi => by
   rw [List.replicate_succ, List.flatten_cons] at h
   obtain ⟨h1, h2⟩ := h.split
   cases i with
   | zero => simpa using h1
   | succ i =>
     have := FitL.rep l h2 i (by omega)
     rw [List.drop_drop] at this
     rwa [show (i + 1) * l.length = l.length + i * l.length by rw [Nat.succ_mul]; omega]
theorem leafL_some {t : TypeId} {l l' : List Lf} (h : leafL P t l = some l') : l = l' /\ l'.length = P.cellsOf t := by
 unfold leafL at h
 split at h
 . cases h; exact ⟨rfl, by assumption⟩
 . cases h
theorem leaf_len : ∀ {m : Nat} {t : TypeId} {l : List Lf}, leaf P m t = some l -> l.length = P.cellsOf t
 | 0, _, _, h => by cases h
 | m + 1, t, l, h => by
   unfold leaf at h
   split at h
   all_goals first
    | exact (leafL_some h).2
    | (simp only [Option.bind_eq_some_iff] at h; obtain ⟨_, _, h⟩ := h; exact (leafL_some h).2)
    | cases h
theorem mapM_all {α β : Type} {f : α -> Option β} : ∀ {l : List α}, (∀ x ∈ l, ∃ y, f x = some y) -> ∃ ys, l.mapM f = some ys
 | [], _ => ⟨[], by simp⟩
 | x :: l, h => by
   obtain ⟨y, hy⟩ := h x (by simp)
   obtain ⟨ys, hys⟩ := mapM_all (l := l) fun x hx => h x (by simp [hx])
   exact ⟨y :: ys, by simp [List.mapM_cons, hy, hys]⟩
theorem keyLits_of_leaf : ∀ (m : Nat) (t : TypeId), P.tiled m t = true -> P.keyTypeAt m t = true -> ∀ (ls : List Lf) (vs : List Value), leaf P m t = some ls -> FitL ls vs -> ∃ L, P.keyLits m t vs = some L
 | 0, _, h, _, _, _, _, _ => by simp [Program.tiled] at h
 | m + 1, t, ht, hk, ls, vs, hl, hf => by
   have hlen := leaf_len hl
   unfold leaf at hl
   unfold Program.keyLits
   simp only [Program.tiled] at ht
   simp only [Program.keyTypeAt] at hk
   split at hl
   . rename_i hu
     obtain ⟨rfl, _⟩ := leafL_some hl
     cases hf with
     | @cons _ v _ us h hs =>
       cases hs
       cases v <;> simp only [Fit] at h
       simp [hu]
   . rename_i q hu
     obtain ⟨rfl, _⟩ := leafL_some hl
     cases hf with
     | @cons _ v _ us h hs =>
       cases hs
       cases v <;> simp only [Fit] at h
       obtain ⟨rfl, h⟩ := h
       simp [hu, h]
   . rename_i hu
     obtain ⟨rfl, _⟩ := leafL_some hl
     cases hf with
     | @cons _ v _ us h hs =>
       cases hs
       cases v <;> simp only [Fit] at h
       simp [hu, h]
   . rename_i n e hu
     simp only [Option.bind_eq_some_iff] at hl
     obtain ⟨l, hle, hl⟩ := hl
     obtain ⟨rfl, _⟩ := leafL_some hl
     rw [hu] at ht hk
     simp only [Bool.and_eq_true, beq_iff_eq] at ht
     have he := leaf_len hle
     have hvs : vs.length = P.cellsOf t := by rw [<- hlen, hf.length]
     have hall : ∀ i ∈ List.range n, ∃ y, P.keyLits m e ((vs.drop (i * P.cellsOf e)).take (P.cellsOf e)) = some y := fun i hi => by
      have := hf.rep l i (by simpa using hi)
      rw [he] at this
      exact keyLits_of_leaf m e ht.2 hk l _ hle this
     obtain ⟨ys, hys⟩ := mapM_all hall
     simp only [hu, hvs, if_true, hys, Option.map_some]
     exact ⟨_, rfl⟩
   . rename_i fs hu
     simp only [Option.bind_eq_some_iff] at hl
     obtain ⟨lss, hls, hl⟩ := hl
     obtain ⟨rfl, _⟩ := leafL_some hl
     rw [hu] at ht hk
     simp only [Bool.and_eq_true, beq_iff_eq] at ht hk
     have hvs : vs.length = P.cellsOf t := by rw [<- hlen, hf.length]
     have hnames : fs.all (fun f => f.name != "_") = true := by
      rw [Array.all_eq_true] at hk ⊢
      intro i hi
      have := hk.1.1 i hi
      simp only [Bool.and_eq_true] at this
      exact this.1
     have hkt : ∀ f ∈ fs.toList, P.keyTypeAt m f.type = true := fun f hf => by
      obtain ⟨i, hi, rfl⟩ := List.getElem_of_mem hf
      have := (Array.all_eq_true.1 hk.1.1) i (by simpa using hi)
      simp only [Bool.and_eq_true] at this
      simpa using this.2
     have htl : ∀ f ∈ fs.toList, P.tiled m f.type = true := fun f hf => by
      obtain ⟨i, hi, rfl⟩ := List.getElem_of_mem hf
      have := (Array.all_eq_true.1 ht.2) i (by simpa using hi)
      simpa using this
     have key : ∀ (gs : List Field) (off tot : Nat) (lss : List (List Lf)), (∀ f ∈ gs, f ∈ fs.toList) -> P.runs off gs = some tot -> gs.mapM (fun f => leaf P m f.type) = some lss -> FitL lss.flatten (vs.drop off) ->
      ∀ f ∈ gs, ∃ y, P.keyLits m f.type ((vs.drop f.offset).take (P.cellsOf f.type)) = some y := by
      intro gs
      induction gs with
      | nil => intro _ _ _ _ _ _ _ f hf; cases hf
      | cons g gs ih =>
        intro off tot lss hmem hruns hm hfit f hf
        rw [List.mapM_cons] at hm
        simp only [bind, Option.bind_eq_some_iff, pure, Option.some.injEq] at hm
        obtain ⟨l1, h1, lr, h2, rfl⟩ := hm
        rw [List.flatten_cons] at hfit
        obtain ⟨f1, f2⟩ := hfit.split
        simp only [Program.runs] at hruns
        split at hruns
        . rename_i hoff
          have hl1 := leaf_len h1
          rcases List.mem_cons.1 hf with rfl | hf
          . rw [hoff, <- hl1]
            exact keyLits_of_leaf m f.type (htl f (hmem f (by simp))) (hkt f (hmem f (by simp))) l1 _ h1 f1
          . refine ih (off + P.cellsOf g.type) tot lr (fun f hf => hmem f (by simp [hf])) hruns h2 ?_ f hf
            rw [<- hl1]
            rwa [List.drop_drop] at f2
        . cases hruns
     obtain ⟨ys, hys⟩ := mapM_all (key fs.toList 0 _ lss (fun f hf => hf) ht.1 hls (by simpa using hf))
     simp only [hu, hvs, hnames, and_self, if_true, hys, Option.map_some]
     exact ⟨_, rfl⟩
   . cases hl
structure KT (P : Program) (k : TypeId) (ls : List Lf) : Prop where
 key : P.keyType k = true
 tiled : P.tiled (P.types.size + 1) k = true
 wide : (match P.underlying k with | some (.array _ _) | some (.struct _) => true | _ => false) = true
 leaf : leaf P (P.types.size + 1) k = some ls
 small : P.types.size + 2 <= 10000
 guard : P.eqGuardType P.depth k = false
variable {ls : List Lf}
theorem KT.law (h : KT P k ls) : WideMaps.KeyLaw P k := deep_law h.small h.key h.tiled h.wide
theorem KT.kl (h : KT P k ls) : KL P k (Ky P k) := .of h.law
theorem KT.ky (h : KT P k ls) {vs : List Value} (hf : FitL ls vs) : Ky P k (.agg vs.toArray) := by
 obtain ⟨L, hL⟩ := keyLits_of_leaf _ _ h.tiled h.key ls vs h.leaf hf
 have hfm : (Value.agg vs.toArray).formed P k = true := by
  have hs : vs.toArray.size = P.cellsOf k := by rw [<- leaf_len h.leaf, hf.length]; simp
  have hw := h.wide
  unfold Value.formed
  split at hw <;> rename_i hu <;> first | (rw [hu]; simpa using hs) | cases hw
 refine ⟨.string (keyBytes L), ?_⟩
 have hw := h.wide
 unfold keyOf
 cases hu : P.underlying k with
 | none => rw [hu] at hw; cases hw
 | some d =>
   rw [hu] at hw
   cases d <;> first | (exact Bool.noConfusion hw) | (show (if (P.keyType k && Value.formed P k (Value.agg vs.toArray)) = true then _ else none) = _; rw [h.key, hfm]; simp only [Bool.and_self, if_true, Value.cells, hL, Option.map_some])
open Classical in
theorem KT.eq (h : KT P k ls) {xs ys : List Value} (hx : FitL ls xs) (hy : FitL ls ys) (w : World) : (Op.equal k (.agg xs.toArray) (.agg ys.toArray)).run P w = .ok (decide (xs = ys)) w := by
 obtain ⟨lx, h1⟩ := h.ky hx
 obtain ⟨ly, h2⟩ := h.ky hy
 obtain ⟨r, hr, hiff⟩ := run_equal_deep w (m := P.types.size + 1) (by have := h.small; omega) h.key h.wide h1 h2
 rw [hr]
 congr 1
 rw [Bool.eq_iff_iff, hiff, decide_eq_true_iff]
 constructor
 . rintro rfl
   have := h.law.inj h1 h2
   simpa using this
 . rintro rfl
   rw [h1] at h2; cases h2; rfl
theorem pureK_det {K : AV -> Prop} {s : Sem Value} {v : Value} (h : ∀ w, s.run P w = .ok v w) : pureK P K s = K (.p v) := by
 refine propext ⟨fun ⟨u, h1, h2⟩ => ?_, fun hk => ⟨v, fun w _ => h w, hk⟩⟩
 have := h1 default trivial
 rw [h default] at this
 cases this; exact h2
open Classical in
theorem KT.eql (h : KT P k ls) {xs ys : List Value} (hx : FitL ls xs) (hy : FitL ls ys) (xo yo : Operand) (K : AV -> Prop) :
 pureK P K (do eqGuard .eql k xo yo (.agg xs.toArray) (.agg ys.toArray); binOp .eql k (.agg xs.toArray) (.agg ys.toArray)) = K (.p (.bool (decide (xs = ys)))) :=
 pureK_det fun w => by
  have h1 := run_eqGuard_agg w .eql k xo yo xs.toArray ys.toArray h.guard
  have h2 := h.eq hx hy w
  simp only [Sem.run_bind, h1, Result.andThen_ok, binOp, h2, Sem.run_pure]
open Classical in
theorem KT.neq (h : KT P k ls) {xs ys : List Value} (hx : FitL ls xs) (hy : FitL ls ys) (xo yo : Operand) (K : AV -> Prop) :
 pureK P K (do eqGuard .neq k xo yo (.agg xs.toArray) (.agg ys.toArray); binOp .neq k (.agg xs.toArray) (.agg ys.toArray)) = K (.p (.bool (!decide (xs = ys)))) :=
 pureK_det fun w => by
  have h1 := run_eqGuard_agg w .neq k xo yo xs.toArray ys.toArray h.guard
  have h2 := h.eq hx hy w
  simp only [Sem.run_bind, h1, Result.andThen_ok, binOp, h2, Sem.run_pure]
theorem FitL.u8 : ∀ (l : List UInt8), FitL (List.replicate l.length (.i .u8)) (l.map fun b => .int .u8 (b.toNat : Int))
 | [] => .nil
 | b :: l => by
   refine .cons ⟨rfl, ?_⟩ (FitL.u8 l)
   have := b.toNat_lt
   simp [Lit.wf, IntKind.min, IntKind.max, IntKind.bits, IntKind.signed]; omega
end
end Go.E
namespace Go.E
section
variable {P : Program} {G : Nat -> AV} {Z Z' Z0 : Heap} {ρ ρ' ρ0 : List BI} {T T' T0 : Tbl} {w w' w0 : World} {a b : AV} {u v : Value} {K : AV -> Tbl -> Eff -> Prop} {cs : List AV} {es E : Eff}
variable {N n m : Nat} {ro : Option Nat} {ds loc : List AV} {tmp : List (Nat × AV)} {Nk R : AKont} {X : Nat -> AKont}
inductive PT where
 | nil : PT
 | st : Nat -> Bool -> PT -> PT
 | alt : Nat -> PT -> Nat -> PT -> PT
def PT.len : PT -> Nat
 | .nil => 0
 | .st _ _ r => r.len + 1
 | .alt _ r _ _ => r.len + 1
def PT.isNil : PT -> Bool
 | .nil => true
 | _ => false
def planOKT (ops : Array Oper) (cl : Nat) (o : Option Nat) : PT -> Array Bool -> Bool
 | .nil, listed => (Region.ready .any ops listed).isEmpty
 | .st i fl r, listed =>
   (if fl then (Region.ready .any ops listed).contains i && Region.free .any ops listed i && (cl != i && ((match ops[i]? with | none => false | some oi => pureOp oi.op) || blocks ops cl i listed))
    else Region.ready .any ops listed == [i] && (if r.isNil || some i == o then i == cl && decide (i < listed.size) else !(listed.getD cl false) && i != cl)) &&
   planOKT ops cl o r (listed.setIfInBounds i true)
 | .alt i r j s, listed => Region.ready .any ops listed == [i, j] && !(listed.getD cl false) && i != cl && j != cl && r.len == s.len && planOKT ops cl o r (listed.setIfInBounds i true) && planOKT ops cl o s (listed.setIfInBounds j true)
def planT (P : Program) (n : Nat) (base : Nat -> Value) (ops : List Oper) (cl : Option Nat) (I : World -> Prop) (ds : List Nat) : PT -> List Value -> List (Nat × Value) -> World -> (K : Kont) -> Prop
 | .nil, loc, tmp, w, K => K ds loc tmp w
 | .st i true r, loc, tmp, w, K => planO n base ops ops[i]? loc tmp
   (fun o => floatV P (ev n base loc tmp) o.op o.type I fun v => putK n o.dst v loc tmp fun loc tmp => planT P n base ops cl I ds r loc tmp w K)
   (fun o => putK n o.dst undef loc tmp fun loc tmp => planT P n base ops cl I ds r loc tmp w K)
 | .st i false r, loc, tmp, w, K => planO n base ops ops[i]? loc tmp
   (fun o => opV P (ev n base loc tmp) o.op o.type w fun v w' => putK n o.dst v loc tmp fun loc tmp => ∃ I', (r.isNil = false -> some i ≠ cl -> I' w' /\ ∀ w, I' w -> I w) /\ planT P n base ops cl I' ds r loc tmp w' K)
   (fun o => putK n o.dst undef loc tmp fun loc tmp => planT P n base ops cl I ds r loc tmp w K)
 | .alt i r j s, loc, tmp, w, K =>
   planO n base ops ops[i]? loc tmp
    (fun o => opV P (ev n base loc tmp) o.op o.type w fun v w' => putK n o.dst v loc tmp fun loc tmp => ∃ I', (I' w' /\ ∀ w, I' w -> I w) /\ planT P n base ops cl I' ds r loc tmp w' K)
    (fun o => putK n o.dst undef loc tmp fun loc tmp => planT P n base ops cl I ds r loc tmp w K) /\
   planO n base ops ops[j]? loc tmp
    (fun o => opV P (ev n base loc tmp) o.op o.type w fun v w' => putK n o.dst v loc tmp fun loc tmp => ∃ I', (I' w' /\ ∀ w, I' w -> I w) /\ planT P n base ops cl I' ds s loc tmp w' K)
    (fun o => putK n o.dst undef loc tmp fun loc tmp => planT P n base ops cl I ds s loc tmp w K)
theorem stepT {Q : Exit -> Act -> World -> Prop} {n m cl f : Nat} {base : Nat -> Value} {l : List Oper} {ds : List Nat} {listed : Array Bool} {i : Nat} {I : World -> Prop} {loc : List Value} {tmp : List (Nat × Value)} {w : World} {a : Act} {F : (World -> Prop) -> List Value -> List (Nat × Value) -> World -> Prop} (hall : l.all (dstIn m) = true)
 (h : planO n base l l[i]? loc tmp
  (fun o => opV P (ev n base loc tmp) o.op o.type w fun v w' => putK n o.dst v loc tmp fun loc tmp => ∃ I', (I' w' /\ ∀ w, I' w -> I w) /\ F I' loc tmp w')
  (fun o => putK n o.dst undef loc tmp fun loc tmp => F I loc tmp w)) (ha : Agree n base loc tmp a) (hs : a.tmps.size = m) (hd : a.defers = ds.map markOf) (hI : I w)
 (hF : ∀ (I' : World -> Prop) loc tmp w a, F I' loc tmp w -> I' w -> Agree n base loc tmp a -> a.tmps.size = m -> a.defers = ds.map markOf -> AnyI ro P l.toArray Q cl I' f (listed.setIfInBounds i true) a w) :
 wpOpIn (fz ro) 0 P l.toArray Q i (AnyI ro P l.toArray Q cl I f (listed.setIfInBounds i true)) a w := by
 cases ho : l[i]? with
 | none => simp only [ho, planO] at h
 | some o =>
   have hoi : l.toArray[i]? = some o := by simpa using ho
   have hmem : o ∈ l := List.mem_of_getElem? ho
   have hd1 : dstIn m o = true := List.all_eq_true.1 hall o hmem
   have hdst : ∀ t, o.dst = some t -> t < a.tmps.size := by rw [hs]; exact dstIn_spec hd1
   unfold wpOpIn
   simp only [hoi]
   simp only [ho, planO] at h
   rw [<- ha.ev] at h
   rcases grdV_wanted h with ⟨hw, h⟩ | ⟨hw, h⟩
   . rw [if_pos hw]
     refine (opV_step h).wp fun v w' hv => ?_
     obtain ⟨loc', tmp', ha', I', hI', hv'⟩ := ha.put hdst v hv
     exact (hF I' loc' tmp' w' _ hv' hI'.1 ha' (by cases o.dst <;> simp [Act.put, hs]) (by cases o.dst <;> simp [Act.put, hd])).mono hI'.2
   . rw [if_neg (by rw [hw]; simp)]
     obtain ⟨loc', tmp', ha', hv'⟩ := ha.put hdst undef h
     exact ⟨fun f _ => fz_fn f, hF I loc' tmp' w _ hv' hI ha' (by cases o.dst <;> simp [Act.put, hs]) (by cases o.dst <;> simp [Act.put, hd])⟩
theorem planT_any {Q : Exit -> Act -> World -> Prop} {n m cl : Nat} {oc : Option Nat} {base : Nat -> Value} {l : List Oper} {ds : List Nat} {K : Kont} (hsel : Region.noSelect l.toArray = true) (hdef : noDefer l.toArray = true) (hQ : ∀ c (a a' : Act) w, Q (.panic c) a w -> Q (.panic c) a' w) (hall : l.all (dstIn m) = true) :
 ∀ (pl : PT) (listed : Array Bool) (I : World -> Prop) (loc : List Value) (tmp : List (Nat × Value)) (w : World) (a : Act), planT P n base l oc I ds pl loc tmp w K -> planOKT l.toArray cl oc pl listed = true -> (listed.getD cl false = false -> I w) ->
  Agree n base loc tmp a -> a.tmps.size = m -> a.defers = ds.map markOf ->
  (∀ loc tmp w a, Agree n base loc tmp a -> a.tmps.size = m -> a.defers = ds.map markOf -> K ds loc tmp w -> Q .normal a w) -> AnyI ro P l.toArray Q cl I pl.len listed a w
 | .nil, listed, I, loc, tmp, w, a, h, hpl, hI, ha, hs, hd, hK => by
   simp only [planOKT, List.isEmpty_iff] at hpl
   exact ⟨hI, hpl, hK loc tmp w a ha hs hd h⟩
 | .st i fl r, listed, I, loc, tmp, w, a, h, hpl, hI, ha, hs, hd, hK => by
   rw [planOKT, Bool.and_eq_true] at hpl
   obtain ⟨hpl1, hpl2⟩ := hpl
   cases ho : l[i]? with
   | none => cases fl <;> (simp only [planT, ho, planO] at h)
   | some o =>
     have hoi : l.toArray[i]? = some o := by simpa using ho
     have hmem : o ∈ l := List.mem_of_getElem? ho
     have hd1 : dstIn m o = true := List.all_eq_true.1 hall o hmem
     have hdst : ∀ t, o.dst = some t -> t < a.tmps.size := by rw [hs]; exact dstIn_spec hd1
     have hnext : ∀ (I' : World -> Prop) v w', ((listed.setIfInBounds i true).getD cl false = false -> I' w') -> (putK n o.dst v loc tmp fun loc tmp => planT P n base l oc I' ds r loc tmp w' K) -> AnyI ro P l.toArray Q cl I' r.len (listed.setIfInBounds i true) (a.put o.dst v) w' := by
      intro I' v w' hI' hv
      obtain ⟨loc', tmp', ha', hv'⟩ := ha.put hdst v hv
      exact planT_any hsel hdef hQ hall r _ I' loc' tmp' w' _ hv' hpl2 hI' ha' (by cases o.dst <;> simp [Act.put, hs]) (by cases o.dst <;> simp [Act.put, hd]) hK
     cases fl with
     | true =>
       simp only [planT, ho, planO] at h
       rw [<- ha.ev] at h
       simp only [if_true, Bool.and_eq_true, List.contains_iff_mem, Bool.or_eq_true, Bool.not_eq_true', bne_iff_ne, ne_eq, hoi] at hpl1
       obtain ⟨⟨hp1, hp2⟩, hp4, hp3⟩ := hpl1
       have hnext' : ∀ v, (putK n o.dst v loc tmp fun loc tmp => planT P n base l oc I ds r loc tmp w K) -> AnyI ro P l.toArray Q cl I r.len (listed.setIfInBounds i true) (a.put o.dst v) w := fun v hk =>
        hnext I v w (fun hl => hI (by rw [getD_set_ne false (Ne.symm hp4)] at hl; exact hl)) hk
       rcases hp3 with hp3 | hp3
       . have hgive : ∃ v, GivesI P l.toArray (fun _ => True) o v a /\ putK n o.dst v loc tmp fun loc tmp => planT P n base l oc I ds r loc tmp w K := by
          rcases grdV_wanted h with ⟨hw, h⟩ | ⟨hw, h⟩
          . obtain ⟨v, hv, hk⟩ := floatV_run (floatV_pure hp3 h)
            exact ⟨v, .inl ⟨hw, hv⟩, hk⟩
          . exact ⟨undef, .inr ⟨hw, rfl⟩, h⟩
         obtain ⟨v, hg, hk⟩ := hgive
         exact AnyI_first2 [] (.inl fun _ => trivial) hp4 hoi (Region.noSelect_spec hsel) (noDefer_spec hdef) (fun c a w => hQ c _ _ w) r.len listed a w (fun j oj hj hne hun hno => Region.free_spec hoi hp2 j oj hj hne hun hno) (.inl fun _ => trivial) hp1 hg (hnext' v hk)
       . have hgive : ∃ v, GivesI P l.toArray I o v a /\ putK n o.dst v loc tmp fun loc tmp => planT P n base l oc I ds r loc tmp w K := by
          rcases grdV_wanted h with ⟨hw, h⟩ | ⟨hw, h⟩
          . obtain ⟨v, hv, hk⟩ := floatV_run h
            exact ⟨v, .inl ⟨hw, hv⟩, hk⟩
          . exact ⟨undef, .inr ⟨hw, rfl⟩, h⟩
         obtain ⟨v, hg, hk⟩ := hgive
         simp only [blocks, Bool.and_eq_true, Bool.or_eq_true, Bool.not_eq_true', List.contains_iff_mem, List.all_eq_true] at hp3
         obtain ⟨⟨⟨hb1, hb2⟩, hb3⟩, hb4⟩ := hp3
         refine AnyI_first2 (waitsFor l.toArray i) (.inr ⟨fun _ h => h, ?_, fun j hj oj hoj => ?_⟩) hp4 hoi (Region.noSelect_spec hsel) (noDefer_spec hdef) (fun c a w => hQ c _ _ w) r.len listed a w (fun j oj hj hne hun hno => Region.free_spec hoi hp2 j oj hj hne hun hno) (.inr ⟨hb3, hb4⟩) hp1 hg (hnext' v hk)
         . rcases hb2 with h | h
           . exact .inl h
           . right
             split at h
             . assumption
             . cases h
         . have := List.all_eq_true.1 hb1 j hj
           rw [hoj] at this
           obtain ⟨k, hk, hk'⟩ := Array.any_eq_true.1 this
           simp only [Bool.and_eq_true, Bool.or_eq_true, beq_iff_eq, List.contains_iff_mem] at hk'
           exact ⟨_, Array.getElem_mem hk, hk'⟩
     | false =>
       simp only [Bool.false_eq_true, if_false, beq_iff_eq, Bool.and_eq_true] at hpl1
       obtain ⟨hp1, hp2⟩ := hpl1
       refine ⟨hI, fun e => (by rw [e] at hp1; cases hp1), fun j hj => ?_⟩
       rw [hp1, List.mem_singleton] at hj
       subst hj
       unfold wpOpIn
       simp only [hoi]
       simp only [planT, ho, planO] at h
       rw [<- ha.ev] at h
       by_cases hcl : r.isNil = true ∨ some j = oc
       . have hcl' : (r.isNil || some j == oc) = true := by
          rcases hcl with h | h
          . simp [h]
          . simp [h]
         rw [hcl', if_pos rfl, Bool.and_eq_true, beq_iff_eq, decide_eq_true_eq] at hp2
         have hset : (listed.setIfInBounds j true).getD cl false = true := by
          rw [<- hp2.1]; simp [hp2.2]
         have hfin : ∀ (I' : World -> Prop) v w', (putK n o.dst v loc tmp fun loc tmp => planT P n base l oc I' ds r loc tmp w' K) -> AnyI ro P l.toArray Q cl I r.len (listed.setIfInBounds j true) (a.put o.dst v) w' := fun I' v w' hv =>
          (hnext I' v w' (fun hf => by rw [hset] at hf; cases hf) hv).listed _ _ _ _ hset
         rcases grdV_wanted h with ⟨hw, h⟩ | ⟨hw, h⟩
         . rw [if_pos hw]
           refine (opV_step h).wp fun v w' hv => ?_
           obtain ⟨loc', tmp', ha', I', hI', hv'⟩ := ha.put hdst v hv
           exact (planT_any hsel hdef hQ hall r _ I' loc' tmp' w' _ hv' hpl2 (fun hf => by rw [hset] at hf; cases hf) ha' (by cases o.dst <;> simp [Act.put, hs]) (by cases o.dst <;> simp [Act.put, hd]) hK).listed _ _ _ _ hset
         . rw [if_neg (by rw [hw]; simp)]
           exact ⟨fun f _ => fz_fn f, hfin I _ _ h⟩
       . have hcl' : (r.isNil || some j == oc) = false := by
          rw [not_or] at hcl
          simp [hcl.1, hcl.2]
         rw [hcl'] at hp2
         simp only [Bool.false_eq_true, if_false, Bool.and_eq_true, Bool.not_eq_true', bne_iff_ne, ne_eq] at hp2
         rw [not_or] at hcl
         have hfin : ∀ v w', (putK n o.dst v loc tmp fun loc tmp => ∃ I', (r.isNil = false -> some j ≠ oc -> I' w' /\ ∀ w, I' w -> I w) /\ planT P n base l oc I' ds r loc tmp w' K) -> AnyI ro P l.toArray Q cl I r.len (listed.setIfInBounds j true) (a.put o.dst v) w' := by
          intro v w' hv
          obtain ⟨loc', tmp', ha', I', hI', hv'⟩ := ha.put hdst v hv
          have hi' := hI' (by simpa using hcl.1) hcl.2
          exact (planT_any hsel hdef hQ hall r _ I' loc' tmp' w' (a.put o.dst v) hv' hpl2 (fun _ => hi'.1) ha' (by cases o.dst <;> simp [Act.put, hs]) (by cases o.dst <;> simp [Act.put, hd]) hK).mono hi'.2
         rcases grdV_wanted h with ⟨hw, h⟩ | ⟨hw, h⟩
         . rw [if_pos hw]
           exact (opV_step h).wp hfin
         . rw [if_neg (by rw [hw]; simp)]
           exact ⟨fun f _ => fz_fn f, hnext I _ _ (fun _ => hI hp2.1) h⟩
 | .alt i r j s, listed, I, loc, tmp, w, a, h, hpl, hI, ha, hs, hd, hK => by
   simp only [planOKT, Bool.and_eq_true, beq_iff_eq, Bool.not_eq_true', bne_iff_ne, ne_eq] at hpl
   obtain ⟨⟨⟨⟨⟨⟨hp1, hp2⟩, hp3⟩, hp4⟩, hp5⟩, hp6⟩, hp7⟩ := hpl
   obtain ⟨h1, h2⟩ := h
   refine ⟨hI, fun e => (by rw [e] at hp1; cases hp1), fun k hk => ?_⟩
   rw [hp1] at hk
   rcases List.mem_cons.1 hk with rfl | hk
   . exact stepT hall h1 ha hs hd (hI hp2) (fun I' loc tmp w a hf hi' ha hs hd => planT_any hsel hdef hQ hall r _ I' loc tmp w a hf hp6 (fun _ => hi') ha hs hd hK)
   . rw [List.mem_singleton] at hk
     subst hk
     have := stepT hall h2 ha hs hd (hI hp2) (fun I' loc tmp w a hf hi' ha hs hd => planT_any hsel hdef hQ hall s _ I' loc tmp w a hf hp7 (fun _ => hi') ha hs hd hK)
     rw [hp5]
     exact this
def planTA (P : Program) (G : Nat -> AV) (N n : Nat) (ops : List Oper) (cl : Option Nat) (keep : Nat -> Bool) : List AV -> PT -> List AV -> List (Nat × AV) -> Tbl -> Eff -> (K : AKont) -> Prop
 | ds, .nil, loc, tmp, T, E, K => K ds loc tmp T E
 | ds, .st i true r, loc, tmp, T, E, K => planOA ops ops[i]? (evA G n loc tmp)
  (fun o => rdA P (evA G n loc tmp) o.op o.type (keepT keep T) fun v => putA n o.dst v loc tmp fun loc tmp => planTA P G N n ops cl keep ds r loc tmp T E K)
  (fun o => putA n o.dst (.p undef) loc tmp fun loc tmp => planTA P G N n ops cl keep ds r loc tmp T E K)
 | ds, .st i false r, loc, tmp, T, E, K => planOA ops ops[i]? (evA G n loc tmp)
  (fun o => opA P G (evA G n loc tmp) o.op o.type T fun v T' es => putA n o.dst v (slots es loc) (slotsT es tmp) fun loc tmp => (keepOK keep es = true ∨ r.isNil = true ∨ some i = cl) /\ planTA P G N n ops cl keep (slots es ds) r loc tmp T' (recE N es E) K)
  (fun o => putA n o.dst (.p undef) loc tmp fun loc tmp => planTA P G N n ops cl keep ds r loc tmp T E K)
 | ds, .alt i r j s, loc, tmp, T, E, K => planOA ops ops[i]? (evA G n loc tmp)
  (fun o => opA P G (evA G n loc tmp) o.op o.type T fun v T' es => putA n o.dst v (slots es loc) (slotsT es tmp) fun loc tmp => (keepOK keep es = true) /\ planTA P G N n ops cl keep (slots es ds) r loc tmp T' (recE N es E) K)
  (fun o => putA n o.dst (.p undef) loc tmp fun loc tmp => planTA P G N n ops cl keep ds r loc tmp T E K) /\
   planOA ops ops[j]? (evA G n loc tmp)
    (fun o => opA P G (evA G n loc tmp) o.op o.type T fun v T' es => putA n o.dst v (slots es loc) (slotsT es tmp) fun loc tmp => (keepOK keep es = true) /\ planTA P G N n ops cl keep (slots es ds) s loc tmp T' (recE N es E) K)
    (fun o => putA n o.dst (.p undef) loc tmp fun loc tmp => planTA P G N n ops cl keep ds s loc tmp T E K)
theorem planTA_sound {n : Nat} {base : Nat -> Value} {ops : List Oper} {cl : Option Nat} {keep : Nat -> Bool} {K : AKont} : ∀ (pl : PT) (ds loc : List AV) (tmp : List (Nat × AV)) (dv : List Nat) (lv : List Value) (tv : List (Nat × Value)) (Z : Heap) (ρ : List BI) (T : Tbl) (w : World) (E : Eff),
 planTA P G ρ0.length n ops cl keep ds pl loc tmp T E K -> Frm G Z0 ρ0 T0 w0 Z ρ T w E -> At Z ρ ds loc tmp dv lv tv -> planT P n base ops cl (Agr Z ρ (keepT keep T) w) dv pl lv tv w (LK G Z0 ρ0 T0 w0 K)
 | .nil, ds, loc, tmp, dv, lv, tv, Z, ρ, T, w, E, h, hf, ha => ⟨Z, ρ, T, E, ds, loc, tmp, hf, ha.ds, ha.loc, ha.tmp, h⟩
 | .st i true r, ds, loc, tmp, dv, lv, tv, Z, ρ, T, w, E, h, hf, ha => by
   simp only [planTA, planOA] at h
   simp only [planT, planO]
   have he := evA_rel (n := n) (base := base) hf.g ha.loc ha.tmp
   cases ho : ops[i]? with
   | none => rw [ho] at h; exact h.elim
   | some o =>
     rw [ho] at h
     simp only at h ⊢
     refine grdA_sound h he (fun h => ?_) (fun h => ?_)
     . refine valV_mono (rdA_sound (hf.st.keepT keep) he h) (fun _ _ h => h) (fun s h => FloatP.mono h (fun _ h => h) ?_) ?_
       all_goals
        rintro v ⟨a, h1, h2⟩
        exact putA_sound h2 h1 ha fun loc tmp lv tv hk hat => planTA_sound r _ _ _ _ _ _ _ _ _ _ _ hk hf hat
     . exact putA_sound h (.p _) ha fun loc tmp lv tv hk hat => planTA_sound r _ _ _ _ _ _ _ _ _ _ _ hk hf hat
 | .st i false r, ds, loc, tmp, dv, lv, tv, Z, ρ, T, w, E, h, hf, ha => by
   simp only [planTA, planOA] at h
   simp only [planT, planO]
   have he := evA_rel (n := n) (base := base) hf.g ha.loc ha.tmp
   cases ho : ops[i]? with
   | none => rw [ho] at h; exact h.elim
   | some o =>
     rw [ho] at h
     simp only at h ⊢
     refine grdA_sound h he (fun h => ?_) (fun h => ?_)
     . refine opV_mono (opA_sound hf.g hf.st he h) fun v w' h2 => ?_
       obtain ⟨Z', ρ', T', es, a, k1, k2, k3, k4⟩ := h2
       refine putA_sound k4 k3 (ha.step k2) fun loc tmp lv tv hk hat => ⟨Agr Z' ρ' (keepT keep T') w', fun hr hc => ?_, planTA_sound r _ _ _ _ _ _ _ _ _ _ _ hk.2 (hf.step k1 k2) hat⟩
       exact ⟨agr_self (k1.keepT keep), agr_step k2 (hk.1.resolve_right (fun h => h.elim (fun h => by rw [hr] at h; cases h) hc))⟩
     . exact putA_sound h (.p _) ha fun loc tmp lv tv hk hat => planTA_sound r _ _ _ _ _ _ _ _ _ _ _ hk hf hat
 | .alt i r j s, ds, loc, tmp, dv, lv, tv, Z, ρ, T, w, E, h, hf, ha => by
   simp only [planTA, planOA] at h
   simp only [planT, planO]
   have he := evA_rel (n := n) (base := base) hf.g ha.loc ha.tmp
   refine ⟨?_, ?_⟩
   . have h := h.1
     cases ho : ops[i]? with
     | none => rw [ho] at h; exact h.elim
     | some o =>
       rw [ho] at h
       simp only at h ⊢
       refine grdA_sound h he (fun h => ?_) (fun h => ?_)
       . refine opV_mono (opA_sound hf.g hf.st he h) fun v w' h2 => ?_
         obtain ⟨Z', ρ', T', es, a, k1, k2, k3, k4⟩ := h2
         refine putA_sound k4 k3 (ha.step k2) fun loc tmp lv tv hk hat => ⟨Agr Z' ρ' (keepT keep T') w', ⟨agr_self (k1.keepT keep), agr_step k2 hk.1⟩, planTA_sound r _ _ _ _ _ _ _ _ _ _ _ hk.2 (hf.step k1 k2) hat⟩
       . exact putA_sound h (.p _) ha fun loc tmp lv tv hk hat => planTA_sound r _ _ _ _ _ _ _ _ _ _ _ hk hf hat
   . have h := h.2
     cases ho : ops[j]? with
     | none => rw [ho] at h; exact h.elim
     | some o =>
       rw [ho] at h
       simp only at h ⊢
       refine grdA_sound h he (fun h => ?_) (fun h => ?_)
       . refine opV_mono (opA_sound hf.g hf.st he h) fun v w' h2 => ?_
         obtain ⟨Z', ρ', T', es, a, k1, k2, k3, k4⟩ := h2
         refine putA_sound k4 k3 (ha.step k2) fun loc tmp lv tv hk hat => ⟨Agr Z' ρ' (keepT keep T') w', ⟨agr_self (k1.keepT keep), agr_step k2 hk.1⟩, planTA_sound s _ _ _ _ _ _ _ _ _ _ _ hk.2 (hf.step k1 k2) hat⟩
       . exact putA_sound h (.p _) ha fun loc tmp lv tv hk hat => planTA_sound s _ _ _ _ _ _ _ _ _ _ _ hk hf hat
theorem SemA.drawT0 {id : Nat} {ops : Array Oper} (cl : Nat) (oc : Option Nat) (keep : Nat -> Bool) (pl : PT) (hm : P.follows .mixedOrders = true)
 (hok : (Region.noSelect ops && noDefer ops && ops.toList.all (dstIn m) && pl.len == ops.size && planOKT ops cl oc pl (Array.replicate ops.size false)) = true)
 (h : planTA P G N n ops.toList oc keep ds pl loc [] T E Nk) : SemA P G N ro n m (.region id ops true) ds loc tmp T E Nk X R := by
 simp only [Bool.and_eq_true, beq_iff_eq] at hok
 obtain ⟨⟨⟨⟨h1, h0⟩, h2⟩, h3⟩, h4⟩ := hok
 intro Z0 ρ0 T0 w0 Z ρ w dv lv tv hN hf ha
 refine SemV.cleared ?_
 intro a haa Qs hQs
 refine wpIn_mono (Q := fun e a w => ∃ dv lv tv, Fits' n m dv lv tv a /\ mkQ (LK G Z0 ρ0 T0 w0 Nk) (fun i => LK G Z0 ρ0 T0 w0 (X i)) (LK G Z0 ρ0 T0 w0 R) e dv lv tv w) ?_ (fun e a w ⟨ds, loc, tmp, hf, hq⟩ => hQs _ _ _ _ _ _ hf hq)
 have hdr : Alike { w with drawn := w.drawn + 1 } w := ⟨rfl, rfl, rfl⟩
 have hf' := hf.same hdr
 subst hN
 refine wpIn_region_any hm (AnyI.any (cl := cl) (I := Agr Z ρ (keepT keep T) { w with drawn := w.drawn + 1 }) _ _ _ _ ?_)
 have := planT_any (P := P) (cl := cl) (oc := oc) (ro := ro) (Q := fun e a w => ∃ dv lv tv, Fits' n m dv lv tv a /\ mkQ (LK G Z0 ρ0 T0 w0 Nk) (fun i => LK G Z0 ρ0 T0 w0 (X i)) (LK G Z0 ρ0 T0 w0 R) e dv lv tv w) (l := ops.toList) (K := LK G Z0 ρ0 T0 w0 Nk) (by simpa using h1) (by simpa using h0) (fun c a a' w ⟨ds, loc, tmp, _, hq⟩ => hq.elim) h2 pl
  (Array.replicate ops.size false) (Agr Z ρ (keepT keep T) { w with drawn := w.drawn + 1 }) lv [] { w with drawn := w.drawn + 1 } a (planTA_sound pl ds loc [] dv lv [] Z ρ T _ E h hf' ha.clear) (by simpa using h4) (fun _ => agr_self (hf'.st.keepT keep)) haa.clear haa.size haa.defers
  (fun loc tmp w a h1 h2 h3 hk => ⟨dv, loc, tmp, ⟨⟨_, h1⟩, h2, h3⟩, hk⟩)
 rw [h3] at this
 simpa using this
theorem RelT.all (tv : List (Nat × Value)) : RelT Z ρ (tv.map fun p => (p.1, AV.p p.2)) tv := by
 induction tv with
 | nil => exact .nil
 | cons p r ih => exact .cons (.p _) ih
theorem SemA.drawT {id : Nat} {ops : Array Oper} (L : List (Nat × AV)) (Tb : Tbl) (Ei : Eff) (cl : Nat) (keep : Nat -> Bool) (pl : PT) (hm : P.follows .mixedOrders = true)
 (hok : (Region.noSelect ops && noDefer ops && ops.toList.all (dstIn m) && pl.len == ops.size && planOKT ops cl (some cl) pl (Array.replicate ops.size false)) = true)
 (h : planTA P G N n ops.toList (some cl) keep ds pl loc [] T E (fun ds' loc' _ T' E' => SeeL G N n ds' loc' T' E' ds L Tb Ei)) (next : ∀ g tmp, Nk ds (mkA g L 0 n) tmp Tb Ei) : SemA P G N ro n m (.region id ops true) ds loc tmp T E Nk X R := by
 have h0 := SemA.drawT0 (ro := ro) (X := X) (R := R) (tmp := tmp) (id := id) cl (some cl) keep pl hm hok h
 intro Z0 ρ0 T0 w0 Z ρ w dv lv tv hN hf ha
 refine (h0 Z0 ρ0 T0 w0 Z ρ w dv lv tv hN hf ha).mono fun e dv lv tv w hq => ?_
 cases e with
 | normal =>
   obtain ⟨Z1, ρ1, T1, E1, ds1, loc1, tmp1, g1, g2, g3, g4, hv⟩ := hq
   obtain ⟨Z2, ρ2, loc2, k1, k2, k3⟩ := hv Z0 ρ0 T0 w0 Z1 ρ1 w dv lv hN g1 ⟨g2, g3, .nil⟩
   obtain ⟨g, rfl⟩ := k3.elim
   exact ⟨Z2, ρ2, Tb, Ei, ds, _, _, k1, k2.ds, k2.loc, RelT.all tv, next g _⟩
 | exit i => exact hq
 | ret => exact hq
 | _ => exact hq.elim
theorem vp :
 (∀ (P : Program) (G : Nat -> AV) (N n : Nat) (ops : List Oper) (cl : Option Nat) (keep : Nat -> Bool) (ds : List AV) (loc : List AV) (tmp : List (Nat × AV)) (T : Tbl) (E : Eff) (K : AKont), planTA P G N n ops cl keep ds .nil loc tmp T E K = K ds loc tmp T E) /\
 (∀ (P : Program) (G : Nat -> AV) (N n : Nat) (ops : List Oper) (cl : Option Nat) (keep : Nat -> Bool) (ds : List AV) (loc : List AV) (tmp : List (Nat × AV)) (T : Tbl) (E : Eff) (K : AKont) (i : Nat) (r : PT), planTA P G N n ops cl keep ds (.st i true r) loc tmp T E K = (planOA ops ops[i]? (evA G n loc tmp)
     (fun o => rdA P (evA G n loc tmp) o.op o.type (keepT keep T) fun v => putA n o.dst v loc tmp fun loc tmp => planTA P G N n ops cl keep ds r loc tmp T E K)
     (fun o => putA n o.dst (.p undef) loc tmp fun loc tmp => planTA P G N n ops cl keep ds r loc tmp T E K))) /\
 (∀ (P : Program) (G : Nat -> AV) (N n : Nat) (ops : List Oper) (cl : Option Nat) (keep : Nat -> Bool) (ds : List AV) (loc : List AV) (tmp : List (Nat × AV)) (T : Tbl) (E : Eff) (K : AKont) (i : Nat) (r : PT), planTA P G N n ops cl keep ds (.st i false r) loc tmp T E K = (planOA ops ops[i]? (evA G n loc tmp)
     (fun o => opA P G (evA G n loc tmp) o.op o.type T fun v T' es => putA n o.dst v (slots es loc) (slotsT es tmp) fun loc tmp => (keepOK keep es = true ∨ r.isNil = true ∨ some i = cl) /\ planTA P G N n ops cl keep (slots es ds) r loc tmp T' (recE N es E) K)
     (fun o => putA n o.dst (.p undef) loc tmp fun loc tmp => planTA P G N n ops cl keep ds r loc tmp T E K))) /\
 (∀ (P : Program) (G : Nat -> AV) (N n : Nat) (ops : List Oper) (cl : Option Nat) (keep : Nat -> Bool) (ds : List AV) (loc : List AV) (tmp : List (Nat × AV)) (T : Tbl) (E : Eff) (K : AKont) (i : Nat) (r : PT) (j : Nat) (s : PT), planTA P G N n ops cl keep ds (.alt i r j s) loc tmp T E K = (planOA ops ops[i]? (evA G n loc tmp)
     (fun o => opA P G (evA G n loc tmp) o.op o.type T fun v T' es => putA n o.dst v (slots es loc) (slotsT es tmp) fun loc tmp => (keepOK keep es = true) /\ planTA P G N n ops cl keep (slots es ds) r loc tmp T' (recE N es E) K)
     (fun o => putA n o.dst (.p undef) loc tmp fun loc tmp => planTA P G N n ops cl keep ds r loc tmp T E K) /\
  planOA ops ops[j]? (evA G n loc tmp)
   (fun o => opA P G (evA G n loc tmp) o.op o.type T fun v T' es => putA n o.dst v (slots es loc) (slotsT es tmp) fun loc tmp => (keepOK keep es = true) /\ planTA P G N n ops cl keep (slots es ds) s loc tmp T' (recE N es E) K)
   (fun o => putA n o.dst (.p undef) loc tmp fun loc tmp => planTA P G N n ops cl keep ds s loc tmp T E K))) /\ (PT.nil.isNil = true) /\ (∀ i b r, (PT.st i b r).isNil = false) /\ (∀ i r j s, (PT.alt i r j s).isNil = false) :=
 ⟨fun _ _ _ _ _ _ _ _ _ _ _ _ _ => rfl, fun _ _ _ _ _ _ _ _ _ _ _ _ _ _ _ => rfl, fun _ _ _ _ _ _ _ _ _ _ _ _ _ _ _ => rfl, fun _ _ _ _ _ _ _ _ _ _ _ _ _ _ _ _ _ => rfl, rfl, fun _ _ _ => rfl, fun _ _ _ _ => rfl⟩
end
end Go.E
namespace Go.E
section
variable {P : Program} {G : Nat -> AV} {Z Z' Z0 : Heap} {ρ ρ' ρ0 : List BI} {T T' T0 : Tbl} {w w' w0 : World} {a b : AV} {u v : Value} {K : AV -> Tbl -> Eff -> Prop} {cs : List AV} {es E : Eff}
variable {N n m : Nat} {ro : Option Nat} {ds loc : List AV} {tmp : List (Nat × AV)} {Nk R : AKont} {X : Nat -> AKont}
inductive PS where
 | nil : PS
 | fl : Nat -> PS -> PS
 | fp : Nat -> PS -> PS
 | sq : Nat -> PS -> PS
def plV (P : Program) (ρ : Operand -> Value) (o : Op) (K : Value -> Prop) (_ : Tag K := .mk) : Prop := match o with
 | .binOp op t x y _ => binV P op t (ρ x) (ρ y) x y (fun _ => False) K
 | .unOp op _ x => unV op (ρ x) (fun _ => False) K
 | .convert s t x => convV (tk P s) (tk P t) s t (ρ x) (fun _ => False) K
 | _ => False
theorem plV_float {evV : Operand -> Value} {o : Op} {ty : TypeId} {I : World -> Prop} {K : Value -> Prop} (h : plV P evV o K) : floatV P evV o ty I K := by
 unfold plV at h
 unfold floatV
 split at h
 . simp only [valV]; exact binV_mono h (fun _ h => h.elim) fun _ h => h
 . simp only [valV]; exact unV_mono h (fun _ h => h.elim) fun _ h => h
 . simp only [valV]; exact convV_mono h (fun _ h => h.elim) fun _ h => h
 . exact h.elim
def plA (P : Program) (ρ : Operand -> AV) (o : Op) (K : AV -> Prop) (_ : Tag K := .mk) : Prop := match o with
 | .binOp op t x y _ => isP (ρ x) fun a => isP (ρ y) fun b => binV P op t a b x y (fun _ => False) fun v => K (.p v)
 | .unOp op _ x => isP (ρ x) fun a => unV op a (fun _ => False) fun v => K (.p v)
 | .convert s t x => isP (ρ x) fun a => convV (tk P s) (tk P t) s t a (fun _ => False) fun v => K (.p v)
 | _ => False
theorem plA_sound {evA : Operand -> AV} {evV : Operand -> Value} {o : Op} {K : AV -> Prop} (he : ∀ x, Rel Z ρ (evA x) (evV x)) (h : plA P evA o K) : plV P evV o fun v => K (.p v) := by
 unfold plA at h
 unfold plV
 split at h
 . exact isP_elim (isP_elim h (he _)) (he _)
 . exact isP_elim h (he _)
 . exact isP_elim h (he _)
 . exact h.elim
def PS.len : PS -> Nat
 | .nil => 0
 | .fl _ r => r.len + 1
 | .fp _ r => r.len + 1
 | .sq _ r => r.len + 1
def PS.cl (d : Nat) : PS -> Nat
 | .nil => d
 | .fl _ r => r.cl d
 | .fp _ r => r.cl d
 | .sq i _ => i
def planOKS (ops : Array Oper) : PS -> Nat -> Array Bool -> Bool
 | .nil, _, listed => (Region.ready .any ops listed).isEmpty
 | .fl i r, cl, listed => ((Region.ready .any ops listed).contains i && Region.free .any ops listed i && (cl != i && ((match ops[i]? with | none => false | some oi => pureOp oi.op) || blocks ops cl i listed))) && planOKS ops r cl (listed.setIfInBounds i true)
 | .fp i r, cl, listed => ((Region.ready .any ops listed).contains i && Region.free .any ops listed i && cl != i) && planOKS ops r cl (listed.setIfInBounds i true)
 | .sq i r, cl, listed => (Region.ready .any ops listed == [i] && (i == cl && decide (i < listed.size))) && planOKS ops r (r.cl ops.size) (listed.setIfInBounds i true)
def planS (P : Program) (n : Nat) (base : Nat -> Value) (ops : List Oper) (ds : List Nat) : PS -> (World -> Prop) -> List Value -> List (Nat × Value) -> World -> (K : Kont) -> Prop
 | .nil, _, loc, tmp, w, K => K ds loc tmp w
 | .fl i r, I, loc, tmp, w, K => planO n base ops ops[i]? loc tmp
   (fun o => floatV P (ev n base loc tmp) o.op o.type I fun v => putK n o.dst v loc tmp fun loc tmp => planS P n base ops ds r I loc tmp w K)
   (fun o => putK n o.dst undef loc tmp fun loc tmp => planS P n base ops ds r I loc tmp w K)
 | .fp i r, I, loc, tmp, w, K => planO n base ops ops[i]? loc tmp
   (fun o => plV P (ev n base loc tmp) o.op fun v => putK n o.dst v loc tmp fun loc tmp => planS P n base ops ds r I loc tmp w K)
   (fun o => putK n o.dst undef loc tmp fun loc tmp => planS P n base ops ds r I loc tmp w K)
 | .sq i r, I, loc, tmp, w, K => planO n base ops ops[i]? loc tmp
   (fun o => opV P (ev n base loc tmp) o.op o.type w fun v w' => putK n o.dst v loc tmp fun loc tmp => ∃ I', I' w' /\ planS P n base ops ds r I' loc tmp w' K)
   (fun o => putK n o.dst undef loc tmp fun loc tmp => ∃ I', I' w /\ planS P n base ops ds r I' loc tmp w K)
theorem getD_set_true {l : Array Bool} {cl i : Nat} (h : l.getD cl false = true) : (l.setIfInBounds i true).getD cl false = true := by
 by_cases hic : i = cl
 . subst hic
   simp only [Array.getD_eq_getD_getElem?, Array.getElem?_setIfInBounds]
   by_cases hb : i < l.size
   . simp [hb]
   . simp [hb] at h
 . rw [getD_set_ne false hic]; exact h
theorem AnyI.swap {ops : Array Oper} {Q : Exit -> Act -> World -> Prop} {cl cl' : Nat} {I J : World -> Prop} : ∀ (f : Nat) (listed : Array Bool) (a : Act) (w : World), listed.getD cl false = true -> AnyI ro P ops Q cl' J f listed a w -> AnyI ro P ops Q cl I f listed a w
 | 0, _, _, _, hl, h => ⟨fun h' => (by rw [hl] at h'; cases h'), h.2⟩
 | f + 1, listed, _, _, hl, h => ⟨fun h' => (by rw [hl] at h'; cases h'), h.2.1, fun i hi => wpOpIn_mono (fun a w => AnyI.swap f _ a w (getD_set_true hl)) (h.2.2 i hi)⟩
theorem planS_any {Q : Exit -> Act -> World -> Prop} {n m : Nat} {base : Nat -> Value} {l : List Oper} {ds : List Nat} {K : Kont} (hsel : Region.noSelect l.toArray = true) (hdef : noDefer l.toArray = true) (hQ : ∀ c (a a' : Act) w, Q (.panic c) a w -> Q (.panic c) a' w) (hall : l.all (dstIn m) = true) :
 ∀ (pl : PS) (cl : Nat) (listed : Array Bool) (I : World -> Prop) (loc : List Value) (tmp : List (Nat × Value)) (w : World) (a : Act), planS P n base l ds pl I loc tmp w K -> planOKS l.toArray pl cl listed = true -> (listed.getD cl false = false -> I w) ->
  Agree n base loc tmp a -> a.tmps.size = m -> a.defers = ds.map markOf ->
  (∀ loc tmp w a, Agree n base loc tmp a -> a.tmps.size = m -> a.defers = ds.map markOf -> K ds loc tmp w -> Q .normal a w) -> AnyI ro P l.toArray Q cl I pl.len listed a w
 | .nil, cl, listed, I, loc, tmp, w, a, h, hpl, hI, ha, hs, hd, hK => by
   simp only [planOKS, List.isEmpty_iff] at hpl
   exact ⟨hI, hpl, hK loc tmp w a ha hs hd h⟩
 | .fl i r, cl, listed, I, loc, tmp, w, a, h, hpl, hI, ha, hs, hd, hK => by
   rw [planOKS, Bool.and_eq_true] at hpl
   obtain ⟨hpl1, hpl2⟩ := hpl
   cases ho : l[i]? with
   | none => simp only [planS, ho, planO] at h
   | some o =>
     have hoi : l.toArray[i]? = some o := by simpa using ho
     have hmem : o ∈ l := List.mem_of_getElem? ho
     have hd1 : dstIn m o = true := List.all_eq_true.1 hall o hmem
     have hdst : ∀ t, o.dst = some t -> t < a.tmps.size := by rw [hs]; exact dstIn_spec hd1
     have hnext : ∀ v, ((listed.setIfInBounds i true).getD cl false = false -> I w) -> (putK n o.dst v loc tmp fun loc tmp => planS P n base l ds r I loc tmp w K) -> AnyI ro P l.toArray Q cl I r.len (listed.setIfInBounds i true) (a.put o.dst v) w := by
      intro v hI' hv
      obtain ⟨loc', tmp', ha', hv'⟩ := ha.put hdst v hv
      exact planS_any hsel hdef hQ hall r _ _ I loc' tmp' w _ hv' hpl2 hI' ha' (by cases o.dst <;> simp [Act.put, hs]) (by cases o.dst <;> simp [Act.put, hd]) hK
     simp only [planS, ho, planO] at h
     rw [<- ha.ev] at h
     simp only [Bool.and_eq_true, List.contains_iff_mem, Bool.or_eq_true, Bool.not_eq_true', bne_iff_ne, ne_eq, hoi] at hpl1
     obtain ⟨⟨hp1, hp2⟩, hp4, hp3⟩ := hpl1
     have hnext' : ∀ v, (putK n o.dst v loc tmp fun loc tmp => planS P n base l ds r I loc tmp w K) -> AnyI ro P l.toArray Q cl I r.len (listed.setIfInBounds i true) (a.put o.dst v) w := fun v hk =>
      hnext v (fun hl => hI (by rw [getD_set_ne false (Ne.symm hp4)] at hl; exact hl)) hk
     rcases hp3 with hp3 | hp3
     . have hgive : ∃ v, GivesI P l.toArray (fun _ => True) o v a /\ putK n o.dst v loc tmp fun loc tmp => planS P n base l ds r I loc tmp w K := by
        rcases grdV_wanted h with ⟨hw, h⟩ | ⟨hw, h⟩
        . obtain ⟨v, hv, hk⟩ := floatV_run (floatV_pure hp3 h)
          exact ⟨v, .inl ⟨hw, hv⟩, hk⟩
        . exact ⟨undef, .inr ⟨hw, rfl⟩, h⟩
       obtain ⟨v, hg, hk⟩ := hgive
       exact AnyI_first2 [] (.inl fun _ => trivial) hp4 hoi (Region.noSelect_spec hsel) (noDefer_spec hdef) (fun c a w => hQ c _ _ w) r.len listed a w (fun j oj hj hne hun hno => Region.free_spec hoi hp2 j oj hj hne hun hno) (.inl fun _ => trivial) hp1 hg (hnext' v hk)
     . have hgive : ∃ v, GivesI P l.toArray I o v a /\ putK n o.dst v loc tmp fun loc tmp => planS P n base l ds r I loc tmp w K := by
        rcases grdV_wanted h with ⟨hw, h⟩ | ⟨hw, h⟩
        . obtain ⟨v, hv, hk⟩ := floatV_run h
          exact ⟨v, .inl ⟨hw, hv⟩, hk⟩
        . exact ⟨undef, .inr ⟨hw, rfl⟩, h⟩
       obtain ⟨v, hg, hk⟩ := hgive
       simp only [blocks, Bool.and_eq_true, Bool.or_eq_true, Bool.not_eq_true', List.contains_iff_mem, List.all_eq_true] at hp3
       obtain ⟨⟨⟨hb1, hb2⟩, hb3⟩, hb4⟩ := hp3
       refine AnyI_first2 (waitsFor l.toArray i) (.inr ⟨fun _ h => h, ?_, fun j hj oj hoj => ?_⟩) hp4 hoi (Region.noSelect_spec hsel) (noDefer_spec hdef) (fun c a w => hQ c _ _ w) r.len listed a w (fun j oj hj hne hun hno => Region.free_spec hoi hp2 j oj hj hne hun hno) (.inr ⟨hb3, hb4⟩) hp1 hg (hnext' v hk)
       . rcases hb2 with h | h
         . exact .inl h
         . right
           split at h
           . assumption
           . cases h
       . have := List.all_eq_true.1 hb1 j hj
         rw [hoj] at this
         obtain ⟨k, hk, hk'⟩ := Array.any_eq_true.1 this
         simp only [Bool.and_eq_true, Bool.or_eq_true, beq_iff_eq, List.contains_iff_mem] at hk'
         exact ⟨_, Array.getElem_mem hk, hk'⟩
 | .fp i r, cl, listed, I, loc, tmp, w, a, h, hpl, hI, ha, hs, hd, hK => by
   rw [planOKS, Bool.and_eq_true] at hpl
   obtain ⟨hpl1, hpl2⟩ := hpl
   cases ho : l[i]? with
   | none => simp only [planS, ho, planO] at h
   | some o =>
     have hoi : l.toArray[i]? = some o := by simpa using ho
     have hmem : o ∈ l := List.mem_of_getElem? ho
     have hd1 : dstIn m o = true := List.all_eq_true.1 hall o hmem
     have hdst : ∀ t, o.dst = some t -> t < a.tmps.size := by rw [hs]; exact dstIn_spec hd1
     have hnext : ∀ v, ((listed.setIfInBounds i true).getD cl false = false -> I w) -> (putK n o.dst v loc tmp fun loc tmp => planS P n base l ds r I loc tmp w K) -> AnyI ro P l.toArray Q cl I r.len (listed.setIfInBounds i true) (a.put o.dst v) w := by
      intro v hI' hv
      obtain ⟨loc', tmp', ha', hv'⟩ := ha.put hdst v hv
      exact planS_any hsel hdef hQ hall r _ _ I loc' tmp' w _ hv' hpl2 hI' ha' (by cases o.dst <;> simp [Act.put, hs]) (by cases o.dst <;> simp [Act.put, hd]) hK
     simp only [planS, ho, planO] at h
     rw [<- ha.ev] at h
     simp only [Bool.and_eq_true, List.contains_iff_mem, bne_iff_ne, ne_eq] at hpl1
     obtain ⟨⟨hp1, hp2⟩, hp4⟩ := hpl1
     have hnext' : ∀ v, (putK n o.dst v loc tmp fun loc tmp => planS P n base l ds r I loc tmp w K) -> AnyI ro P l.toArray Q cl I r.len (listed.setIfInBounds i true) (a.put o.dst v) w := fun v hk =>
      hnext v (fun hl => hI (by rw [getD_set_ne false (Ne.symm hp4)] at hl; exact hl)) hk
     have hgive : ∃ v, GivesI P l.toArray (fun _ => True) o v a /\ putK n o.dst v loc tmp fun loc tmp => planS P n base l ds r I loc tmp w K := by
      rcases grdV_wanted h with ⟨hw, h⟩ | ⟨hw, h⟩
      . obtain ⟨v, hv, hk⟩ := floatV_run (I := fun _ => True) (plV_float h)
        exact ⟨v, .inl ⟨hw, hv⟩, hk⟩
      . exact ⟨undef, .inr ⟨hw, rfl⟩, h⟩
     obtain ⟨v, hg, hk⟩ := hgive
     exact AnyI_first2 [] (.inl fun _ => trivial) hp4 hoi (Region.noSelect_spec hsel) (noDefer_spec hdef) (fun c a w => hQ c _ _ w) r.len listed a w (fun j oj hj hne hun hno => Region.free_spec hoi hp2 j oj hj hne hun hno) (.inl fun _ => trivial) hp1 hg (hnext' v hk)
 | .sq i r, cl, listed, I, loc, tmp, w, a, h, hpl, hI, ha, hs, hd, hK => by
   rw [planOKS] at hpl
   simp only [Bool.and_eq_true, beq_iff_eq, decide_eq_true_eq] at hpl
   obtain ⟨⟨hp1, rfl, hp2⟩, hpl2⟩ := hpl
   cases ho : l[i]? with
   | none => simp only [planS, ho, planO] at h
   | some o =>
     have hoi : l.toArray[i]? = some o := by simpa using ho
     have hmem : o ∈ l := List.mem_of_getElem? ho
     have hd1 : dstIn m o = true := List.all_eq_true.1 hall o hmem
     have hdst : ∀ t, o.dst = some t -> t < a.tmps.size := by rw [hs]; exact dstIn_spec hd1
     refine ⟨hI, fun e => (by rw [e] at hp1; cases hp1), fun j hj => ?_⟩
     rw [hp1, List.mem_singleton] at hj
     subst hj
     have hset : (listed.setIfInBounds j true).getD j false = true := by simp [hp2]
     unfold wpOpIn
     simp only [hoi]
     simp only [planS, ho, planO] at h
     rw [<- ha.ev] at h
     have hfin : ∀ v w', (putK n o.dst v loc tmp fun loc tmp => ∃ I', I' w' /\ planS P n base l ds r I' loc tmp w' K) -> AnyI ro P l.toArray Q j I r.len (listed.setIfInBounds j true) (a.put o.dst v) w' := by
      intro v w' hv
      obtain ⟨loc', tmp', ha', I', hI', hv'⟩ := ha.put hdst v hv
      exact (planS_any hsel hdef hQ hall r _ _ I' loc' tmp' w' (a.put o.dst v) hv' hpl2 (fun _ => hI') ha' (by cases o.dst <;> simp [Act.put, hs]) (by cases o.dst <;> simp [Act.put, hd]) hK).swap _ _ _ _ hset
     rcases grdV_wanted h with ⟨hw, h⟩ | ⟨hw, h⟩
     . rw [if_pos hw]
       exact (opV_step h).wp hfin
     . rw [if_neg (by rw [hw]; simp)]
       exact ⟨fun f _ => fz_fn f, hfin _ _ h⟩
def planSA (P : Program) (G : Nat -> AV) (N n : Nat) (ops : List Oper) : List AV -> PS -> List AV -> List (Nat × AV) -> Tbl -> Eff -> (K : AKont) -> (_ : Tag K := .mk) -> Prop
 | ds, .nil, loc, tmp, T, E, K, _ => K ds loc tmp T E
 | ds, .fl i r, loc, tmp, T, E, K, _ => planOA ops ops[i]? (evA G n loc tmp)
  (fun o => rdA P (evA G n loc tmp) o.op o.type T fun v => putA n o.dst v loc tmp fun loc tmp => planSA P G N n ops ds r loc tmp T E K)
  (fun o => putA n o.dst (.p undef) loc tmp fun loc tmp => planSA P G N n ops ds r loc tmp T E K)
 | ds, .fp i r, loc, tmp, T, E, K, _ => planOA ops ops[i]? (evA G n loc tmp)
  (fun o => plA P (evA G n loc tmp) o.op fun v => putA n o.dst v loc tmp fun loc tmp => planSA P G N n ops ds r loc tmp T E K)
  (fun o => putA n o.dst (.p undef) loc tmp fun loc tmp => planSA P G N n ops ds r loc tmp T E K)
 | ds, .sq i r, loc, tmp, T, E, K, _ => planOA ops ops[i]? (evA G n loc tmp)
  (fun o => opA P G (evA G n loc tmp) o.op o.type T fun v T' es => putA n o.dst v (slots es loc) (slotsT es tmp) fun loc tmp => planSA P G N n ops (slots es ds) r loc tmp T' (recE N es E) K)
  (fun o => putA n o.dst (.p undef) loc tmp fun loc tmp => planSA P G N n ops ds r loc tmp T E K)
theorem planSA_sound {n : Nat} {base : Nat -> Value} {ops : List Oper} {K : AKont} : ∀ (pl : PS) (ds loc : List AV) (tmp : List (Nat × AV)) (dv : List Nat) (lv : List Value) (tv : List (Nat × Value)) (Z : Heap) (ρ : List BI) (T : Tbl) (w : World) (E : Eff),
 planSA P G ρ0.length n ops ds pl loc tmp T E K -> Frm G Z0 ρ0 T0 w0 Z ρ T w E -> At Z ρ ds loc tmp dv lv tv -> planS P n base ops dv pl (Agr Z ρ T w) lv tv w (LK G Z0 ρ0 T0 w0 K)
 | .nil, ds, loc, tmp, dv, lv, tv, Z, ρ, T, w, E, h, hf, ha => ⟨Z, ρ, T, E, ds, loc, tmp, hf, ha.ds, ha.loc, ha.tmp, h⟩
 | .fl i r, ds, loc, tmp, dv, lv, tv, Z, ρ, T, w, E, h, hf, ha => by
   simp only [planSA, planOA] at h
   simp only [planS, planO]
   have he := evA_rel (n := n) (base := base) hf.g ha.loc ha.tmp
   cases ho : ops[i]? with
   | none => rw [ho] at h; exact h.elim
   | some o =>
     rw [ho] at h
     simp only at h ⊢
     refine grdA_sound h he (fun h => ?_) (fun h => ?_)
     . refine valV_mono (rdA_sound hf.st he h) (fun _ _ h => h) (fun s h => FloatP.mono h (fun _ h => h) ?_) ?_
       all_goals
        rintro v ⟨a, h1, h2⟩
        exact putA_sound h2 h1 ha fun loc tmp lv tv hk hat => planSA_sound r _ _ _ _ _ _ _ _ _ _ _ hk hf hat
     . exact putA_sound h (.p _) ha fun loc tmp lv tv hk hat => planSA_sound r _ _ _ _ _ _ _ _ _ _ _ hk hf hat
 | .fp i r, ds, loc, tmp, dv, lv, tv, Z, ρ, T, w, E, h, hf, ha => by
   simp only [planSA, planOA] at h
   simp only [planS, planO]
   have he := evA_rel (n := n) (base := base) hf.g ha.loc ha.tmp
   cases ho : ops[i]? with
   | none => rw [ho] at h; exact h.elim
   | some o =>
     rw [ho] at h
     simp only at h ⊢
     refine grdA_sound h he (fun h => ?_) (fun h => ?_)
     . have := plA_sound he h
       unfold plV at this ⊢
       split at this
       . exact binV_mono this (fun _ h => h) fun v hk => putA_sound hk (.p _) ha fun loc tmp lv tv hk hat => planSA_sound r _ _ _ _ _ _ _ _ _ _ _ hk hf hat
       . exact unV_mono this (fun _ h => h) fun v hk => putA_sound hk (.p _) ha fun loc tmp lv tv hk hat => planSA_sound r _ _ _ _ _ _ _ _ _ _ _ hk hf hat
       . exact convV_mono this (fun _ h => h) fun v hk => putA_sound hk (.p _) ha fun loc tmp lv tv hk hat => planSA_sound r _ _ _ _ _ _ _ _ _ _ _ hk hf hat
       . exact this.elim
     . exact putA_sound h (.p _) ha fun loc tmp lv tv hk hat => planSA_sound r _ _ _ _ _ _ _ _ _ _ _ hk hf hat
 | .sq i r, ds, loc, tmp, dv, lv, tv, Z, ρ, T, w, E, h, hf, ha => by
   simp only [planSA, planOA] at h
   simp only [planS, planO]
   have he := evA_rel (n := n) (base := base) hf.g ha.loc ha.tmp
   cases ho : ops[i]? with
   | none => rw [ho] at h; exact h.elim
   | some o =>
     rw [ho] at h
     simp only at h ⊢
     refine grdA_sound h he (fun h => ?_) (fun h => ?_)
     . refine opV_mono (opA_sound hf.g hf.st he h) fun v w' h2 => ?_
       obtain ⟨Z', ρ', T', es, a, k1, k2, k3, k4⟩ := h2
       exact putA_sound k4 k3 (ha.step k2) fun loc tmp lv tv hk hat => ⟨Agr Z' ρ' T' w', agr_self k1, planSA_sound r _ _ _ _ _ _ _ _ _ _ _ hk (hf.step k1 k2) hat⟩
     . exact putA_sound h (.p _) ha fun loc tmp lv tv hk hat => ⟨Agr Z ρ T w, agr_self hf.st, planSA_sound r _ _ _ _ _ _ _ _ _ _ _ hk hf hat⟩
theorem SemA.drawS {id : Nat} {ops : Array Oper} (pl : PS) (hm : P.follows .mixedOrders = true)
 (hok : (Region.noSelect ops && noDefer ops && ops.toList.all (dstIn m) && pl.len == ops.size && planOKS ops pl (pl.cl ops.size) (Array.replicate ops.size false)) = true)
 (h : planSA P G N n ops.toList ds pl loc [] T E Nk) : SemA P G N ro n m (.region id ops true) ds loc tmp T E Nk X R := by
 simp only [Bool.and_eq_true, beq_iff_eq] at hok
 obtain ⟨⟨⟨⟨h1, h0⟩, h2⟩, h3⟩, h4⟩ := hok
 intro Z0 ρ0 T0 w0 Z ρ w dv lv tv hN hf ha
 refine SemV.cleared ?_
 intro a haa Qs hQs
 refine wpIn_mono (Q := fun e a w => ∃ dv lv tv, Fits' n m dv lv tv a /\ mkQ (LK G Z0 ρ0 T0 w0 Nk) (fun i => LK G Z0 ρ0 T0 w0 (X i)) (LK G Z0 ρ0 T0 w0 R) e dv lv tv w) ?_ (fun e a w ⟨ds, loc, tmp, hf, hq⟩ => hQs _ _ _ _ _ _ hf hq)
 have hdr : Alike { w with drawn := w.drawn + 1 } w := ⟨rfl, rfl, rfl⟩
 have hf' := hf.same hdr
 subst hN
 refine wpIn_region_any hm (AnyI.any (cl := pl.cl ops.size) (I := Agr Z ρ T { w with drawn := w.drawn + 1 }) _ _ _ _ ?_)
 have := planS_any (P := P) (ro := ro) (Q := fun e a w => ∃ dv lv tv, Fits' n m dv lv tv a /\ mkQ (LK G Z0 ρ0 T0 w0 Nk) (fun i => LK G Z0 ρ0 T0 w0 (X i)) (LK G Z0 ρ0 T0 w0 R) e dv lv tv w) (l := ops.toList) (K := LK G Z0 ρ0 T0 w0 Nk) (by simpa using h1) (by simpa using h0) (fun c a a' w ⟨ds, loc, tmp, _, hq⟩ => hq.elim) h2 pl (pl.cl ops.size)
  (Array.replicate ops.size false) (Agr Z ρ T { w with drawn := w.drawn + 1 }) lv [] { w with drawn := w.drawn + 1 } a (planSA_sound pl ds loc [] dv lv [] Z ρ T _ E h hf' ha.clear) (by simpa using h4) (fun _ => agr_self hf'.st) haa.clear haa.size haa.defers
  (fun loc tmp w a h1 h2 h3 hk => ⟨dv, loc, tmp, ⟨⟨_, h1⟩, h2, h3⟩, hk⟩)
 rw [h3] at this
 simpa using this
theorem vy :
 (∀ (P : Program) (G : Nat -> AV) (N n : Nat) (ops : List Oper) (ds loc : List AV) (tmp : List (Nat × AV)) (T : Tbl) (E : Eff) (K : AKont), planSA P G N n ops ds .nil loc tmp T E K = K ds loc tmp T E) /\
 (∀ (P : Program) (G : Nat -> AV) (N n : Nat) (ops : List Oper) (ds loc : List AV) (tmp : List (Nat × AV)) (T : Tbl) (E : Eff) (K : AKont) (i : Nat) (r : PS), planSA P G N n ops ds (.fl i r) loc tmp T E K = (planOA ops ops[i]? (evA G n loc tmp)
     (fun o => rdA P (evA G n loc tmp) o.op o.type T fun v => putA n o.dst v loc tmp fun loc tmp => planSA P G N n ops ds r loc tmp T E K)
     (fun o => putA n o.dst (.p undef) loc tmp fun loc tmp => planSA P G N n ops ds r loc tmp T E K))) /\
 (∀ (P : Program) (G : Nat -> AV) (N n : Nat) (ops : List Oper) (ds loc : List AV) (tmp : List (Nat × AV)) (T : Tbl) (E : Eff) (K : AKont) (i : Nat) (r : PS), planSA P G N n ops ds (.sq i r) loc tmp T E K = (planOA ops ops[i]? (evA G n loc tmp)
     (fun o => opA P G (evA G n loc tmp) o.op o.type T fun v T' es => putA n o.dst v (slots es loc) (slotsT es tmp) fun loc tmp => planSA P G N n ops (slots es ds) r loc tmp T' (recE N es E) K)
     (fun o => putA n o.dst (.p undef) loc tmp fun loc tmp => planSA P G N n ops ds r loc tmp T E K))) /\
 (∀ (P : Program) (G : Nat -> AV) (N n : Nat) (ops : List Oper) (ds loc : List AV) (tmp : List (Nat × AV)) (T : Tbl) (E : Eff) (K : AKont) (i : Nat) (r : PS), planSA P G N n ops ds (.fp i r) loc tmp T E K = (planOA ops ops[i]? (evA G n loc tmp)
     (fun o => plA P (evA G n loc tmp) o.op fun v => putA n o.dst v loc tmp fun loc tmp => planSA P G N n ops ds r loc tmp T E K)
     (fun o => putA n o.dst (.p undef) loc tmp fun loc tmp => planSA P G N n ops ds r loc tmp T E K))) /\
 (∀ (P : Program) (ρ : Operand -> AV) (op : BinOp) (t : TypeId) (x y : Operand) (u : TypeId) (K : AV -> Prop), plA P ρ (.binOp op t x y u) K = isP (ρ x) fun a => isP (ρ y) fun b => binV P op t a b x y (fun _ => False) fun v => K (.p v)) /\
 (∀ (P : Program) (ρ : Operand -> AV) (op : UnOp) (t : TypeId) (x : Operand) (K : AV -> Prop), plA P ρ (.unOp op t x) K = isP (ρ x) fun a => unV op a (fun _ => False) fun v => K (.p v)) /\
 (∀ (P : Program) (ρ : Operand -> AV) (s t : TypeId) (x : Operand) (K : AV -> Prop), plA P ρ (.convert s t x) K = isP (ρ x) fun a => convV (tk P s) (tk P t) s t a (fun _ => False) fun v => K (.p v)) :=
 ⟨fun _ _ _ _ _ _ _ _ _ _ _ => rfl, fun _ _ _ _ _ _ _ _ _ _ _ _ _ => rfl, fun _ _ _ _ _ _ _ _ _ _ _ _ _ => rfl, fun _ _ _ _ _ _ _ _ _ _ _ _ _ => rfl, fun _ _ _ _ _ _ _ _ => rfl, fun _ _ _ _ _ _ => rfl, fun _ _ _ _ _ _ => rfl⟩
end
end Go.E
namespace Go.E
section
variable {P : Program} {G : Nat -> AV} {Z Z' Z0 : Heap} {ρ ρ' ρ0 : List BI} {T T' T0 : Tbl} {w w' w0 : World} {a b : AV} {u v : Value} {K : AV -> Tbl -> Eff -> Prop} {cs : List AV} {es E : Eff}
variable {N n m : Nat} {ro : Option Nat} {ds loc : List AV} {tmp : List (Nat × AV)} {Nk R : AKont} {X : Nat -> AKont}
def subE (E E' : Eff) : Prop := ∀ x ∈ E, x ∈ E'
def Ct {σ : Type} (n : Nat) (ds : List AV) (L : σ -> List (Nat × AV)) (Tb : σ -> Tbl) (Q : σ -> Prop) (Ei : Eff) : AKont := fun ds' loc' _ T' E' => ds' = ds /\ (∃ s, Q s /\ Lc n (L s) loc' /\ T' = Tb s) /\ subE E' Ei
theorem SemA.of {c : Code} (hok : codeOK m c = true) (h : codeA P G N ro n m c ds loc tmp T E Nk X R) : SemA P G N ro n m c ds loc tmp T E Nk X R := codeA_sound c _ _ _ _ _ _ _ _ h hok
theorem SemA.o {c : Code} (h : codeA P G N ro n m c ds loc tmp T E Nk X R) (hok : codeOK m c = true := by kernel_rfl) : SemA P G N ro n m c ds loc tmp T E Nk X R := SemA.of hok h
theorem SemA.seq {a b : Code} {Mk : AKont} (h : SemA P G N ro n m a ds loc tmp T E Mk X R) (hb : ∀ ds loc tmp T E, Mk ds loc tmp T E -> SemA P G N ro n m b ds loc tmp T E Nk X R) : SemA P G N ro n m (.seq a b) ds loc tmp T E Nk X R :=
 fun Z0 ρ0 T0 w0 Z ρ w dv lv tv hN hf ha => SemV.seq (h Z0 ρ0 T0 w0 Z ρ w dv lv tv hN hf ha) fun dv lv tv w ⟨Z, ρ, T, E, ds, loc, tmp, hf, h1, h2, h3, hk⟩ =>
  hb ds loc tmp T E hk Z0 ρ0 T0 w0 Z ρ w dv lv tv hN hf ⟨h1, h2, h3⟩
theorem Ct.elim {σ : Type} {L : σ -> List (Nat × AV)} {Tb : σ -> Tbl} {Q : σ -> Prop} {Ei : Eff} {dv : List Nat} {lv : List Value} {tv : List (Nat × Value)} (h : LK G Z0 ρ0 T0 w0 (Ct n ds L Tb Q Ei) dv lv tv w) :
 ∃ s g Z ρ, Q s /\ Frm G Z0 ρ0 T0 w0 Z ρ (Tb s) w Ei /\ At Z ρ ds (mkA g (L s) 0 n) (tv.map fun p => (p.1, AV.p p.2)) dv lv tv := by
 obtain ⟨Z, ρ, T, E, ds, loc, tmp, hf, h1, h2, h3, rfl, ⟨s, hs, hl, rfl⟩, hE⟩ := h
 obtain ⟨g, rfl⟩ := hl.elim
 exact ⟨s, g, Z, ρ, hs, hf.more hE, h1, h2, RelT.all tv⟩
theorem Ct.to {σ : Type} {L : σ -> List (Nat × AV)} {Tb : σ -> Tbl} {Q : σ -> Prop} {Ei : Eff} {dv : List Nat} {lv : List Value} {tv : List (Nat × Value)} {K : AKont} (h : LK G Z0 ρ0 T0 w0 (Ct n ds L Tb Q Ei) dv lv tv w)
 (hk : ∀ s g tmp, Q s -> K ds (mkA g (L s) 0 n) tmp (Tb s) Ei) : LK G Z0 ρ0 T0 w0 K dv lv tv w := by
 obtain ⟨s, g, Z, ρ, hs, hf, ha⟩ := Ct.elim h
 exact ⟨Z, ρ, _, _, _, _, _, hf, ha.ds, ha.loc, ha.tmp, hk s g _ hs⟩
def spl : Nat -> Code -> Option (Code × Code)
 | 1, .seq a r => some (a, r)
 | k + 2, .seq a r => (spl (k + 1) r).map fun p => (.seq a p.1, p.2)
 | _, _ => none
theorem SemA.cutAt {σ : Type} (dsC : List AV) (L : σ -> List (Nat × AV)) (Tb : σ -> Tbl) (Q : σ -> Prop) (Ei : Eff) : ∀ (k : Nat) {c c1 c2 : Code} {ds loc : List AV} {tmp : List (Nat × AV)} {T : Tbl} {E : Eff}, spl k c = some (c1, c2) -> codeOK m c1 = true ->
 codeA P G N ro n m c1 ds loc tmp T E (Ct n dsC L Tb Q Ei) X R -> (∀ s g tmp, Q s -> SemA P G N ro n m c2 dsC (mkA g (L s) 0 n) tmp (Tb s) Ei Nk X R) -> SemA P G N ro n m c ds loc tmp T E Nk X R
 | 0, c, c1, c2, _, _, _, _, _, hs, _, _, _ => by simp [spl] at hs
 | 1, c, c1, c2, ds, loc, tmp, T, E, hs, hok, h1, h2 => by
   cases c <;> simp only [spl] at hs <;> first | cases hs | skip
   refine SemA.seq (Mk := Ct n dsC L Tb Q Ei) (SemA.of hok h1) ?_
   rintro ds loc tmp T E ⟨rfl, ⟨s, hs, hl, rfl⟩, hE⟩
   obtain ⟨g, rfl⟩ := hl.elim
   intro Z0 ρ0 T0 w0 Z ρ w dv lv tv hN hf ha
   exact h2 s g _ hs Z0 ρ0 T0 w0 Z ρ w dv lv tv hN (hf.more hE) ha
 | k + 2, c, c1, c2, ds, loc, tmp, T, E, hs, hok, h1, h2 => by
   cases c <;> simp only [spl] at hs <;> first | cases hs | skip
   rename_i a r
   simp only [Option.map_eq_some_iff] at hs
   obtain ⟨⟨x, y⟩, hs1, hs2⟩ := hs
   simp only [Prod.mk.injEq] at hs2
   obtain ⟨rfl, rfl⟩ := hs2
   simp only [codeOK, Bool.and_eq_true] at hok
   refine SemA.seq (SemA.of hok.1 h1) ?_
   intro ds loc tmp T E h
   exact SemA.cutAt dsC L Tb Q Ei (k + 1) hs1 hok.2 h h2
theorem SemA.blk {c : Code} {i : Nat} (h : SemA P G N ro n m c ds loc tmp T E Nk (fun j => if j = i then Nk else X j) R) : SemA P G N ro n m (.block i c) ds loc tmp T E Nk X R := by
 intro Z0 ρ0 T0 w0 Z ρ w dv lv tv hN hf ha
 refine SemV.block ((h Z0 ρ0 T0 w0 Z ρ w dv lv tv hN hf ha).mono fun e dv lv tv w hq => ?_)
 cases e with
 | exit j => simp only [mkQ] at hq ⊢; split <;> rename_i hj <;> simpa [hj] using hq
 | _ => exact hq
theorem SemA.loopE {σ τ : Type} {c : Code} (L : σ -> List (Nat × AV)) (Tb : σ -> Tbl) (Q : σ -> Prop) (μ : σ -> Nat) (s0 : σ) (Ei : Eff) (xi : Nat) (Le : τ -> List (Nat × AV)) (Te : τ -> Tbl) (Qe : τ -> Prop) (hQ : Q s0) (hL : Lc n (L s0) loc) (hT : T = Tb s0) (hE : ∀ x ∈ E, x ∈ Ei)
 (round : ∀ s g, Q s -> SemA P G N ro n m c ds (mkA g (L s) 0 n) [] (Tb s) Ei (Ct n ds L Tb (fun s' => Q s' /\ μ s' < μ s) Ei) (fun j => if j = xi then Ct n ds Le Te Qe Ei else X j) R)
 (exit : ∀ s g tmp, Qe s -> X xi ds (mkA g (Le s) 0 n) tmp (Te s) Ei) : SemA P G N ro n m (.loop c) ds loc [] T E Nk X R := by
 intro Z0 ρ0 T0 w0 Z ρ w dv lv tv hN hf ha a haa Qs hQs
 refine wpIn_loop_ghost (fun k a w => ∃ (Z : Heap) (ρ : List BI) (s : σ) (loc : List AV) (dv : List Nat) (lv : List Value) (tv : List (Nat × Value)), Fits' n m dv lv tv a /\ Frm G Z0 ρ0 T0 w0 Z ρ (Tb s) w Ei /\ At Z ρ ds loc [] dv lv [] /\ (Q s /\ Lc n (L s) loc) /\ μ s = k)
  (μ s0) ⟨Z, ρ, s0, loc, dv, lv, tv, haa, hT ▸ hf.more hE, ha.clear, ⟨hQ, hL⟩, rfl⟩ ?_
 rintro k a w ⟨Z, ρ, s, loc, dv, lv, tv, haa, hf, hat, ⟨hI, hL⟩, rfl⟩
 obtain ⟨g, rfl⟩ := hL.elim
 have hr := round s g hI Z0 ρ0 T0 w0 Z ρ w dv lv [] hN hf hat
 refine hr a haa.cleared _ fun e dv' lv' tv' w' a' haa' hq => ?_
 cases e with
 | normal =>
   obtain ⟨Z', ρ', T', E', ds', loc', tmp', g1, g2, g3, g4, rfl, ⟨s', ⟨h1, h2⟩, h3, rfl⟩, g6⟩ := hq
   exact ⟨_, h2, Z', ρ', s', loc', dv', lv', tv', haa', g1.more g6, ⟨g2, g3, .nil⟩, ⟨h1, h3⟩, rfl⟩
 | exit i =>
   simp only [mkQ] at hq
   split at hq
   . rename_i hi; subst hi; exact hQs (.exit _) _ _ _ _ _ haa' (Ct.to hq exit)
   . exact hQs (.exit i) _ _ _ _ _ haa' hq
 | ret => exact hQs .ret _ _ _ _ _ haa' hq
 | _ => exact hq.elim
theorem CallA.enterZ {f : FuncId} {fn : Func} {c : Code} {args : List AV} {m : Nat} {rs : List ResultVar} (n : Nat) (hf : P.funcs[f]? = some fn) (hm : fn.ntmps = m) (hrs : fn.results.toList = rs) (hb : fn.body = some c) (hn : (args.length <= n /\ n <= m)) (hr : rsLt n rs = true)
 (h : SemA P G T.length none n m c [] (args ++ List.replicate (n - args.length) (.p undef)) [] T [] (retA P rs (Vw G T K)) (fun _ _ _ _ _ _ => False) (retA P rs (Vw G T K))) : CallA P G f args T K := by
 subst hm; subst hrs
 have this : CallA P G f args T (Vw G T K) := by
  intro Z ρ w vs hG hs ha
  have hl := ha.1
  refine Ret.enterS n hf hb ⟨by simp; omega, hn.2⟩ ?_
  have hsem := h Z ρ T w Z ρ w [] (vs ++ List.replicate (n - vs.length) undef) [] hs.len ⟨hG, hs, Ext.refl rfl⟩ ⟨.nil, ha.append (by rw [hl]; have := RelL.ps (Z := Z) (ρ := ρ) (List.replicate (n - vs.length) undef); rwa [List.map_replicate] at this), .nil⟩
  have e : (vs.toArray.toList ++ List.replicate (n - vs.toArray.size) undef) = vs ++ List.replicate (n - vs.length) undef := by simp
  rw [e]
  refine hsem.mono fun e dv lv tv w' hq => ?_
  cases e with
  | normal => obtain ⟨Z', ρ', T', E', ds', loc', tmp', g1, g2, g3, g4, g5⟩ := hq; exact retA_sound g1 g2 g3 hr g5
  | ret => obtain ⟨Z', ρ', T', E', ds', loc', tmp', g1, g2, g3, g4, g5⟩ := hq; exact retA_sound g1 g2 g3 hr g5
  | exit i => obtain ⟨Z', ρ', T', E', ds', loc', tmp', g1, g2, g3, g4, g5⟩ := hq; exact g5.elim
  | _ => exact hq.elim
 intro Z ρ w vs hG hs ha
 refine (this Z ρ w vs hG hs ha).mono fun x w' ⟨Z', ρ', T', es, a, h1, h2, h3, h4⟩ => ?_
 exact h4 Z ρ w Z' ρ' w' x hs ⟨hG.mono h2.le, h1, h2⟩ h3
theorem vze : (∀ E : Eff, subE [] E = True) /\ (∀ E : Eff, subE E E = True) /\ (∀ (i : Nat) (b : Bool) (E E' : Eff), subE ((i, b) :: E) ((i, b) :: E') = subE E ((i, b) :: E')) :=
 ⟨fun _ => by simp [subE], fun _ => by simp [subE], fun i b E E' => by simp [subE]⟩
theorem vz {σ : Type} : (∀ (n : Nat) (ds : List AV) (L : σ -> List (Nat × AV)) (Tb : σ -> Tbl) (Q : σ -> Prop) (Ei : Eff) (ds' loc' : List AV) (tmp' : List (Nat × AV)) (T' : Tbl) (E' : Eff), Ct n ds L Tb Q Ei ds' loc' tmp' T' E' = (ds' = ds /\ (∃ s, Q s /\ Lc n (L s) loc' /\ T' = Tb s) /\ subE E' Ei)) :=
 fun _ _ _ _ _ _ _ _ _ _ _ => rfl
abbrev _root_.Go.E.v1q := And.intro vy (And.intro @vz (And.intro vze (And.intro vr (And.intro Go.Proofs.YtfpjalgfnjjcmaaGreatDoor.ty Go.Proofs.YtfpjalgfnjjcmaaGreatDoor.Tryz.en))))
abbrev _root_.Go.E.v3q := And.intro @vz (And.intro vze (And.intro vr (And.intro Go.Proofs.YtfpjalgfnjjcmaaGreatDoor.ty Go.Proofs.YtfpjalgfnjjcmaaGreatDoor.Tryz.en)))
abbrev _root_.Go.E.v5q := And.intro vr (And.intro Go.Proofs.YtfpjalgfnjjcmaaGreatDoor.ty Go.Proofs.YtfpjalgfnjjcmaaGreatDoor.Tryz.en)
abbrev _root_.Go.E.v2q := And.intro @ci (And.intro vi (And.intro @getO_i vt))
abbrev _root_.Go.E.v4q := And.intro @ci (And.intro vi @getO_i)
end
end Go.E
namespace Go.E
section
variable {G : Nat -> AV} {T0 T : Tbl} {K : AV -> Tbl -> Eff -> Prop} {v : AV} {E E' : Eff}
theorem CallA.det' {P : Program} {f : FuncId} {args : List AV} {r : AV} {T1 : Tbl} {E1 : Eff} (h : CallA P G f args T fun v T' es => v = r /\ T' = T1 /\ es = E1) (hk : K r T1 E1) : CallA P G f args T K :=
 h.mono fun v T' es ⟨h1, h2, h3⟩ => by subst h1; subst h2; subst h3; exact hk
theorem Vw.eff (hE : ∀ x ∈ E, x ∈ E') (h : Vw G T0 K v T E') : Vw G T0 K v T E := fun Z0 ρ0 w0 Z ρ w x hs hf hr =>
 h Z0 ρ0 w0 Z ρ w x hs ⟨hf.g, hf.st, hf.ext.more fun x hx _ => hE x hx⟩ hr
end
variable {α : Type}
theorem flat_len {f : α -> List AV} {sz : Nat} : ∀ {xs : List α}, (∀ x ∈ xs, (f x).length = sz) -> (xs.flatMap f).length = xs.length * sz
 | [], _ => by simp
 | x :: xs, h => by
   rw [List.flatMap_cons, List.length_append, h x (by simp), flat_len (xs := xs) fun x hx => h x (by simp [hx]), List.length_cons, Nat.succ_mul]; omega
theorem flat_drop {f : α -> List AV} {sz : Nat} : ∀ {xs : List α} (i : Nat), (∀ x ∈ xs, (f x).length = sz) -> (xs.flatMap f).drop (i * sz) = (xs.drop i).flatMap f
 | _, 0, _ => by simp
 | [], i + 1, _ => by simp
 | x :: xs, i + 1, h => by
   have := flat_drop (xs := xs) i fun x hx => h x (by simp [hx])
   rw [List.flatMap_cons, List.drop_succ_cons, <- this, Nat.succ_mul, Nat.add_comm, <- List.drop_drop]
   congr 1
   rw [<- h x (by simp), List.drop_left]
theorem flat_take {f : α -> List AV} {sz : Nat} : ∀ {xs : List α} (i : Nat), (∀ x ∈ xs, (f x).length = sz) -> (xs.flatMap f).take (i * sz) = (xs.take i).flatMap f
 | _, 0, _ => by simp
 | [], i + 1, _ => by simp
 | x :: xs, i + 1, h => by
   have := flat_take (xs := xs) i fun x hx => h x (by simp [hx])
   rw [List.flatMap_cons, List.take_succ_cons, List.flatMap_cons, <- this, Nat.succ_mul, Nat.add_comm]
   rw [<- h x (by simp), List.take_length_add_append]
theorem flat_at {f : α -> List AV} {sz : Nat} {xs : List α} (h : ∀ x ∈ xs, (f x).length = sz) {i : Nat} {x : α} (hx : xs[i]? = some x) : ((xs.flatMap f).drop (i * sz)).take sz = f x := by
 obtain ⟨hi, rfl⟩ := List.getElem?_eq_some_iff.1 hx
 rw [flat_drop i h, List.drop_eq_getElem_cons hi, List.flatMap_cons, <- h xs[i] (by simp), List.take_left]
structure Es (T : Tbl) (sz : Nat) (f : α -> List AV) (a : AV) (xs : List α) : Prop where
 wd : ∀ x ∈ xs, (f x).length = sz
 sl : Sl T sz a (xs.flatMap f) xs.length
section
variable {P : Program} {T : Tbl} {sz : Nat} {f : α -> List AV} {a : AV} {xs : List α}
theorem Es.app (h : Es T sz f a xs) (l : Tbl) : Es (T ++ l) sz f a xs := ⟨h.wd, h.sl.app l⟩
theorem Es.vs (h : ∀ x ∈ xs, (f x).length = sz) : Es T sz f (.vs (xs.flatMap f) xs.length) xs := ⟨h, Sl.vs _ _ (flat_len h)⟩
theorem Es.obj {i : Nat} {o : AObj} (hT : T[i]? = some o) (hc : o.cs = some (xs.flatMap f)) (h : ∀ x ∈ xs, (f x).length = sz) : Es T sz f (.sl i 0 xs.length) xs := ⟨h, Sl.obj hT hc (flat_len h)⟩
theorem Es.nil : Es T sz f (.p (.slice none 0 0)) [] := ⟨by simp, Sl.nil⟩
theorem Es.sub (h : Es T sz f a xs) {l m : Nat} (h1 : l <= m) (h2 : m <= xs.length) : Es T sz f (a.sub sz l m) ((xs.drop l).take (m - l)) := by
 have hs : ∀ x ∈ (xs.drop l).take (m - l), (f x).length = sz := fun x hx => h.wd x (List.mem_of_mem_drop (List.mem_of_mem_take hx))
 refine ⟨hs, ?_⟩
 have := h.sl.sub h1 h2
 rw [flat_drop l h.wd, flat_take (m - l) fun x hx => h.wd x (List.mem_of_mem_drop hx)] at this
 rwa [show ((xs.drop l).take (m - l)).length = m - l by simp; omega]
theorem Es.ld (h : Es T sz f a xs) {t : TypeId} (ht : tak P t = some true) (hs : tsz P t = sz) (h0 : 0 < sz) :
 (∀ (l : Tbl) (i : Nat) (K : AV -> Prop), i < xs.length -> loadA P t (a.pl (i * sz)) (T ++ l) K = getO xs[i]? fun x => K (.ag (f x))) /\ (∀ (i : Nat) (K : AV -> Prop), i < xs.length -> loadA P t (a.pl (i * sz)) T K = getO xs[i]? fun x => K (.ag (f x))) := by
 have key : ∀ (T : Tbl) (i : Nat) (K : AV -> Prop), Es T sz f a xs -> i < xs.length -> loadA P t (a.pl (i * sz)) T K = getO xs[i]? fun x => K (.ag (f x)) := fun T i K h hi => by
  have e : i * sz + tsz P t <= xs.length * sz := by
   rw [hs, <- Nat.succ_mul]; exact Nat.mul_le_mul_right _ hi
  rw [h.sl.lds ht (i * sz) (by omega) e, hs, flat_at h.wd (x := xs[i]) (by simp [hi])]
  simp [hi, getO]
 exact ⟨fun l i K hi => key _ i K (h.app l) hi, fun i K hi => key T i K h hi⟩
end
end Go.E
namespace Go.E
section
variable {P : Program} {G : Nat -> AV} {Z Z' Z0 : Heap} {ρ ρ' ρ0 : List BI} {T T' T0 : Tbl} {w w' w0 : World} {a b : AV} {u v : Value} {K : AV -> Tbl -> Eff -> Prop} {cs : List AV} {es E : Eff}
variable {N n m : Nat} {ro : Option Nat} {ds loc : List AV} {tmp : List (Nat × AV)} {Nk R : AKont} {X : Nat -> AKont}
theorem SemA.adopt {c : Code} (j : Nat) (El : TypeId) (sz : Nat) (h0 : 0 < sz) (hj : loc[j]? = some (.p (.slice none 0 0)))
 (h : SemA P G N ro n m c ds (loc.set j (.sl T.length 0 0)) tmp (T ++ [.buf El sz []]) E Nk X R) : SemA P G N ro n m c ds loc tmp T E Nk X R := by
 refine SemA.view ?_ h
 intro Z0 ρ0 T0 w0 Z ρ w dv lv tv hN hf ha
 obtain ⟨k1, k2⟩ := hf.st.push (w' := w) ⟨none, 0, true⟩ (.buf El sz []) hf.st.of (fun _ _ => rfl) ⟨⟨rfl, h0⟩, 0, by simp, Nat.le_refl _, .inl ⟨rfl, rfl, rfl⟩⟩ (fun b hb => by cases hb)
 have h1 := hf.step k1 k2
 have h2 := ha.step k2
 refine ⟨_, _, h1, ⟨h2.ds, ?_, h2.tmp⟩⟩
 obtain ⟨v, hv, hr⟩ := ha.loc.get hj
 have := hr.p_inv; subst this
 have h3 := h2.loc.set (a := .sl T.length 0 0) (v := .slice none 0 0) (.sl (x := ⟨none, 0, true⟩) (by rw [<- hf.st.len]; simp) (fun _ => rfl) (Nat.le_refl _) (fun _ _ => rfl)) j
 have e : lv.set j (.slice none 0 0) = lv := by
  refine List.ext_getElem? fun i => ?_
  rw [List.getElem?_set]
  by_cases hi : j = i
  . subst hi
    obtain ⟨hl, he⟩ := List.getElem?_eq_some_iff.1 hv
    rw [if_pos rfl, if_pos hl, hv]
  . rw [if_neg hi]
 rw [e] at h3
 exact h3
def CtK {σ : Type} (k n : Nat) (ds : List AV) (L : σ -> List (Nat × AV)) (Tb : σ -> Tbl) (Q : σ -> Prop) (Ei : Eff) : AKont := fun ds' loc' _ T' E' =>
 ds'.map (AV.wo (k <= ·)) = ds /\ (∃ s, Q s /\ Lc n (L s) (loc'.map (AV.wo (k <= ·))) /\ (T'.take k).map (AObj.wo (k <= ·)) = Tb s) /\ subE E' Ei
section
variable {σ τ : Type} {L : σ -> List (Nat × AV)} {Tb : σ -> Tbl} {Q : σ -> Prop} {Ei : Eff} {k : Nat}
theorem CtK.elim {dv : List Nat} {lv : List Value} {tv : List (Nat × Value)} (hk : ρ0.length <= k) (h : LK G Z0 ρ0 T0 w0 (CtK k n ds L Tb Q Ei) dv lv tv w) :
 ∃ s loc Z ρ, Q s /\ Lc n (L s) loc /\ Frm G Z0 ρ0 T0 w0 Z ρ (Tb s) w Ei /\ At Z ρ ds loc (tv.map fun p => (p.1, AV.p p.2)) dv lv tv := by
 obtain ⟨Z, ρ, T, E, ds, loc, tmp, hf, h1, h2, h3, rfl, ⟨s, hs, hl, ht⟩, hE⟩ := h
 have hc := (hf.more hE).cut k hk
 have hw := (hf.st.cut k).2
 rw [ht] at hc
 exact ⟨s, _, Z, _, hs, hl, hc, ⟨h1.wo hw, h2.wo hw, RelT.all tv⟩⟩
theorem CtK.to {dv : List Nat} {lv : List Value} {tv : List (Nat × Value)} {K : AKont} (hk : ρ0.length <= k) (h : LK G Z0 ρ0 T0 w0 (CtK k n ds L Tb Q Ei) dv lv tv w)
 (hK : ∀ s g tmp, Q s -> K ds (mkA g (L s) 0 n) tmp (Tb s) Ei) : LK G Z0 ρ0 T0 w0 K dv lv tv w := by
 obtain ⟨s, loc, Z, ρ, hs, hl, hf, ha⟩ := CtK.elim hk h
 obtain ⟨g, rfl⟩ := hl.elim
 exact ⟨Z, ρ, _, _, _, _, _, hf, ha.ds, ha.loc, ha.tmp, hK s g _ hs⟩
theorem SemA.loopK {c : Code} (k : Nat) (L : σ -> List (Nat × AV)) (Tb : σ -> Tbl) (Q : σ -> Prop) (μ : σ -> Nat) (s0 : σ) (Ei : Eff) (xi : Nat) (Le : τ -> List (Nat × AV)) (Te : τ -> Tbl) (Qe : τ -> Prop) (hk : N <= k) (hQ : Q s0) (hL : Lc n (L s0) loc) (hT : T = Tb s0) (hE : ∀ x ∈ E, x ∈ Ei)
 (round : ∀ s g, Q s -> SemA P G N ro n m c ds (mkA g (L s) 0 n) [] (Tb s) Ei (CtK k n ds L Tb (fun s' => Q s' /\ μ s' < μ s) Ei) (fun j => if j = xi then CtK k n ds Le Te Qe Ei else X j) R)
 (exit : ∀ s g tmp, Qe s -> X xi ds (mkA g (Le s) 0 n) tmp (Te s) Ei) : SemA P G N ro n m (.loop c) ds loc [] T E Nk X R := by
 intro Z0 ρ0 T0 w0 Z ρ w dv lv tv hN hf ha a haa Qs hQs
 refine wpIn_loop_ghost (fun k a w => ∃ (Z : Heap) (ρ : List BI) (s : σ) (loc : List AV) (dv : List Nat) (lv : List Value) (tv : List (Nat × Value)), Fits' n m dv lv tv a /\ Frm G Z0 ρ0 T0 w0 Z ρ (Tb s) w Ei /\ At Z ρ ds loc [] dv lv [] /\ (Q s /\ Lc n (L s) loc) /\ μ s = k)
  (μ s0) ⟨Z, ρ, s0, loc, dv, lv, tv, haa, hT ▸ hf.more hE, ha.clear, ⟨hQ, hL⟩, rfl⟩ ?_
 rintro k' a w ⟨Z, ρ, s, loc, dv, lv, tv, haa, hf, hat, ⟨hI, hL⟩, rfl⟩
 obtain ⟨g, rfl⟩ := hL.elim
 have hr := round s g hI Z0 ρ0 T0 w0 Z ρ w dv lv [] hN hf hat
 refine hr a haa.cleared _ fun e dv' lv' tv' w' a' haa' hq => ?_
 cases e with
 | normal =>
   obtain ⟨s', loc', Z', ρ', ⟨h1, h2⟩, hl', h3, h4⟩ := CtK.elim (by omega) hq
   exact ⟨_, h2, Z', ρ', s', _, dv', lv', tv', haa', h3, ⟨h4.ds, h4.loc, .nil⟩, ⟨h1, hl'⟩, rfl⟩
 | exit i =>
   simp only [mkQ] at hq
   split at hq
   . rename_i hi; subst hi; exact hQs (.exit _) _ _ _ _ _ haa' (CtK.to (by omega) hq exit)
   . exact hQs (.exit i) _ _ _ _ _ haa' hq
 | ret => exact hQs .ret _ _ _ _ _ haa' hq
 | _ => exact hq.elim
end
theorem vt2 {σ : Type} : (∀ (k n : Nat) (ds : List AV) (L : σ -> List (Nat × AV)) (Tb : σ -> Tbl) (Q : σ -> Prop) (Ei : Eff) (ds' loc' : List AV) (tmp' : List (Nat × AV)) (T' : Tbl) (E' : Eff), CtK k n ds L Tb Q Ei ds' loc' tmp' T' E' = (ds'.map (AV.wo (k <= ·)) = ds /\ (∃ s, Q s /\ Lc n (L s) (loc'.map (AV.wo (k <= ·))) /\ (T'.take k).map (AObj.wo (k <= ·)) = Tb s) /\ subE E' Ei)) :=
 fun _ _ _ _ _ _ _ _ _ _ _ _ => rfl
theorem SemA.cutK {σ : Type} (kk : Nat) (dsC : List AV) (L : σ -> List (Nat × AV)) (Tb : σ -> Tbl) (Q : σ -> Prop) (Ei : Eff) (hkk : N <= kk) : ∀ (k : Nat) {c c1 c2 : Code} {ds loc : List AV} {tmp : List (Nat × AV)} {T : Tbl} {E : Eff}, spl k c = some (c1, c2) -> codeOK m c1 = true ->
 codeA P G N ro n m c1 ds loc tmp T E (CtK kk n dsC L Tb Q Ei) X R -> (∀ s g tmp, Q s -> SemA P G N ro n m c2 dsC (mkA g (L s) 0 n) tmp (Tb s) Ei Nk X R) -> SemA P G N ro n m c ds loc tmp T E Nk X R
 | 0, c, c1, c2, _, _, _, _, _, hs, _, _, _ => by simp [spl] at hs
 | 1, c, c1, c2, ds, loc, tmp, T, E, hs, hok, h1, h2 => by
   cases c <;> simp only [spl] at hs <;> first | cases hs | skip
   refine SemA.seq (Mk := CtK kk n dsC L Tb Q Ei) (SemA.of hok h1) ?_
   intro ds loc tmp T E hq
   intro Z0 ρ0 T0 w0 Z ρ w dv lv tv hN hf ha
   obtain ⟨s, loc', Z', ρ', hs, hl, hf', ha'⟩ := CtK.elim (G := G) (Z0 := Z0) (ρ0 := ρ0) (T0 := T0) (w0 := w0) (w := w) (dv := dv) (lv := lv) (tv := tv) (by omega) ⟨Z, ρ, T, E, ds, loc, tmp, hf, ha.ds, ha.loc, ha.tmp, hq⟩
   obtain ⟨g, rfl⟩ := hl.elim
   exact h2 s g _ hs Z0 ρ0 T0 w0 Z' ρ' w dv lv tv hN hf' ha'
 | k + 2, c, c1, c2, ds, loc, tmp, T, E, hs, hok, h1, h2 => by
   cases c <;> simp only [spl] at hs <;> first | cases hs | skip
   rename_i a r
   simp only [Option.map_eq_some_iff] at hs
   obtain ⟨⟨x, y⟩, hs1, hs2⟩ := hs
   simp only [Prod.mk.injEq] at hs2
   obtain ⟨rfl, rfl⟩ := hs2
   simp only [codeOK, Bool.and_eq_true] at hok
   refine SemA.seq (SemA.of hok.1 h1) ?_
   intro ds loc tmp T E h
   exact SemA.cutK kk dsC L Tb Q Ei hkk (k + 1) hs1 hok.2 h h2
end
end Go.E
namespace Go.E
mutual
def AV.ren (f : Nat -> Option Nat) : AV -> AV
 | .ptr j o => match f j with | some k => .ptr k o | none => .any
 | .sl j o n => match f j with | some k => .sl k o n | none => .any
 | .mp j => match f j with | some k => .mp k | none => .any
 | .yl j => match f j with | some k => .yl k | none => .any
 | .ag cs => .ag (AV.renL f cs)
 | .tu cs => .tu (AV.renL f cs)
 | .fn g cs => .fn g (AV.renL f cs)
 | .ic t v => .ic t (AV.ren f v)
 | .p v => .p v
 | .any => .any
 | .vp cs o => .vp cs o
 | .vs cs n => .vs cs n
def AV.renL (f : Nat -> Option Nat) : List AV -> List AV
 | [] => []
 | a :: r => AV.ren f a :: AV.renL f r
end
theorem AV.renL_eq (f : Nat -> Option Nat) : ∀ (l : List AV), AV.renL f l = l.map (AV.ren f)
 | [] => by rw [AV.renL]; rfl
 | a :: r => by rw [AV.renL, AV.renL_eq f r]; rfl
def AObj.ren (f : Nat -> Option Nat) : AObj -> AObj
 | .cells T cs => .cells T (cs.map (AV.ren f))
 | .buf T sz cs => .buf T sz (cs.map (AV.ren f))
 | .map es => .map (es.map fun e => (e.1, e.2.ren f))
 | .raw o => .raw o
 | .rcd o cs vs => .rcd o (cs.map (AV.ren f)) vs
 | .gone => .gone
def RenP (f : Nat -> Option Nat) (ρ ρ' : List BI) : Prop := ∀ (j k : Nat) (x : BI), f j = some k -> ρ[j]? = some x -> ρ'[k]? = some x
section
variable {P : Program} {G : Nat -> AV} {Z Z' Z0 : Heap} {ρ ρ' ρ0 : List BI} {T T' T0 T1 S : Tbl} {w w' w0 : World} {a b : AV} {u v : Value} {K : AV -> Tbl -> Eff -> Prop} {cs : List AV} {vs : List Value} {es E : Eff}
variable {N n m : Nat} {ro : Option Nat} {ds loc : List AV} {tmp : List (Nat × AV)} {Nk R : AKont} {X : Nat -> AKont} {f : Nat -> Option Nat} {x : BI} {o : AObj}
theorem Rel.ren (h : Rel Z ρ a v) (hρ : RenP f ρ ρ') : Rel Z ρ' (a.ren f) v := by
 induction h generalizing ρ' with
 | p v => rw [AV.ren]; exact .p v
 | any v => rw [AV.ren]; exact .any v
 | ptr h hb => rw [AV.ren]; split <;> first | exact .any _ | (rename_i hk; exact .ptr (hρ _ _ _ hk h) hb)
 | sl h ha hc h0 => rw [AV.ren]; split <;> first | exact .any _ | (rename_i hk; exact .sl (hρ _ _ _ hk h) ha hc h0)
 | vp hb hc hr _ => rw [AV.ren]; exact .vp hb hc hr
 | vs0 h hc => rw [AV.ren]; exact .vs0 h hc
 | vs hm hb hc hr _ => rw [AV.ren]; exact .vs hm hb hc hr
 | ag hl _ ih => rw [AV.ren, AV.renL_eq]; exact .ag (by simpa using hl) fun k h1 h2 => by simpa using ih k (by simpa using h1) h2 hρ
 | tu hl _ ih => rw [AV.ren, AV.renL_eq]; exact .tu (by simpa using hl) fun k h1 h2 => by simpa using ih k (by simpa using h1) h2 hρ
 | fn hl _ ih => rw [AV.ren, AV.renL_eq]; exact .fn (by simpa using hl) fun k h1 h2 => by simpa using ih k (by simpa using h1) h2 hρ
 | ic _ ih => rw [AV.ren]; exact .ic (ih hρ)
 | mp h hb => rw [AV.ren]; split <;> first | exact .any _ | (rename_i hk; exact .mp (hρ _ _ _ hk h) hb)
 | yl h hb => rw [AV.ren]; split <;> first | exact .any _ | (rename_i hk; exact .yl (hρ _ _ _ hk h) hb)
theorem RelL.ren (h : RelL Z ρ cs vs) (hρ : RenP f ρ ρ') : RelL Z ρ' (cs.map (AV.ren f)) vs := by
 refine ⟨by simpa using h.1, fun k x y hx hy => ?_⟩
 rw [List.getElem?_map] at hx
 cases ha : cs[k]? with
 | none => rw [ha] at hx; cases hx
 | some a => rw [ha] at hx; cases hx; exact (h.2 k a y ha hy).ren hρ
theorem ObjRel.ren (h : ObjRel Z ρ w x o) (hρ : RenP f ρ ρ') : ObjRel Z ρ' w x (o.ren f) := by
 cases o with
 | cells T cs => obtain ⟨h0, b, vs, h1, h2, h3⟩ := h; exact ⟨h0, b, vs, h1, h2, h3.ren hρ⟩
 | buf T sz cs =>
   obtain ⟨h0, n, h1, h2, h3⟩ := h
   refine ⟨h0, n, by simpa using h1, h2, ?_⟩
   rcases h3 with ⟨h3, h4, h5⟩ | ⟨b, cur, h3, h4, h5, h6, h7⟩
   . exact .inl ⟨h3, by subst h4; rfl, h5⟩
   . exact .inr ⟨b, cur, h3, h4, h5, h6, h7.ren hρ⟩
 | map es =>
   obtain ⟨b, ms, c, h1, h2, h3, h4, h5⟩ := h
   refine ⟨b, ms, c, h1, h2, ?_, ?_, h5⟩
   . have := h3.ren hρ; simpa [List.map_map, Function.comp_def] using this
   . simpa [List.map_map, Function.comp_def] using h4
 | raw o => exact h
 | rcd o cs vs => obtain ⟨b, h1, h2, h3⟩ := h; exact ⟨b, h1, h2, h3.ren hρ⟩
 | gone => trivial
theorem AObj.live_ren (f : Nat -> Option Nat) (o : AObj) : (o.ren f).live = o.live := by cases o <;> rfl
def idxO : List Nat -> Nat -> Option Nat
 | [], _ => none
 | a :: r, k => if a = k then some 0 else (idxO r k).map (· + 1)
def permF (L : Nat) (p : List Nat) : Nat -> Option Nat := fun j => if j < L then some j else (idxO p (j - L)).map (L + ·)
theorem idxO_get : ∀ {p : List Nat} {k i : Nat}, idxO p k = some i -> p[i]? = some k
 | [], _, _, h => by cases h
 | a :: r, k, i, h => by
   rw [idxO] at h
   split at h
   . rename_i ha; cases h; rw [ha]; rfl
   . cases hi : idxO r k with
     | none => rw [hi] at h; cases h
     | some j => rw [hi] at h; cases h; show r[j]? = some k; exact idxO_get hi
theorem St.perm (h : St Z ρ (T1 ++ S) w) (p : List Nat) (hp : p.Nodup) (hS : ∀ j ∈ p, j < S.length) : ∃ ρ', St Z ρ' (T1.map (AObj.ren (permF T1.length p)) ++ p.map fun j => (S[j]?.getD .gone).ren (permF T1.length p)) w /\ RenP (permF T1.length p) ρ ρ' := by
 have hl := h.len
 rw [List.length_append] at hl
 let g : Nat -> Nat := fun k => if k < T1.length then k else T1.length + p[k - T1.length]?.getD 0
 obtain ⟨m, hm⟩ : ∃ m, m = T1.length + p.length := ⟨_, rfl⟩
 have hg : ∀ k, k < m -> g k < ρ.length := fun k hk => by
  show (if k < T1.length then k else T1.length + p[k - T1.length]?.getD 0) < _
  split
  . omega
  . have : k - T1.length < p.length := by omega
    rw [List.getElem?_eq_getElem this, Option.getD_some]
    have := hS _ (List.getElem_mem this)
    omega
 have hρ' : ∀ k, ((List.range m).map fun k => ρ[g k]?.getD ⟨none, 0, false⟩)[k]? = if k < m then ρ[g k]? else none := fun k => by
  by_cases hk : k < m
  . rw [if_pos hk, List.getElem?_map, List.getElem?_range hk, Option.map_some, List.getElem?_eq_getElem (hg k hk)]; rfl
  . rw [if_neg hk]; exact List.getElem?_eq_none (by simp; omega)
 have hf : ∀ j k, permF T1.length p j = some k -> k < m /\ g k = j := fun j k hj => by
  unfold permF at hj
  split at hj
  . cases hj; exact ⟨by omega, if_pos (by assumption)⟩
  . cases hi : idxO p (j - T1.length) with
    | none => rw [hi] at hj; cases hj
    | some i =>
      rw [hi] at hj; cases hj
      have := idxO_get hi
      have hil := (List.getElem?_eq_some_iff.1 this).1
      refine ⟨show T1.length + i < m by omega, ?_⟩
      show (if T1.length + i < T1.length then _ else _) = _
      rw [if_neg (by omega), show T1.length + i - T1.length = i by omega, this, Option.getD_some]; omega
 have hren : RenP (permF T1.length p) ρ ((List.range m).map fun k => ρ[g k]?.getD ⟨none, 0, false⟩) := fun j k x hj hx => by
  obtain ⟨h1, h2⟩ := hf j k hj
  rw [hρ', if_pos h1, h2, hx]
 have hinj : ∀ k k', k < m -> k' < m -> g k = g k' -> k = k' := fun k k' hk hk' he => by
  have he' : (if k < T1.length then k else T1.length + p[k - T1.length]?.getD 0) = (if k' < T1.length then k' else T1.length + p[k' - T1.length]?.getD 0) := he
  split at he' <;> split at he'
  . exact he'
  . omega
  . omega
  . have h1 : k - T1.length < p.length := by omega
    have h2 : k' - T1.length < p.length := by omega
    rw [List.getElem?_eq_getElem h1, List.getElem?_eq_getElem h2, Option.getD_some, Option.getD_some] at he'
    have := (List.getElem_inj (h₀ := h1) (h₁ := h2) hp).1 (by omega)
    omega
 have hT' : ∀ (k : Nat) (o' : AObj), (T1.map (AObj.ren (permF T1.length p)) ++ p.map fun j => (S[j]?.getD .gone).ren (permF T1.length p))[k]? = some o' -> k < m /\ ∃ o, (T1 ++ S)[g k]? = some o /\ o' = o.ren (permF T1.length p) := fun k o' ho => by
  by_cases hk : k < T1.length
  . rw [List.getElem?_append_left (by simpa using hk), List.getElem?_map, List.getElem?_eq_getElem hk] at ho
    cases ho
    refine ⟨by omega, T1[k], ?_, rfl⟩
    rw [show g k = k from if_pos hk, List.getElem?_append_left hk, List.getElem?_eq_getElem hk]
  . rw [List.getElem?_append_right (by simp; omega), List.length_map, List.getElem?_map] at ho
    cases hj : p[k - T1.length]? with
    | none => rw [hj] at ho; cases ho
    | some j =>
      rw [hj] at ho; cases ho
      have hkl := (List.getElem?_eq_some_iff.1 hj).1
      have hjS := hS j (List.mem_of_getElem? hj)
      refine ⟨by omega, S[j], ?_, ?_⟩
      . rw [show g k = T1.length + j by show (if k < T1.length then _ else _) = _; rw [if_neg hk, hj]; rfl, List.getElem?_append_right (by omega), show T1.length + j - T1.length = j by omega, List.getElem?_eq_getElem hjS]
      . show AObj.ren _ (S[j]?.getD .gone) = _; rw [List.getElem?_eq_getElem hjS]; rfl
 refine ⟨_, ⟨h.of, by simp [hm], fun k o' x ho hx => ?_, fun k o' x b ho hl2 hx hb => ?_⟩, hren⟩
 . obtain ⟨hk, o, h1, rfl⟩ := hT' k o' ho
   rw [hρ', if_pos hk] at hx
   exact (h.obj _ _ _ h1 hx).ren hren
 . obtain ⟨hk, o, h1, rfl⟩ := hT' k o' ho
   rw [hρ', if_pos hk] at hx
   rw [AObj.live_ren] at hl2
   obtain ⟨g1, g2⟩ := h.apart _ o x b h1 hl2 hx hb
   refine ⟨g1, fun k2 o2 y hne ho2 hl3 hy => ?_⟩
   obtain ⟨hk2, o3, h3, rfl⟩ := hT' k2 o2 ho2
   rw [hρ', if_pos hk2] at hy
   rw [AObj.live_ren] at hl3
   exact g2 _ o3 y (fun e => hne (hinj _ _ hk2 hk e)) h3 hl3 hy
theorem Frm.perm (h : Frm G Z0 ρ0 T0 w0 Z ρ (T1 ++ S) w E) (p : List Nat) (hp : p.Nodup) (hS : ∀ j ∈ p, j < S.length) (hN : ρ0.length <= T1.length) : ∃ ρ', Frm G Z0 ρ0 T0 w0 Z ρ' (T1.map (AObj.ren (permF T1.length p)) ++ p.map fun j => (S[j]?.getD .gone).ren (permF T1.length p)) w E /\ RenP (permF T1.length p) ρ ρ' := by
 obtain ⟨ρ', h1, h2⟩ := h.st.perm p hp hS
 have hid : ∀ i, i < T1.length -> permF T1.length p i = some i := fun i hi => if_pos hi
 refine ⟨ρ', ⟨h.g, h1, ⟨h.ext.le, fun i x hx hn => ?_, fun i x o b h3 h4 h5 h6 h7 => ?_⟩⟩, h2⟩
 . have hi := (List.getElem?_eq_some_iff.1 hx).1
   exact h2 i i x (hid i (by omega)) (h.ext.place i x hx hn)
 . obtain ⟨g1, o', g2, g3⟩ := h.ext.same i x o b h3 h4 h5 h6 h7
   have hi := (List.getElem?_eq_some_iff.1 h5).1
   refine ⟨g1, o'.ren (permF T1.length p), ?_, by rwa [AObj.live_ren]⟩
   rw [List.getElem?_append_left (by omega)] at g2
   rw [List.getElem?_append_left (by simp; omega), List.getElem?_map, g2]; rfl
theorem RelT.ren {tmp : List (Nat × AV)} {tv : List (Nat × Value)} (h : RelT Z ρ tmp tv) (hρ : RenP f ρ ρ') : RelT Z ρ' (tmp.map fun p => (p.1, p.2.ren f)) tv := by
 induction h with
 | nil => exact .nil
 | cons h hs ih => exact .cons (h.ren hρ) ih
theorem SeeL.perm {ds' : List AV} {L : List (Nat × AV)} {E' : Eff} (T1 S : Tbl) (p : List Nat) (hT : T = T1 ++ S) (hp : p.Nodup) (hS : ∀ j ∈ p, j < S.length) (hN : N <= T1.length) (hw : T1.map (AObj.ren (permF T1.length p)) = T1)
 (h : SeeL G N n (ds.map (AV.ren (permF T1.length p))) (loc.map (AV.ren (permF T1.length p))) (T1 ++ p.map fun j => (S[j]?.getD .gone).ren (permF T1.length p)) E ds' L T' E') : SeeL G N n ds loc T E ds' L T' E' := by
 subst hT
 intro Z0 ρ0 T0 w0 Z ρ w dv lv hN' hf ha
 obtain ⟨ρ', h1, h2⟩ := hf.perm p hp hS (by omega)
 rw [hw] at h1
 exact h Z0 ρ0 T0 w0 Z ρ' w dv lv hN' h1 ⟨ha.ds.ren h2, ha.loc.ren h2, .nil⟩
theorem SemA.perm {c : Code} (T1 S : Tbl) (p : List Nat) (hT : T = T1 ++ S) (hp : p.Nodup) (hS : ∀ j ∈ p, j < S.length) (hN : N <= T1.length) (hw : T1.map (AObj.ren (permF T1.length p)) = T1)
 (h : SemA P G N ro n m c (ds.map (AV.ren (permF T1.length p))) (loc.map (AV.ren (permF T1.length p))) (tmp.map fun q => (q.1, q.2.ren (permF T1.length p))) (T1 ++ p.map fun j => (S[j]?.getD .gone).ren (permF T1.length p)) E Nk X R) : SemA P G N ro n m c ds loc tmp T E Nk X R := by
 subst hT
 refine SemA.view ?_ h
 intro Z0 ρ0 T0 w0 Z ρ w dv lv tv hN' hf ha
 obtain ⟨ρ', h1, h2⟩ := hf.perm p hp hS (by omega)
 rw [hw] at h1
 exact ⟨Z, ρ', h1, ⟨ha.ds.ren h2, ha.loc.ren h2, ha.tmp.ren h2⟩⟩
end
mutual
theorem AV.ren_of {f : Nat -> Option Nat} {q : Nat -> Bool} (hq : ∀ j, q j = false -> f j = some j) : ∀ a : AV, a.wo q = a -> a.ren f = a
 | .ptr j o, h => by
   rw [AV.wo] at h; split at h
   . cases h
   . rename_i hj; rw [AV.ren, hq j (by simpa using hj)]
 | .sl j o n, h => by
   rw [AV.wo] at h; split at h
   . cases h
   . rename_i hj; rw [AV.ren, hq j (by simpa using hj)]
 | .mp j, h => by
   rw [AV.wo] at h; split at h
   . cases h
   . rename_i hj; rw [AV.ren, hq j (by simpa using hj)]
 | .yl j, h => by
   rw [AV.wo] at h; split at h
   . cases h
   . rename_i hj; rw [AV.ren, hq j (by simpa using hj)]
 | .ag cs, h => by rw [AV.wo] at h; injection h with h; rw [AV.ren, AV.renL_of hq cs h]
 | .tu cs, h => by rw [AV.wo] at h; injection h with h; rw [AV.ren, AV.renL_of hq cs h]
 | .fn g cs, h => by rw [AV.wo] at h; injection h with h1 h2; rw [AV.ren, AV.renL_of hq cs h2]
 | .ic t v, h => by rw [AV.wo] at h; injection h with h1 h2; rw [AV.ren, AV.ren_of hq v h2]
 | .p v, _ => by rw [AV.ren]
 | .any, _ => by rw [AV.ren]
 | .vp cs o, _ => by rw [AV.ren]
 | .vs cs n, _ => by rw [AV.ren]
theorem AV.renL_of {f : Nat -> Option Nat} {q : Nat -> Bool} (hq : ∀ j, q j = false -> f j = some j) : ∀ l : List AV, AV.woL q l = l -> AV.renL f l = l
 | [], _ => by rw [AV.renL]
 | a :: r, h => by rw [AV.woL] at h; injection h with h1 h2; rw [AV.renL, AV.ren_of hq a h1, AV.renL_of hq r h2]
end
section
variable {f : Nat -> Option Nat} {q : Nat -> Bool}
theorem cs_ren (hq : ∀ j, q j = false -> f j = some j) {cs : List AV} (h : cs.map (AV.wo q) = cs) : cs.map (AV.ren f) = cs := by
 rw [<- AV.renL_eq]; rw [<- AV.woL_eq] at h; exact AV.renL_of hq cs h
theorem obj_ren (hq : ∀ j, q j = false -> f j = some j) {o : AObj} (h : o.wo q = o) : o.ren f = o := by
 cases o with
 | cells T cs => rw [AObj.wo] at h; injection h with h1 h2; rw [AObj.ren, cs_ren hq h2]
 | buf T sz cs => rw [AObj.wo] at h; injection h with h1 h2 h3; rw [AObj.ren, cs_ren hq h3]
 | map es =>
   rw [AObj.wo] at h; injection h with h1
   rw [AObj.ren]
   congr 1
   refine List.ext_getElem (by simp) fun k g1 g2 => ?_
   have := congrArg (·[k]?) h1
   simp [g2] at this
   have h3 : (es[k]).2.wo q = (es[k]).2 := congrArg (·.2) this
   simp [AV.ren_of hq _ h3]
 | raw o => rfl
 | rcd o cs vs => rw [AObj.wo] at h; injection h with h1 h2 h3; rw [AObj.ren, cs_ren hq h2]
 | gone => rfl
theorem tbl_ren (hq : ∀ j, q j = false -> f j = some j) {T : Tbl} (h : T.map (AObj.wo q) = T) : T.map (AObj.ren f) = T := by
 refine List.ext_getElem (by simp) fun k g1 g2 => ?_
 have := congrArg (·[k]?) h
 simp [g2] at this
 simp [obj_ren hq this]
end
theorem permF_id (L : Nat) (p : List Nat) : ∀ j, decide (L <= j) = false -> permF L p j = some j := fun j h => if_pos (by simpa using h)
theorem ren_all {f : Nat -> Option Nat} {cs : List AV} (h : ∀ q, cs.map (AV.wo q) = cs) : cs.map (AV.ren f) = cs :=
 cs_ren (q := fun j => !decide (f j = some j)) (fun j hj => by simpa using hj) (h _)
theorem vn (f : Nat -> Option Nat) (L : Nat) (p : List Nat) : (∀ j o, AV.ren f (.ptr j o) = match f j with | some k => .ptr k o | none => .any) /\ (∀ j o n, AV.ren f (.sl j o n) = match f j with | some k => .sl k o n | none => .any) /\ (∀ j, AV.ren f (.mp j) = match f j with | some k => .mp k | none => .any) /\
 (∀ cs, AV.ren f (.ag cs) = .ag (cs.map (AV.ren f))) /\ (∀ cs, AV.ren f (.tu cs) = .tu (cs.map (AV.ren f))) /\ (∀ g cs, AV.ren f (.fn g cs) = .fn g (cs.map (AV.ren f))) /\ (∀ v, AV.ren f (.p v) = .p v) /\ (AV.ren f .any = .any) /\ (∀ cs o, AV.ren f (.vp cs o) = .vp cs o) /\ (∀ cs n, AV.ren f (.vs cs n) = .vs cs n) /\
 (∀ T cs, AObj.ren f (.cells T cs) = .cells T (cs.map (AV.ren f))) /\ (∀ T sz cs, AObj.ren f (.buf T sz cs) = .buf T sz (cs.map (AV.ren f))) /\ (AObj.ren f .gone = .gone) /\ (∀ es, AObj.ren f (.map es) = .map (es.map fun e => (e.1, e.2.ren f))) /\
 (∀ k, permF L p (L + k) = (idxO p k).map (L + ·)) /\ (permF L p L = (idxO p 0).map (L + ·)) :=
 ⟨fun _ _ => by rw [AV.ren], fun _ _ _ => by rw [AV.ren], fun _ => by rw [AV.ren], fun _ => by rw [AV.ren, AV.renL_eq], fun _ => by rw [AV.ren, AV.renL_eq], fun _ _ => by rw [AV.ren, AV.renL_eq], fun _ => by rw [AV.ren], by rw [AV.ren], fun _ _ => by rw [AV.ren], fun _ _ => by rw [AV.ren],
  fun _ _ => rfl, fun _ _ _ => rfl, rfl, fun _ => rfl, fun k => by unfold permF; rw [if_neg (by omega), show L + k - L = k by omega], by unfold permF; rw [if_neg (by omega), Nat.sub_self]⟩
end Go.E
namespace Go.E
section
variable {P : Program} {G : Nat -> AV} {Z Z' Z0 : Heap} {ρ ρ' ρ0 : List BI} {T T' T0 : Tbl} {w w' w0 : World} {a b : AV} {u v : Value} {K : AV -> Tbl -> Eff -> Prop} {cs : List AV} {es E : Eff}
variable {N n m : Nat} {ro : Option Nat} {ds loc : List AV} {tmp : List (Nat × AV)} {Nk R : AKont} {X : Nat -> AKont}
def SK {σ : Type} (G : Nat -> AV) (N n : Nat) (ds : List AV) (L : σ -> List (Nat × AV)) (Tb : σ -> Tbl) (Q : σ -> Prop) (Ei : Eff) : AKont := fun ds' loc' _ T' E' => ∃ s, Q s /\ SeeL G N n ds' loc' T' E' ds (L s) (Tb s) Ei
section
variable {σ τ : Type} {L : σ -> List (Nat × AV)} {Tb : σ -> Tbl} {Q : σ -> Prop} {Ei : Eff} {k : Nat}
theorem SK.elim {dv : List Nat} {lv : List Value} {tv : List (Nat × Value)} (hN : ρ0.length = N) (h : LK G Z0 ρ0 T0 w0 (SK G N n ds L Tb Q Ei) dv lv tv w) :
 ∃ s loc Z ρ, Q s /\ Lc n (L s) loc /\ Frm G Z0 ρ0 T0 w0 Z ρ (Tb s) w Ei /\ At Z ρ ds loc (tv.map fun p => (p.1, AV.p p.2)) dv lv tv := by
 obtain ⟨Z, ρ, T, E, ds1, loc, tmp, hf, h1, h2, h3, s, hs, hv⟩ := h
 obtain ⟨Z', ρ', loc', k1, k2, k3⟩ := hv Z0 ρ0 T0 w0 Z ρ w dv lv hN hf ⟨h1, h2, .nil⟩
 have key : ∀ (tv : List (Nat × Value)), RelT Z' ρ' (tv.map fun p => (p.1, AV.p p.2)) tv := fun tv => by
  induction tv with
  | nil => exact .nil
  | cons p r ih => exact .cons (.p _) ih
 exact ⟨s, loc', Z', ρ', hs, k3, k1, ⟨k2.ds, k2.loc, key tv⟩⟩
theorem SK.to {dv : List Nat} {lv : List Value} {tv : List (Nat × Value)} {K : AKont} (hN : ρ0.length = N) (h : LK G Z0 ρ0 T0 w0 (SK G N n ds L Tb Q Ei) dv lv tv w)
 (hK : ∀ s g tmp, Q s -> K ds (mkA g (L s) 0 n) tmp (Tb s) Ei) : LK G Z0 ρ0 T0 w0 K dv lv tv w := by
 obtain ⟨s, loc, Z, ρ, hs, hl, hf, ha⟩ := SK.elim hN h
 obtain ⟨g, rfl⟩ := hl.elim
 exact ⟨Z, ρ, _, _, _, _, _, hf, ha.ds, ha.loc, ha.tmp, hK s g _ hs⟩
theorem SemA.loopS {c : Code} (L : σ -> List (Nat × AV)) (Tb : σ -> Tbl) (Q : σ -> Prop) (μ : σ -> Nat) (s0 : σ) (Ei : Eff) (xi : Nat) (Le : τ -> List (Nat × AV)) (Te : τ -> Tbl) (Qe : τ -> Prop) (hQ : Q s0) (hL : Lc n (L s0) loc) (hT : T = Tb s0) (hE : ∀ x ∈ E, x ∈ Ei)
 (round : ∀ s g, Q s -> SemA P G N ro n m c ds (mkA g (L s) 0 n) [] (Tb s) Ei (SK G N n ds L Tb (fun s' => Q s' /\ μ s' < μ s) Ei) (fun j => if j = xi then SK G N n ds Le Te Qe Ei else X j) R)
 (exit : ∀ s g tmp, Qe s -> X xi ds (mkA g (Le s) 0 n) tmp (Te s) Ei) : SemA P G N ro n m (.loop c) ds loc [] T E Nk X R := by
 intro Z0 ρ0 T0 w0 Z ρ w dv lv tv hN hf ha a haa Qs hQs
 refine wpIn_loop_ghost (fun k a w => ∃ (Z : Heap) (ρ : List BI) (s : σ) (loc : List AV) (dv : List Nat) (lv : List Value) (tv : List (Nat × Value)), Fits' n m dv lv tv a /\ Frm G Z0 ρ0 T0 w0 Z ρ (Tb s) w Ei /\ At Z ρ ds loc [] dv lv [] /\ (Q s /\ Lc n (L s) loc) /\ μ s = k)
  (μ s0) ⟨Z, ρ, s0, loc, dv, lv, tv, haa, hT ▸ hf.more hE, ha.clear, ⟨hQ, hL⟩, rfl⟩ ?_
 rintro k' a w ⟨Z, ρ, s, loc, dv, lv, tv, haa, hf, hat, ⟨hI, hL⟩, rfl⟩
 obtain ⟨g, rfl⟩ := hL.elim
 have hr := round s g hI Z0 ρ0 T0 w0 Z ρ w dv lv [] hN hf hat
 refine hr a haa.cleared _ fun e dv' lv' tv' w' a' haa' hq => ?_
 cases e with
 | normal =>
   obtain ⟨s', loc', Z', ρ', ⟨h1, h2⟩, hl', h3, h4⟩ := SK.elim hN hq
   exact ⟨_, h2, Z', ρ', s', _, dv', lv', tv', haa', h3, ⟨h4.ds, h4.loc, .nil⟩, ⟨h1, hl'⟩, rfl⟩
 | exit i =>
   simp only [mkQ] at hq
   split at hq
   . rename_i hi; subst hi; exact hQs (.exit _) _ _ _ _ _ haa' (SK.to hN hq exit)
   . exact hQs (.exit i) _ _ _ _ _ haa' hq
 | ret => exact hQs .ret _ _ _ _ _ haa' hq
 | _ => exact hq.elim
end
end
theorem vsk {σ : Type} : ∀ (G : Nat -> AV) (N n : Nat) (ds : List AV) (L : σ -> List (Nat × AV)) (Tb : σ -> Tbl) (Q : σ -> Prop) (Ei : Eff) (ds' loc' : List AV) (tmp' : List (Nat × AV)) (T' : Tbl) (E' : Eff), SK G N n ds L Tb Q Ei ds' loc' tmp' T' E' = ∃ s, Q s /\ SeeL G N n ds' loc' T' E' ds (L s) (Tb s) Ei :=
 fun _ _ _ _ _ _ _ _ _ _ _ _ _ => rfl
end Go.E
