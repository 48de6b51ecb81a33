/-
  Part 1 of the proof: no statement of its own. No condition but those in each theorem.
-/
import Derived.WalkKit
import Derived.RowKit3
import Derived.RangeFuncLeaves
import Derived.RangeFuncRecord
import Derived.OrdersIn
import Derived.TacticsIn
import Derived.Orders
import Derived.KernelRfl
import Derived.RangeFuncOwn
import Derived.Lib.AppendZeros
import Derived.Laws.Tables
import Derived.Laws.OwnMore
import Derived.WideKeyArgs
import Derived.ProofKit
import Derived.OpenShut
import Derived.Deep.SlicePairs
import Derived.JoinedCond
import Derived.SizedLaws
set_option linter.unusedSimpArgs false
set_option linter.unusedVariables false
set_option linter.unusedSectionVars false
namespace Go.E

/-! ### Heaps that last: what no later step turns -/
structure Heap where
  blk : Nat → Option Obj
  os : Os
  out : Array (Nat × ByteArray)
instance : CoeFun Heap fun _ => Nat → Option Obj := ⟨Heap.blk⟩
def Heap.le (h h' : Heap) : Prop := (∀ b o, h b = some o → h' b = some o) ∧ h'.os = h.os ∧ h'.out = h.out
theorem Heap.le_refl (h : Heap) : Heap.le h h := ⟨fun _ _ e => e, rfl, rfl⟩
theorem Heap.le_trans {a b c : Heap} (h : Heap.le a b) (h' : Heap.le b c) : Heap.le a c := ⟨fun _ _ e => h'.1 _ _ (h.1 _ _ e), h'.2.1.trans h.2.1, h'.2.2.trans h.2.2⟩
/-- a part of a world's heap, and what lies outside -/
def Heap.of (Γ : Heap) (w : World) : Prop := (∀ b o, Γ b = some o → w.heap[b]? = some o) ∧ w.os = Γ.os ∧ w.output = Γ.out
/-- alike, but for what was drawn -/
def Alike (w' w : World) : Prop := w'.heap = w.heap ∧ w'.os = w.os ∧ w'.output = w.output

/-- a lasting fact -/
structure Fact where
  holds : Heap → Prop
  mono : ∀ h h', Heap.le h h' → holds h → holds h'

abbrev Chunk := List (Nat × Obj)
/-- what is owned: a predicate on the blocks that it is made of -/
abbrev Res := Chunk → Prop

def Fits : List Res → List Chunk → Prop
  | [], [] => True
  | r :: O, c :: cs => r c ∧ Fits O cs
  | _, _ => False

/-- the world holds the lasting facts L, and apart from them what is owned, O -/
def Ctx (w : World) (O : List Res) (L : List Fact) : Prop :=
  ∃ (Γ : Heap) (cs : List Chunk),
    Γ.of w ∧ Fits O cs ∧
    (∀ p ∈ cs.flatten, w.heap[p.1]? = some p.2 ∧ Γ p.1 = none) ∧
    (cs.flatten.map (·.1)).Nodup ∧ (∀ φ ∈ L, φ.holds Γ)

section
variable {w w' : World} {O O' : List Res} {L L' : List Fact} {φ : Fact}

theorem Ctx.fact (h : Ctx w O L) (hm : φ ∈ L) : ∃ Γ : Heap, Γ.of w ∧ φ.holds Γ := by
  obtain ⟨Γ, cs, h1, _, _, _, h5⟩ := h
  exact ⟨Γ, h1, h5 _ hm⟩

theorem Ctx.weak (h : Ctx w O L) (hs : ∀ φ ∈ L', φ ∈ L) : Ctx w O L' := by
  obtain ⟨Γ, cs, h1, h2, h3, h4, h5⟩ := h
  exact ⟨Γ, cs, h1, h2, h3, h4, fun φ hφ => h5 φ (hs φ hφ)⟩

/-- a fact that follows from facts -/
theorem Ctx.add (h : Ctx w O L) (hf : ∀ Γ : Heap, Γ.of w → (∀ ψ ∈ L, ψ.holds Γ) → φ.holds Γ) : Ctx w O (φ :: L) := by
  obtain ⟨Γ, cs, h1, h2, h3, h4, h5⟩ := h
  refine ⟨Γ, cs, h1, h2, h3, h4, fun ψ hψ => ?_⟩
  rcases List.mem_cons.1 hψ with e | e
  · subst e; exact hf Γ h1 h5
  · exact h5 ψ e

/-- only the heap counts -/
theorem Ctx.same (h : Ctx w O L) (e : Alike w' w) : Ctx w' O L := by
  obtain ⟨Γ, cs, h1, h2, h3, h4, h5⟩ := h
  exact ⟨Γ, cs, ⟨fun b o hb => by rw [e.1]; exact h1.1 b o hb, e.2.1.trans h1.2.1, e.2.2.trans h1.2.2⟩, h2, fun p hp => by rw [e.1]; exact h3 p hp, h4, h5⟩

theorem Ctx.drew (h : Ctx w O L) : Ctx w.drew O L := h.same ⟨rfl, rfl, rfl⟩

theorem Fits.cons_inv {r : Res} {O : List Res} {cs : List Chunk} (h : Fits (r :: O) cs) : ∃ c cs', cs = c :: cs' ∧ r c ∧ Fits O cs' := by
  cases cs with
  | nil => exact h.elim
  | cons c cs' => exact ⟨c, cs', rfl, h.1, h.2⟩

/-- what is owned may stand in another order -/
theorem Ctx.swap {r s : Res} (h : Ctx w (r :: s :: O) L) : Ctx w (s :: r :: O) L := by
  obtain ⟨Γ, cs, h1, h2, h3, h4, h5⟩ := h
  obtain ⟨c, cs', rfl, hr, h2'⟩ := h2.cons_inv
  obtain ⟨d, cs'', rfl, hs, h2''⟩ := h2'.cons_inv
  refine ⟨Γ, d :: c :: cs'', h1, ⟨hs, hr, h2''⟩, fun p hp => h3 p ?_, ?_, h5⟩
  · simp only [List.flatten_cons, List.mem_append] at hp ⊢
    rcases hp with hp | hp | hp
    · exact .inr (.inl hp)
    · exact .inl hp
    · exact .inr (.inr hp)
  · have hp : List.Perm ((d :: c :: cs'').flatten.map (·.1)) ((c :: d :: cs'').flatten.map (·.1)) := by
      simp only [List.flatten_cons]
      rw [← List.append_assoc, ← List.append_assoc]
      exact (List.perm_append_comm.append_right _).map _
    exact hp.nodup_iff.2 h4

/-- the first of what is owned is given up -/
theorem Ctx.drop {r : Res} (h : Ctx w (r :: O) L) : Ctx w O L := by
  obtain ⟨Γ, cs, h1, h2, h3, h4, h5⟩ := h
  obtain ⟨c, cs', rfl, hr, h2'⟩ := h2.cons_inv
  refine ⟨Γ, cs', h1, h2', fun p hp => h3 p (by simp only [List.flatten_cons, List.mem_append]; exact .inr hp), ?_, h5⟩
  simp only [List.flatten_cons, List.map_append] at h4
  exact (List.nodup_append.1 h4).2.1
end

/-- two lists of what is owned: the second is the first in another order -/
theorem Ctx.perm {w : World} {O O' : List Res} {L : List Fact} (hp : O.Perm O') : Ctx w O L → Ctx w O' L := by
  intro h
  obtain ⟨Γ, cs, h1, h2, h3, h4, h5⟩ := h
  have key : ∀ {O O' : List Res}, O.Perm O' → ∀ cs, Fits O cs → ∃ cs', Fits O' cs' ∧ cs.Perm cs' := by
    intro O O' hp
    induction hp with
    | nil => intro cs h; cases cs with
      | nil => exact ⟨[], trivial, .nil⟩
      | cons _ _ => exact h.elim
    | cons r _ ih =>
      intro cs h
      obtain ⟨c, cs', rfl, hr, h'⟩ := h.cons_inv
      obtain ⟨ds, hd, hpd⟩ := ih cs' h'
      exact ⟨c :: ds, ⟨hr, hd⟩, hpd.cons c⟩
    | swap r s l =>
      intro cs h
      obtain ⟨c, cs', rfl, hr, h'⟩ := h.cons_inv
      obtain ⟨d, cs'', rfl, hs, h''⟩ := h'.cons_inv
      exact ⟨d :: c :: cs'', ⟨hs, hr, h''⟩, List.Perm.swap _ _ _⟩
    | trans _ _ ih1 ih2 =>
      intro cs h
      obtain ⟨ds, hd, hp1⟩ := ih1 cs h
      obtain ⟨es, he, hp2⟩ := ih2 ds hd
      exact ⟨es, he, hp1.trans hp2⟩
  obtain ⟨cs', h2', hpc⟩ := key hp cs h2
  have hpf : cs.flatten.Perm cs'.flatten := hpc.flatten
  exact ⟨Γ, cs', h1, h2', fun p hp' => h3 p (hpf.mem_iff.2 hp'), (hpf.map _).nodup_iff.1 h4, h5⟩

/-! ### Single blocks -/
/-- one block, owned -/
def own (b : Nat) (o : Obj) : Res := fun c => c = [(b, o)]
/-- one block, for ever -/
def blk (b : Nat) (o : Obj) : Fact := ⟨fun Γ => Γ b = some o, fun _ _ hl h => hl.1 _ _ h⟩
/-- a plain truth -/
def truth (p : Prop) : Fact := ⟨fun _ => p, fun _ _ _ h => h⟩
/-- nothing of a world is turned -/
def whole (W : World) : Fact := ⟨fun Γ => (∀ b o, W.heap[b]? = some o → Γ b = some o) ∧ Γ.os = W.os ∧ Γ.out = W.output, fun _ _ hl h => ⟨fun b o e => hl.1 _ _ (h.1 b o e), hl.2.1.trans h.2.1, hl.2.2.trans h.2.2⟩⟩

section
variable {w w' : World} {O : List Res} {L : List Fact} {b : Nat} {o o' : Obj}

theorem Ctx.begin (W : World) : Ctx W [] [whole W] := by
  refine ⟨⟨fun b => W.heap[b]?, W.os, W.output⟩, [], ⟨fun _ _ h => h, rfl, rfl⟩, trivial, ?_, ?_, ?_⟩
  · intro p hp; simp at hp
  · simp
  · intro φ hφ
    simp only [List.mem_singleton] at hφ
    subst hφ
    exact ⟨fun _ _ h => h, rfl, rfl⟩

theorem Ctx.own_get (h : Ctx w (own b o :: O) L) : w.heap[b]? = some o := by
  obtain ⟨Γ, cs, h1, h2, h3, h4, h5⟩ := h
  obtain ⟨c, cs', rfl, hr, h2'⟩ := h2.cons_inv
  cases hr
  exact (h3 (b, o) (by simp)).1

theorem Ctx.blk_get (h : Ctx w O L) (hm : blk b o ∈ L) : w.heap[b]? = some o := by
  obtain ⟨Γ, h1, h2⟩ := h.fact hm
  exact h1.1 _ _ h2

theorem heap_alloc (w : World) (o : Obj) (b : Nat) : (w.alloc o).heap[b]? = if b = w.heap.size then some o else w.heap[b]? := by
  by_cases hb : b = w.heap.size
  · subst hb; rw [if_pos rfl]; exact heap_alloc_new w o
  · rw [if_neg hb]
    by_cases hl : b < w.heap.size
    · exact heap_alloc_old w o hl
    · have h1 : w.heap[b]? = none := Array.getElem?_eq_none (by omega)
      have h2 : (w.alloc o).heap[b]? = none := Array.getElem?_eq_none (by simp; omega)
      rw [h1, h2]

/-- a new block -/
theorem Ctx.alloc (h : Ctx w O L) (o : Obj) : Ctx (w.alloc o) (own w.heap.size o :: O) L := by
  obtain ⟨Γ, cs, h1, h2, h3, h4, h5⟩ := h
  have hlt : ∀ b o', w.heap[b]? = some o' → b < w.heap.size := fun b o' hb => (Array.getElem?_eq_some_iff.1 hb).1
  have old : ∀ b o', w.heap[b]? = some o' → (w.alloc o).heap[b]? = some o' := fun b o' hb => by
    rw [heap_alloc_old w o (hlt b o' hb)]; exact hb
  refine ⟨Γ, [(w.heap.size, o)] :: cs, ⟨fun b o' hb => old b o' (h1.1 b o' hb), h1.2⟩, ⟨rfl, h2⟩, ?_, ?_, h5⟩
  · intro p hp
    simp only [List.flatten_cons, List.mem_append, List.mem_singleton] at hp
    rcases hp with rfl | hp
    · refine ⟨heap_alloc_new w o, ?_⟩
      cases hg : Γ w.heap.size with
      | none => rfl
      | some o' => have := hlt _ _ (h1.1 _ _ hg); omega
    · exact ⟨old _ _ (h3 p hp).1, (h3 p hp).2⟩
  · simp only [List.flatten_cons, List.map_append, List.map_cons, List.map_nil, List.singleton_append, List.nodup_cons]
    refine ⟨fun hm => ?_, h4⟩
    obtain ⟨p, hp, he⟩ := List.mem_map.1 hm
    have := hlt _ _ (h3 p hp).1
    omega

/-- what was owned is given to all, for ever -/
theorem Ctx.publish {r : Res} {φ : Fact} (h : Ctx w (r :: O) L)
    (hf : ∀ (c : Chunk) (Γ : Heap), r c → Γ.of w → (∀ p ∈ c, Γ p.1 = some p.2) → (∀ ψ ∈ L, ψ.holds Γ) → φ.holds Γ) : Ctx w O (φ :: L) := by
  obtain ⟨Γ, cs, h1, h2, h3, h4, h5⟩ := h
  obtain ⟨c, cs', rfl, hr, h2'⟩ := h2.cons_inv
  let Γ' : Heap := ⟨fun b => if (c.map (·.1)).contains b then w.heap[b]? else Γ b, Γ.os, Γ.out⟩
  have hle : Heap.le Γ Γ' := by
    refine ⟨?_, rfl, rfl⟩
    intro b o hb
    by_cases hc : (c.map (·.1)).contains b = true
    · simp only [Γ', hc, if_true]; exact h1.1 b o hb
    · simp only [Γ', hc]; exact hb
  have h1' : Γ'.of w := by
    refine ⟨?_, h1.2⟩
    intro b o hb
    by_cases hc : (c.map (·.1)).contains b = true
    · simp only [Γ', hc, if_true] at hb; exact hb
    · simp only [Γ', hc] at hb; exact h1.1 b o hb
  simp only [List.flatten_cons, List.map_append] at h4
  have h4' := List.nodup_append.1 h4
  have h5' : ∀ ψ ∈ L, ψ.holds Γ' := fun ψ hψ => ψ.mono _ _ hle (h5 ψ hψ)
  refine ⟨Γ', cs', h1', h2', fun p hp => ⟨(h3 p (by simp only [List.flatten_cons, List.mem_append]; exact .inr hp)).1, ?_⟩, h4'.2.1, ?_⟩
  · have hn : ¬ (c.map (·.1)).contains p.1 = true := by
      simp only [List.contains_iff_mem]
      exact fun hm => h4'.2.2 p.1 hm p.1 (List.mem_map_of_mem hp) rfl
    simp only [Γ', hn]
    exact (h3 p (by simp only [List.flatten_cons, List.mem_append]; exact .inr hp)).2
  · intro ψ hψ
    rcases List.mem_cons.1 hψ with e | e
    · subst e
      refine hf c Γ' hr h1' (fun p hp => ?_) h5'
      have hm : (c.map (·.1)).contains p.1 = true := List.contains_iff_mem.2 (List.mem_map_of_mem hp)
      simp only [Γ', hm, if_true]
      exact (h3 p (by simp only [List.flatten_cons, List.mem_append]; exact .inl hp)).1
    · exact h5' ψ e

theorem Ctx.keep (h : Ctx w (own b o :: O) L) : Ctx w O (blk b o :: L) :=
  h.publish fun c Γ hr _ hc _ => by cases hr; exact hc (b, o) (by simp)

/-- an owned thing is turned: the blocks that it is made of, and new ones, alone have changed -/
theorem Ctx.turn {r r' : Res} (h : Ctx w (r :: O) L) (ho : w'.os = w.os ∧ w'.output = w.output)
    (ht : ∀ c, r c → (∀ p ∈ c, w.heap[p.1]? = some p.2) → (c.map (·.1)).Nodup → ∃ c', r' c' ∧ (∀ p ∈ c', w'.heap[p.1]? = some p.2) ∧ (c'.map (·.1)).Nodup ∧
      (∀ b ∈ c'.map (·.1), b ∈ c.map (·.1) ∨ w.heap.size ≤ b) ∧ (∀ b, b < w.heap.size → b ∉ c.map (·.1) → w'.heap[b]? = w.heap[b]?)) : Ctx w' (r' :: O) L := by
  obtain ⟨Γ, cs, h1, h2, h3, h4, h5⟩ := h
  obtain ⟨c, cs', rfl, hr, h2'⟩ := h2.cons_inv
  simp only [List.flatten_cons, List.map_append] at h4
  have h4' := List.nodup_append.1 h4
  have hlt : ∀ b o', w.heap[b]? = some o' → b < w.heap.size := fun b o' hb => (Array.getElem?_eq_some_iff.1 hb).1
  have hin : ∀ p ∈ c, w.heap[p.1]? = some p.2 ∧ Γ p.1 = none := fun p hp => h3 p (by simp only [List.flatten_cons, List.mem_append]; exact .inl hp)
  have hout : ∀ p ∈ cs'.flatten, w.heap[p.1]? = some p.2 ∧ Γ p.1 = none := fun p hp => h3 p (by simp only [List.flatten_cons, List.mem_append]; exact .inr hp)
  obtain ⟨c', hr', hc', hn', hsub, hkeep⟩ := ht c hr (fun p hp => (hin p hp).1) h4'.1
  have hΓc : ∀ b o', Γ b = some o' → b ∉ c.map (·.1) := by
    intro b o' hb hm
    obtain ⟨p, hp, rfl⟩ := List.mem_map.1 hm
    rw [(hin p hp).2] at hb
    cases hb
  refine ⟨Γ, c' :: cs', ⟨fun b o' hb => ?_, ho.1.trans h1.2.1, ho.2.trans h1.2.2⟩, ⟨hr', h2'⟩, fun p hp => ?_, ?_, h5⟩
  · rw [hkeep b (hlt _ _ (h1.1 _ _ hb)) (hΓc b o' hb)]
    exact h1.1 b o' hb
  · simp only [List.flatten_cons, List.mem_append] at hp
    rcases hp with hp | hp
    · refine ⟨hc' p hp, ?_⟩
      rcases hsub p.1 (List.mem_map_of_mem hp) with hm | hm
      · obtain ⟨q, hq, he⟩ := List.mem_map.1 hm
        rw [← he]; exact (hin q hq).2
      · cases hg : Γ p.1 with
        | none => rfl
        | some o' => have := hlt _ _ (h1.1 _ _ hg); omega
    · refine ⟨?_, (hout p hp).2⟩
      have hnc : p.1 ∉ c.map (·.1) := fun hm => h4'.2.2 p.1 hm p.1 (List.mem_map_of_mem hp) rfl
      rw [hkeep p.1 (hlt _ _ (hout p hp).1) hnc]
      exact (hout p hp).1
  · simp only [List.flatten_cons, List.map_append]
    refine List.nodup_append.2 ⟨hn', h4'.2.1, ?_⟩
    intro x hx y hy hxy
    subst hxy
    obtain ⟨q, hq, he⟩ := List.mem_map.1 hy
    rcases hsub x hx with hm | hm
    · exact h4'.2.2 x hm x hy rfl
    · have := hlt _ _ (hout q hq).1
      omega

theorem Ctx.own_set (h : Ctx w (own b o :: O) L) (o' : Obj) (w' : World) (hb : w'.heap[b]? = some o') (hk : ∀ k, k ≠ b → w'.heap[k]? = w.heap[k]?) (ho : w'.os = w.os ∧ w'.output = w.output) : Ctx w' (own b o' :: O) L := by
  refine h.turn ho (fun c hc _ _ => ?_)
  cases hc
  refine ⟨[(b, o')], rfl, ?_, by simp, ?_, ?_⟩
  · intro p hp; simp only [List.mem_singleton] at hp; subst hp; exact hb
  · intro x hx; simp at hx; subst hx; simp
  · intro k _ hk'
    simp at hk'
    exact hk k hk'

/-- of an unturned world -/
theorem Ctx.whole_grown {W : World} (h : Ctx w O L) (hm : whole W ∈ L) : (∀ b, b < W.heap.size → w.heap[b]? = W.heap[b]?) ∧ W.heap.size ≤ w.heap.size ∧ w.os = W.os ∧ w.output = W.output := by
  obtain ⟨Γ, h1, h2⟩ := h.fact hm
  have key : ∀ b, b < W.heap.size → w.heap[b]? = W.heap[b]? := by
    intro b hb
    have e : W.heap[b]? = some W.heap[b] := by simp [hb]
    rw [e]
    exact h1.1 _ _ (h2.1 _ _ e)
  refine ⟨key, ?_, h1.2.1.trans h2.2.1, h1.2.2.trans h2.2.2⟩
  rcases Nat.eq_zero_or_pos W.heap.size with h0 | h0
  · omega
  · have e := key (W.heap.size - 1) (by omega)
    have e' : W.heap[W.heap.size - 1]? = some W.heap[W.heap.size - 1] := by simp
    rw [e'] at e
    have := (Array.getElem?_eq_some_iff.1 e).1
    omega
end
end Go.E

set_option linter.unusedSimpArgs false
set_option linter.unusedVariables false
set_option linter.unusedSectionVars false
namespace Go.E

/-- what stands behind a tag is not looked into by simp -/
inductive Tag {α : Sort _} (a : α) : Type
  | mk

/-! ### Facts about the program's types, by name (each is a closed fact of one program) -/
def tk (P : Program) (t : TypeId) : TypeDesc := (P.underlying t).getD .invalid
def tsz (P : Program) (t : TypeId) : Nat := ((P.info? t).map (·.size)).getD 0
def tby (P : Program) (t : TypeId) : Nat := ((P.info? t).map (·.bytes)).getD 0
def tzr (P : Program) (t : TypeId) : Option Value := (P.info? t).bind (·.zero)
/-- a field's offset; none: no such field, or a field of no cells -/
def tfo (P : Program) (s : TypeId) (f : Nat) : Option Nat :=
  match tk P s with
  | .struct fs => match fs[f]? with
    | some fd => if tsz P fd.type = 0 then none else some fd.offset
    | none => none
  | _ => none
def tagg (d : TypeDesc) : Bool := match d with
  | .struct _ | .array _ _ => true
  | _ => false
/-- is it a type at all? -/
def tis (d : TypeDesc) : Bool := match d with
  | .invalid => false
  | _ => true

theorem run_underlying_tk {P : Program} {t : TypeId} (h : tis (tk P t) = true) (w : World) : (underlying t).run P w = .ok (tk P t) w := by
  unfold tk at *
  cases hu : P.underlying t with
  | none => rw [hu] at h; simp [tis] at h
  | some d => simp [run_underlying hu]

theorem underlying_some {P : Program} {t : TypeId} (h : tis (tk P t) = true) : P.underlying t = some (tk P t) := by
  unfold tk at *
  cases hu : P.underlying t with
  | none => rw [hu] at h; simp [tis] at h
  | some d => rfl

theorem info_of_tsz {P : Program} {t : TypeId} (h : tsz P t ≠ 0) : ∃ i, P.info? t = some i ∧ i.size = tsz P t ∧ i.bytes = tby P t ∧ i.zero = tzr P t := by
  unfold tsz tby tzr at *
  cases hi : P.info? t with
  | none => rw [hi] at h; simp at h
  | some i => exact ⟨i, rfl, rfl, rfl, rfl⟩

/-! ### The propositions at which the reckoning stands still: what follows is not looked into -/
def RunV (P : Program) (s : Sem Value) (w : World) (K : Value → World → Prop) (_ : Tag K := .mk) : Prop := ∃ v w', s.run P w = .ok v w' ∧ K v w'
/-- a call comes back -/
def Ret (P : Program) (f : FuncId) (args : Array Value) (w : World) (R : Value → World → Prop) (_ : Tag R := .mk) : Prop :=
  Calls P f args w fun e w' => ∃ v, e = .returned v ∧ R v w'
def GuardP (v : Value) (want : Bool) (A B : Prop) (_ : Tag A := .mk) (_ : Tag B := .mk) : Prop := (v = .bool want → A) ∧ (v ≠ .bool want → B)
def CondP (v : Value) (A B : Prop) (_ : Tag A := .mk) (_ : Tag B := .mk) : Prop := (v = .bool true → A) ∧ (v = .bool false → B) ∧ ∃ b, v = .bool b


theorem CondP.t {A B : Prop} : CondP (.bool true) A B = A := by simp [CondP]
theorem CondP.f {A B : Prop} : CondP (.bool false) A B = B := by simp [CondP]
theorem CondP.split {c : Bool} {A B : Prop} (h1 : c = true → A) (h2 : c = false → B) : CondP (.bool c) A B :=
  ⟨fun h => h1 (by cases h; rfl), fun h => h2 (by cases h; rfl), c, rfl⟩
theorem GuardP.tt {A B : Prop} : GuardP (.bool true) true A B = A := by simp [GuardP]
theorem GuardP.ff {A B : Prop} : GuardP (.bool false) false A B = A := by simp [GuardP]
theorem GuardP.tf {A B : Prop} : GuardP (.bool true) false A B = B := by simp [GuardP]
theorem GuardP.ft {A B : Prop} : GuardP (.bool false) true A B = B := by simp [GuardP]
theorem GuardP.undef {c : Bool} {A B : Prop} : GuardP undef c A B = B := by simp [GuardP, Go.undef]
theorem GuardP.undef' {c : Bool} {A B : Prop} : GuardP (.tuple #[]) c A B = B := by simp [GuardP]

theorem Ret.mono {P : Program} {f : FuncId} {args : Array Value} {w : World} {R R' : Value → World → Prop} (h : Ret P f args w R) (hr : ∀ v w', R v w' → R' v w') : Ret P f args w R' :=
  Calls.mono h fun _ _ ⟨v, e, r⟩ => ⟨v, e, hr v _ r⟩

/-! ### Addresses -/
/-- so many cells on -/
def sh (a : Option Addr) (k : Nat) : Option Addr := a.map (·.add k)
theorem Addr_add_add (a : Addr) (n m : Nat) : (a.add n).add m = a.add (n + m) := by
  unfold Addr.add
  by_cases h1 : n = 0
  · subst h1; simp
  · by_cases h2 : m = 0
    · subst h2; simp [h1]
    · simp [h1, h2, Nat.add_assoc]
theorem sh_sh (a : Option Addr) (k m : Nat) : sh (sh a k) m = sh a (k + m) := by cases a <;> simp [sh, Addr_add_add]
theorem sh_zero (a : Option Addr) : sh a 0 = a := by cases a <;> simp [sh, Addr.add]
theorem sh_isSome (a : Option Addr) (k : Nat) : (sh a k).isSome = a.isSome := by cases a <;> rfl

/-! ### The value of an operand: slots below n lie in loc, the others, of late, in tmp -/
def lk (base : Nat → Value) : List (Nat × Value) → Nat → Value
  | [], t => base t
  | (s, v) :: r, t => if t = s then v else lk base r t
def ev (n : Nat) (base : Nat → Value) (loc : List Value) (tmp : List (Nat × Value)) : Operand → Value
  | .tmp t => if t < n then loc.getD t undef else lk base tmp t
  | .const v => v
  | .global g => .pointer (some ⟨g, 0, none⟩)
  | .func f => .func (.func f) #[] #[]

def Agree (n : Nat) (base : Nat → Value) (loc : List Value) (tmp : List (Nat × Value)) (a : Act) : Prop :=
  loc.length = n ∧ n ≤ a.tmps.size ∧ (∀ t, t < n → a.tmps.getD t undef = loc.getD t undef) ∧ (∀ t, n ≤ t → a.tmps.getD t undef = lk base tmp t)

theorem Agree.ev {n : Nat} {base : Nat → Value} {loc : List Value} {tmp : List (Nat × Value)} {a : Act} (h : Agree n base loc tmp a) : a.eval = ev n base loc tmp := by
  funext x
  cases x with
  | tmp t =>
    simp only [Act.eval, Go.E.ev]
    by_cases ht : t < n
    · rw [if_pos ht]; exact h.2.2.1 t ht
    · rw [if_neg ht]; exact h.2.2.2 t (Nat.le_of_not_lt ht)
  | _ => rfl

/-- what follows: the marks of this frame; the slots; the world -/
abbrev Kont := List Nat → List Value → List (Nat × Value) → World → Prop

/-- a value into a slot -/
def putK (n : Nat) (d : Option Tmp) (v : Value) (loc : List Value) (tmp : List (Nat × Value)) (K : List Value → List (Nat × Value) → Prop) (_ : Tag K := .mk) : Prop :=
  match d with
  | none => K loc tmp
  | some d => if d < n then K (loc.set d v) tmp else K loc ((d, v) :: tmp)

theorem Agree.put {n : Nat} {base : Nat → Value} {loc : List Value} {tmp : List (Nat × Value)} {a : Act} (h : Agree n base loc tmp a) {d : Option Tmp} (hd : ∀ t, d = some t → t < a.tmps.size) (v : Value)
    {K : List Value → List (Nat × Value) → Prop} (hk : putK n d v loc tmp K) : ∃ loc' tmp', Agree n base loc' tmp' (a.put d v) ∧ K loc' tmp' := by
  obtain ⟨h1, h2, h3, h4⟩ := h
  cases d with
  | none => exact ⟨loc, tmp, ⟨h1, h2, h3, h4⟩, hk⟩
  | some d =>
    have hlt := hd d rfl
    have e : ∀ t, (a.tmps.setIfInBounds d v).getD t undef = if t = d then v else a.tmps.getD t undef := by
      intro t
      by_cases ht : t = d
      · subst ht; simp [hlt]
      · rw [if_neg ht]; simp [Array.getElem?_setIfInBounds_ne (Ne.symm ht)]
    simp only [putK] at hk
    by_cases hn : d < n
    · rw [if_pos hn] at hk
      refine ⟨_, _, ⟨by simp [h1], by simp [Act.put, h2], fun t ht => ?_, fun t ht => ?_⟩, hk⟩
      · simp only [Act.put]
        rw [e]
        by_cases hd' : t = d
        · subst hd'; simp [h1, ht]
        · rw [if_neg hd', h3 t ht]; simp [List.getElem?_set_ne (Ne.symm hd')]
      · simp only [Act.put]
        rw [e, if_neg (fun he : t = d => Nat.not_lt.2 ht (by rw [he]; exact hn))]
        exact h4 t ht
    · rw [if_neg hn] at hk
      refine ⟨_, _, ⟨h1, by simp [Act.put, h2], fun t ht => ?_, fun t ht => ?_⟩, hk⟩
      · simp only [Act.put]
        rw [e, if_neg (fun he : t = d => hn (by rw [← he]; exact ht))]
        exact h3 t ht
      · simp only [Act.put, lk]
        rw [e]
        by_cases hd' : t = d
        · rw [if_pos hd', if_pos hd']
        · rw [if_neg hd', if_neg hd']; exact h4 t ht

/-! ### Operations -/
def cmpV (op : BinOp) (x y : Int) : Option Bool :=
  match op with
  | .eql => some (decide (x = y))
  | .neq => some (!decide (x = y))
  | .lss => some (decide (x < y))
  | .leq => some (decide (x ≤ y))
  | .gtr => some (decide (y < x))
  | .geq => some (decide (y ≤ x))
  | _ => none
def bitV (op : BinOp) (k : IntKind) (x y : Int) : Option Int :=
  match op with
  | .and => some (k.wrap (BitVec.ofInt k.bits x &&& BitVec.ofInt k.bits y).toNat)
  | .or => some (k.wrap (BitVec.ofInt k.bits x ||| BitVec.ofInt k.bits y).toNat)
  | .xor => some (k.wrap (BitVec.ofInt k.bits x ^^^ BitVec.ofInt k.bits y).toNat)
  | .andNot => some (k.wrap (BitVec.ofInt k.bits x &&& ~~~ BitVec.ofInt k.bits y).toNat)
  | _ => none
/-- two integers of one kind -/
def intV (op : BinOp) (k : IntKind) (x y : Int) (K : Value → Prop) (_ : Tag K := .mk) : Prop :=
  match op with
  | .add => K (.int k (k.wrap (x + y)))
  | .sub => K (.int k (k.wrap (x - y)))
  | .mul => K (.int k (k.wrap (x * y)))
  | .quo => y ≠ 0 ∧ K (.int k (k.wrap (x.tdiv y)))
  | .rem => y ≠ 0 ∧ K (.int k (x.tmod y))
  | .shl | .shr => False
  | op => match cmpV op x y with
    | some b => K (.bool b)
    | none => match bitV op k x y with
      | some r => K (.int k r)
      | none => False
/-- a shift: 0 ≤ y -/
def shiftV (op : BinOp) (k : IntKind) (x y : Int) (K : Value → Prop) (_ : Tag K := .mk) : Prop :=
  match op with
  | .shl => 0 ≤ y ∧ K (.int k (k.wrap (x * 2 ^ (min y.toNat k.bits))))
  | .shr => 0 ≤ y ∧ K (.int k (x.fdiv (2 ^ (min y.toNat k.bits))))
  | _ => False

/-! F: what must be shown of a run that is not reckoned here; K: of the value. -/
def bolV (d : TypeDesc) (A : Prop) (_ : Tag A := .mk) : Prop := match d with
  | .bool => A
  | _ => False
def pntV (d : TypeDesc) (A : Prop) (_ : Tag A := .mk) : Prop := match d with
  | .pointer _ => A
  | _ => False
def binV (P : Program) (op : BinOp) (t : TypeId) (x y : Value) (xo yo : Operand) (F : Sem Value → Prop) (K : Value → Prop) (_ : Tag F := .mk) (_ : Tag K := .mk) : Prop :=
  match op, x, y with
  | .shl, .int k a, .int _ b => shiftV .shl k a b K
  | .shr, .int k a, .int _ b => shiftV .shr k a b K
  | op, .int k a, .int k' b => k = k' ∧ intV op k a b K
  | .eql, .bool a, .bool b => bolV (tk P t) (K (.bool (a == b)))
  | .neq, .bool a, .bool b => bolV (tk P t) (K (.bool (!(a == b))))
  | .eql, .pointer a, .pointer none => pntV (tk P t) (K (.bool a.isNone))
  | .neq, .pointer a, .pointer none => pntV (tk P t) (K (.bool (!a.isNone)))
  | op, x, y => F (do eqGuard op t xo yo x y; binOp op t x y)

def ptrV (v : Value) (K : Option Addr → Prop) (_ : Tag K := .mk) : Prop :=
  match v with
  | .pointer a => K a
  | _ => False

def lenV (P : Program) (d : TypeDesc) (ts : Array TypeId) (xs : List Value) (ty : TypeId) (F : Sem Value → Prop) (K : Value → Prop) (_ : Tag F := .mk) (_ : Tag K := .mk) : Prop :=
  match d, xs with
  | .slice _, [.slice _ n _] => K (.int .i64 n)
  | .string, [.string s] => K (.int .i64 s.size)
  | .array n _, [_] => K (.int .i64 n)
  | _, xs => F (Builtin.len_ ts ty xs.toArray)

def builtinV (P : Program) (b : Builtin) (ts : Array TypeId) (ty : TypeId) (args : List Value) (F : Sem Value → Prop) (K : Value → Prop) (_ : Tag F := .mk) (_ : Tag K := .mk) : Prop :=
  match b with
  | .len => if ts.size = 0 then False else lenV P (tk P (ts.getD 0 0)) ts args ty F K
  | .append => F (Builtin.append_ ts ty args.toArray)
  | .cap => F (Builtin.cap_ ts ty args.toArray)
  | .clear => F (Builtin.clear_ ts ty args.toArray)
  | .copy => F (Builtin.copy_ ts ty args.toArray)
  | .delete => F (Builtin.delete_ ts ty args.toArray)
  | .max => F (Builtin.max_ ts ty args.toArray)
  | .min => F (Builtin.min_ ts ty args.toArray)
  | _ => False

/-- has the function a body that is entered? -/
def entered (P : Program) (f : FuncId) : Bool :=
  match P.funcs[f]? with
  | none => false
  | some fn => fn.name != "runtime.NumGoroutine" && fn.body.isSome
/-- a call of yield: one round -/
def Yld (P : Program) (l : Nat) (args : Array Value) (w : World) (K : Value → World → Prop) (_ : Tag K := .mk) : Prop :=
  ∃ fn tmps assign body, (Instr.yield l args).run P w = .ok (.round l fn tmps assign body) w ∧ RoundIn Fence.wide 0 P l fn tmps assign body w fun e w' => ∃ v, e = .returned v ∧ K v w'
def callE (e : Bool) (P : Program) (g : FuncId) (args : Array Value) (w : World) (K : Value → World → Prop) (_ : Tag K := .mk) : Prop :=
  match e with
  | true => Ret P g args w K
  | false => RunV P (do match ← callFunc g args with | .value v => pure v | _ => stuck "") w K
def callV (P : Program) (f : Value) (args : List Value) (w : World) (K : Value → World → Prop) (_ : Tag K := .mk) : Prop :=
  match f with
  | .func (.func g) first captured => callE (entered P g) P g (first ++ args.toArray ++ captured) w K
  | .func (.yield l) first _ => Yld P l (first ++ args.toArray) w K
  | _ => False

def slV (sz : Nat) (x i : Value) (F : Prop) (K : Value → Prop) (_ : Tag F := .mk) (_ : Tag K := .mk) : Prop :=
  match x, i with
  | .slice a n _, .int _ i => if sz = 0 then False else (0 ≤ i ∧ i < n ∧ a.isSome = true) ∧ K (.pointer (sh a (i.toNat * sz)))
  | _, _ => F

def storeV (t : TypeId) (a x : Value) (F : Sem Value → Prop) (_ : Tag F := .mk) : Prop := ptrV a fun p => F (do Instr.storeAt t (.pointer p) x; pure undef)
def unV (op : UnOp) (x : Value) (F : Sem Value → Prop) (K : Value → Prop) (_ : Tag F := .mk) (_ : Tag K := .mk) : Prop :=
  match op, x with
  | .not, .bool b => K (.bool (!b))
  | .neg, .int k x => K (.int k (k.wrap (0 - x)))
  | op, v => F (Op.unary op v)
def convV (d e : TypeDesc) (s t : TypeId) (x : Value) (F : Sem Value → Prop) (K : Value → Prop) (_ : Tag F := .mk) (_ : Tag K := .mk) : Prop :=
  match d, e, x with
  | .int _, .int k, .int _ n => K (.int k (k.wrap n))
  | _, _, v => F (convert s t v)
def fldV (o : Option Nat) (x : Value) (K : Value → Prop) (_ : Tag K := .mk) : Prop :=
  ptrV x fun p => match o with
    | some off => p.isSome = true ∧ K (.pointer (sh p off))
    | none => False
def idxV (P : Program) (d : TypeDesc) (t : TypeId) (x i : Value) (F : Sem Value → Prop) (K : Value → Prop) (_ : Tag F := .mk) (_ : Tag K := .mk) : Prop :=
  match d with
  | .slice e => slV (tsz P e) x i (F (Instr.indexAt t x i)) K
  | _ => F (Instr.indexAt t x i)
def extO (o : Option Value) (K : Value → Prop) (_ : Tag K := .mk) : Prop := match o with
  | some v => K v
  | none => False
def extV (x : Value) (i : Nat) (K : Value → Prop) (_ : Tag K := .mk) : Prop :=
  match x with
  | .tuple vs => extO vs.toList[i]? K
  | _ => False
def mkiV (d : TypeDesc) (t : TypeId) (x : Value) (K : Value → Prop) (_ : Tag K := .mk) : Prop :=
  match d with
  | .interface _ => False
  | .invalid => False
  | _ => K (.iface t x)

/-- one operation that calls no function of Go -/
def valV (P : Program) (ρ : Operand → Value) (o : Op) (ty : TypeId) (G : Value → List Value → Prop) (F : Sem Value → Prop) (K : Value → Prop) (_ : Tag G := .mk) (_ : Tag F := .mk) (_ : Tag K := .mk) : Prop :=
  match o with
  | .move x => K (ρ x)
  | .assign x => K (ρ x)
  | .pick c a b => CondP (ρ c) (K (ρ a)) (K (ρ b))
  | .alloc e => F (Instr.alloc e true (.tuple #[]))
  | .box e x => F (Instr.box e (ρ x))
  | .build t ps => F (Instr.build t (ps.map fun (i, x) => (i, ρ x)))
  | .buildSlice t n ps => F (Instr.buildSlice t n (ps.map fun (i, x) => (i, ρ x)))
  | .load t a => ptrV (ρ a) fun p => F (Instr.loadAt t (.pointer p))
  | .store t a x => storeV t (ρ a) (ρ x) F
  | .nilCheck x => ptrV (ρ x) fun p => p.isSome = true ∧ K (.pointer p)
  | .binOp op t x y _ => binV P op t (ρ x) (ρ y) x y F K
  | .unOp op _ x => unV op (ρ x) F K
  | .convert s t x => convV (tk P s) (tk P t) s t (ρ x) F K
  | .makeSlice t l c => F (Instr.makeSlice t (ρ l) (ρ c))
  | .slice t x lo hi mx => F (Instr.sliceAt t (ρ x) (lo.map ρ) (hi.map ρ) (mx.map ρ))
  | .fieldAddr s x f => fldV (tfo P s f) (ρ x) K
  | .field t x f => F (Instr.field t (ρ x) f)
  | .indexAddr t x i => idxV P (tk P t) t (ρ x) (ρ i) F K
  | .index t x i => F (Instr.index t (ρ x) (ρ i))
  | .extract t i => extV (ρ t) i K
  | .makeFunc f first cap => K (.func f (first.map ρ) (cap.map ρ))
  | .makeInterface t x => mkiV (tk P t) t (ρ x) K
  | .typeAssert x t u ok => F (Instr.typeAssert (ρ x) t u ok)
  | .makeMap t r => F (Instr.makeMap t (r.map ρ))
  | .lookup t x i ok => F (Instr.lookup t (ρ x) (ρ i) ok)
  | .mapUpdate t m k x => F (do Instr.mapUpdate t (ρ m) (ρ k) (ρ x); pure undef)
  | .insert t m k x => F (do Instr.mapUpdate t (ρ m) (ρ k) (ρ x); pure undef)
  | .mapEntry t m k => F (Instr.mapEntry t (ρ m) (ρ k))
  | .entryStore t m s x => F (do Instr.entryStore t (ρ m) (ρ s) (ρ x); pure undef)
  | .range t x => F (Instr.range t (ρ x))
  | .next it s => F (Instr.next (ρ it) s ty)
  | .entry it => F (Instr.entry (ρ it))
  | .call c => (match c.callee with
    | .builtin b => builtinV P b c.argTypes ty (c.args.toList.map ρ) F K
    | .value f => G (ρ f) (c.args.toList.map ρ)
    | .invoke _ _ => False)
  | _ => False

def opV (P : Program) (ρ : Operand → Value) (o : Op) (ty : TypeId) (w : World) (K : Value → World → Prop) (_ : Tag K := .mk) : Prop :=
  valV P ρ o ty (fun f args => callV P f args w K) (fun s => RunV P s w K) (fun v => K v w)


theorem shiftV_run {P : Program} {op : BinOp} {k yk : IntKind} {x y : Int} {K : Value → Prop} (h : shiftV op k x y K) : ∃ v, (∀ w, (Op.shift op k x yk y).run P w = .ok v w) ∧ K v := by
  cases op <;> simp only [shiftV] at h <;> first | exact h.elim | skip
  · exact ⟨_, fun w => by simp [Op.shift, show ¬ y < 0 by omega], h.2⟩
  · exact ⟨_, fun w => by simp [Op.shift, show ¬ y < 0 by omega], h.2⟩

theorem intV_run {P : Program} {op : BinOp} {k : IntKind} {x y : Int} {t : TypeId} {K : Value → Prop} (h : intV op k x y K) : ∃ v, (∀ w, (binOp op t (.int k x) (.int k y)).run P w = .ok v w) ∧ K v := by
  cases op <;> simp only [intV, cmpV, bitV] at h <;> first
    | exact h.elim
    | (refine ⟨_, fun w => ?_, h⟩; simp only [binOp]; rw [if_neg (by simp)]; rfl)
    | (refine ⟨_, fun w => ?_, h.2⟩; simp [binOp, Op.intDiv, h.1]; done)

theorem tis_of {d : TypeDesc} {P : Program} {t : TypeId} (h : tk P t = d) (hd : tis d = true) : (underlying t).run P = fun w => .ok d w := by
  funext w; rw [← h]; exact run_underlying_tk (by rw [h]; exact hd) w

theorem RunV.of_ok {P : Program} {s : Sem Value} {w w' : World} {v : Value} {K : Value → World → Prop} (h : s.run P w = .ok v w') (hk : K v w') : RunV P s w K := ⟨v, w', h, hk⟩

/-- an operation's two ways: its value is reckoned; or its run is handed on -/
def Ways (P : Program) (x : Sem Next) (F : Sem Value → Prop) (K : Value → Prop) : Prop :=
  (∃ v, K v ∧ ∀ w, x.run P w = .ok (.value v) w) ∨
  (∃ s, F s ∧ ∀ w v w', s.run P w = .ok v w' → x.run P w = .ok (.value v) w' ∨ (x.run P w = .ok .skip w' ∧ v = undef))
theorem Ways.value {P : Program} {x : Sem Next} {F : Sem Value → Prop} {K : Value → Prop} {v : Value} (h : K v) (hr : ∀ w, x.run P w = .ok (.value v) w) : Ways P x F K := .inl ⟨v, h, hr⟩
theorem Ways.run {P : Program} {F : Sem Value → Prop} {K : Value → Prop} {s : Sem Value} (h : F s) : Ways P (do pure (.value (← s)) : Sem Next) F K :=
  .inr ⟨s, h, fun w v w' hr => .inl (by simp [hr])⟩
theorem Ways.val {P : Program} {F : Sem Value → Prop} {K : Value → Prop} {s : Sem Value} {v : Value} (h : K v) (hr : ∀ w, s.run P w = .ok v w) : Ways P (do pure (.value (← s)) : Sem Next) F K :=
  .inl ⟨v, h, fun w => by simp [hr w]⟩
theorem Ways.unit {P : Program} {F : Sem Value → Prop} {K : Value → Prop} {s : Sem Unit} (h : F (do s; pure undef)) : Ways P (do s; pure .skip : Sem Next) F K := by
  refine .inr ⟨_, h, fun w v w' hr => .inr ?_⟩
  simp only [Sem.run_bind] at hr
  cases hs : s.run P w with
  | halt x w'' => rw [hs] at hr; simp [Result.andThen] at hr
  | ok u w'' =>
    rw [hs] at hr
    simp [Result.andThen] at hr
    obtain ⟨rfl, rfl⟩ := hr
    simp [hs]

theorem run_equal_bool {P : Program} {t : TypeId} (w : World) (a b : Bool) (ht : tk P t = .bool) : (Op.equal t (.bool a) (.bool b)).run P w = .ok (a == b) w := by
  unfold Op.equal
  rw [show Op.maxDepth = 9999 + 1 from rfl, Op.equalIn]
  simp only [Sem.run_bind, tis_of ht rfl]
  rfl
theorem run_equal_ptr {P : Program} {t e : TypeId} (w : World) (a : Option Addr) (ht : tk P t = .pointer e) : (Op.equal t (.pointer a) (.pointer none)).run P w = .ok a.isNone w := by
  unfold Op.equal
  rw [show Op.maxDepth = 9999 + 1 from rfl, Op.equalIn]
  simp only [Sem.run_bind, tis_of ht rfl]
  cases a <;> rfl

theorem run_guarded {P : Program} {g : Sem Unit} {s : Sem Value} {w : World} {v : Value} (hg : g.run P w = .ok () w) (h : s.run P w = .ok v w) : (do g; s : Sem Value).run P w = .ok v w := by
  simp [Sem.run_bind, hg, h]

theorem binV_ways {P : Program} {op : BinOp} {t : TypeId} {x y : Value} {xo yo : Operand} {F : Sem Value → Prop} {K : Value → Prop} (h : binV P op t x y xo yo F K) :
    Ways P (do pure (.value (← (do eqGuard op t xo yo x y; binOp op t x y))) : Sem Next) F K := by
  unfold binV at h
  split at h
  · obtain ⟨v, hr, hk⟩ := shiftV_run (P := P) (yk := by assumption) h
    exact Ways.val hk fun w => run_guarded (by simp [eqGuard]) (by simpa [binOp] using hr w)
  · obtain ⟨v, hr, hk⟩ := shiftV_run (P := P) (yk := by assumption) h
    exact Ways.val hk fun w => run_guarded (by simp [eqGuard]) (by simpa [binOp] using hr w)
  · obtain ⟨rfl, h⟩ := h
    obtain ⟨v, hr, hk⟩ := intV_run (P := P) (t := t) h
    exact Ways.val hk fun w => run_guarded (by unfold eqGuard; split <;> simp) (hr w)
  · unfold bolV at h
    split at h
    rotate_left
    · exact h.elim
    rename_i ht
    exact Ways.val h fun w => run_guarded (by simp [eqGuard]) (by simp only [binOp, Sem.run_bind, run_equal_bool w _ _ ht]; rfl)
  · unfold bolV at h
    split at h
    rotate_left
    · exact h.elim
    rename_i ht
    exact Ways.val h fun w => run_guarded (by simp [eqGuard]) (by simp only [binOp, Sem.run_bind, run_equal_bool w _ _ ht]; rfl)
  · unfold pntV at h
    split at h
    rotate_left
    · exact h.elim
    rename_i ht
    exact Ways.val h fun w => run_guarded (by simp [eqGuard]) (by simp only [binOp, Sem.run_bind, run_equal_ptr w _ ht]; rfl)
  · unfold pntV at h
    split at h
    rotate_left
    · exact h.elim
    rename_i ht
    exact Ways.val h fun w => run_guarded (by simp [eqGuard]) (by simp only [binOp, Sem.run_bind, run_equal_ptr w _ ht]; rfl)
  · exact Ways.run h

theorem lenV_ways {P : Program} {ts : Array TypeId} {xs : List Value} {ty : TypeId} {F : Sem Value → Prop} {K : Value → Prop} (hts : ts.size ≠ 0) (h : lenV P (tk P (ts.getD 0 0)) ts xs ty F K) :
    Ways P (do pure (.value (← Builtin.len_ ts ty xs.toArray)) : Sem Next) F K := by
  obtain ⟨t, h0⟩ : ∃ t, ts[0]? = some t := by
    have : 0 < ts.size := by omega
    exact ⟨ts[0], by simp [this]⟩
  have h1 : ts.getD 0 0 = t := by simp [h0]
  unfold lenV at h
  rw [h1] at h
  split at h
  · rename_i ht
    exact Ways.val h fun w => by simp [Builtin.len_, h0, tis_of ht rfl]; rfl
  · rename_i ht
    exact Ways.val h fun w => by simp [Builtin.len_, h0, tis_of ht rfl]; rfl
  · rename_i ht
    exact Ways.val h fun w => by simp [Builtin.len_, h0, tis_of ht rfl]; rfl
  · exact Ways.run h

theorem builtinV_ways {P : Program} {b : Builtin} {ts : Array TypeId} {ty : TypeId} {args : List Value} {F : Sem Value → Prop} {K : Value → Prop} {cs : Array Bool} (h : builtinV P b ts ty args F K) :
    Ways P (invoke (.builtin b ts ty cs) args.toArray) F K := by
  cases b <;> simp only [builtinV] at h <;> first
    | exact h.elim
    | exact Ways.run h
    | (split at h
       · exact h.elim
       · rename_i hts
         exact lenV_ways hts h)

theorem ptrV_elim {v : Value} {K : Option Addr → Prop} (h : ptrV v K) : ∃ p, v = .pointer p ∧ K p := by
  cases v <;> first | exact h.elim | exact ⟨_, rfl, h⟩

theorem valV_ways {P : Program} {ρ : Operand → Value} {o : Oper} {G : Value → List Value → Prop} {F : Sem Value → Prop} {K : Value → Prop} (h : valV P ρ o.op o.type G F K) :
    Ways P (execOp ρ o) F K ∨ ∃ f args ts, o.op = .call ⟨.value f, args, ts⟩ ∧ G (ρ f) (args.toList.map ρ) := by
  by_cases hc : ∃ f args ts, o.op = .call ⟨.value f, args, ts⟩
  · obtain ⟨f, args, ts, ho⟩ := hc
    rw [ho] at h
    exact .inr ⟨f, args, ts, ho, h⟩
  refine .inl ?_
  obtain ⟨dst, op, type, pos, after, guard⟩ := o
  cases op <;> simp only [valV] at h <;> (try exact h.elim) <;> simp only [execOp]
  case move x => exact Ways.value h fun w => by simp
  case assign x => exact Ways.value h fun w => by simp
  case pick c a b =>
    obtain ⟨h1, h2, t, ht⟩ := h
    rw [ht] at h1 h2 ⊢
    cases t
    · exact Ways.value (h2 rfl) fun w => by simp [asBool]
    · exact Ways.value (h1 rfl) fun w => by simp [asBool]
  case alloc e => exact Ways.run h
  case box e x => exact Ways.run h
  case build t ps => exact Ways.run h
  case buildSlice t n ps => exact Ways.run h
  case load t a =>
    obtain ⟨p, hp, h⟩ := ptrV_elim h
    rw [hp]; exact Ways.run h
  case store t a x =>
    unfold storeV at h
    obtain ⟨p, hp, h⟩ := ptrV_elim h
    rw [hp]; exact Ways.unit h
  case nilCheck x =>
    obtain ⟨p, hp, h1, h⟩ := ptrV_elim h
    rw [hp]
    cases p with
    | none => cases h1
    | some p => exact Ways.value h fun w => by simp
  case binOp op t x y u => exact binV_ways h
  case unOp op t x =>
    unfold unV at h
    split at h
    · rename_i hx
      rw [hx]
      exact Ways.val h fun w => by simp [Op.unary]
    · rename_i hx
      rw [hx]
      exact Ways.val h fun w => by simp [Op.unary, Op.intArith]
    · exact Ways.run h
  case convert s t x =>
    unfold convV at h
    split at h
    · rename_i hs ht hx
      rw [hx]
      exact Ways.val h fun w => by simp [convert, tis_of hs rfl, tis_of ht rfl, Conv.intToInt]
    · exact Ways.run h
  case makeSlice t l c => exact Ways.run h
  case slice t x lo hi mx => exact Ways.run h
  case fieldAddr s x f =>
    unfold fldV at h
    obtain ⟨p, hp, h⟩ := ptrV_elim h
    rw [hp]
    split at h
    · rename_i off hoff
      obtain ⟨h1, h⟩ := h
      cases p with
      | none => cases h1
      | some p =>
        unfold tfo at hoff
        split at hoff
        · rename_i fs hs
          split at hoff
          · rename_i fd hfd
            split at hoff
            · cases hoff
            · rename_i hz
              cases hoff
              obtain ⟨i, hi, hsz, _⟩ := info_of_tsz hz
              have hz' : i.size ≠ 0 := by rw [hsz]; exact hz
              exact Ways.val h fun w => by simp [Instr.fieldAt, tis_of hs rfl, hfd, Instr.sureAddr, fieldPlace, sizeOf, typeInfo, hi, hz', sh]
          · cases hoff
        · cases hoff
    · exact h.elim
  case field t x f => exact Ways.run h
  case indexAddr t x i =>
    unfold idxV at h
    split at h
    · rename_i e ht
      unfold slV at h
      split at h
      · rename_i a n c k i hx hi
        split at h
        · exact h.elim
        · rename_i hz
          obtain ⟨⟨h1, h2, h3⟩, h⟩ := h
          cases a with
          | none => cases h3
          | some a =>
            rw [hx, hi]
            obtain ⟨inf, hinf, hsz, _⟩ := info_of_tsz hz
            exact Ways.val h fun w => by simp [Instr.indexAt, asIntOf, tis_of ht rfl, h1, h2, sizeOf, typeInfo, hinf, hsz, sh]
      · exact Ways.run h
    · exact Ways.run h
  case index t x i => exact Ways.run h
  case lookup t x i ok => exact Ways.run h
  case makeInterface t x =>
    have key : ∀ d, tk P t = d → tis d = true → (∀ ms, d ≠ .interface ms) → K (.iface t (ρ x)) → Ways P (do pure (.value (← Instr.makeInterface t (ρ x))) : Sem Next) F K := by
      intro d hd hi hn hk
      refine Ways.val hk fun w => ?_
      simp only [Instr.makeInterface, Sem.run_bind, tis_of hd hi]
      cases d <;> simp_all
    unfold mkiV at h
    generalize hd : tk P t = d at h
    cases d <;> first | exact h.elim | exact key _ hd rfl (by simp) h
  case makeFunc f first cap => exact Ways.val h fun w => by simp [Instr.makeFunc]
  case makeMap t r => exact Ways.run h
  case mapUpdate t m k x => exact Ways.unit h
  case insert t m k x => exact Ways.unit h
  case mapEntry t m k => exact Ways.run h
  case entryStore t m s x => exact Ways.unit h
  case range t x => exact Ways.run h
  case next it s => exact Ways.run h
  case entry it => exact Ways.run h
  case typeAssert x t u ok => exact Ways.run h
  case extract t i =>
    unfold extV at h
    split at h
    · rename_i vs hv
      rw [hv]
      unfold extO at h
      split at h
      · rename_i v hvi
        have hvi' : vs[i]? = some v := by rw [← hvi]; simp
        exact Ways.val h fun w => by simp [Instr.extract, hvi']
      · exact h.elim
    · exact h.elim
  case call c =>
    obtain ⟨callee, args, ts⟩ := c
    cases callee with
    | value f => exact (hc ⟨f, args, ts, rfl⟩).elim
    | builtin b =>
      have e : (args.toList.map ρ).toArray = args.map ρ := by rw [← Array.toList_map]
      have := builtinV_ways (cs := args.map fun | .const _ => true | _ => false) h
      rw [e] at this
      exact this
    | invoke r m => exact h.elim

/-- what an operation comes to -/
def StepP (P : Program) (s : Sem Next) (w : World) (K : Value → World → Prop) : Prop :=
  match s.run P w with
  | .ok (.value v) w' => K v w'
  | .ok .skip w' => K undef w'
  | .ok (.enter f args) w' => Ret P f args w' K
  | .ok (.round l fn tmps assign body) w' => RoundIn Fence.wide 0 P l fn tmps assign body w' fun e w'' => ∃ v, e = .returned v ∧ K v w''
  | _ => False

theorem callV_step {P : Program} {f : Value} {args : List Value} {w : World} {K : Value → World → Prop} (h : callV P f args w K) :
    StepP P (do let d ← Deferred.ofValue f args.toArray; invoke d.target d.args) w K := by
  unfold callV at h
  split at h
  · rename_i g first captured
    unfold callE at h
    have e : (do let d ← Deferred.ofValue (.func (.func g) first captured) args.toArray; invoke d.target d.args : Sem Next) = callFunc g (first ++ args.toArray ++ captured) := rfl
    rw [e]
    split at h
    · rename_i he
      unfold entered at he
      have hr : (callFunc g (first ++ args.toArray ++ captured)).run P w = .ok (.enter g (first ++ args.toArray ++ captured)) w := by
        cases hf : P.funcs[g]? with
        | none => rw [hf] at he; cases he
        | some fn =>
          rw [hf] at he
          simp only [Bool.and_eq_true, bne_iff_ne, ne_eq] at he
          obtain ⟨h1, h2⟩ := he
          have h3 : ¬ fn.body = none := by intro hb; rw [hb] at h2; cases h2
          simp [callFunc, hf, h1, h3]
      unfold StepP
      rw [hr]
      exact h
    · obtain ⟨v, w', hr, hk⟩ := h
      simp only [Sem.run_bind] at hr
      unfold StepP
      cases hc : (callFunc g (first ++ args.toArray ++ captured)).run P w with
      | halt x w'' => rw [hc] at hr; simp [Result.andThen] at hr
      | ok nx w'' =>
        rw [hc] at hr
        cases nx <;> simp [Result.andThen, stuck] at hr
        obtain ⟨rfl, rfl⟩ := hr
        exact hk
  · rename_i l first captured
    obtain ⟨fn, tmps, assign, body, hr, hround⟩ := h
    have e : (do let d ← Deferred.ofValue (.func (.yield l) first captured) args.toArray; invoke d.target d.args : Sem Next) = Instr.yield l (first ++ args.toArray) := rfl
    rw [e]
    unfold StepP
    rw [hr]
    exact hround
  · exact h.elim

theorem Ways.step {P : Program} {x : Sem Next} {w : World} {K : Value → World → Prop} (h : Ways P x (fun s => RunV P s w K) (fun v => K v w)) : StepP P x w K := by
  rcases h with ⟨v, hk, hr⟩ | ⟨s, ⟨v, w', hr, hk⟩, hs⟩
  · simp [StepP, hr w, hk]
  · rcases hs w v w' hr with e | ⟨e, rfl⟩
    · simp [StepP, e, hk]
    · simp [StepP, e, hk]

theorem opV_step {P : Program} {ρ : Operand → Value} {o : Oper} {w : World} {K : Value → World → Prop} (h : opV P ρ o.op o.type w K) : StepP P (execOp ρ o) w K := by
  rcases valV_ways h with h | ⟨f, args, ts, ho, h⟩
  · exact h.step
  · obtain ⟨dst, op, type, pos, after, guard⟩ := o
    simp only at ho
    subst ho
    have e : (args.toList.map ρ).toArray = args.map ρ := by rw [← Array.toList_map]
    have := callV_step h
    rw [e] at this
    exact this

/-- in whatever world of the kind I: one value, and the world is left as it is -/
def FloatP (P : Program) (s : Sem Value) (I : World → Prop) (K : Value → Prop) (_ : Tag K := .mk) (_ : Tag I := .mk) : Prop := ∃ v, (∀ w, I w → s.run P w = .ok v w) ∧ K v
def floatV (P : Program) (ρ : Operand → Value) (o : Op) (ty : TypeId) (I : World → Prop) (K : Value → Prop) (_ : Tag K := .mk) (_ : Tag I := .mk) : Prop := valV P ρ o ty (fun _ _ => False) (fun s => FloatP P s I K) K
theorem floatV_run {P : Program} {ρ : Operand → Value} {o : Oper} {I : World → Prop} {K : Value → Prop} (h : floatV P ρ o.op o.type I K) :
    ∃ v, (∀ w, I w → (execOp ρ o).run P w = .ok (.value v) w ∨ ((execOp ρ o).run P w = .ok .skip w ∧ v = undef)) ∧ K v := by
  rcases valV_ways h with h | ⟨_, _, _, _, h⟩
  rotate_left
  · exact h.elim
  rcases h with ⟨v, hk, hr⟩ | ⟨s, ⟨v, hr, hk⟩, hs⟩
  · exact ⟨v, fun w _ => .inl (hr w), hk⟩
  · exact ⟨v, fun w hw => hs w v w (hr w hw), hk⟩
end Go.E

set_option linter.unusedSimpArgs false
set_option linter.unusedVariables false
set_option linter.unusedSectionVars false
namespace Go.E

/-- the fence of a round of a range over a function, or of none -/
def fz (ro : Option Nat) : Fence := { Fence.wide with round := ro }
theorem fz_fn {ro : Option Nat} (f : FuncId) : (fz ro).fn f := trivial
theorem fz_depth {ro : Option Nat} {p : Prop} : (fz ro).depth.isSome = true → p := fun h => by cases h
/-- a mark among the deferred calls -/
def markOf (r : Nat) : Deferred := { target := .collected r, args := #[] }

/-- the state of a frame: the marks; slots below n in loc, the others of late in tmp; m slots in all -/
structure Fits' (n m : Nat) (ds : List Nat) (loc : List Value) (tmp : List (Nat × Value)) (a : Act) : Prop where
  base : ∃ base, Agree n base loc tmp a
  size : a.tmps.size = m
  defers : a.defers = ds.map markOf

theorem Fits'.clear {n m : Nat} {ds : List Nat} {loc : List Value} {tmp : List (Nat × Value)} {a : Act} (h : Fits' n m ds loc tmp a) : Agree n (fun t => a.tmps.getD t undef) loc [] a := by
  obtain ⟨_, h1, h2, h3, _⟩ := h.base
  exact ⟨h1, h2, h3, fun t _ => rfl⟩
theorem Fits'.cleared {n m : Nat} {ds : List Nat} {loc : List Value} {tmp : List (Nat × Value)} {a : Act} (h : Fits' n m ds loc tmp a) : Fits' n m ds loc [] a :=
  ⟨⟨_, h.clear⟩, h.size, h.defers⟩

/-! ### Operations in a row -/
def gvalo (o : Option Oper) (look : Operand → Value) : Value :=
  match o with
  | some o => (match o.dst with | some t => look (.tmp t) | none => undef)
  | none => undef
def gval (ops : List Oper) (j : Nat) (look : Operand → Value) : Value := gvalo ops[j]? look
/-- an operation under its guard: A: it runs; B: it does not -/
def grdV (ops : List Oper) (o : Oper) (look : Operand → Value) (A B : Prop) (_ : Tag A := .mk) (_ : Tag B := .mk) : Prop :=
  match o.guard with
  | none => A
  | some (j, want) => GuardP (gval ops j look) want A B

def opsV (P : Program) (n : Nat) (base : Nat → Value) (ops : List Oper) (ds : List Nat) : List Oper → List Value → List (Nat × Value) → World → (K : Kont) → (_ : Tag K := .mk) → Prop
  | [], loc, tmp, w, K, _ => K ds loc tmp w
  | o :: r, loc, tmp, w, K, _ =>
    grdV ops o (ev n base loc tmp)
      (opV P (ev n base loc tmp) o.op o.type w fun v w' => putK n o.dst v loc tmp fun loc tmp => opsV P n base ops ds r loc tmp w' K)
      (putK n o.dst undef loc tmp fun loc tmp => opsV P n base ops ds r loc tmp w K)

theorem grdV_wanted {ops : List Oper} {o : Oper} {a : Act} {A B : Prop} (h : grdV ops o a.eval A B) :
    (Region.wanted o (yielded ops.toArray a.tmps) = true ∧ A) ∨ (Region.wanted o (yielded ops.toArray a.tmps) = false ∧ B) := by
  unfold grdV at h
  unfold Region.wanted
  cases hg : o.guard with
  | none => rw [hg] at h; exact .inl ⟨rfl, h⟩
  | some jw =>
    obtain ⟨j, want⟩ := jw
    rw [hg] at h
    simp only at h ⊢
    obtain ⟨h1, h2⟩ := h
    have key : (yielded ops.toArray a.tmps j = some want) ↔ gval ops j a.eval = .bool want := by
      unfold yielded gval gvalo
      cases ho : ops[j]? with
      | none => simp [ho, Go.undef]
      | some o' =>
        cases hd : o'.dst with
        | none => simp [ho, hd, Go.undef]
        | some t =>
          simp only [List.getElem?_toArray, ho, Option.bind_some, hd, Act.eval]
          cases ht : a.tmps[t]? with
          | none => simp [ht, Go.undef]
          | some v => cases v <;> simp [ht]
    by_cases hk : gval ops j a.eval = .bool want
    · refine .inl ⟨?_, h1 hk⟩
      rw [key.2 hk]; simp
    · refine .inr ⟨?_, h2 hk⟩
      have : yielded ops.toArray a.tmps j ≠ some want := fun e => hk (key.1 e)
      simpa using this

theorem StepP.plain {P : Program} {ρ : Operand → Value} {o : Oper} {w : World} {K : Value → World → Prop} (h : StepP P (execOp ρ o) w K) : ∀ c, o.op ≠ .defer c := by
  intro c hc
  obtain ⟨dst, op, type, pos, after, guard⟩ := o
  simp only at hc
  subst hc
  simp only [StepP, execOp, Sem.run_bind] at h
  cases hr : (resolve ρ c type).run P w with
  | ok d w' => rw [hr] at h; exact h
  | halt x w' => rw [hr] at h; exact h

theorem StepP.wp {P : Program} {ro : Option Nat} {o : Oper} {a : Act} {w : World} {K : Value → World → Prop} {next : Act → World → Prop} {Q : Exit → Act → World → Prop} (h : StepP P (execOp a.eval o) w K)
    (hk : ∀ v w', K v w' → next (a.put o.dst v) w') : o.wpIn (fz ro) 0 P a w next Q := by
  refine ⟨fun f _ => fz_fn f, ?_⟩
  rw [Oper.semAt_eq _ _ _ h.plain]
  unfold StepP at h
  unfold Oper.uponIn
  generalize (execOp a.eval o).run P w = r at *
  cases r with
  | halt x w' => exact h.elim
  | ok nx w' =>
    cases nx <;> first | exact h.elim | exact hk _ _ h | skip
    · refine ⟨fz_depth, ?_⟩
      have := callsIn_wide (n := 0 - 1).2 h
      exact CallsIn.mono (F := fz ro) this fun e w'' ⟨v, he, hv⟩ => by subst he; exact hk _ _ hv
    · refine ⟨fz_depth, ?_⟩
      exact RoundIn.mono (F := fz ro) h fun e w'' ⟨v, he, hv⟩ => by subst he; exact hk _ _ hv

def dstIn (m : Nat) (o : Oper) : Bool := match o.dst with
  | some t => decide (t < m)
  | none => true
theorem dstIn_spec {m : Nat} {o : Oper} (h : dstIn m o = true) : ∀ t, o.dst = some t → t < m := by
  intro t ht
  unfold dstIn at h
  rw [ht] at h
  simpa using h

theorem opsV_list {P : Program} {ro : Option Nat} {n m : Nat} {base : Nat → Value} {ops : List Oper} {ds : List Nat} {K : Kont} {Q : Exit → Act → World → Prop} :
    ∀ (l : List Oper) (loc : List Value) (tmp : List (Nat × Value)) (w : World) (a : Act), opsV P n base ops ds l loc tmp w K → Agree n base loc tmp a → a.tmps.size = m → a.defers = ds.map markOf → l.all (dstIn m) = true →
      (∀ loc tmp w a, Agree n base loc tmp a → a.tmps.size = m → a.defers = ds.map markOf → K ds loc tmp w → Q .normal a w) → wpListIn (fz ro) 0 P ops.toArray Q l a w
  | [], loc, tmp, w, a, h, ha, hs, hd, _, hK => hK loc tmp w a ha hs hd h
  | o :: r, loc, tmp, w, a, h, ha, hs, hd, hall, hK => by
    simp only [List.all_cons, Bool.and_eq_true] at hall
    obtain ⟨hd1, hall⟩ := hall
    have hdst : ∀ t, o.dst = some t → t < a.tmps.size := by rw [hs]; exact dstIn_spec hd1
    have hnext : ∀ v w', (putK n o.dst v loc tmp fun loc tmp => opsV P n base ops ds r loc tmp w' K) → wpListIn (fz ro) 0 P ops.toArray Q r (a.put o.dst v) w' := by
      intro v w' hv
      obtain ⟨loc', tmp', ha', hv'⟩ := ha.put hdst v hv
      exact opsV_list r loc' tmp' w' _ hv' ha' (by cases o.dst <;> simp [Act.put, hs]) (by cases o.dst <;> simp [Act.put, hd]) hall hK
    simp only [opsV] at h
    rw [← ha.ev] at h
    unfold wpListIn
    rcases grdV_wanted h with ⟨hw, h⟩ | ⟨hw, h⟩
    · rw [if_pos hw]
      exact (opV_step h).wp hnext
    · rw [if_neg (by rw [hw]; simp)]
      exact ⟨fun f _ => fz_fn f, hnext _ _ h⟩

/-! ### Regions that draw their order -/
section draw
variable {P : Program} {ro : Option Nat} {ops : Array Oper} {Q : Exit → Act → World → Prop} {I : World → Prop}

/-- whatever order is drawn: and I holds all the way -/
def AnyI (ro : Option Nat) (P : Program) (ops : Array Oper) (Q : Exit → Act → World → Prop) (cl : Nat) (I : World → Prop) : Nat → Array Bool → Act → World → Prop
  | 0, listed, a, w => (listed.getD cl false = false → I w) ∧ Region.ready .any ops listed = [] ∧ Q .normal a w
  | f + 1, listed, a, w => (listed.getD cl false = false → I w) ∧ (Region.ready .any ops listed = [] → Q .normal a w) ∧
    ∀ i ∈ Region.ready .any ops listed, wpOpIn (fz ro) 0 P ops Q i (AnyI ro P ops Q cl I f (listed.setIfInBounds i true)) a w

theorem AnyI.any {cl : Nat} : ∀ (f : Nat) (listed : Array Bool) (a : Act) (w : World), AnyI ro P ops Q cl I f listed a w → wpAnyIn (fz ro) 0 P .any ops Q f listed a w
  | 0, _, _, _, h => h.2
  | f + 1, _, _, _, h => ⟨h.2.1, fun i hi => wpOpIn_mono (fun a w => AnyI.any f _ a w) (h.2.2 i hi)⟩
theorem AnyI.holds {cl : Nat} : ∀ {f : Nat} {listed : Array Bool} {a : Act} {w : World}, AnyI ro P ops Q cl I f listed a w → listed.getD cl false = false → I w
  | 0, _, _, _, h => h.1
  | _ + 1, _, _, _, h => h.1

/-- in whatever world of the kind I the operation gives v and leaves the world as it is -/
def GivesI (P : Program) (ops : Array Oper) (I : World → Prop) (o : Oper) (v : Value) (a : Act) : Prop :=
  (Region.wanted o (yielded ops a.tmps) = true ∧ ∀ w, I w → (execOp a.eval o).run P w = .ok (.value v) w ∨ ((execOp a.eval o).run P w = .ok .skip w ∧ v = undef)) ∨
  (Region.wanted o (yielded ops a.tmps) = false ∧ v = undef)

theorem GivesI.wpOp {i : Nat} {o : Oper} {v : Value} {a : Act} (hi : ops[i]? = some o) (hy : GivesI P ops I o v a) {K : Act → World → Prop} {w : World} (hI : I w) (h : K (a.put o.dst v) w) :
    wpOpIn (fz ro) 0 P ops Q i K a w := by
  unfold wpOpIn
  simp only [hi]
  rcases hy with ⟨hw, hv⟩ | ⟨hw, rfl⟩
  · rw [if_pos hw]
    refine (StepP.wp (K := fun v' w' => v' = v ∧ w' = w) ?_ fun v' w' ⟨e1, e2⟩ => by rw [e1, e2]; exact h)
    unfold StepP
    rcases hv w hI with e | ⟨e, rfl⟩ <;> rw [e] <;> exact ⟨rfl, rfl⟩
  · rw [if_neg (by rw [hw]; simp)]; exact ⟨fun f _ => fz_fn f, h⟩

theorem GivesI.of_same {o : Oper} {v : Value} {a a' : Act} (hy : GivesI P ops I o v a) (he : execOp a'.eval o = execOp a.eval o)
    (hw : Region.wanted o (yielded ops a'.tmps) = Region.wanted o (yielded ops a.tmps)) : GivesI P ops I o v a' := by
  unfold GivesI at *
  rw [he, hw]
  exact hy

/-- another operation may come first: apart from ours -/
theorem wpOp_swap {j : Nat} {oi oj : Oper} {v : Value} (hj : ops[j]? = some oj) (hap : oi.apart ops oj = true)
    (hsi : ∀ cs b, oi.op ≠ .select cs b) (hsj : ∀ cs b, oj.op ≠ .select cs b) (hdj : ∀ c, oj.op ≠ .defer c) (hQ : ∀ c a w, Q (.panic c) (a.put oi.dst v) w → Q (.panic c) a w)
    {K : Act → World → Prop} {a : Act} {w : World} (hy : GivesI P ops I oi v a) (h : wpOpIn (fz ro) 0 P ops Q j K (a.put oi.dst v) w) :
    wpOpIn (fz ro) 0 P ops Q j (fun a' w' => GivesI P ops I oi v a' ∧ K (a'.put oi.dst v) w') a w := by
  obtain ⟨h1, h2, h3⟩ := Oper.apart_spec hap
  have keep : ∀ u, GivesI P ops I oi v (a.put oj.dst u) := fun u => hy.of_same (execOp_put oi hsi a oj.dst u h3) (wanted_put oi a oj.dst u h3)
  have keepD : ∀ d u, GivesI P ops I oi v (({ a with defers := d :: a.defers } : Act).put oj.dst u) := fun d u =>
    (hy.of_same (a' := { a with defers := d :: a.defers }) rfl rfl).of_same (execOp_put oi hsi _ oj.dst u h3) (wanted_put oi _ oj.dst u h3)
  have he := execOp_put (ops := ops) oj hsj a oi.dst v h1
  have hw := wanted_put (ops := ops) oj a oi.dst v h1
  unfold wpOpIn at h ⊢
  simp only [hj] at h ⊢
  rw [hw] at h
  by_cases hwant : Region.wanted oj (yielded ops a.tmps) = true
  · rw [if_pos hwant] at h ⊢
    refine ⟨fun f _ => fz_fn f, ?_⟩
    have h := h.2
    rw [Oper.semAt_eq _ _ _ hdj] at h ⊢
    rw [he] at h
    generalize (execOp a.eval oj).run P w = r at h ⊢
    cases r with
    | halt x w' => cases x <;> first | exact hQ _ _ _ h | exact h
    | ok nx w' =>
      cases nx <;> first | exact h.elim | skip
      · exact ⟨keep _, by rw [← Act.put_comm a v _ h2]; exact h⟩
      · exact ⟨keep _, by rw [← Act.put_comm a v _ h2]; exact h⟩
      · refine ⟨h.1, CallsIn.mono h.2 fun e w'' hr => ?_⟩
        cases e with
        | returned u => exact ⟨keep u, by rw [← Act.put_comm a v u h2]; exact hr⟩
        | panicked c => exact hQ _ _ _ hr
        | outgrown => exact hr
      · refine ⟨h.1, RoundIn.mono h.2 fun e w'' hr => ?_⟩
        cases e with
        | returned u => exact ⟨keep u, by rw [← Act.put_comm a v u h2]; exact hr⟩
        | panicked c => exact hQ _ _ _ hr
        | outgrown => exact hr
      · refine ⟨keepD _ _, ?_⟩
        rw [← Act.put_comm _ v undef h2, ← Act.put_defers]
        exact h
      · exact ⟨h.1, RowsIn.mono h.2 fun u w'' hr => ⟨keep u, by rw [← Act.put_comm a v u h2]; exact hr⟩⟩
  · rw [if_neg hwant] at h ⊢
    exact ⟨fun f _ => fz_fn f, keep _, by rw [← Act.put_comm a v undef h2]; exact h.2⟩

theorem GivesI.mono {I J : World → Prop} {o : Oper} {v : Value} {a : Act} (hy : GivesI P ops I o v a) (h : ∀ w, J w → I w) : GivesI P ops J o v a := by
  rcases hy with ⟨h1, h2⟩ | h2
  · exact .inl ⟨h1, fun w hw => h2 w (h w hw)⟩
  · exact .inr h2

theorem AnyI_first {J : World → Prop} {cl i : Nat} {oi : Oper} {v : Value}
    (hcb : (∀ w, J w) ∨ ((∀ w, I w → J w) ∧ ∀ oc, ops[cl]? = some oc → ∃ e ∈ oc.after, Region.binds .any e = true ∧ e.on = i)) (hci : cl ≠ i) (hi : ops[i]? = some oi) (hsel : ∀ (j : Nat) (o : Oper) cs b, ops[j]? = some o → o.op ≠ .select cs b) (hdef : ∀ (j : Nat) (o : Oper) c, ops[j]? = some o → o.op ≠ .defer c)
    (hQ : ∀ c a w, Q (.panic c) (a.put oi.dst v) w → Q (.panic c) a w) :
    ∀ (f : Nat) (listed : Array Bool) (a : Act) (w : World),
      (∀ j oj, ops[j]? = some oj → j ≠ i → listed.getD j true = false → (∀ e ∈ oj.after, Region.binds .any e = true → e.on ≠ i) → oi.apart ops oj = true) →
      ((∀ w, J w) ∨ listed.getD cl false = false) → i ∈ Region.ready .any ops listed → GivesI P ops J oi v a → AnyI ro P ops Q cl I f (listed.setIfInBounds i true) (a.put oi.dst v) w → AnyI ro P ops Q cl I (f + 1) listed a w := by
  have hIJ : ∀ (listed : Array Bool) (w : World), ((∀ w, J w) ∨ listed.getD cl false = false) → (listed.getD cl false = false → I w) → J w := by
    intro listed w hc h
    rcases hc with h1 | h1
    · exact h1 w
    · rcases hcb with h2 | h2
      · exact h2 w
      · exact h2.1 w (h h1)
  intro f
  induction f with
  | zero =>
    intro listed a w _ hc hr hy H
    have hI : listed.getD cl false = false → I w := fun hl => H.1 (by rw [getD_set_ne false (Ne.symm hci)]; exact hl)
    refine ⟨hI, fun h => (by rw [h] at hr; cases hr), fun j hj => ?_⟩
    by_cases hji : j = i
    · subst hji; exact hy.wpOp hi (hIJ _ w hc hI) H
    · have := ready_mono hj hji
      rw [H.2.1] at this
      cases this
  | succ f ih =>
    intro listed a w hfree hc hr hy H
    have hI : listed.getD cl false = false → I w := fun hl => H.1 (by rw [getD_set_ne false (Ne.symm hci)]; exact hl)
    refine ⟨hI, fun h => (by rw [h] at hr; cases hr), fun j hj => ?_⟩
    by_cases hji : j = i
    · subst hji; exact hy.wpOp hi (hIJ _ w hc hI) H
    · obtain ⟨hjun, oj, hoj, hall⟩ := mem_ready.1 hj
      have hun : listed.getD i true = false := (mem_ready.1 hr).1
      have hnot : ∀ e ∈ oj.after, Region.binds .any e = true → e.on ≠ i := by
        intro e he hb heq
        have h1 := hall e he hb
        rw [heq] at h1
        by_cases hl : i < listed.size
        · simp [hl] at h1 hun; rw [hun] at h1; cases h1
        · simp [Array.getElem?_eq_none (Nat.le_of_not_lt hl)] at h1
      have h2 := wpOp_swap hoj (hfree j oj hoj hji hjun hnot) (fun cs b => hsel i oi cs b hi) (fun cs b => hsel j oj cs b hoj) (fun c => hdef j oj c hoj) hQ hy (H.2.2 j (ready_mono hj hji))
      have hc' : (∀ w, J w) ∨ (listed.setIfInBounds j true).getD cl false = false := by
        rcases hc with h1 | h1
        · exact .inl h1
        · rcases hcb with h3 | h3
          · exact .inl h3
          · refine .inr ?_
            have hjc : j ≠ cl := by
              rintro rfl
              obtain ⟨e, he, hb, heq⟩ := h3.2 oj hoj
              exact hnot e he hb heq
            rw [getD_set_ne false hjc]; exact h1
      refine wpOpIn_mono (fun a' w' h3 => ih (listed.setIfInBounds j true) a' w' ?_ hc' (ready_mono hr (Ne.symm hji)) h3.1 ?_) h2
      · intro k ok hk hki hkun hno
        refine hfree k ok hk hki ?_ hno
        by_cases hjk : j = k
        · subst hjk; exact hjun
        · rw [getD_set_ne true hjk] at hkun; exact hkun
      · rw [Array.setIfInBounds_comm _ _ hji]
        exact h3.2

/-- an operation that never looks at the world -/
def pureOp : Op → Bool
  | .move _ => true
  | .assign _ => true
  | .pick _ _ _ => true
  | .nilCheck _ => true
  | .fieldAddr _ _ _ => true
  | .extract _ _ => true
  | .makeFunc _ _ _ => true
  | .makeInterface _ _ => true
  | _ => false
theorem floatV_pure {ρ : Operand → Value} {o : Op} {ty : TypeId} {I : World → Prop} {K : Value → Prop} (hp : pureOp o = true) (h : floatV P ρ o ty I K) : floatV P ρ o ty (fun _ => True) K := by
  cases o <;> first | exact h | cases hp

def noDefer (ops : Array Oper) : Bool := ops.all fun o => match o.op with | .defer _ => false | _ => true
theorem noDefer_spec {ops : Array Oper} (h : noDefer ops = true) (j : Nat) (o : Oper) (c : Call) (ho : ops[j]? = some o) : o.op ≠ .defer c := by
  intro heq
  have := Array.all_eq_true_iff_forall_mem.1 h o (Array.mem_of_getElem? ho)
  simp [heq] at this

/-- a plan: in which order the operations are looked at; true: it floats -/
def planOK (ops : Array Oper) (cl : Nat) : List (Nat × Bool) → Array Bool → Bool
  | [], listed => (Region.ready .any ops listed).isEmpty
  | (i, fl) :: r, listed =>
    (if fl then (Region.ready .any ops listed).contains i && Region.free .any ops listed i && (cl != i && ((match ops[i]? with | none => false | some oi => pureOp oi.op) || (!(listed.getD cl false) && (match ops[cl]? with | none => true | some oc => oc.after.any fun e => Region.binds .any e && e.on == i))))
     else Region.ready .any ops listed == [i] && (if r.isEmpty then i == cl && decide (i < listed.size) else !(listed.getD cl false) && i != cl)) &&
    planOK ops cl r (listed.setIfInBounds i true)
/-- which operation ends the region: behind it nothing floats -/
def clOf (ops : Array Oper) (pl : List (Nat × Bool)) : Nat := match pl.getLast? with
  | some (i, false) => i
  | _ => ops.size

def planO (n : Nat) (base : Nat → Value) (ops : List Oper) (o : Option Oper) (loc : List Value) (tmp : List (Nat × Value)) (A : Oper → Prop) (B : Oper → Prop) (_ : Tag A := .mk) (_ : Tag B := .mk) : Prop :=
  match o with
  | none => False
  | some o => grdV ops o (ev n base loc tmp) (A o) (B o)
def planV (P : Program) (n : Nat) (base : Nat → Value) (ops : List Oper) (I : World → Prop) (ds : List Nat) : List (Nat × Bool) → List Value → List (Nat × Value) → World → (K : Kont) → (_ : Tag K := .mk) → (_ : Tag I := .mk) → Prop
  | [], loc, tmp, w, K, _, _ => K ds loc tmp w
  | (i, true) :: r, loc, tmp, w, K, _, _ => planO n base ops ops[i]? loc tmp
    (fun o => floatV P (ev n base loc tmp) o.op o.type I fun v => putK n o.dst v loc tmp fun loc tmp => planV P n base ops I ds r loc tmp w K)
    (fun o => putK n o.dst undef loc tmp fun loc tmp => planV P n base ops I ds r loc tmp w K)
  | [(i, false)], loc, tmp, w, K, _, _ => planO n base ops ops[i]? loc tmp
    (fun o => opV P (ev n base loc tmp) o.op o.type w fun v w' => putK n o.dst v loc tmp fun loc tmp => K ds loc tmp w')
    (fun o => putK n o.dst undef loc tmp fun loc tmp => K ds loc tmp w)
  | (i, false) :: j :: r, loc, tmp, w, K, _, _ => planO n base ops ops[i]? loc tmp
    (fun o => opV P (ev n base loc tmp) o.op o.type w fun v w' => I w' ∧ putK n o.dst v loc tmp fun loc tmp => planV P n base ops I ds (j :: r) loc tmp w' K)
    (fun o => putK n o.dst undef loc tmp fun loc tmp => planV P n base ops I ds (j :: r) loc tmp w K)

theorem planV_any {n m cl : Nat} {base : Nat → Value} {l : List Oper} {ds : List Nat} {K : Kont} (hsel : Region.noSelect l.toArray = true) (hdef : noDefer l.toArray = true) (hQ : ∀ c (a a' : Act) w, Q (.panic c) a w → Q (.panic c) a' w) (hall : l.all (dstIn m) = true) :
    ∀ (pl : List (Nat × Bool)) (listed : Array Bool) (loc : List Value) (tmp : List (Nat × Value)) (w : World) (a : Act), planV P n base l I ds pl loc tmp w K → planOK l.toArray cl pl listed = true → (listed.getD cl false = false → I w) →
      Agree n base loc tmp a → a.tmps.size = m → a.defers = ds.map markOf →
      (∀ loc tmp w a, Agree n base loc tmp a → a.tmps.size = m → a.defers = ds.map markOf → K ds loc tmp w → Q .normal a w) → AnyI ro P l.toArray Q cl I pl.length listed a w
  | [], listed, loc, tmp, w, a, h, hpl, hI, ha, hs, hd, hK => by
    simp only [planOK, List.isEmpty_iff] at hpl
    exact ⟨hI, hpl, hK loc tmp w a ha hs hd h⟩
  | (i, fl) :: r, listed, loc, tmp, w, a, h, hpl, hI, ha, hs, hd, hK => by
    rw [planOK, Bool.and_eq_true] at hpl
    obtain ⟨hpl1, hpl2⟩ := hpl
    cases ho : l[i]? with
    | none => cases fl <;> cases r <;> (simp only [planV, ho, planO] at h)
    | some o =>
      have hoi : l.toArray[i]? = some o := by simpa using ho
      have hmem : o ∈ l := List.mem_of_getElem? ho
      have hd1 : dstIn m o = true := List.all_eq_true.1 hall o hmem
      have hdst : ∀ t, o.dst = some t → t < a.tmps.size := by rw [hs]; exact dstIn_spec hd1
      have hnext : ∀ v w', ((listed.setIfInBounds i true).getD cl false = false → I w') → (putK n o.dst v loc tmp fun loc tmp => planV P n base l I ds r loc tmp w' K) → AnyI ro P l.toArray Q cl I r.length (listed.setIfInBounds i true) (a.put o.dst v) w' := by
        intro v w' hI' hv
        obtain ⟨loc', tmp', ha', hv'⟩ := ha.put hdst v hv
        exact planV_any hsel hdef hQ hall r _ loc' tmp' w' _ hv' hpl2 hI' ha' (by cases o.dst <;> simp [Act.put, hs]) (by cases o.dst <;> simp [Act.put, hd]) hK
      cases fl with
      | true =>
        simp only [planV, ho, planO] at h
        rw [← ha.ev] at h
        simp only [if_true, Bool.and_eq_true, List.contains_iff_mem, Bool.or_eq_true, Bool.not_eq_true', bne_iff_ne, ne_eq, hoi] at hpl1
        obtain ⟨⟨hp1, hp2⟩, hp4, hp3⟩ := hpl1
        have hnext' : ∀ v, (putK n o.dst v loc tmp fun loc tmp => planV P n base l I ds r loc tmp w K) → AnyI ro P l.toArray Q cl I r.length (listed.setIfInBounds i true) (a.put o.dst v) w := fun v hk =>
          hnext v w (fun hl => hI (by rw [getD_set_ne false (Ne.symm hp4)] at hl; exact hl)) hk
        rcases hp3 with hp3 | ⟨hp3, hp5⟩
        · have hgive : ∃ v, GivesI P l.toArray (fun _ => True) o v a ∧ putK n o.dst v loc tmp fun loc tmp => planV P n base l I ds r loc tmp w K := by
            rcases grdV_wanted h with ⟨hw, h⟩ | ⟨hw, h⟩
            · obtain ⟨v, hv, hk⟩ := floatV_run (floatV_pure hp3 h)
              exact ⟨v, .inl ⟨hw, hv⟩, hk⟩
            · exact ⟨undef, .inr ⟨hw, rfl⟩, h⟩
          obtain ⟨v, hg, hk⟩ := hgive
          exact AnyI_first (.inl fun _ => trivial) hp4 hoi (Region.noSelect_spec hsel) (noDefer_spec hdef) (fun c a w => hQ c _ _ w) r.length listed a w (fun j oj hj hne hun hno => Region.free_spec hoi hp2 j oj hj hne hun hno) (.inl fun _ => trivial) hp1 hg (hnext' v hk)
        · have hgive : ∃ v, GivesI P l.toArray I o v a ∧ putK n o.dst v loc tmp fun loc tmp => planV P n base l I ds r loc tmp w K := by
            rcases grdV_wanted h with ⟨hw, h⟩ | ⟨hw, h⟩
            · obtain ⟨v, hv, hk⟩ := floatV_run h
              exact ⟨v, .inl ⟨hw, hv⟩, hk⟩
            · exact ⟨undef, .inr ⟨hw, rfl⟩, h⟩
          obtain ⟨v, hg, hk⟩ := hgive
          refine AnyI_first (.inr ⟨fun _ h => h, fun oc hoc => ?_⟩) hp4 hoi (Region.noSelect_spec hsel) (noDefer_spec hdef) (fun c a w => hQ c _ _ w) r.length listed a w (fun j oj hj hne hun hno => Region.free_spec hoi hp2 j oj hj hne hun hno) (.inr hp3) hp1 hg (hnext' v hk)
          rw [hoc] at hp5
          obtain ⟨k, hk, hk'⟩ := Array.any_eq_true.1 hp5
          simp only [Bool.and_eq_true, beq_iff_eq] at hk'
          exact ⟨_, Array.getElem_mem hk, hk'⟩
      | false =>
        simp only [Bool.false_eq_true, if_false, beq_iff_eq, Bool.and_eq_true] at hpl1
        obtain ⟨hp1, hp2⟩ := hpl1
        refine ⟨hI, fun e => (by rw [e] at hp1; cases hp1), fun j hj => ?_⟩
        rw [hp1, List.mem_singleton] at hj
        subst hj
        unfold wpOpIn
        simp only [hoi]
        cases r with
        | nil =>
          simp only [List.isEmpty_nil, if_true, Bool.and_eq_true, beq_iff_eq, decide_eq_true_eq] at hp2
          have hlst : ∀ w', (listed.setIfInBounds j true).getD cl false = false → I w' := by
            intro w' hf
            rw [← hp2.1] at hf
            simp [Array.getD, hp2.2] at hf
          simp only [planV, ho, planO] at h
          rw [← ha.ev] at h
          rcases grdV_wanted h with ⟨hw, h⟩ | ⟨hw, h⟩
          · rw [if_pos hw]
            exact (opV_step h).wp fun v w' hk => hnext v w' (hlst w') (by simpa only [planV] using hk)
          · rw [if_neg (by rw [hw]; simp)]
            exact ⟨fun f _ => fz_fn f, hnext _ _ (hlst w) (by simpa only [planV] using h)⟩
        | cons k r =>
          simp only [List.isEmpty_cons, Bool.false_eq_true, if_false, Bool.and_eq_true, Bool.not_eq_true', bne_iff_ne, ne_eq] at hp2
          simp only [planV, ho, planO] at h
          rw [← ha.ev] at h
          rcases grdV_wanted h with ⟨hw, h⟩ | ⟨hw, h⟩
          · rw [if_pos hw]
            exact (opV_step h).wp fun v w' ⟨hI', hk⟩ => hnext v w' (fun _ => hI') hk
          · rw [if_neg (by rw [hw]; simp)]
            exact ⟨fun f _ => fz_fn f, hnext _ _ (fun _ => hI hp2.1) h⟩
end draw
end Go.E

set_option linter.unusedSimpArgs false
set_option linter.unusedVariables false
set_option linter.unusedSectionVars false
namespace Go.E

/-- what a piece of code, not looked into, comes to -/
def SemV (P : Program) (ro : Option Nat) (n m : Nat) (c : Code) (ds : List Nat) (loc : List Value) (tmp : List (Nat × Value)) (w : World) (Q : Exit → Kont) (_ : Tag c := .mk) (_ : Tag Q := .mk) : Prop :=
  ∀ (a : Act), Fits' n m ds loc tmp a → ∀ Qs : Exit → Act → World → Prop, (∀ e ds loc tmp w a, Fits' n m ds loc tmp a → Q e ds loc tmp w → Qs e a w) → c.wpIn (fz ro) 0 P Qs a w

/-- what follows: behind the code; at the exit of a block; at a return -/
def mkQ (N : Kont) (X : Nat → Kont) (R : Kont) : Exit → Kont
  | .normal => N
  | .exit i => X i
  | .ret => R
  | _ => fun _ _ _ _ => False

def codeV (P : Program) (ro : Option Nat) (n m : Nat) : Code → List Nat → List Value → List (Nat × Value) → World → (N : Kont) → (X : Nat → Kont) → (R : Kont) → (_ : Tag N := .mk) → (_ : Tag X := .mk) → (_ : Tag R := .mk) → Prop
  | .skip, ds, loc, tmp, w, N, _, _, _, _, _ => N ds loc tmp w
  | .region id ops draw, ds, loc, _, w, N, X, R, _, _, _ =>
    if draw then SemV P ro n m (.region id ops true) ds loc [] w (mkQ N X R) else ∀ base, opsV P n base ops.toList ds ops.toList loc [] w N
  | .seq a b, ds, loc, tmp, w, N, X, R, _, _, _ => codeV P ro n m a ds loc tmp w (fun ds loc tmp w => codeV P ro n m b ds loc tmp w N X R) X R
  | .cond c t e, ds, loc, tmp, w, N, X, R, _, _, _ => ∀ base, CondP (ev n base loc tmp c) (codeV P ro n m t ds loc tmp w N X R) (codeV P ro n m e ds loc tmp w N X R)
  | .block i c, ds, loc, tmp, w, N, X, R, _, _, _ => codeV P ro n m c ds loc tmp w N (fun j => if j = i then N else X j) R
  | .loop c, ds, loc, _, w, N, X, R, _, _, _ => SemV P ro n m (.loop c) ds loc [] w (mkQ N X R)
  | .exit i, ds, loc, tmp, w, _, X, _, _, _, _ => X i ds loc tmp w
  | .ret, ds, loc, tmp, w, _, _, R, _, _, _ => R ds loc tmp w
  | .rangeFunc f ps a b, ds, loc, tmp, w, N, X, R, _, _, _ => SemV P ro n m (.rangeFunc f ps a b) ds loc tmp w (mkQ N X R)
  | .scope b, ds, loc, tmp, w, N, X, R, _, _, _ => codeV P ro n m b ds loc tmp w N X R
  | .label _, ds, loc, tmp, w, N, _, _, _, _, _ => N ds loc tmp w
  | .goto l, ds, loc, tmp, w, N, X, R, _, _, _ => SemV P ro n m (.goto l) ds loc tmp w (mkQ N X R)
  | .refuse y, ds, loc, tmp, w, N, X, R, _, _, _ => SemV P ro n m (.refuse y) ds loc tmp w (mkQ N X R)

def codeOK (m : Nat) : Code → Bool
  | .region _ ops draw => draw || ops.toList.all (dstIn m)
  | .seq a b => codeOK m a && codeOK m b
  | .cond _ t e => codeOK m t && codeOK m e
  | .block _ c => codeOK m c
  | .scope c => codeOK m c
  | _ => true

section
variable {P : Program} {ro : Option Nat} {n m : Nat} {ds : List Nat} {loc : List Value} {tmp : List (Nat × Value)} {w : World}
theorem SemV.mono {c : Code} {Q Q' : Exit → Kont} (h : SemV P ro n m c ds loc tmp w Q) (hq : ∀ e ds loc tmp w, Q e ds loc tmp w → Q' e ds loc tmp w) : SemV P ro n m c ds loc tmp w Q' :=
  fun a ha Qs hQs => h a ha Qs fun e ds loc tmp w a ha hq' => hQs e ds loc tmp w a ha (hq _ _ _ _ _ hq')

theorem SemV.seq {a b : Code} {N K R : Kont} {X : Nat → Kont} (h : SemV P ro n m a ds loc tmp w (mkQ K X R)) (hb : ∀ ds loc tmp w, K ds loc tmp w → SemV P ro n m b ds loc tmp w (mkQ N X R)) :
    SemV P ro n m (.seq a b) ds loc tmp w (mkQ N X R) := by
  intro act ha Qs hQs
  refine wpIn_seq (h act ha _ fun e ds loc tmp w a ha hq => ?_)
  cases e with
  | normal => exact hb _ _ _ _ hq a ha Qs hQs
  | exit i => exact hQs (.exit i) _ _ _ _ _ ha hq
  | ret => exact hQs .ret _ _ _ _ _ ha hq
  | _ => exact hq.elim

theorem SemV.block {c : Code} {i : Nat} {N R : Kont} {X : Nat → Kont} (h : SemV P ro n m c ds loc tmp w (mkQ N (fun j => if j = i then N else X j) R)) : SemV P ro n m (.block i c) ds loc tmp w (mkQ N X R) := by
  intro act ha Qs hQs
  refine wpIn_block (h act ha _ fun e ds loc tmp w a ha hq => ?_)
  cases e with
  | exit j =>
    simp only [mkQ, Exit.inBlock] at hq ⊢
    split <;> rename_i hj
    · rw [if_pos hj] at hq; exact hQs .normal _ _ _ _ _ ha hq
    · rw [if_neg hj] at hq; exact hQs (.exit j) _ _ _ _ _ ha hq
  | normal => exact hQs .normal _ _ _ _ _ ha hq
  | ret => exact hQs .ret _ _ _ _ _ ha hq
  | _ => exact hq.elim

theorem stepR_scope {b : Frame} {a : Act} {k : List Item} {cs : List Frame} {c : Code} : step P (lone (b.atR a (.code (.scope c) :: k)) cs w) = .next (lone (b.atR a (.code c :: .inScope c :: k)) cs w) :=
  step_lone_go (by simp [stepG, stepG.exec, Frame.atR])
theorem stepR_inScope {b : Frame} {a : Act} {k : List Item} {cs : List Frame} {c : Code} : step P (lone (b.atR a (.inScope c :: k)) cs w) = .next (lone (b.atR a k) cs w) :=
  step_lone_go (by simp [stepG, stepG.exec, Frame.atR])
/-- a scope into which nothing jumps -/
theorem wpIn_scope {F : Fence} {d : Nat} {a : Act} {Q : Exit → Act → World → Prop} {c : Code} (hg : ∀ l a w, ¬ Q (.goto l) a w) (h : c.wpIn F d P Q a w) : (Code.scope c).wpIn F d P Q a w := by
  intro b k cs hro hb hr
  have h0 : (lone (b.atR a (.code (.scope c) :: k)) cs w).fenced P F := fenced_calm hb hr rfl
  obtain ⟨e, a₁, w₁, hq, harr⟩ := h b (.inScope c :: k) cs hro hb hr
  cases e with
  | normal => exact ⟨.normal, a₁, w₁, hq, .head h0 stepR_scope (StepsIn.trans harr (.one (fenced_calm hb hr rfl) stepR_inScope))⟩
  | exit id' =>
    have hx : exitTo id' (.inScope c :: k) = exitTo id' k := by simp [exitTo]
    exact ⟨.exit id', a₁, w₁, hq, fun k' hk => .head h0 stepR_scope (harr.1 k' (by rw [hx]; exact hk)),
      fun hr' hk => let ⟨k₁, h1, h2⟩ := harr.2 hr' (by rw [hx]; exact hk); ⟨k₁, h1, .head h0 stepR_scope h2⟩⟩
  | goto l => exact (hg _ _ _ hq).elim
  | ret => exact ⟨_, a₁, w₁, hq, .of_steps (.one h0 stepR_scope) harr⟩
  | panic ch => exact ⟨_, a₁, w₁, hq, .of_steps (.one h0 stepR_scope) harr⟩
  | outgrown => exact ⟨_, a₁, w₁, hq, .of_steps (.one h0 stepR_scope) harr⟩

theorem SemV.scope {c : Code} {N R : Kont} {X : Nat → Kont} (h : SemV P ro n m c ds loc tmp w (mkQ N X R)) : SemV P ro n m (.scope c) ds loc tmp w (mkQ N X R) := by
  intro act ha Qs hQs
  refine wpIn_mono (Q := fun e a w => ∃ ds loc tmp, Fits' n m ds loc tmp a ∧ mkQ N X R e ds loc tmp w) ?_ (fun e a w ⟨ds, loc, tmp, hf, hq⟩ => hQs _ _ _ _ _ _ hf hq)
  refine wpIn_scope (fun l a w => ?_) (h act ha _ fun e ds loc tmp w a hf hq => ⟨ds, loc, tmp, hf, hq⟩)
  rintro ⟨ds, loc, tmp, hf, hq⟩
  exact hq

theorem SemV.cleared {c : Code} {Q : Exit → Kont} (h : SemV P ro n m c ds loc [] w Q) : SemV P ro n m c ds loc tmp w Q :=
  fun a ha => h a ha.cleared
end

theorem codeV_sem {P : Program} {ro : Option Nat} {n m : Nat} : ∀ (c : Code) (ds : List Nat) (loc : List Value) (tmp : List (Nat × Value)) (w : World) (N : Kont) (X : Nat → Kont) (R : Kont), codeV P ro n m c ds loc tmp w N X R → codeOK m c = true → SemV P ro n m c ds loc tmp w (mkQ N X R)
  | .skip, ds, loc, tmp, w, N, X, R, h, _ => fun a ha Qs hQs => wpIn_skip (hQs .normal _ _ _ _ _ ha h)
  | .region id ops draw, ds, loc, tmp, w, N, X, R, h, hok => by
    simp only [codeV] at h
    cases draw with
    | true => exact SemV.cleared h
    | false =>
      simp only [Bool.false_eq_true, if_false] at h
      simp only [codeOK, Bool.false_or] at hok
      intro a ha Qs hQs
      refine wpIn_region_list ?_
      have := opsV_list (ro := ro) (Q := Qs) ops.toList loc [] w a (h _) ha.clear ha.size ha.defers hok fun loc tmp w a h1 h2 h3 hk => hQs .normal _ _ _ _ _ ⟨⟨_, h1⟩, h2, h3⟩ hk
      simpa using this
  | .seq a b, ds, loc, tmp, w, N, X, R, h, hok => by
    simp only [codeOK, Bool.and_eq_true] at hok
    exact SemV.seq (codeV_sem a ds loc tmp w _ _ _ h hok.1) fun ds loc tmp w hk => codeV_sem b ds loc tmp w N X R hk hok.2
  | .cond c t e, ds, loc, tmp, w, N, X, R, h, hok => by
    simp only [codeOK, Bool.and_eq_true] at hok
    intro a ha Qs hQs
    obtain ⟨base, hb⟩ := ha.base
    obtain ⟨h1, h2, x, hx⟩ := h base
    have hc : a.eval c = .bool x := by rw [hb.ev]; exact hx
    cases x with
    | true => exact wpIn_cond hc (codeV_sem t ds loc tmp w N X R (h1 hx) hok.1 a ha Qs hQs)
    | false => exact wpIn_cond hc (codeV_sem e ds loc tmp w N X R (h2 hx) hok.2 a ha Qs hQs)
  | .block i c, ds, loc, tmp, w, N, X, R, h, hok => SemV.block (codeV_sem c ds loc tmp w _ _ _ h hok)
  | .loop c, ds, loc, tmp, w, N, X, R, h, _ => SemV.cleared h
  | .exit i, ds, loc, tmp, w, N, X, R, h, _ => fun a ha Qs hQs => wpIn_exit (hQs (.exit i) _ _ _ _ _ ha h)
  | .ret, ds, loc, tmp, w, N, X, R, h, _ => fun a ha Qs hQs => wpIn_ret (hQs .ret _ _ _ _ _ ha h)
  | .rangeFunc _ _ _ _, _, _, _, _, _, _, _, h, _ => h
  | .scope c, ds, loc, tmp, w, N, X, R, h, hok => SemV.scope (codeV_sem c ds loc tmp w N X R h hok)
  | .label _, _, _, _, _, _, _, _, h, _ => fun a ha Qs hQs => wpIn_label (hQs .normal _ _ _ _ _ ha h)
  | .goto _, _, _, _, _, _, _, _, h, _ => h
  | .refuse _, _, _, _, _, _, _, _, h, _ => h

section
variable {P : Program} {ro : Option Nat} {n m : Nat} {ds : List Nat} {loc : List Value} {w : World} {N R : Kont} {X : Nat → Kont}

/-- A LOOP: I holds at the head of each round; the measure goes down -/
theorem SemV.loopS {c : Code} (I : List Nat → List Value → World → Prop) (μ : List Value → World → Nat) (h0 : I ds loc w)
    (round : ∀ ds loc w, I ds loc w → SemV P ro n m c ds loc [] w (mkQ (fun ds' loc' _ w' => I ds' loc' w' ∧ μ loc' w' < μ loc w) X R)) : SemV P ro n m (.loop c) ds loc [] w (mkQ N X R) := by
  intro a ha Qs hQs
  refine wpIn_loop (fun a w => ∃ ds loc tmp, Fits' n m ds loc tmp a ∧ I ds loc w) (fun a w => μ (a.tmps.toList.take n) w) ⟨ds, loc, [], ha, h0⟩ ?_
  rintro a w ⟨ds, loc, tmp, ha, hI⟩
  have hloc : ∀ {ds : List Nat} {loc : List Value} {tmp : List (Nat × Value)} {a : Act}, Fits' n m ds loc tmp a → a.tmps.toList.take n = loc := by
    intro ds loc tmp a ha
    obtain ⟨_, h1, h2, h3, _⟩ := ha.base
    refine List.ext_getElem? fun i => ?_
    by_cases hi : i < n
    · have h3' := h3 i hi
      have e1 : loc[i]? = some (loc[i]'(by omega)) := by simp [h1, hi]
      have e2 : a.tmps[i]? = some (a.tmps[i]'(by omega)) := by simp
      simp only [Array.getD_eq_getD_getElem?, List.getD_eq_getElem?_getD, e1, e2, Option.getD_some] at h3'
      rw [List.getElem?_take_of_lt hi, e1, Array.getElem?_toList, e2, h3']
    · rw [List.getElem?_eq_none (by simp; omega), List.getElem?_eq_none (by omega)]
  have hr := round ds loc w hI a ha.cleared
  refine hr _ fun e ds' loc' tmp' w' a' ha' hq => ?_
  cases e with
  | normal => exact ⟨⟨ds', loc', tmp', ha', hq.1⟩, by show μ (a'.tmps.toList.take n) w' < μ (a.tmps.toList.take n) w; rw [hloc ha', hloc ha]; exact hq.2⟩
  | exit i => exact hQs (.exit i) _ _ _ _ _ ha' hq
  | ret => exact hQs .ret _ _ _ _ _ ha' hq
  | _ => exact hq.elim

/-- A LOOP in which no range over a function is begun -/
theorem SemV.loop {c : Code} (I : List Value → World → Prop) (μ : List Value → World → Nat) (hok : codeOK m c = true) (h0 : I loc w)
    (round : ∀ loc w, I loc w → codeV P ro n m c ds loc [] w (fun ds' loc' _ w' => ds' = ds ∧ I loc' w' ∧ μ loc' w' < μ loc w) X R) : SemV P ro n m (.loop c) ds loc [] w (mkQ N X R) := by
  refine SemV.loopS (fun ds' loc w => ds' = ds ∧ I loc w) μ ⟨rfl, h0⟩ ?_
  rintro _ loc w ⟨rfl, hI⟩
  refine (codeV_sem c _ loc [] w _ _ _ (round loc w hI) hok).mono fun e ds' loc' tmp' w' hq => ?_
  cases e with
  | normal => exact ⟨⟨hq.1, hq.2.1⟩, hq.2.2⟩
  | _ => exact hq

theorem SemV.loopD {c : Code} (I : List Nat → List Value → World → Prop) (μ : List Value → World → Nat) (hok : codeOK m c = true) (h0 : I ds loc w)
    (round : ∀ ds loc w, I ds loc w → codeV P ro n m c ds loc [] w (fun ds' loc' _ w' => I ds' loc' w' ∧ μ loc' w' < μ loc w) X R) : SemV P ro n m (.loop c) ds loc [] w (mkQ N X R) :=
  SemV.loopS I μ h0 fun ds loc w hI => codeV_sem c ds loc [] w _ _ _ (round ds loc w hI) hok

/-- A REGION THAT DRAWS ITS ORDER: by a plan; I holds at every world on the way -/
theorem SemV.draw {id : Nat} {ops : Array Oper} (I : World → Prop) (pl : List (Nat × Bool))
    (hm : P.follows .mixedOrders = true) (hok : (Region.noSelect ops && noDefer ops && ops.toList.all (dstIn m) && pl.length == ops.size && planOK ops (clOf ops pl) pl (Array.replicate ops.size false)) = true)
    (hI : ∀ w', Alike w' w → I w')
    (h : ∀ base w', Alike w' w → planV P n base ops.toList I ds pl loc [] w' N) : SemV P ro n m (.region id ops true) ds loc [] w (mkQ N X R) := by
  simp only [Bool.and_eq_true, beq_iff_eq] at hok
  obtain ⟨⟨⟨⟨h1, h0⟩, h2⟩, h3⟩, h4⟩ := hok
  intro a ha Qs hQs
  refine wpIn_mono (Q := fun e a w => ∃ ds loc tmp, Fits' n m ds loc tmp a ∧ mkQ N X R e ds loc tmp w) ?_ (fun e a w ⟨ds, loc, tmp, hf, hq⟩ => hQs _ _ _ _ _ _ hf hq)
  refine wpIn_region_any hm (AnyI.any (cl := clOf ops pl) (I := I) _ _ _ _ ?_)
  have := planV_any (P := P) (ro := ro) (I := I) (Q := fun e a w => ∃ ds loc tmp, Fits' n m ds loc tmp a ∧ mkQ N X R e ds loc tmp w) (l := ops.toList) (K := N) (by simpa using h1) (by simpa using h0) (fun c a a' w ⟨ds, loc, tmp, _, hq⟩ => hq.elim) h2 pl
    (Array.replicate ops.size false) loc [] { w with drawn := w.drawn + 1 } a (h _ _ ⟨rfl, rfl, rfl⟩) (by simpa using h4) (fun _ => hI _ ⟨rfl, rfl, rfl⟩) ha.clear ha.size ha.defers
    (fun loc tmp w a h1 h2 h3 hk => ⟨ds, loc, tmp, ⟨⟨_, h1⟩, h2, h3⟩, hk⟩)
  rw [h3] at this
  simpa using this
end

/-- the results of a function, read at its end, the marks behind it -/
def ResP (P : Program) (fn : Func) (n : Nat) (R : Value → World → Prop) : List Nat → List Value → World → Prop
  | [], loc, w => ∀ look : Nat → Value, (∀ t, t < n → look t = loc.getD t undef) → ∃ v, (∀ tmps : Array Value, (∀ t, tmps.getD t undef = look t) → (results fn tmps).run P w = .ok v w) ∧ R v w
  | d :: ds, loc, w => ∃ w', (Instr.takeDeferred d).run P w = .ok [] w' ∧ ResP P fn n R ds loc w'

def retQ (P : Program) (fn : Func) (n : Nat) (R : Value → World → Prop) : Kont := fun ds loc _ w => ResP P fn n R ds loc w

theorem ResP.leaves {P : Program} {fn : Func} {n : Nat} {R : Value → World → Prop} {tmps : Array Value} : ∀ (ds : List Nat) (loc : List Value) (w : World), ResP P fn n R ds loc w → (∀ t, t < n → tmps.getD t undef = loc.getD t undef) →
    LeavesInM Fence.wide 0 P fn tmps (fun e w' => ∃ v, e = .returned v ∧ R v w') (ds.map markOf) .returning w
  | [], loc, w, h, ht => by
    obtain ⟨v, hv, hR⟩ := h (fun t => tmps.getD t undef) ht
    exact ⟨v, hv tmps (fun _ => rfl), v, rfl, hR⟩
  | d :: ds, loc, w, h, ht => by
    obtain ⟨w', hk, hr⟩ := h
    exact ⟨by simp, .inl ⟨d, w', rfl, hk, ResP.leaves ds loc w' hr ht⟩⟩

theorem Ret.enter {P : Program} {f : FuncId} {fn : Func} {c : Code} {args : Array Value} {w : World} {R : Value → World → Prop} (n : Nat)
    (hf : P.funcs[f]? = some fn) (hb : fn.body = some c) (hn : (args.size ≤ n ∧ n ≤ fn.ntmps)) (hok : codeOK fn.ntmps c = true)
    (h : codeV P none n fn.ntmps c [] (args.toList ++ List.replicate (n - args.size) undef) [] w (retQ P fn n R) (fun _ _ _ _ _ => False) (retQ P fn n R)) : Ret P f args w R := by
  refine callsIn_wide (n := 0).1 (callsIn_of_wp_marks hf hb trivial ?_)
  have hs := codeV_sem c _ _ _ _ _ _ _ h hok { tmps := args ++ Array.replicate (fn.ntmps - args.size) undef, defers := [] }
  refine hs ⟨⟨fun _ => undef, by simp; omega, by simp; omega, fun t ht => ?_, fun t ht => ?_⟩, by simp; omega, rfl⟩ _ ?_
  · simp only [Array.getD_eq_getD_getElem?, List.getD_eq_getElem?_getD]
    by_cases h1 : t < args.size
    · rw [Array.getElem?_append_left h1, List.getElem?_append_left (by simpa using h1), Array.getElem?_toList]
    · rw [Array.getElem?_append_right (by omega), List.getElem?_append_right (by simp; omega)]
      simp only [Array.getElem?_replicate, List.getElem?_replicate, Array.length_toList]
      rw [if_pos (by omega), if_pos (by omega)]
  · simp only [Array.getD_eq_getD_getElem?, lk]
    rw [Array.getElem?_append_right (by omega), Array.getElem?_replicate]
    split <;> rfl
  · intro e ds loc tmp w a ha hq
    have key : ResP P fn n R ds loc w → LeavesInM Fence.wide 0 P fn a.tmps (fun e w' => ∃ v, e = .returned v ∧ R v w') a.defers .returning w := by
      intro hr
      obtain ⟨base, _, _, h3, _⟩ := ha.base
      rw [ha.defers]
      exact hr.leaves _ _ _ h3
    cases e with
    | normal => exact key hq
    | ret => exact key hq
    | _ => exact hq.elim

section
variable {P : Program} {fn : Func} {n : Nat} {ds : List Nat} {loc : List Value} {w : World} {R : Value → World → Prop}
theorem ResP.zero (h : fn.results = #[]) (hR : R (.tuple #[]) w) : ResP P fn n R [] loc w :=
  fun look _ => ⟨_, fun tmps _ => results_none h tmps P w, hR⟩
theorem ResP.one {t : Tmp} (h : fn.results = #[.tmp t]) (ht : t < n) (hR : R (loc.getD t undef) w) : ResP P fn n R [] loc w :=
  fun look hl => ⟨_, fun tmps ht' => by rw [results_tmp h tmps P w, ht' t, hl t ht], hR⟩
theorem ResP.two {t u : Tmp} (h : fn.results = #[.tmp t, .tmp u]) (ht : t < n ∧ u < n) (hR : R (.tuple #[loc.getD t undef, loc.getD u undef]) w) : ResP P fn n R [] loc w :=
  fun look hl => ⟨_, fun tmps ht' => by rw [results_tmp2 h tmps P w, ht' t, ht' u, hl t ht.1, hl u ht.2], hR⟩
theorem ResP.three {t u s : Tmp} (h : fn.results = #[.tmp t, .tmp u, .tmp s]) (ht : t < n ∧ u < n ∧ s < n) (hR : R (.tuple #[loc.getD t undef, loc.getD u undef, loc.getD s undef]) w) : ResP P fn n R [] loc w :=
  fun look hl => ⟨_, fun tmps ht' => by
    have e : (results fn tmps).run P w = .ok (.tuple #[tmps.getD t undef, tmps.getD u undef, tmps.getD s undef]) w := by simp [results, h]
    rw [e, ht' t, ht' u, ht' s, hl t ht.1, hl u ht.2.1, hl s ht.2.2], hR⟩
/-- results that lie in cells: read by their own run -/
theorem ResP.run {v : Value} (h : ∀ tmps : Array Value, (∀ t, t < n → tmps.getD t undef = loc.getD t undef) → (results fn tmps).run P w = .ok v w) (hR : R v w) : ResP P fn n R [] loc w :=
  fun look hl => ⟨v, fun tmps ht' => h tmps fun t ht => by rw [ht' t, hl t ht], hR⟩
end
end Go.E

set_option linter.unusedSimpArgs false
set_option linter.unusedVariables false
set_option linter.unusedSectionVars false
namespace Go.E

theorem vc :
  (∀ (base : Nat→Value) (t : Nat), lk base [] t = (base t)) ∧
  (∀ (base : Nat→Value) (r : List (Nat × Value)) (s : Nat) (t : Nat) (v : Value), lk base ((s, v) :: r) t = (if t = s then v else lk base r t)) ∧
  (∀ (base : Nat→Value) (loc : List Value) (n : Nat) (t : Nat) (tmp : List (Nat×Value)), ev n base loc tmp (.tmp t) = (if t < n then loc.getD t undef else lk base tmp t)) ∧
  (∀ (base : Nat→Value) (loc : List Value) (n : Nat) (tmp : List (Nat×Value)) (v : Value), ev n base loc tmp (.const v) = (v)) ∧
  (∀ (base : Nat→Value) (g : Nat) (loc : List Value) (n : Nat) (tmp : List (Nat×Value)), ev n base loc tmp (.global g) = (.pointer (some ⟨g, 0, none⟩))) ∧
  (∀ (base : Nat→Value) (f : Nat) (loc : List Value) (n : Nat) (tmp : List (Nat×Value)), ev n base loc tmp (.func f) = (.func (.func f) #[] #[])) ∧
  (∀ (K2 : List Value→List (Nat×Value)→Prop) (loc : List Value) (n : Nat) (tmp : List (Nat×Value)) (v : Value), putK n none v loc tmp K2 = (K2 loc tmp)) ∧
  (∀ (K2 : List Value→List (Nat×Value)→Prop) (d : Tmp) (loc : List Value) (n : Nat) (tmp : List (Nat×Value)) (v : Value), putK n (some d) v loc tmp K2 = (if d < n then K2 (loc.set d v) tmp else K2 loc ((d, v) :: tmp))) ∧
  (∀ (A : Prop) (B : Prop), GuardP (.bool true) true A B = (A)) ∧
  (∀ (A : Prop) (B : Prop), GuardP (.bool false) false A B = (A)) ∧
  (∀ (A : Prop) (B : Prop), GuardP (.bool true) false A B = (B)) ∧
  (∀ (A : Prop) (B : Prop), GuardP (.bool false) true A B = (B)) ∧
  (∀ (A : Prop) (B : Prop) (b : Bool), GuardP (.tuple #[]) b A B = (B)) ∧
  (∀ (A : Prop) (B : Prop) (b : Bool), GuardP undef b A B = (B)) ∧
  (∀ (A : Prop) (B : Prop), CondP (.bool true) A B = (A)) ∧
  (∀ (A : Prop) (B : Prop), CondP (.bool false) A B = (B)) ∧
  (∀ (A : Prop) (B : Prop) (after : Array Edge) (d : Option Tmp) (look : Operand→Value) (o : Op) (ops : List Oper) (pos : String) (ty : TypeId), grdV ops ⟨d, o, ty, pos, after, none⟩ look A B = (A)) ∧
  (∀ (A : Prop) (B : Prop) (after : Array Edge) (b : Bool) (d : Option Tmp) (j : Nat) (look : Operand→Value) (o : Op) (ops : List Oper) (pos : String) (ty : TypeId), grdV ops ⟨d, o, ty, pos, after, some (j, b)⟩ look A B = (GuardP (gval ops j look) b A B)) ∧
  (∀ (j : Nat) (look : Operand→Value) (ops : List Oper), gval ops j look = (gvalo (ops[j]?) look)) ∧
  (∀ (after : Array Edge) (g : Option (Nat × Bool)) (look : Operand→Value) (o : Op) (pos : String) (t : Tmp) (ty : TypeId), gvalo (some ⟨some t, o, ty, pos, after, g⟩) look = (look (.tmp t))) ∧
  (∀ (K : Kont) (P : Program) (base : Nat→Value) (ds : List Nat) (loc : List Value) (n : Nat) (ops : List Oper) (tmp : List (Nat×Value)) (w : World), opsV P n base ops ds [] loc tmp w K = (K ds loc tmp w)) ∧
  (∀ (K : Kont) (P : Program) (after : Array Edge) (base : Nat→Value) (d : Option Tmp) (ds : List Nat) (g : Option (Nat × Bool)) (loc : List Value) (n : Nat) (o : Op) (ops : List Oper) (pos : String) (r : List Oper) (tmp : List (Nat×Value)) (ty : TypeId) (w : World), opsV P n base ops ds (⟨d, o, ty, pos, after, g⟩ :: r) loc tmp w K = (grdV ops ⟨d, o, ty, pos, after, g⟩ (ev n base loc tmp) (opV P (ev n base loc tmp) o ty w fun v w' => putK n d v loc tmp fun loc tmp => opsV P n base ops ds r loc tmp w' K) (putK n d undef loc tmp fun loc tmp => opsV P n base ops ds r loc tmp w K))) ∧
  (∀ (I : World→Prop) (K : Kont) (P : Program) (base : Nat→Value) (ds : List Nat) (loc : List Value) (n : Nat) (ops : List Oper) (tmp : List (Nat×Value)) (w : World), planV P n base ops I ds [] loc tmp w K = (K ds loc tmp w)) ∧
  (∀ (I : World→Prop) (K : Kont) (P : Program) (base : Nat→Value) (ds : List Nat) (i : Nat) (loc : List Value) (n : Nat) (ops : List Oper) (r : List (Nat × Bool)) (tmp : List (Nat×Value)) (w : World), planV P n base ops I ds ((i, true) :: r) loc tmp w K = (planO n base ops ops[i]? loc tmp (fun o => floatV P (ev n base loc tmp) o.op o.type I fun v => putK n o.dst v loc tmp fun loc tmp => planV P n base ops I ds r loc tmp w K) (fun o => putK n o.dst undef loc tmp fun loc tmp => planV P n base ops I ds r loc tmp w K))) ∧
  (∀ (I : World→Prop) (K : Kont) (P : Program) (base : Nat→Value) (ds : List Nat) (i : Nat) (loc : List Value) (n : Nat) (ops : List Oper) (tmp : List (Nat×Value)) (w : World), planV P n base ops I ds [(i, false)] loc tmp w K = (planO n base ops ops[i]? loc tmp (fun o => opV P (ev n base loc tmp) o.op o.type w fun v w' => putK n o.dst v loc tmp fun loc tmp => K ds loc tmp w') (fun o => putK n o.dst undef loc tmp fun loc tmp => K ds loc tmp w))) ∧
  (∀ (I : World→Prop) (K : Kont) (P : Program) (base : Nat→Value) (ds : List Nat) (i : Nat) (j : Nat × Bool) (loc : List Value) (n : Nat) (ops : List Oper) (r : List (Nat × Bool)) (tmp : List (Nat×Value)) (w : World), planV P n base ops I ds ((i, false) :: j :: r) loc tmp w K = (planO n base ops ops[i]? loc tmp (fun o => opV P (ev n base loc tmp) o.op o.type w fun v w' => I w' ∧ putK n o.dst v loc tmp fun loc tmp => planV P n base ops I ds (j :: r) loc tmp w' K) (fun o => putK n o.dst undef loc tmp fun loc tmp => planV P n base ops I ds (j :: r) loc tmp w K))) ∧
  (∀ (AO : Oper → Prop) (BO : Oper → Prop) (base : Nat→Value) (loc : List Value) (n : Nat) (o : Oper) (ops : List Oper) (tmp : List (Nat×Value)), planO n base ops (some o) loc tmp AO BO = (grdV ops o (ev n base loc tmp) (AO o) (BO o))) ∧
  (∀ (KW : Value→World→Prop) (P : Program) (o : Op) (ty : TypeId) (w : World) (ρ : Operand→Value), opV P ρ o ty w KW = (valV P ρ o ty (fun f args => callV P f args w KW) (fun s => RunV P s w KW) (fun v => KW v w))) ∧
  (∀ (I : World→Prop) (KV : Value→Prop) (P : Program) (o : Op) (ty : TypeId) (ρ : Operand→Value), floatV P ρ o ty I KV = (valV P ρ o ty (fun _ _ => False) (fun s => FloatP P s I KV) KV)) ∧
  (∀ (F : Sem Value→Prop) (G : Value→List Value→Prop) (KV : Value→Prop) (P : Program) (ty : TypeId) (x : Operand) (ρ : Operand→Value), valV P ρ (.move x) ty G F KV = (KV (ρ x))) ∧
  (∀ (F : Sem Value→Prop) (G : Value→List Value→Prop) (KV : Value→Prop) (P : Program) (ty : TypeId) (x : Operand) (ρ : Operand→Value), valV P ρ (.assign x) ty G F KV = (KV (ρ x))) ∧
  (∀ (F : Sem Value→Prop) (G : Value→List Value→Prop) (KV : Value→Prop) (P : Program) (a : Operand) (b : Operand) (c : Operand) (ty : TypeId) (ρ : Operand→Value), valV P ρ (.pick c a b) ty G F KV = (CondP (ρ c) (KV (ρ a)) (KV (ρ b)))) ∧
  (∀ (F : Sem Value→Prop) (G : Value→List Value→Prop) (KV : Value→Prop) (P : Program) (t : Nat) (ty : TypeId) (ρ : Operand→Value), valV P ρ (.alloc t) ty G F KV = (F (Instr.alloc t true (.tuple #[])))) ∧
  (∀ (F : Sem Value→Prop) (G : Value→List Value→Prop) (KV : Value→Prop) (P : Program) (t : Nat) (ty : TypeId) (x : Operand) (ρ : Operand→Value), valV P ρ (.box t x) ty G F KV = (F (Instr.box t (ρ x)))) ∧
  (∀ (F : Sem Value→Prop) (G : Value→List Value→Prop) (KV : Value→Prop) (P : Program) (ps : Array (Nat × Operand)) (t : Nat) (ty : TypeId) (ρ : Operand→Value), valV P ρ (.build t ps) ty G F KV = (F (Instr.build t (ps.map fun (i, x) => (i, ρ x))))) ∧
  (∀ (F : Sem Value→Prop) (G : Value→List Value→Prop) (KV : Value→Prop) (P : Program) (k : Nat) (ps : Array (Nat × Operand)) (t : Nat) (ty : TypeId) (ρ : Operand→Value), valV P ρ (.buildSlice t k ps) ty G F KV = (F (Instr.buildSlice t k (ps.map fun (i, x) => (i, ρ x))))) ∧
  (∀ (F : Sem Value→Prop) (G : Value→List Value→Prop) (KV : Value→Prop) (P : Program) (a : Operand) (t : Nat) (ty : TypeId) (ρ : Operand→Value), valV P ρ (.load t a) ty G F KV = (ptrV (ρ a) fun p => F (Instr.loadAt t (.pointer p)))) ∧
  (∀ (F : Sem Value→Prop) (G : Value→List Value→Prop) (KV : Value→Prop) (P : Program) (a : Operand) (t : Nat) (ty : TypeId) (x : Operand) (ρ : Operand→Value), valV P ρ (.store t a x) ty G F KV = (storeV t (ρ a) (ρ x) F)) ∧
  (∀ (F : Sem Value→Prop) (G : Value→List Value→Prop) (KV : Value→Prop) (P : Program) (ty : TypeId) (x : Operand) (ρ : Operand→Value), valV P ρ (.nilCheck x) ty G F KV = (ptrV (ρ x) fun p => p.isSome = true ∧ KV (.pointer p))) ∧
  (∀ (F : Sem Value→Prop) (G : Value→List Value→Prop) (KV : Value→Prop) (P : Program) (op : BinOp) (t : Nat) (ty : TypeId) (u : TypeId) (x : Operand) (y : Operand) (ρ : Operand→Value), valV P ρ (.binOp op t x y u) ty G F KV = (binV P op t (ρ x) (ρ y) x y F KV)) ∧
  (∀ (F : Sem Value→Prop) (G : Value→List Value→Prop) (KV : Value→Prop) (P : Program) (op : UnOp) (t : Nat) (ty : TypeId) (x : Operand) (ρ : Operand→Value), valV P ρ (.unOp op t x) ty G F KV = (unV op (ρ x) F KV)) ∧
  (∀ (F : Sem Value→Prop) (G : Value→List Value→Prop) (KV : Value→Prop) (P : Program) (s : Nat) (t : Nat) (ty : TypeId) (x : Operand) (ρ : Operand→Value), valV P ρ (.convert s t x) ty G F KV = (convV (tk P s) (tk P t) s t (ρ x) F KV)) ∧
  (∀ (F : Sem Value→Prop) (G : Value→List Value→Prop) (KV : Value→Prop) (P : Program) (c : Operand) (l : Operand) (t : Nat) (ty : TypeId) (ρ : Operand→Value), valV P ρ (.makeSlice t l c) ty G F KV = (F (Instr.makeSlice t (ρ l) (ρ c)))) ∧
  (∀ (F : Sem Value→Prop) (G : Value→List Value→Prop) (KV : Value→Prop) (P : Program) (hi : Option Operand) (lo : Option Operand) (mx : Option Operand) (t : Nat) (ty : TypeId) (x : Operand) (ρ : Operand→Value), valV P ρ (.slice t x lo hi mx) ty G F KV = (F (Instr.sliceAt t (ρ x) (lo.map ρ) (hi.map ρ) (mx.map ρ)))) ∧
  (∀ (F : Sem Value→Prop) (G : Value→List Value→Prop) (KV : Value→Prop) (P : Program) (f : Nat) (s : Nat) (ty : TypeId) (x : Operand) (ρ : Operand→Value), valV P ρ (.fieldAddr s x f) ty G F KV = (fldV (tfo P s f) (ρ x) KV)) ∧
  (∀ (F : Sem Value→Prop) (G : Value→List Value→Prop) (KV : Value→Prop) (P : Program) (f : Nat) (t : Nat) (ty : TypeId) (x : Operand) (ρ : Operand→Value), valV P ρ (.field t x f) ty G F KV = (F (Instr.field t (ρ x) f))) ∧
  (∀ (F : Sem Value→Prop) (G : Value→List Value→Prop) (KV : Value→Prop) (P : Program) (i : Operand) (t : Nat) (ty : TypeId) (x : Operand) (ρ : Operand→Value), valV P ρ (.indexAddr t x i) ty G F KV = (idxV P (tk P t) t (ρ x) (ρ i) F KV)) ∧
  (∀ (F : Sem Value→Prop) (G : Value→List Value→Prop) (KV : Value→Prop) (P : Program) (i : Operand) (t : Nat) (ty : TypeId) (x : Operand) (ρ : Operand→Value), valV P ρ (.index t x i) ty G F KV = (F (Instr.index t (ρ x) (ρ i)))) ∧
  (∀ (F : Sem Value→Prop) (G : Value→List Value→Prop) (KV : Value→Prop) (P : Program) (i : Nat) (t : Operand) (ty : TypeId) (ρ : Operand→Value), valV P ρ (.extract t i) ty G F KV = (extV (ρ t) i KV)) ∧
  (∀ (F : Sem Value→Prop) (G : Value→List Value→Prop) (KV : Value→Prop) (P : Program) (a : Array Operand) (c : Array Operand) (f : Fn) (ty : TypeId) (ρ : Operand→Value), valV P ρ (.makeFunc f a c) ty G F KV = (KV (.func f (a.map ρ) (c.map ρ)))) ∧
  (∀ (F : Sem Value→Prop) (G : Value→List Value→Prop) (KV : Value→Prop) (P : Program) (t : Nat) (ty : TypeId) (x : Operand) (ρ : Operand→Value), valV P ρ (.makeInterface t x) ty G F KV = (mkiV (tk P t) t (ρ x) KV)) ∧
  (∀ (F : Sem Value→Prop) (G : Value→List Value→Prop) (KV : Value→Prop) (P : Program) (ok : Bool) (t : Nat) (ty : TypeId) (u : TypeId) (x : Operand) (ρ : Operand→Value), valV P ρ (.typeAssert x t u ok) ty G F KV = (F (Instr.typeAssert (ρ x) t u ok))) ∧
  (∀ (F : Sem Value→Prop) (G : Value→List Value→Prop) (KV : Value→Prop) (P : Program) (m : Option Operand) (t : Nat) (ty : TypeId) (ρ : Operand→Value), valV P ρ (.makeMap t m) ty G F KV = (F (Instr.makeMap t (m.map ρ)))) ∧
  (∀ (F : Sem Value→Prop) (G : Value→List Value→Prop) (KV : Value→Prop) (P : Program) (i : Operand) (ok : Bool) (t : Nat) (ty : TypeId) (x : Operand) (ρ : Operand→Value), valV P ρ (.lookup t x i ok) ty G F KV = (F (Instr.lookup t (ρ x) (ρ i) ok))) ∧
  (∀ (F : Sem Value→Prop) (G : Value→List Value→Prop) (KV : Value→Prop) (P : Program) (k : Operand) (m : Operand) (t : Nat) (ty : TypeId) (x : Operand) (ρ : Operand→Value), valV P ρ (.mapUpdate t m k x) ty G F KV = (F (do Instr.mapUpdate t (ρ m) (ρ k) (ρ x); pure undef))) ∧
  (∀ (F : Sem Value→Prop) (G : Value→List Value→Prop) (KV : Value→Prop) (P : Program) (k : Operand) (m : Operand) (t : Nat) (ty : TypeId) (x : Operand) (ρ : Operand→Value), valV P ρ (.insert t m k x) ty G F KV = (F (do Instr.mapUpdate t (ρ m) (ρ k) (ρ x); pure undef))) ∧
  (∀ (F : Sem Value→Prop) (G : Value→List Value→Prop) (KV : Value→Prop) (P : Program) (k : Operand) (m : Operand) (t : Nat) (ty : TypeId) (ρ : Operand→Value), valV P ρ (.mapEntry t m k) ty G F KV = (F (Instr.mapEntry t (ρ m) (ρ k)))) ∧
  (∀ (F : Sem Value→Prop) (G : Value→List Value→Prop) (KV : Value→Prop) (P : Program) (m : Operand) (s : Operand) (t : Nat) (ty : TypeId) (x : Operand) (ρ : Operand→Value), valV P ρ (.entryStore t m s x) ty G F KV = (F (do Instr.entryStore t (ρ m) (ρ s) (ρ x); pure undef))) ∧
  (∀ (F : Sem Value→Prop) (G : Value→List Value→Prop) (KV : Value→Prop) (P : Program) (t : Nat) (ty : TypeId) (x : Operand) (ρ : Operand→Value), valV P ρ (.range t x) ty G F KV = (F (Instr.range t (ρ x)))) ∧
  (∀ (F : Sem Value→Prop) (G : Value→List Value→Prop) (KV : Value→Prop) (P : Program) (b : Bool) (ty : TypeId) (x : Operand) (ρ : Operand→Value), valV P ρ (.next x b) ty G F KV = (F (Instr.next (ρ x) b ty))) ∧
  (∀ (F : Sem Value→Prop) (G : Value→List Value→Prop) (KV : Value→Prop) (P : Program) (ty : TypeId) (x : Operand) (ρ : Operand→Value), valV P ρ (.entry x) ty G F KV = (F (Instr.entry (ρ x)))) ∧
  (∀ (F : Sem Value→Prop) (G : Value→List Value→Prop) (KV : Value→Prop) (P : Program) (args : Array Operand) (bi : Builtin) (ts : Array TypeId) (ty : TypeId) (ρ : Operand→Value), valV P ρ (.call ⟨.builtin bi, args, ts⟩) ty G F KV = (builtinV P bi ts ty (args.toList.map ρ) F KV)) ∧
  (∀ (F : Sem Value→Prop) (G : Value→List Value→Prop) (KV : Value→Prop) (P : Program) (args : Array Operand) (ts : Array TypeId) (ty : TypeId) (x : Operand) (ρ : Operand→Value), valV P ρ (.call ⟨.value x, args, ts⟩) ty G F KV = (G (ρ x) (args.toList.map ρ))) ∧
  (∀ (KA : Option Addr→Prop) (a : Option Addr), ptrV (.pointer a) KA = (KA a)) ∧
  (∀ (F : Sem Value→Prop) (KV : Value→Prop) (b : Bool), unV .not (.bool b) F KV = (KV (.bool (!b)))) ∧
  (∀ (F : Sem Value→Prop) (KV : Value→Prop) (k : IntKind) (x : Int), unV .neg (.int k x) F KV = (KV (.int k (k.wrap (0 - x))))) ∧
  (∀ (F : Sem Value→Prop) (KV : Value→Prop) (k1 : IntKind) (k2 : IntKind) (k3 : IntKind) (s : Nat) (t : Nat) (x : Int), convV (.int k1) (.int k2) s t (.int k3 x) F KV = (KV (.int k2 (k2.wrap x)))) ∧
  (∀ (F : Sem Value→Prop) (KV : Value→Prop) (s : Nat) (s2 : Nat) (t : Nat) (x : Value), convV (.string) (.slice s2) s t x F KV = (F (convert s t x))) ∧
  (∀ (F : Sem Value→Prop) (KV : Value→Prop) (s : Nat) (s2 : Nat) (t : Nat) (x : Value), convV (.slice s2) (.string) s t x F KV = (F (convert s t x))) ∧
  (∀ (F : Sem Value→Prop) (KV : Value→Prop) (s : Nat) (s2 : Nat) (s3 : Nat) (t : Nat) (x : Value), convV (.slice s2) (.slice s3) s t x F KV = (F (convert s t x))) ∧
  (∀ (F : Sem Value→Prop) (KV : Value→Prop) (s : Nat) (t : Nat) (x : Value), convV (.string) (.string) s t x F KV = (F (convert s t x))) ∧
  (∀ (KV : Value→Prop) (a : Option Addr) (f : Nat), fldV (some f) (.pointer a) KV = (a.isSome = true ∧ KV (.pointer (sh a f)))) ∧
  (∀ (F : Sem Value→Prop) (KV : Value→Prop) (P : Program) (i : Value) (s : Nat) (t : Nat) (x : Value), idxV P (.slice s) t x i F KV = (slV (tsz P s) x i (F (Instr.indexAt t x i)) KV)) ∧
  (∀ (F : Sem Value→Prop) (KV : Value→Prop) (P : Program) (i : Value) (s : Nat) (s2 : Nat) (t : Nat) (x : Value), idxV P (.array s s2) t x i F KV = (F (Instr.indexAt t x i))) ∧
  (∀ (A : Prop) (KV : Value→Prop) (a : Option Addr) (c : Nat) (f : Nat) (j : Nat) (k : IntKind) (x : Int), slV (f + 1) (.slice a j c) (.int k x) A KV = ((0 ≤ x ∧ x < j ∧ a.isSome = true) ∧ KV (.pointer (sh a (x.toNat * (f + 1)))))) ∧
  (∀ (KV : Value→Prop) (j : Nat) (l : List Value), extV (.tuple ⟨l⟩) j KV = (extO l[j]? KV)) ∧
  (∀ (KV : Value→Prop) (v : Value), extO (some v) KV = (KV v)) ∧
  (∀ (KV : Value→Prop) (k : IntKind) (t : Nat) (x : Value), mkiV (.int k) t x KV = (KV (.iface t x))) ∧
  (∀ (KV : Value→Prop) (t : Nat) (x : Value), mkiV (.bool) t x KV = (KV (.iface t x))) ∧
  (∀ (KV : Value→Prop) (t : Nat) (x : Value), mkiV (.string) t x KV = (KV (.iface t x))) ∧
  (∀ (KV : Value→Prop) (s : Nat) (t : Nat) (x : Value), mkiV (.pointer s) t x KV = (KV (.iface t x))) ∧
  (∀ (KV : Value→Prop) (s : Nat) (t : Nat) (x : Value), mkiV (.slice s) t x KV = (KV (.iface t x))) ∧
  (∀ (KV : Value→Prop) (s : Nat) (s2 : Nat) (t : Nat) (x : Value), mkiV (.array s s2) t x KV = (KV (.iface t x))) ∧
  (∀ (KV : Value→Prop) (s : Nat) (s2 : Nat) (t : Nat) (x : Value), mkiV (.map s s2) t x KV = (KV (.iface t x))) ∧
  (∀ (KV : Value→Prop) (fs : Array Field) (t : Nat) (x : Value), mkiV (.struct fs) t x KV = (KV (.iface t x))) ∧
  (∀ (F : Sem Value→Prop) (KV : Value→Prop) (P : Program) (k : IntKind) (k2 : IntKind) (t : Nat) (x : Int) (xo : Operand) (y : Int) (yo : Operand), binV P .add t (.int k x) (.int k2 y) xo yo F KV = (k = k2 ∧ intV .add k x y KV)) ∧
  (∀ (F : Sem Value→Prop) (KV : Value→Prop) (P : Program) (k : IntKind) (k2 : IntKind) (t : Nat) (x : Int) (xo : Operand) (y : Int) (yo : Operand), binV P .sub t (.int k x) (.int k2 y) xo yo F KV = (k = k2 ∧ intV .sub k x y KV)) ∧
  (∀ (F : Sem Value→Prop) (KV : Value→Prop) (P : Program) (k : IntKind) (k2 : IntKind) (t : Nat) (x : Int) (xo : Operand) (y : Int) (yo : Operand), binV P .mul t (.int k x) (.int k2 y) xo yo F KV = (k = k2 ∧ intV .mul k x y KV)) ∧
  (∀ (F : Sem Value→Prop) (KV : Value→Prop) (P : Program) (k : IntKind) (k2 : IntKind) (t : Nat) (x : Int) (xo : Operand) (y : Int) (yo : Operand), binV P .quo t (.int k x) (.int k2 y) xo yo F KV = (k = k2 ∧ intV .quo k x y KV)) ∧
  (∀ (F : Sem Value→Prop) (KV : Value→Prop) (P : Program) (k : IntKind) (k2 : IntKind) (t : Nat) (x : Int) (xo : Operand) (y : Int) (yo : Operand), binV P .rem t (.int k x) (.int k2 y) xo yo F KV = (k = k2 ∧ intV .rem k x y KV)) ∧
  (∀ (F : Sem Value→Prop) (KV : Value→Prop) (P : Program) (k : IntKind) (k2 : IntKind) (t : Nat) (x : Int) (xo : Operand) (y : Int) (yo : Operand), binV P .and t (.int k x) (.int k2 y) xo yo F KV = (k = k2 ∧ intV .and k x y KV)) ∧
  (∀ (F : Sem Value→Prop) (KV : Value→Prop) (P : Program) (k : IntKind) (k2 : IntKind) (t : Nat) (x : Int) (xo : Operand) (y : Int) (yo : Operand), binV P .or t (.int k x) (.int k2 y) xo yo F KV = (k = k2 ∧ intV .or k x y KV)) ∧
  (∀ (F : Sem Value→Prop) (KV : Value→Prop) (P : Program) (k : IntKind) (k2 : IntKind) (t : Nat) (x : Int) (xo : Operand) (y : Int) (yo : Operand), binV P .xor t (.int k x) (.int k2 y) xo yo F KV = (k = k2 ∧ intV .xor k x y KV)) ∧
  (∀ (F : Sem Value→Prop) (KV : Value→Prop) (P : Program) (k : IntKind) (k2 : IntKind) (t : Nat) (x : Int) (xo : Operand) (y : Int) (yo : Operand), binV P .andNot t (.int k x) (.int k2 y) xo yo F KV = (k = k2 ∧ intV .andNot k x y KV)) ∧
  (∀ (F : Sem Value→Prop) (KV : Value→Prop) (P : Program) (k : IntKind) (k2 : IntKind) (t : Nat) (x : Int) (xo : Operand) (y : Int) (yo : Operand), binV P .eql t (.int k x) (.int k2 y) xo yo F KV = (k = k2 ∧ intV .eql k x y KV)) ∧
  (∀ (F : Sem Value→Prop) (KV : Value→Prop) (P : Program) (k : IntKind) (k2 : IntKind) (t : Nat) (x : Int) (xo : Operand) (y : Int) (yo : Operand), binV P .neq t (.int k x) (.int k2 y) xo yo F KV = (k = k2 ∧ intV .neq k x y KV)) ∧
  (∀ (F : Sem Value→Prop) (KV : Value→Prop) (P : Program) (k : IntKind) (k2 : IntKind) (t : Nat) (x : Int) (xo : Operand) (y : Int) (yo : Operand), binV P .lss t (.int k x) (.int k2 y) xo yo F KV = (k = k2 ∧ intV .lss k x y KV)) ∧
  (∀ (F : Sem Value→Prop) (KV : Value→Prop) (P : Program) (k : IntKind) (k2 : IntKind) (t : Nat) (x : Int) (xo : Operand) (y : Int) (yo : Operand), binV P .leq t (.int k x) (.int k2 y) xo yo F KV = (k = k2 ∧ intV .leq k x y KV)) ∧
  (∀ (F : Sem Value→Prop) (KV : Value→Prop) (P : Program) (k : IntKind) (k2 : IntKind) (t : Nat) (x : Int) (xo : Operand) (y : Int) (yo : Operand), binV P .gtr t (.int k x) (.int k2 y) xo yo F KV = (k = k2 ∧ intV .gtr k x y KV)) ∧
  (∀ (F : Sem Value→Prop) (KV : Value→Prop) (P : Program) (k : IntKind) (k2 : IntKind) (t : Nat) (x : Int) (xo : Operand) (y : Int) (yo : Operand), binV P .geq t (.int k x) (.int k2 y) xo yo F KV = (k = k2 ∧ intV .geq k x y KV)) ∧
  (∀ (F : Sem Value→Prop) (KV : Value→Prop) (P : Program) (k : IntKind) (k2 : IntKind) (t : Nat) (x : Int) (xo : Operand) (y : Int) (yo : Operand), binV P .shl t (.int k x) (.int k2 y) xo yo F KV = (shiftV .shl k x y KV)) ∧
  (∀ (F : Sem Value→Prop) (KV : Value→Prop) (P : Program) (k : IntKind) (k2 : IntKind) (t : Nat) (x : Int) (xo : Operand) (y : Int) (yo : Operand), binV P .shr t (.int k x) (.int k2 y) xo yo F KV = (shiftV .shr k x y KV)) ∧
  (∀ (F : Sem Value→Prop) (KV : Value→Prop) (P : Program) (a1 : Bool) (b1 : Bool) (t : Nat) (xo : Operand) (yo : Operand), binV P .eql t (.bool a1) (.bool b1) xo yo F KV = (bolV (tk P t) (KV (.bool (a1 == b1))))) ∧
  (∀ (F : Sem Value→Prop) (KV : Value→Prop) (P : Program) (a1 : Bool) (b1 : Bool) (t : Nat) (xo : Operand) (yo : Operand), binV P .neq t (.bool a1) (.bool b1) xo yo F KV = (bolV (tk P t) (KV (.bool (!(a1 == b1)))))) ∧
  (∀ (F : Sem Value→Prop) (KV : Value→Prop) (P : Program) (a : Option Addr) (t : Nat) (xo : Operand) (yo : Operand), binV P .eql t (.pointer a) (.pointer none) xo yo F KV = (pntV (tk P t) (KV (.bool a.isNone)))) ∧
  (∀ (F : Sem Value→Prop) (KV : Value→Prop) (P : Program) (a : Option Addr) (t : Nat) (xo : Operand) (yo : Operand), binV P .neq t (.pointer a) (.pointer none) xo yo F KV = (pntV (tk P t) (KV (.bool (!a.isNone))))) ∧
  (∀ (F : Sem Value→Prop) (KV : Value→Prop) (P : Program) (t : Nat) (x1 : ByteArray) (xo : Operand) (y1 : ByteArray) (yo : Operand), binV P .eql t (.string x1) (.string y1) xo yo F KV = (F (do eqGuard .eql t xo yo (.string x1) (.string y1); binOp .eql t (.string x1) (.string y1)))) ∧
  (∀ (F : Sem Value→Prop) (KV : Value→Prop) (P : Program) (t : Nat) (x2 : Array Value) (xo : Operand) (y2 : Array Value) (yo : Operand), binV P .eql t (.agg x2) (.agg y2) xo yo F KV = (F (do eqGuard .eql t xo yo (.agg x2) (.agg y2); binOp .eql t (.agg x2) (.agg y2)))) ∧
  (∀ (F : Sem Value→Prop) (KV : Value→Prop) (P : Program) (t : Nat) (x3 : TypeId) (x4 : Value) (xo : Operand) (y3 : TypeId) (y4 : Value) (yo : Operand), binV P .eql t (.iface x3 x4) (.iface y3 y4) xo yo F KV = (F (do eqGuard .eql t xo yo (.iface x3 x4) (.iface y3 y4); binOp .eql t (.iface x3 x4) (.iface y3 y4)))) ∧
  (∀ (F : Sem Value→Prop) (KV : Value→Prop) (P : Program) (t : Nat) (x3 : TypeId) (x4 : Value) (xo : Operand) (yo : Operand), binV P .eql t (.iface x3 x4) (.nilIface) xo yo F KV = (F (do eqGuard .eql t xo yo (.iface x3 x4) (.nilIface); binOp .eql t (.iface x3 x4) (.nilIface)))) ∧
  (∀ (F : Sem Value→Prop) (KV : Value→Prop) (P : Program) (t : Nat) (xo : Operand) (yo : Operand), binV P .eql t (.nilIface) (.nilIface) xo yo F KV = (F (do eqGuard .eql t xo yo (.nilIface) (.nilIface); binOp .eql t (.nilIface) (.nilIface)))) ∧
  (∀ (F : Sem Value→Prop) (KV : Value→Prop) (P : Program) (t : Nat) (xo : Operand) (y3 : TypeId) (y4 : Value) (yo : Operand), binV P .eql t (.nilIface) (.iface y3 y4) xo yo F KV = (F (do eqGuard .eql t xo yo (.nilIface) (.iface y3 y4); binOp .eql t (.nilIface) (.iface y3 y4)))) ∧
  (∀ (F : Sem Value→Prop) (KV : Value→Prop) (P : Program) (t : Nat) (x5 : Option Addr) (x6 : Nat) (x7 : Nat) (xo : Operand) (y5 : Option Addr) (y6 : Nat) (y7 : Nat) (yo : Operand), binV P .eql t (.slice x5 x6 x7) (.slice y5 y6 y7) xo yo F KV = (F (do eqGuard .eql t xo yo (.slice x5 x6 x7) (.slice y5 y6 y7); binOp .eql t (.slice x5 x6 x7) (.slice y5 y6 y7)))) ∧
  (∀ (F : Sem Value→Prop) (KV : Value→Prop) (P : Program) (t : Nat) (x8 : Option Nat) (xo : Operand) (y8 : Option Nat) (yo : Operand), binV P .eql t (.map x8) (.map y8) xo yo F KV = (F (do eqGuard .eql t xo yo (.map x8) (.map y8); binOp .eql t (.map x8) (.map y8)))) ∧
  (∀ (F : Sem Value→Prop) (KV : Value→Prop) (P : Program) (t : Nat) (xo : Operand) (yo : Operand), binV P .eql t (.nilFunc) (.nilFunc) xo yo F KV = (F (do eqGuard .eql t xo yo (.nilFunc) (.nilFunc); binOp .eql t (.nilFunc) (.nilFunc)))) ∧
  (∀ (F : Sem Value→Prop) (KV : Value→Prop) (P : Program) (t : Nat) (xo : Operand) (y10 : Array Value) (y11 : Array Value) (y9 : Fn) (yo : Operand), binV P .eql t (.nilFunc) (.func y9 y10 y11) xo yo F KV = (F (do eqGuard .eql t xo yo (.nilFunc) (.func y9 y10 y11); binOp .eql t (.nilFunc) (.func y9 y10 y11)))) ∧
  (∀ (F : Sem Value→Prop) (KV : Value→Prop) (P : Program) (t : Nat) (x10 : Array Value) (x11 : Array Value) (x9 : Fn) (xo : Operand) (yo : Operand), binV P .eql t (.func x9 x10 x11) (.nilFunc) xo yo F KV = (F (do eqGuard .eql t xo yo (.func x9 x10 x11) (.nilFunc); binOp .eql t (.func x9 x10 x11) (.nilFunc)))) ∧
  (∀ (F : Sem Value→Prop) (KV : Value→Prop) (P : Program) (t : Nat) (x1 : ByteArray) (xo : Operand) (y1 : ByteArray) (yo : Operand), binV P .neq t (.string x1) (.string y1) xo yo F KV = (F (do eqGuard .neq t xo yo (.string x1) (.string y1); binOp .neq t (.string x1) (.string y1)))) ∧
  (∀ (F : Sem Value→Prop) (KV : Value→Prop) (P : Program) (t : Nat) (x2 : Array Value) (xo : Operand) (y2 : Array Value) (yo : Operand), binV P .neq t (.agg x2) (.agg y2) xo yo F KV = (F (do eqGuard .neq t xo yo (.agg x2) (.agg y2); binOp .neq t (.agg x2) (.agg y2)))) ∧
  (∀ (F : Sem Value→Prop) (KV : Value→Prop) (P : Program) (t : Nat) (x3 : TypeId) (x4 : Value) (xo : Operand) (y3 : TypeId) (y4 : Value) (yo : Operand), binV P .neq t (.iface x3 x4) (.iface y3 y4) xo yo F KV = (F (do eqGuard .neq t xo yo (.iface x3 x4) (.iface y3 y4); binOp .neq t (.iface x3 x4) (.iface y3 y4)))) ∧
  (∀ (F : Sem Value→Prop) (KV : Value→Prop) (P : Program) (t : Nat) (x3 : TypeId) (x4 : Value) (xo : Operand) (yo : Operand), binV P .neq t (.iface x3 x4) (.nilIface) xo yo F KV = (F (do eqGuard .neq t xo yo (.iface x3 x4) (.nilIface); binOp .neq t (.iface x3 x4) (.nilIface)))) ∧
  (∀ (F : Sem Value→Prop) (KV : Value→Prop) (P : Program) (t : Nat) (xo : Operand) (yo : Operand), binV P .neq t (.nilIface) (.nilIface) xo yo F KV = (F (do eqGuard .neq t xo yo (.nilIface) (.nilIface); binOp .neq t (.nilIface) (.nilIface)))) ∧
  (∀ (F : Sem Value→Prop) (KV : Value→Prop) (P : Program) (t : Nat) (xo : Operand) (y3 : TypeId) (y4 : Value) (yo : Operand), binV P .neq t (.nilIface) (.iface y3 y4) xo yo F KV = (F (do eqGuard .neq t xo yo (.nilIface) (.iface y3 y4); binOp .neq t (.nilIface) (.iface y3 y4)))) ∧
  (∀ (F : Sem Value→Prop) (KV : Value→Prop) (P : Program) (t : Nat) (x5 : Option Addr) (x6 : Nat) (x7 : Nat) (xo : Operand) (y5 : Option Addr) (y6 : Nat) (y7 : Nat) (yo : Operand), binV P .neq t (.slice x5 x6 x7) (.slice y5 y6 y7) xo yo F KV = (F (do eqGuard .neq t xo yo (.slice x5 x6 x7) (.slice y5 y6 y7); binOp .neq t (.slice x5 x6 x7) (.slice y5 y6 y7)))) ∧
  (∀ (F : Sem Value→Prop) (KV : Value→Prop) (P : Program) (t : Nat) (x8 : Option Nat) (xo : Operand) (y8 : Option Nat) (yo : Operand), binV P .neq t (.map x8) (.map y8) xo yo F KV = (F (do eqGuard .neq t xo yo (.map x8) (.map y8); binOp .neq t (.map x8) (.map y8)))) ∧
  (∀ (F : Sem Value→Prop) (KV : Value→Prop) (P : Program) (t : Nat) (xo : Operand) (yo : Operand), binV P .neq t (.nilFunc) (.nilFunc) xo yo F KV = (F (do eqGuard .neq t xo yo (.nilFunc) (.nilFunc); binOp .neq t (.nilFunc) (.nilFunc)))) ∧
  (∀ (F : Sem Value→Prop) (KV : Value→Prop) (P : Program) (t : Nat) (xo : Operand) (y10 : Array Value) (y11 : Array Value) (y9 : Fn) (yo : Operand), binV P .neq t (.nilFunc) (.func y9 y10 y11) xo yo F KV = (F (do eqGuard .neq t xo yo (.nilFunc) (.func y9 y10 y11); binOp .neq t (.nilFunc) (.func y9 y10 y11)))) ∧
  (∀ (F : Sem Value→Prop) (KV : Value→Prop) (P : Program) (t : Nat) (x10 : Array Value) (x11 : Array Value) (x9 : Fn) (xo : Operand) (yo : Operand), binV P .neq t (.func x9 x10 x11) (.nilFunc) xo yo F KV = (F (do eqGuard .neq t xo yo (.func x9 x10 x11) (.nilFunc); binOp .neq t (.func x9 x10 x11) (.nilFunc)))) ∧
  (∀ (F : Sem Value→Prop) (KV : Value→Prop) (P : Program) (t : Nat) (x1 : ByteArray) (xo : Operand) (y1 : ByteArray) (yo : Operand), binV P .add t (.string x1) (.string y1) xo yo F KV = (F (do eqGuard .add t xo yo (.string x1) (.string y1); binOp .add t (.string x1) (.string y1)))) ∧
  (∀ (F : Sem Value→Prop) (KV : Value→Prop) (P : Program) (t : Nat) (x1 : ByteArray) (xo : Operand) (y1 : ByteArray) (yo : Operand), binV P .lss t (.string x1) (.string y1) xo yo F KV = (F (do eqGuard .lss t xo yo (.string x1) (.string y1); binOp .lss t (.string x1) (.string y1)))) ∧
  (∀ (F : Sem Value→Prop) (KV : Value→Prop) (P : Program) (t : Nat) (x1 : ByteArray) (xo : Operand) (y1 : ByteArray) (yo : Operand), binV P .leq t (.string x1) (.string y1) xo yo F KV = (F (do eqGuard .leq t xo yo (.string x1) (.string y1); binOp .leq t (.string x1) (.string y1)))) ∧
  (∀ (F : Sem Value→Prop) (KV : Value→Prop) (P : Program) (t : Nat) (x1 : ByteArray) (xo : Operand) (y1 : ByteArray) (yo : Operand), binV P .gtr t (.string x1) (.string y1) xo yo F KV = (F (do eqGuard .gtr t xo yo (.string x1) (.string y1); binOp .gtr t (.string x1) (.string y1)))) ∧
  (∀ (F : Sem Value→Prop) (KV : Value→Prop) (P : Program) (t : Nat) (x1 : ByteArray) (xo : Operand) (y1 : ByteArray) (yo : Operand), binV P .geq t (.string x1) (.string y1) xo yo F KV = (F (do eqGuard .geq t xo yo (.string x1) (.string y1); binOp .geq t (.string x1) (.string y1)))) ∧
  (∀ (A : Prop), bolV .bool A = (A)) ∧
  (∀ (A : Prop) (s : Nat), pntV (.pointer s) A = (A)) ∧
  (∀ (KV : Value→Prop) (k : IntKind) (x : Int) (y : Int), intV .add k x y KV = (KV (.int k (k.wrap (x + y))))) ∧
  (∀ (KV : Value→Prop) (k : IntKind) (x : Int) (y : Int), intV .sub k x y KV = (KV (.int k (k.wrap (x - y))))) ∧
  (∀ (KV : Value→Prop) (k : IntKind) (x : Int) (y : Int), intV .mul k x y KV = (KV (.int k (k.wrap (x * y))))) ∧
  (∀ (KV : Value→Prop) (k : IntKind) (x : Int) (y : Int), intV .quo k x y KV = (y ≠ 0 ∧ KV (.int k (k.wrap (x.tdiv y))))) ∧
  (∀ (KV : Value→Prop) (k : IntKind) (x : Int) (y : Int), intV .rem k x y KV = (y ≠ 0 ∧ KV (.int k (x.tmod y)))) ∧
  (∀ (KV : Value→Prop) (k : IntKind) (x : Int) (y : Int), intV .eql k x y KV = (KV (.bool (decide (x = y))))) ∧
  (∀ (KV : Value→Prop) (k : IntKind) (x : Int) (y : Int), intV .neq k x y KV = (KV (.bool (!decide (x = y))))) ∧
  (∀ (KV : Value→Prop) (k : IntKind) (x : Int) (y : Int), intV .lss k x y KV = (KV (.bool (decide (x < y))))) ∧
  (∀ (KV : Value→Prop) (k : IntKind) (x : Int) (y : Int), intV .leq k x y KV = (KV (.bool (decide (x ≤ y))))) ∧
  (∀ (KV : Value→Prop) (k : IntKind) (x : Int) (y : Int), intV .gtr k x y KV = (KV (.bool (decide (y < x))))) ∧
  (∀ (KV : Value→Prop) (k : IntKind) (x : Int) (y : Int), intV .geq k x y KV = (KV (.bool (decide (y ≤ x))))) ∧
  (∀ (KV : Value→Prop) (k : IntKind) (x : Int) (y : Int), intV .and k x y KV = (KV (.int k (k.wrap (BitVec.ofInt k.bits x &&& BitVec.ofInt k.bits y).toNat)))) ∧
  (∀ (KV : Value→Prop) (k : IntKind) (x : Int) (y : Int), intV .or k x y KV = (KV (.int k (k.wrap (BitVec.ofInt k.bits x ||| BitVec.ofInt k.bits y).toNat)))) ∧
  (∀ (KV : Value→Prop) (k : IntKind) (x : Int) (y : Int), intV .xor k x y KV = (KV (.int k (k.wrap (BitVec.ofInt k.bits x ^^^ BitVec.ofInt k.bits y).toNat)))) ∧
  (∀ (KV : Value→Prop) (k : IntKind) (x : Int) (y : Int), intV .andNot k x y KV = (KV (.int k (k.wrap (BitVec.ofInt k.bits x &&& ~~~ BitVec.ofInt k.bits y).toNat)))) ∧
  (∀ (KV : Value→Prop) (k : IntKind) (x : Int) (y : Int), shiftV .shl k x y KV = (0 ≤ y ∧ KV (.int k (k.wrap (x * 2 ^ (min y.toNat k.bits)))))) ∧
  (∀ (KV : Value→Prop) (k : IntKind) (x : Int) (y : Int), shiftV .shr k x y KV = (0 ≤ y ∧ KV (.int k (x.fdiv (2 ^ (min y.toNat k.bits)))))) ∧
  (∀ (F : Sem Value→Prop) (KV : Value→Prop) (P : Program) (t : Nat) (ty : TypeId) (xs : List Value), builtinV P .len #[t] ty xs F KV = (lenV P (tk P t) #[t] xs ty F KV)) ∧
  (∀ (F : Sem Value→Prop) (KV : Value→Prop) (P : Program) (a : Option Addr) (c : Nat) (j : Nat) (s : Nat) (ts : Array TypeId) (ty : TypeId), lenV P (.slice s) ts [.slice a j c] ty F KV = (KV (.int .i64 j))) ∧
  (∀ (F : Sem Value→Prop) (KV : Value→Prop) (P : Program) (ts : Array TypeId) (ty : TypeId) (x1 : ByteArray), lenV P .string ts [.string x1] ty F KV = (KV (.int .i64 x1.size))) ∧
  (∀ (F : Sem Value→Prop) (KV : Value→Prop) (P : Program) (s : Nat) (s2 : Nat) (ts : Array TypeId) (ty : TypeId) (xs : List Value), lenV P (.map s s2) ts xs ty F KV = (F (Builtin.len_ ts ty xs.toArray))) ∧
  (∀ (F : Sem Value→Prop) (KV : Value→Prop) (P : Program) (c : Nat) (j : Nat) (ts : Array TypeId) (ty : TypeId) (v : Value), lenV P (.array j c) ts [v] ty F KV = (KV (.int .i64 j))) ∧
  (∀ (F : Sem Value→Prop) (KV : Value→Prop) (P : Program) (ts : Array TypeId) (ty : TypeId) (xs : List Value), builtinV P .append ts ty xs F KV = (F (Builtin.append_ ts ty xs.toArray))) ∧
  (∀ (F : Sem Value→Prop) (KV : Value→Prop) (P : Program) (ts : Array TypeId) (ty : TypeId) (xs : List Value), builtinV P .cap ts ty xs F KV = (F (Builtin.cap_ ts ty xs.toArray))) ∧
  (∀ (F : Sem Value→Prop) (KV : Value→Prop) (P : Program) (ts : Array TypeId) (ty : TypeId) (xs : List Value), builtinV P .clear ts ty xs F KV = (F (Builtin.clear_ ts ty xs.toArray))) ∧
  (∀ (F : Sem Value→Prop) (KV : Value→Prop) (P : Program) (ts : Array TypeId) (ty : TypeId) (xs : List Value), builtinV P .copy ts ty xs F KV = (F (Builtin.copy_ ts ty xs.toArray))) ∧
  (∀ (F : Sem Value→Prop) (KV : Value→Prop) (P : Program) (ts : Array TypeId) (ty : TypeId) (xs : List Value), builtinV P .delete ts ty xs F KV = (F (Builtin.delete_ ts ty xs.toArray))) ∧
  (∀ (F : Sem Value→Prop) (KV : Value→Prop) (P : Program) (ts : Array TypeId) (ty : TypeId) (xs : List Value), builtinV P .max ts ty xs F KV = (F (Builtin.max_ ts ty xs.toArray))) ∧
  (∀ (F : Sem Value→Prop) (KV : Value→Prop) (P : Program) (ts : Array TypeId) (ty : TypeId) (xs : List Value), builtinV P .min ts ty xs F KV = (F (Builtin.min_ ts ty xs.toArray))) ∧
  (∀ (KW : Value→World→Prop) (P : Program) (g : Nat) (va : Array Value) (vb : Array Value) (w : World) (xs : List Value), callV P (.func (.func g) va vb) xs w KW = (callE (entered P g) P g (va ++ xs.toArray ++ vb) w KW)) ∧
  (∀ (KW : Value→World→Prop) (P : Program) (g : Nat) (va : Array Value) (w : World), callE true P g va w KW = (Ret P g va w KW)) ∧
  (∀ (KW : Value→World→Prop) (P : Program) (g : Nat) (va : Array Value) (w : World), callE false P g va w KW = (RunV P (do match ← callFunc g va with | .value v => pure v | _ => stuck "") w KW)) ∧
  (∀ (KW : Value→World→Prop) (P : Program) (id : Nat) (va : Array Value) (vb : Array Value) (w : World) (xs : List Value), callV P (.func (.yield id) va vb) xs w KW = (Yld P id (va ++ xs.toArray) w KW)) ∧
  (∀ (N : Kont) (P : Program) (R : Kont) (X : Nat→Kont) (ds : List Nat) (loc : List Value) (m : Nat) (n : Nat) (ro : Option Nat) (tmp : List (Nat×Value)) (w : World), codeV P ro n m (.skip) ds loc tmp w N X R = (N ds loc tmp w)) ∧
  (∀ (N : Kont) (P : Program) (R : Kont) (X : Nat→Kont) (ds : List Nat) (id : Nat) (loc : List Value) (m : Nat) (n : Nat) (ops : Array Oper) (ro : Option Nat) (tmp : List (Nat×Value)) (w : World), codeV P ro n m (.region id ops true) ds loc tmp w N X R = (SemV P ro n m (.region id ops true) ds loc [] w (mkQ N X R))) ∧
  (∀ (N : Kont) (P : Program) (R : Kont) (X : Nat→Kont) (ds : List Nat) (id : Nat) (loc : List Value) (m : Nat) (n : Nat) (ops : Array Oper) (ro : Option Nat) (tmp : List (Nat×Value)) (w : World), codeV P ro n m (.region id ops false) ds loc tmp w N X R = (∀ base, opsV P n base ops.toList ds ops.toList loc [] w N)) ∧
  (∀ (N : Kont) (P : Program) (R : Kont) (X : Nat→Kont) (c1 : Code) (c2 : Code) (ds : List Nat) (loc : List Value) (m : Nat) (n : Nat) (ro : Option Nat) (tmp : List (Nat×Value)) (w : World), codeV P ro n m (.seq c1 c2) ds loc tmp w N X R = (codeV P ro n m c1 ds loc tmp w (fun ds loc tmp w => codeV P ro n m c2 ds loc tmp w N X R) X R)) ∧
  (∀ (N : Kont) (P : Program) (R : Kont) (X : Nat→Kont) (c1 : Code) (c2 : Code) (ds : List Nat) (loc : List Value) (m : Nat) (n : Nat) (ro : Option Nat) (tmp : List (Nat×Value)) (w : World) (x : Operand), codeV P ro n m (.cond x c1 c2) ds loc tmp w N X R = (∀ base, CondP (ev n base loc tmp x) (codeV P ro n m c1 ds loc tmp w N X R) (codeV P ro n m c2 ds loc tmp w N X R))) ∧
  (∀ (N : Kont) (P : Program) (R : Kont) (X : Nat→Kont) (c1 : Code) (ds : List Nat) (loc : List Value) (m : Nat) (n : Nat) (ro : Option Nat) (tmp : List (Nat×Value)) (w : World), codeV P ro n m (.scope c1) ds loc tmp w N X R = (codeV P ro n m c1 ds loc tmp w N X R)) ∧
  (∀ (N : Kont) (P : Program) (R : Kont) (X : Nat→Kont) (ds : List Nat) (i : Nat) (loc : List Value) (m : Nat) (n : Nat) (ro : Option Nat) (tmp : List (Nat×Value)) (w : World), codeV P ro n m (.label i) ds loc tmp w N X R = (N ds loc tmp w)) ∧
  (∀ (N : Kont) (P : Program) (R : Kont) (X : Nat→Kont) (c1 : Code) (ds : List Nat) (i : Nat) (loc : List Value) (m : Nat) (n : Nat) (ro : Option Nat) (tmp : List (Nat×Value)) (w : World), codeV P ro n m (.block i c1) ds loc tmp w N X R = (codeV P ro n m c1 ds loc tmp w N (fun j => if j = i then N else X j) R)) ∧
  (∀ (N : Kont) (P : Program) (R : Kont) (X : Nat→Kont) (c1 : Code) (ds : List Nat) (loc : List Value) (m : Nat) (n : Nat) (ro : Option Nat) (tmp : List (Nat×Value)) (w : World), codeV P ro n m (.loop c1) ds loc tmp w N X R = (SemV P ro n m (.loop c1) ds loc [] w (mkQ N X R))) ∧
  (∀ (N : Kont) (P : Program) (R : Kont) (X : Nat→Kont) (ds : List Nat) (i : Nat) (loc : List Value) (m : Nat) (n : Nat) (ro : Option Nat) (tmp : List (Nat×Value)) (w : World), codeV P ro n m (.exit i) ds loc tmp w N X R = (X i ds loc tmp w)) ∧
  (∀ (N : Kont) (P : Program) (R : Kont) (X : Nat→Kont) (ds : List Nat) (loc : List Value) (m : Nat) (n : Nat) (ro : Option Nat) (tmp : List (Nat×Value)) (w : World), codeV P ro n m (.ret) ds loc tmp w N X R = (R ds loc tmp w)) ∧
  (∀ (N : Kont) (P : Program) (R : Kont) (X : Nat→Kont) (c1 : Code) (c2 : Code) (ds : List Nat) (loc : List Value) (m : Nat) (n : Nat) (ps : Array Tmp) (ro : Option Nat) (tmp : List (Nat×Value)) (w : World) (x : Operand), codeV P ro n m (.rangeFunc x ps c1 c2) ds loc tmp w N X R = (SemV P ro n m (.rangeFunc x ps c1 c2) ds loc tmp w (mkQ N X R))) ∧
  (∀ (x : Value) (xs : List Value) (y : Value), List.getD (x :: xs) 0 y = (x)) ∧
(∀ (α : Type) (x y : α), (if True then x else y) = x) ∧
(∀ (α : Type) (x y : α), (if False then x else y) = y) ∧
(∀ (x y : Prop), (if True then x else y) = x) ∧
(∀ (x y : Prop), (if False then x else y) = y) ∧
decide True = true ∧
decide False = false ∧
(!true) = false ∧
(!false) = true ∧
(∀ (a : Addr), (some a).isSome = true) ∧
(∀ (a : Addr), (some a).isNone = false) ∧
((none : Option Addr).isSome) = false ∧
((none : Option Addr).isNone) = true ∧
((Nat.cast 0 : Int) = 0) ∧
((Nat.cast 1 : Int) = 1) ∧
(∀ (a : Option Addr), sh a 0 = a) ∧
(∀ (k : Nat), ((k : Int)).toNat = k) ∧
(∀ (k : Nat), k * 1 = k) ∧
(∀ (k : Nat), 0 + k = k) ∧
(∀ (x : Value) (xs : List Value) (y : Value) (k : Nat), List.getD (x :: xs) (k + 1) y = List.getD xs k y) ∧
(∀ (x : Value) (xs : List Value) (v : Value), List.set (x :: xs) 0 v = v :: xs) ∧
(∀ (x : Value) (xs : List Value) (v : Value) (k : Nat), List.set (x :: xs) (k + 1) v = x :: List.set xs k v) ∧
(∀ (o : Oper) (l : List Oper), (o :: l)[0]? = some o) ∧
(∀ (o : Oper) (l : List Oper) (k : Nat), (o :: l)[k + 1]? = l[k]?) ∧
(∀ (o : Value) (l : List Value), (o :: l)[0]? = some o) ∧
(∀ (o : Value) (l : List Value) (k : Nat), (o :: l)[k + 1]? = l[k]?) ∧
(∀ (f : Operand → Value), List.map f [] = []) ∧
(∀ (f : Operand → Value) (x : Operand) (l : List Operand), List.map f (x :: l) = f x :: List.map f l) ∧
(∀ (f : Operand → Value) (l : List Operand), Array.map f (List.toArray l) = List.toArray (List.map f l)) ∧
(∀ (l : List Operand), (List.toArray l).toList = l) ∧
(∀ (l : List Value), (List.toArray l).toList = l) ∧
(∀ (l : List Oper), (List.toArray l).toList = l) ∧
(∀ (l : List Value), (List.toArray l).size = l.length) ∧
(∀ (x : Value) (l : List Value), (x :: l).length = l.length + 1) ∧
(([] : List Value).length = 0) ∧
(∀ (l l2 : List Value), List.toArray l ++ List.toArray l2 = List.toArray (l ++ l2)) ∧
(∀ (l : List Value), [] ++ l = l) ∧
(∀ (x : Value) (l l2 : List Value), (x :: l) ++ l2 = x :: (l ++ l2)) ∧
(∀ (x : Value), List.replicate 0 x = []) ∧
(∀ (x : Value) (k : Nat), List.replicate (k + 1) x = x :: List.replicate k x) ∧
(∀ (x y : TypeId) (l : List TypeId), (List.toArray (x :: l)).getD 0 y = x) ∧
(∀ (f : Operand → Value) (x : Operand), Option.map f (some x) = some (f x)) ∧
(∀ (f : Operand → Value), Option.map f none = none) ∧
(∀ (p : Prop), (∀ _ : Nat → Value, p) = p) ∧
(∀ (p : Prop), (True ∧ p) = p) ∧
(∀ (p : Prop), (p ∧ True) = p) ∧
(∀ (k : IntKind), (k = k) = True) ∧
(∀ (a : Option Addr) (k l : Nat), sh (sh a k) l = sh a (k + l)) ∧
(∀ (a : Option Addr), sh a 0 = a) ∧
(∀ (a : Option Addr) (k : Nat), (sh a k).isSome = a.isSome) ∧
(∀ (a : Addr), (some a).isSome = true) ∧
((true = true) = True) ∧
(∀ (f : Operand → Value) (ps : List (Nat × Operand)), Array.map (fun (x : Nat × Operand) => match x with | (i, x) => (i, f x)) (List.toArray ps) = List.toArray (List.map (fun (x : Nat × Operand) => (x.1, f x.2)) ps)) ∧
(∀ (f : Operand → Value), List.map (fun (x : Nat × Operand) => (x.1, f x.2)) [] = []) ∧
(∀ (f : Operand → Value) (i : Nat) (x : Operand) (ps : List (Nat × Operand)), List.map (fun (x : Nat × Operand) => (x.1, f x.2)) ((i, x) :: ps) = (i, f x) :: List.map (fun (x : Nat × Operand) => (x.1, f x.2)) ps) := by
  refine ⟨?_, ?_, ?_, ?_, ?_, ?_, ?_, ?_, ?_, ?_, ?_, ?_, ?_, ?_, ?_, ?_, ?_, ?_, ?_, ?_, ?_, ?_, ?_, ?_, ?_, ?_, ?_, ?_, ?_, ?_, ?_, ?_, ?_, ?_, ?_, ?_, ?_, ?_, ?_, ?_, ?_, ?_, ?_, ?_, ?_, ?_, ?_, ?_, ?_, ?_, ?_, ?_, ?_, ?_, ?_, ?_, ?_, ?_, ?_, ?_, ?_, ?_, ?_, ?_, ?_, ?_, ?_, ?_, ?_, ?_, ?_, ?_, ?_, ?_, ?_, ?_, ?_, ?_, ?_, ?_, ?_, ?_, ?_, ?_, ?_, ?_, ?_, ?_, ?_, ?_, ?_, ?_, ?_, ?_, ?_, ?_, ?_, ?_, ?_, ?_, ?_, ?_, ?_, ?_, ?_, ?_, ?_, ?_, ?_, ?_, ?_, ?_, ?_, ?_, ?_, ?_, ?_, ?_, ?_, ?_, ?_, ?_, ?_, ?_, ?_, ?_, ?_, ?_, ?_, ?_, ?_, ?_, ?_, ?_, ?_, ?_, ?_, ?_, ?_, ?_, ?_, ?_, ?_, ?_, ?_, ?_, ?_, ?_, ?_, ?_, ?_, ?_, ?_, ?_, ?_, ?_, ?_, ?_, ?_, ?_, ?_, ?_, ?_, ?_, ?_, ?_, ?_, ?_, ?_, ?_, ?_, ?_, ?_, ?_, ?_, ?_, ?_, ?_, ?_, ?_, ?_, ?_, ?_, ?_, ?_, ?_, ?_, ?_, ?_, ?_, ?_, ?_, ?_, ?_, ?_, ?_, ?_, ?_, ?_, ?_, ?_, ?_, ?_, ?_, ?_, ?_, ?_, ?_, ?_, ?_, ?_, ?_, ?_, ?_, ?_, ?_, ?_, ?_, ?_, ?_, ?_, ?_, ?_, ?_, ?_, ?_, ?_, ?_, ?_, ?_, ?_, ?_, ?_, ?_, ?_⟩ <;> (intros; first | rfl | (simp only [GuardP.undef, GuardP.undef', GuardP.tt, GuardP.ff, GuardP.tf, GuardP.ft, CondP.t, CondP.f]; done) | (simp [sh_sh, sh_zero, sh_isSome]; done))
end Go.E

set_option linter.unusedSimpArgs false
set_option linter.unusedVariables false
set_option linter.unusedSectionVars false
namespace Go.E

/-! ### Rows of cells that can be read -/
/-- at a (and on) lie the values vs -/
def Rd (w : World) (a : Option Addr) (vs : List Value) : Prop :=
  vs = [] ∨ ∃ p, a = some p ∧ p.spot = none ∧ ∀ k v, vs[k]? = some v → w.cell? (p.add k) = some v
/-- the same, for ever -/
def arr (a : Option Addr) (vs : List Value) : Fact where
  holds Γ := vs = [] ∨ ∃ p c T fr, a = some p ∧ p.spot = none ∧ Γ p.block = some (.cells c T fr) ∧ ∀ k v, vs[k]? = some v → c[p.off + k]? = some v
  mono := fun _ _ hl h => h.imp id fun ⟨p, c, T, fr, h1, h2, h3, h4⟩ => ⟨p, c, T, fr, h1, h2, hl.1 _ _ h3, h4⟩

/-- a block of cells, owned -/
def cel (b : Nat) (T : TypeId) (cs : List Value) : Res := own b (.cells cs.toArray T)

theorem add_plain {p : Addr} (h : p.spot = none) (k : Nat) : p.add k = ⟨p.block, p.off + k, none⟩ := by
  unfold Addr.add
  by_cases hk : k = 0
  · subst hk; cases p; simp_all
  · simp [hk]

section
variable {P : Program} {w : World} {O : List Res} {L : List Fact} {a : Option Addr} {vs : List Value}

theorem Rd.cells (h : Rd w a vs) (hn : vs ≠ []) : ∃ p, a = some p ∧ p.spot = none ∧ ∀ k v, vs[k]? = some v → w.cell? (p.add k) = some v := h.resolve_left hn
theorem Rd.some (h : Rd w a vs) (hn : 0 < vs.length) : a.isSome = true := by
  obtain ⟨p, rfl, _⟩ := h.cells (by intro e; simp [e] at hn)
  rfl
theorem Rd.drop (h : Rd w a vs) (k : Nat) : Rd w (sh a k) (vs.drop k) := by
  rcases h with rfl | ⟨p, rfl, h1, h2⟩
  · exact .inl (by simp)
  · refine .inr ⟨p.add k, rfl, by rw [add_plain h1], fun j v hj => ?_⟩
    rw [List.getElem?_drop] at hj
    rw [Addr_add_add]
    exact h2 _ _ hj
theorem Rd.take (h : Rd w a vs) (k : Nat) : Rd w a (vs.take k) := by
  rcases h with rfl | ⟨p, rfl, h1, h2⟩
  · exact .inl (by simp)
  · refine .inr ⟨p, rfl, h1, fun j v hj => ?_⟩
    rw [List.getElem?_take] at hj
    split at hj
    · exact h2 _ _ hj
    · cases hj

theorem Ctx.rd (h : Ctx w O L) (hm : arr a vs ∈ L) : Rd w a vs := by
  obtain ⟨Γ, h1, h2⟩ := h.fact hm
  rcases h2 with rfl | ⟨p, c, T, fr, rfl, h3, h4, h5⟩
  · exact .inl rfl
  · refine .inr ⟨p, rfl, h3, fun k v hk => ?_⟩
    rw [add_plain h3]
    simp only [World.cell?, h1.1 _ _ h4, Option.isSome_none, Bool.false_eq_true, if_false]
    exact h5 k v hk
theorem Ctx.rd_own {b : Nat} {T : TypeId} {cs : List Value} (h : Ctx w (cel b T cs :: O) L) : Rd w (some ⟨b, 0, none⟩) cs := by
  refine .inr ⟨_, rfl, rfl, fun k v hk => ?_⟩
  have := h.own_get
  rw [add_plain rfl]
  simp only [World.cell?, this, Option.isSome_none, Bool.false_eq_true, if_false, Nat.zero_add]
  simpa using hk

/-- a piece of a row -/
theorem Ctx.piece (h : Ctx w O L) (hm : arr a vs ∈ L) (k n : Nat) : Ctx w O (arr (sh a k) ((vs.drop k).take n) :: L) := by
  refine h.add fun Γ _ hL => ?_
  rcases hL _ hm with rfl | ⟨p, c, T, fr, rfl, h3, h4, h5⟩
  · exact .inl (by simp)
  · refine .inr ⟨p.add k, c, T, fr, rfl, by rw [add_plain h3], by rw [add_plain h3]; exact h4, fun j v hj => ?_⟩
    rw [add_plain h3]
    rw [List.getElem?_take] at hj
    split at hj
    · rw [List.getElem?_drop] at hj
      simpa [Nat.add_assoc] using h5 _ _ hj
    · cases hj

/-! ### Loads -/
theorem run_isAgg {t : TypeId} (ht : tis (tk P t) = true) (w : World) : (isAgg t).run P w = .ok (tagg (tk P t)) w := by
  simp only [isAgg, Sem.run_bind, run_underlying_tk ht]
  generalize tk P t = d at *
  cases d <;> rfl

theorem run_load1 {t : TypeId} {k : Nat} {v : Value} (h : Rd w a vs) (hk : vs[k]? = some v) (ht : (tis (tk P t) && !tagg (tk P t)) = true) :
    (Instr.loadAt t (.pointer (sh a k))).run P w = .ok v w := by
  simp only [Bool.and_eq_true, Bool.not_eq_true'] at ht
  obtain ⟨p, rfl, h1, h2⟩ := h.cells (by intro e; simp [e] at hk)
  have hc := h2 k v hk
  simp only [Instr.loadAt, sh, Option.map_some, Instr.sureAddr, loadVar, Sem.run_bind, Sem.run_pure, Result.andThen_ok, run_isAgg ht.1, ht.2, Bool.false_eq_true, if_false]
  simp [load, Sem.run, hc]

theorem run_loadn {t : TypeId} {k : Nat} (h : Rd w a vs) (n : Nat) (hn : tsz P t = n) (h0 : 0 < n) (hk : k + n ≤ vs.length) (ht : (tis (tk P t) && tagg (tk P t)) = true) :
    (Instr.loadAt t (.pointer (sh a k))).run P w = .ok (.agg ((vs.drop k).take n).toArray) w := by
  simp only [Bool.and_eq_true] at ht
  obtain ⟨p, rfl, h1, h2⟩ := h.cells (by intro e; simp [e] at hk; omega)
  obtain ⟨i, hi, hs, _⟩ := info_of_tsz (P := P) (t := t) (by omega)
  have hl : ((vs.drop k).take n).length = n := by simp; omega
  have hc := run_loadCells_list (P := P) w (p.add k) ((vs.drop k).take n) (fun j v hj => by
    rw [List.getElem?_take] at hj
    split at hj
    · rw [List.getElem?_drop] at hj
      rw [Addr_add_add]; exact h2 _ _ hj
    · cases hj)
  rw [hl] at hc
  simp only [Instr.loadAt, sh, Option.map_some, Instr.sureAddr, loadVar, Sem.run_bind, Sem.run_pure, Result.andThen_ok, run_isAgg ht.1, ht.2, if_true, sizeOf, typeInfo, run_program, hi, hs, hn, hc]

/-! ### Stores into what is owned -/
/-- the row cs with vs written at k -/
def wr (cs : List Value) (k : Nat) (vs : List Value) : List Value := cs.take k ++ vs ++ cs.drop (k + vs.length)

theorem run_store {t : TypeId} {b k : Nat} {T : TypeId} {cs : List Value} {v : Value} (h : Ctx w (cel b T cs :: O) L) (hs : tsz P t = v.cells.size) (h0 : 0 < v.cells.size) (hk : k + v.cells.size ≤ cs.length)
    (h1 : ∀ u ∈ v.cells.toList, u.oneCell' = true) :
    ∃ w', (do Instr.storeAt t (.pointer (sh (some ⟨b, 0, none⟩) k)) v; pure undef : Sem Value).run P w = .ok undef w' ∧ Ctx w' (cel b T (wr cs k v.cells.toList) :: O) L := by
  obtain ⟨i, hi, hsz, _⟩ := info_of_tsz (P := P) (t := t) (by omega)
  have hg : w.heap[b]? = some (.cells cs.toArray T (0, 0)) := h.own_get
  have hst := run_storeCells_at P b k T v.cells.toList 0 cs.toArray w hg (by simp; omega) h1
  refine ⟨_, ?_, h.own_set _ _ (setRow_heap w b cs.toArray _ T _ hg) (fun k' hk' => setRow_other w b k' _ hk') ⟨rfl, rfl⟩⟩
  simp only [Instr.storeAt, sh, Option.map_some, Instr.sureAddr, storeVar, Sem.run_bind, Sem.run_pure, Result.andThen_ok, sizeOf, typeInfo, run_program, hi, hsz, hs, ne_eq, not_true_eq_false, if_false,
    add_plain (p := ⟨b, 0, none⟩) rfl, Nat.zero_add, hst, Nat.add_zero, wr]

/-! ### New blocks -/
theorem run_box {t : TypeId} {v : Value} (h : Ctx w O L) : ∃ b w', (Instr.box t v).run P w = .ok (.pointer (some ⟨b, 0, none⟩)) w' ∧ Ctx w' (cel b t v.cells.toList :: O) L :=
  ⟨w.heap.size, w.alloc (.cells v.cells t), by simp [Instr.box, newVar, newRow], by simpa [cel] using h.alloc (.cells v.cells t)⟩

theorem Ctx.keep_cel {b : Nat} {T : TypeId} {cs : List Value} (h : Ctx w (cel b T cs :: O) L) : Ctx w O (arr (some ⟨b, 0, none⟩) cs :: L) := by
  refine h.publish fun c Γ hr _ hc _ => ?_
  cases hr
  refine .inr ⟨_, cs.toArray, T, (0, 0), rfl, rfl, hc (b, _) (by simp), fun k v hk => ?_⟩
  simpa using hk

theorem run_alloc {t : TypeId} {z : Value} (h : Ctx w O L) (hz : tzr P t = some z) : ∃ b w', (Instr.alloc t true (.tuple #[])).run P w = .ok (.pointer (some ⟨b, 0, none⟩)) w' ∧ Ctx w' (cel b t z.cells.toList :: O) L := by
  unfold tzr at hz
  cases hi : P.info? t with
  | none => rw [hi] at hz; cases hz
  | some i =>
    rw [hi] at hz
    have hz' : i.zero = some z := hz
    exact ⟨w.heap.size, w.alloc (.cells z.cells t), by simp [Instr.alloc, zeroValue, typeInfo, hi, hz', newVar, newRow], by simpa [cel] using h.alloc (.cells z.cells t)⟩

/-- a slice's literal: the cells of its elements -/
def fillOf (z : List Value) (size len : Nat) (parts : List (Nat × Value)) : Option (List Value) :=
  (Instr.fill (fun i => some (i * size, size)) ((Array.range (len * size)).map (z.toArray[· % z.length]!)) parts).map (·.toList)
theorem run_buildSlice {t e : TypeId} {z : Value} {len : Nat} {parts : List (Nat × Value)} {cs : List Value} (h : Ctx w O L) (ht : tk P t = .slice e) (hz : tzr P e = some z) (size : Nat) (hs : tsz P e = size) (h0 : 0 < size)
    (hl : len * size ≤ 16777216) (hc : fillOf (if len * size = 0 then [] else z.cells.toList) size len parts = some cs) :
    ∃ b w', (Instr.buildSlice t len parts.toArray).run P w = .ok (.slice (some ⟨b, 0, none⟩) len len) w' ∧ Ctx w' (cel b e cs :: O) L := by
  obtain ⟨i, hi, hsz, _, hzr⟩ := info_of_tsz (P := P) (t := e) (by omega)
  unfold fillOf at hc
  cases hf : Instr.fill (fun i => some (i * size, size)) ((Array.range (len * size)).map ((if len * size = 0 then [] else z.cells.toList).toArray[· % (if len * size = 0 then [] else z.cells.toList).length]!)) parts with
  | none => rw [hf] at hc; cases hc
  | some cells =>
    rw [hf] at hc
    cases hc
    refine ⟨w.heap.size, w.alloc (.cells cells e), ?_, by simpa [cel] using h.alloc (.cells cells e)⟩
    have hbig : ¬ len * size > 16777216 := by omega
    have hz' : i.zero = some z := by rw [hzr, hz]
    by_cases hn : len * size = 0
    · rw [if_pos hn] at hf
      simp only [Instr.buildSlice, Sem.run_bind, tis_of ht rfl, Result.andThen_ok, sizeOf, typeInfo, run_program, hi, hsz, hs, Sem.run_pure, show (2 : Nat) ^ 24 = 16777216 from rfl, if_neg hbig, if_pos hn]
      simp only [Array.size_empty] at hf ⊢
      simp at hf
      simp [hf, newRow]
    · rw [if_neg hn] at hf
      simp only [Instr.buildSlice, Sem.run_bind, tis_of ht rfl, Result.andThen_ok, sizeOf, typeInfo, run_program, hi, hsz, hs, Sem.run_pure, show (2 : Nat) ^ 24 = 16777216 from rfl, if_neg hbig, if_neg hn, zeroValue, hz']
      simp only [Array.toArray_toList, Array.length_toList] at hf
      simp [hf, newRow]

/-! ### A slice that the call makes, and appends to -/
/-- v, owned: nil, or at the head of a block of its own; its cells -/
def buf (T : TypeId) (size : Nat) (a : Option Addr) (n c : Nat) (xs : List Value) : Res := fun ch =>
  xs.length = n * size ∧
  ((a = none ∧ n = 0 ∧ c = 0 ∧ ch = []) ∨
   ∃ g cur, a = some ⟨g, 0, none⟩ ∧ ch = [(g, .cells cur T (0, 0))] ∧ n ≤ c ∧ c ≤ maxLen ∧ cur.size = c * size ∧ cur.toList.take (n * size) = xs)

theorem Ctx.buf_nil (h : Ctx w O L) (T : TypeId) (size : Nat) : Ctx w (buf T size none 0 0 [] :: O) L := by
  obtain ⟨Γ, cs, h1, h2, h3, h4, h5⟩ := h
  refine ⟨Γ, [] :: cs, h1, ⟨⟨by simp, .inl ⟨rfl, rfl, rfl, rfl⟩⟩, h2⟩, by simpa using h3, by simpa using h4, h5⟩

theorem Ctx.buf_cel {b : Nat} {T : TypeId} {cs : List Value} (h : Ctx w (cel b T cs :: O) L) (size n : Nat) (hn : cs.length = n * size) (hm : n ≤ maxLen) : Ctx w (buf T size (some ⟨b, 0, none⟩) n n cs :: O) L := by
  refine h.turn (w' := w) ⟨rfl, rfl⟩ fun c hc hp hd => ?_
  cases hc
  exact ⟨_, ⟨hn, .inr ⟨b, _, rfl, rfl, Nat.le_refl _, hm, by simp [hn], by simp [← hn]⟩⟩, hp, hd, fun x hx => .inl hx, fun _ _ _ => rfl⟩

theorem Ctx.keep_buf {T : TypeId} {size : Nat} {n c : Nat} {xs : List Value} (h : Ctx w (buf T size a n c xs :: O) L) : Ctx w O (arr a xs :: L) := by
  refine h.publish fun ch Γ hr _ hc _ => ?_
  obtain ⟨hl, ⟨rfl, rfl, rfl, rfl⟩ | ⟨g, cur, rfl, rfl, h1, h2, h3, h4⟩⟩ := hr
  · exact .inl (List.eq_nil_of_length_eq_zero (by simpa using hl))
  · refine .inr ⟨_, cur, T, (0, 0), rfl, rfl, hc (g, _) (by simp), fun k v hk => ?_⟩
    rw [← h4, List.getElem?_take] at hk
    split at hk
    · simpa using hk
    · cases hk

theorem Ctx.rd_buf {T : TypeId} {size : Nat} {n c : Nat} {xs : List Value} (h : Ctx w (buf T size a n c xs :: O) L) : Rd w a xs := h.keep_buf.rd (List.mem_cons_self ..)

theorem grownBy_turn {w' : World} {r r' : Res} (h : Ctx w (r :: O) L) (row : Option Nat) (hg : w.grownBy w' row)
    (ht : ∀ c, r c → (∀ p ∈ c, w.heap[p.1]? = some p.2) → (∀ k, row = some k → k ∈ c.map (·.1)) ∧ ∃ c', r' c' ∧ (∀ p ∈ c', w'.heap[p.1]? = some p.2) ∧ (c'.map (·.1)).Nodup ∧ (∀ b ∈ c'.map (·.1), b ∈ c.map (·.1) ∨ w.heap.size ≤ b)) :
    Ctx w' (r' :: O) L := by
  refine h.turn ⟨hg.os, hg.output⟩ fun c hc hp _ => ?_
  obtain ⟨hrow, c', h1, h2, h3, h4⟩ := ht c hc hp
  exact ⟨c', h1, h2, h3, h4, fun b hb hn => hg.block b hb fun e => hn (hrow b e.symm)⟩

/-- append, from a row that can be read -/
theorem run_append {t ty : TypeId} {T : TypeId} {size : Nat} {n c : Nat} {xs : List Value} {e : Option Addr} {m d : Nat} {ys : List Value} {z : Value}
    (h : Ctx w (buf T size a n c xs :: O) L) (ht : tk P t = .slice T) (hs : tsz P T = size) (h0 : 0 < size) (hz : tzr P T = some z) (hzs : z.cells.size = size) (hr : Rd w e ys) (hl : ys.length = m * size)
    (h1 : ∀ u ∈ ys, u.oneCell' = true) (hb : (n + m) * tby P T ≤ 140737488355328) (hm : n + m ≤ maxLen) :
    ∃ a' c' w', (Builtin.append_ #[t, t] ty #[.slice a n c, .slice e m d]).run P w = .ok (.slice a' (n + m) c') w' ∧ Ctx w' (buf T size a' (n + m) c' (xs ++ ys) :: O) L := by
  have hp : ∃ ch, buf T size a n c xs ch ∧ (∀ p ∈ ch, w.heap[p.1]? = some p.2) := by
    obtain ⟨Γ, cs, g1, g2, g3, g4, g5⟩ := h
    obtain ⟨ch, cs', rfl, hr, _⟩ := g2.cons_inv
    exact ⟨ch, hr, fun p hp => (g3 p (by simp only [List.flatten_cons, List.mem_append]; exact .inl hp)).1⟩
  obtain ⟨ch, hbuf, hch⟩ := hp
  have htu : P.underlying t = some (.slice T) := by rw [← ht]; exact underlying_some (by rw [ht]; rfl)
  obtain ⟨i, hi, hsz, hby, hzr⟩ := info_of_tsz (P := P) (t := T) (by omega)
  by_cases hm0 : m = 0
  · subst hm0
    have hys : ys = [] := List.eq_nil_of_length_eq_zero (by simpa using hl)
    subst hys
    have hnc : n ≤ c := by
      obtain ⟨_, ⟨rfl, rfl, rfl, rfl⟩ | ⟨g, cur, rfl, rfl, g1, _⟩⟩ := hbuf
      · exact Nat.le_refl _
      · exact g1
    refine ⟨a, c, w, ?_, by simpa using h⟩
    have hf : (Builtin.firstCells size 0 (.slice e 0 d)).run P w = .ok #[] w := by
      cases e <;> simp [Builtin.firstCells, loadCells, loadCellsFrom]
    cases a with
    | none => simp [Builtin.append_, run_underlying htu, sizeOf, typeInfo, hi, hsz, hs, Builtin.lenOf, hnc, hf]
    | some a => simp [Builtin.append_, run_underlying htu, sizeOf, typeInfo, hi, hsz, hs, Builtin.lenOf, hnc, hf, storeCells]
  · obtain ⟨q, rfl, hq1, hq2⟩ := hr.cells (by intro e; have : 0 < m * size := Nat.mul_pos (by omega) h0; rw [← hl, e] at this; simp at this)
    have hown : w.ownsRow 0 T size (.slice a n c) n xs := by
      obtain ⟨hl', ⟨rfl, rfl, rfl, rfl⟩ | ⟨g, cur, rfl, rfl, g1, g2, g3, g4⟩⟩ := hbuf
      · exact ⟨hl', .inl ⟨rfl, rfl⟩⟩
      · exact ⟨hl', .inr ⟨g, c, cur, rfl, Nat.zero_le _, hch (g, _) (by simp), g1, g2, g3, g4⟩⟩
    obtain ⟨v', w', hrun, hown', hgr, hnil⟩ := run_append_own (P := P) w 0 t ty T i z size (tby P T) htu hi (by rw [hzr, hz]) (by rw [hsz, hs]) hby hzs h0 (.slice a n c) n xs hown q m d ys hl hq2 h1 hm hb (Nat.zero_le _)
    have hv : ∃ g cap cur, v' = .slice (some ⟨g, 0, none⟩) (n + m) cap ∧ w'.heap[g]? = some (.cells cur T (0, 0)) ∧ n + m ≤ cap ∧ cap ≤ maxLen ∧ cur.size = cap * size ∧ cur.toList.take ((n + m) * size) = xs ++ ys := by
      rcases hown'.2 with ⟨e1, _⟩ | ⟨g, cap, cur, e1, _, e2, e3, e4, e5, e6⟩
      · exact absurd (hnil.1 e1).2 hm0
      · exact ⟨g, cap, cur, e1, e2, e3, e4, e5, e6⟩
    obtain ⟨g', cap, cur', rfl, e2, e3, e4, e5, e6⟩ := hv
    refine ⟨some ⟨g', 0, none⟩, cap, w', hrun, ?_⟩
    -- the new block is the old one, or new
    have hblk : a = some ⟨g', 0, none⟩ ∨ w.heap.size ≤ g' := by
      by_cases hroom : n + m ≤ c ∧ a.isSome = true
      · obtain ⟨_, ⟨rfl, rfl, rfl, rfl⟩ | ⟨g, cur, rfl, rfl, g1, g2, g3, g4⟩⟩ := hbuf
        · simp at hroom
        · have hfit : n * i.size + ys.length ≤ cur.size := by rw [hl, g3, hsz, hs, ← Nat.add_mul]; exact Nat.mul_le_mul_right _ hroom.1
          have := run_append_room (P := P) w t ty T i htu hi g n c cur (hch (g, _) (by simp)) q m d ys (by rw [hl, hsz, hs]) hq2 h1 hroom.1 hfit
          rw [this] at hrun
          cases hrun
          exact .inl rfl
      · obtain ⟨hl', ⟨rfl, rfl, rfl, rfl⟩ | ⟨g, cur, rfl, rfl, g1, g2, g3, g4⟩⟩ := hbuf
        · have := run_append_nil (P := P) w t ty T i z htu hi (by rw [hzr, hz]) q m d ys (by rw [hl, hsz, hs]) hq2 (by omega) (by simp only [maxLen] at hm; omega) (by rw [hby]; exact Nat.le_trans (by simpa using hb) (by decide))
          simp only [Nat.zero_add] at hrun
          rw [this] at hrun
          cases hrun
          exact .inr (Nat.le_refl _)
        · have hroom' : ¬ n + m ≤ c := by simpa using hroom
          have := run_append_grow (P := P) w t ty T i z htu hi (by rw [hzr, hz]) ⟨g, 0, none⟩ n c xs (by rw [hl', hsz, hs]) (hown.cells (g := g) rfl) q m d ys (by rw [hl, hsz, hs]) hq2 (by omega) (by simp only [maxLen] at hm; omega) (by rw [hby]; exact growslice_fits (by omega) hb)
          rw [this] at hrun
          cases hrun
          exact .inr (Nat.le_refl _)
    refine grownBy_turn h _ hgr fun c1 hc1 hp1 => ?_
    obtain ⟨hl', ⟨rfl, rfl, rfl, rfl⟩ | ⟨g, cur, rfl, rfl, g1, g2, g3, g4⟩⟩ := hc1
    · refine ⟨fun k hk => by simp [Value.ownBlock] at hk, [(g', .cells cur' T (0, 0))], ⟨by rw [List.length_append, hl', hl, Nat.add_mul], .inr ⟨g', cur', rfl, rfl, e3, e4, e5, e6⟩⟩, by simpa using e2, by simp, fun b hb' => ?_⟩
      simp at hb'
      subst hb'
      exact .inr (hblk.resolve_left (by simp))
    · refine ⟨fun k hk => by simp [Value.ownBlock] at hk; simp [hk], [(g', .cells cur' T (0, 0))], ⟨by rw [List.length_append, hl', hl, Nat.add_mul], .inr ⟨g', cur', rfl, rfl, e3, e4, e5, e6⟩⟩, by simpa using e2, by simp, fun b hb' => ?_⟩
      simp at hb'
      subst hb'
      rcases hblk with hblk | hblk
      · cases hblk; exact .inl (by simp)
      · exact .inr hblk
end
end Go.E

set_option linter.unusedSimpArgs false
set_option linter.unusedVariables false
set_option linter.unusedSectionVars false
namespace Go.E
section
variable {P : Program} {w : World} {O : List Res} {L : List Fact} {a : Option Addr} {vs : List Value}

/-! ### Loads, now and in whatever world of a kind -/
theorem FloatP.load1 {I : World → Prop} {t : TypeId} {k : Nat} {v : Value} {K : Value → Prop} (hI : ∀ w, I w → Rd w a vs) (hk : vs[k]? = some v) (ht : (tis (tk P t) && !tagg (tk P t)) = true) (h : K v) :
    FloatP P (Instr.loadAt t (.pointer (sh a k))) I K := ⟨v, fun w hw => run_load1 (hI w hw) hk ht, h⟩
theorem FloatP.load0 {I : World → Prop} {t : TypeId} {v : Value} {K : Value → Prop} (hI : ∀ w, I w → Rd w a vs) (hk : vs[0]? = some v) (ht : (tis (tk P t) && !tagg (tk P t)) = true) (h : K v) :
    FloatP P (Instr.loadAt t (.pointer a)) I K := by have := FloatP.load1 (K := K) hI hk ht h; rwa [sh_zero] at this
theorem RunV.load1 {t : TypeId} {k : Nat} {v : Value} {K : Value → World → Prop} (hr : Rd w a vs) (hk : vs[k]? = some v) (ht : (tis (tk P t) && !tagg (tk P t)) = true) (h : K v w) :
    RunV P (Instr.loadAt t (.pointer (sh a k))) w K := .of_ok (run_load1 hr hk ht) h
theorem RunV.load0 {t : TypeId} {v : Value} {K : Value → World → Prop} (hr : Rd w a vs) (hk : vs[0]? = some v) (ht : (tis (tk P t) && !tagg (tk P t)) = true) (h : K v w) :
    RunV P (Instr.loadAt t (.pointer a)) w K := by have := RunV.load1 (K := K) hr hk ht h; rwa [sh_zero] at this

/-! ### Bytes -/
def bv (b : UInt8) : Value := .int .u8 (b.toNat : Int)
def byt (a : Option Addr) (l : List UInt8) : Fact := arr a (l.map bv)
theorem bv_one (b : UInt8) : (bv b).oneCell' = true := rfl
theorem bv_inj {b c : UInt8} (h : ((b.toNat : Int) = (c.toNat : Int))) : b = c := UInt8.toNat_inj.1 (by omega)
theorem bv_at {l : List UInt8} {k : Nat} {b : UInt8} (h : l[k]? = some b) : (l.map bv)[k]? = some (bv b) := by simp [h]
theorem bv_lt {l : List UInt8} {k : Nat} (h : k < l.length) : (l.map bv)[k]? = some (bv l[k]) := by simp [h]

theorem mem0 {α : Type _} {x : α} {l : List α} : x ∈ x :: l := List.mem_cons_self ..
theorem mem1 {α : Type _} {x y : α} {l : List α} : x ∈ y :: x :: l := .tail _ (.head _)
theorem mem2 {α : Type _} {x y z : α} {l : List α} : x ∈ y :: z :: x :: l := .tail _ (.tail _ (.head _))
theorem mem3 {α : Type _} {x y z u : α} {l : List α} : x ∈ y :: z :: u :: x :: l := .tail _ (.tail _ (.tail _ (.head _)))

/-- the number in a slot -/
def num (v : Value) : Nat := match v with
  | .int _ n => n.toNat
  | _ => 0
end
end Go.E

set_option linter.unusedSimpArgs false
set_option linter.unusedVariables false
set_option linter.unusedSectionVars false
namespace Go.E

/-- whatever world holds O and L (and more) has vs at a -/
def Rdb (O : List Res) (L : List Fact) (a : Option Addr) (vs : List Value) : Prop := ∀ w L', (∀ φ ∈ L, φ ∈ L') → Ctx w O L' → Rd w a vs
section
variable {P : Program} {w : World} {O : List Res} {L L' : List Fact} {a : Option Addr} {vs : List Value}
theorem Rdb.rd (h : Rdb O L a vs) (hc : Ctx w O L) : Rd w a vs := h w L (fun _ hm => hm) hc
theorem Rdb.of_arr (h : arr a vs ∈ L) : Rdb O L a vs := fun _ _ hs hc => hc.rd (hs _ h)
theorem Rdb.more (h : Rdb O L a vs) (hs : ∀ φ ∈ L, φ ∈ L') : Rdb O L' a vs := fun w L'' hs' hc => h w L'' (fun φ hm => hs' φ (hs φ hm)) hc
theorem Rdb.cons (h : Rdb O L a vs) (r : Res) : Rdb (r :: O) L a vs := fun w L' hs hc => h w L' hs hc.drop
theorem Rdb.append (h : Rdb O L a vs) : ∀ (pre : List Res), Rdb (pre ++ O) L a vs
  | [] => h
  | r :: pre => (h.append pre).cons r
theorem Rdb.swap {r s : Res} (h : Rdb (r :: s :: O) L a vs) : Rdb (s :: r :: O) L a vs := fun w L' hs hc => h w L' hs hc.swap
theorem Rdb.buf {T : TypeId} {size n c : Nat} : Rdb (buf T size a n c vs :: O) L a vs := fun _ _ _ hc => hc.rd_buf
theorem Rdb.cel {b : Nat} {T : TypeId} : Rdb (cel b T vs :: O) L (some ⟨b, 0, none⟩) vs := fun _ _ _ hc => hc.rd_own
theorem Rdb.piece (h : Rdb O L a vs) (k n : Nat) : Rdb O L (sh a k) ((vs.drop k).take n) := fun w L' hs hc => ((h w L' hs hc).drop k).take n
theorem Rdb.take (h : Rdb O L a vs) (n : Nat) : Rdb O L a (vs.take n) := fun w L' hs hc => (h w L' hs hc).take n

theorem Ctx.dropN : ∀ (pre : List Res), Ctx w (pre ++ O) L → Ctx w O L
  | [], h => h
  | _ :: pre, h => Ctx.dropN pre h.drop
theorem Ctx.front {S : List Res} {r : Res} (h : Ctx w (S ++ r :: O) L) : Ctx w (r :: (S ++ O)) L := h.perm List.perm_middle
theorem Ctx.back {S : List Res} {r : Res} (h : Ctx w (r :: (S ++ O)) L) : Ctx w (S ++ r :: O) L := h.perm List.perm_middle.symm
end

section
variable {P : Program} {α ζ : Type}

/-- what a round of the loop does for the iterator: it goes on, or says no more -/
def Yields (P : Program) (l : Nat) (A : α → List Value → List Res → List Fact → Prop) (xs : List α) (S Sx : List α → ζ → List Res × List Fact) (O : List Res) (L : List Fact) : Prop :=
  ∀ (pre : List α) (x : α) (args : List Value) (z : ζ) (w : World) (Oi : List Res) (L' : List Fact), pre ++ [x] <+: xs → (∀ φ ∈ L, φ ∈ L') → Ctx w ((S pre z).1 ++ (Oi ++ O)) ((S pre z).2 ++ L') → A x args (Oi ++ O) L' →
    Yld P l args.toArray w fun v w' => (v = .bool true ∧ ∃ z', Ctx w' ((S (pre ++ [x]) z').1 ++ (Oi ++ O)) ((S (pre ++ [x]) z').2 ++ L')) ∨
      (v = .bool false ∧ ∃ z', Ctx w' ((Sx (pre ++ [x]) z').1 ++ (Oi ++ O)) ((Sx (pre ++ [x]) z').2 ++ L'))

/-- an iterator's contract: xs come, in this order, or a part of them till a round says no more -/
def IterOK (P : Program) (g : FuncId) (caps : List Value) (A : α → List Value → List Res → List Fact → Prop) (xs : List α) (Oi O : List Res) (L : List Fact) : Prop :=
  ∀ (l : Nat) (ζ : Type) (S Sx : List α → ζ → List Res × List Fact) (z : ζ) (w : World), Yields P l A xs S Sx O L → Ctx w ((S [] z).1 ++ (Oi ++ O)) ((S [] z).2 ++ L) →
    Ret P g (.func (.yield l) #[] #[] :: caps).toArray w fun _ w' => (∃ z', Ctx w' ((S xs z').1 ++ O) ((S xs z').2 ++ L)) ∨
      ∃ pre z', pre <+: xs ∧ Ctx w' ((Sx pre z').1 ++ O) ((Sx pre z').2 ++ L)

theorem entered_run {g : FuncId} (he : entered P g = true) (args : Array Value) (w : World) : (callFunc g args).run P w = .ok (.enter g args) w := by
  unfold entered at he
  cases hf : P.funcs[g]? with
  | none => rw [hf] at he; cases he
  | some fn =>
    rw [hf] at he
    simp only [Bool.and_eq_true, bne_iff_ne, ne_eq] at he
    obtain ⟨h1, h2⟩ := he
    have h3 : ¬ fn.body = none := by intro hb; rw [hb] at h2; cases h2
    simp [callFunc, hf, h1, h3]

theorem putObj_own {w : World} {O : List Res} {L : List Fact} {b : Nat} {o : Obj} (o' : Obj) (h : Ctx w (own b o :: O) L) : Ctx (w.putObj b o') (own b o' :: O) L := by
  have hg := h.own_get
  exact h.own_set o' _ (World.putObj_heap_same (Array.getElem?_eq_some_iff.1 hg).1) (fun k hk => World.putObj_heap_other hk) ⟨rfl, rfl⟩

/-- slots that are set one behind the other -/
def putsK (n : Nat) : List (Tmp × Value) → List Value → List (Nat × Value) → List Value × List (Nat × Value)
  | [], loc, tmp => (loc, tmp)
  | (t, v) :: r, loc, tmp => if t < n then putsK n r (loc.set t v) tmp else putsK n r loc ((t, v) :: tmp)

theorem Agree.puts {n : Nat} {base : Nat → Value} : ∀ (l : List (Tmp × Value)) {loc : List Value} {tmp : List (Nat × Value)} {t : Array Value}, Agree n base loc tmp ⟨t, []⟩ → (∀ p ∈ l, p.1 < t.size) →
    Agree n base (putsK n l loc tmp).1 (putsK n l loc tmp).2 ⟨l.foldl (fun t (p, v) => t.setIfInBounds p v) t, []⟩
  | [], _, _, _, h, _ => h
  | (p, v) :: r, loc, tmp, t, h, hl => by
    obtain ⟨loc', tmp', h', e⟩ := h.put (d := some p) (by intro t' e; cases e; exact hl (p, v) (by simp)) v (K := fun loc' tmp' => putsK n ((p, v) :: r) loc tmp = putsK n r loc' tmp') (by simp only [putK, putsK]; split <;> rfl)
    rw [e]
    exact Agree.puts r h' (fun q hq => by simp only [Act.put]; rw [Array.size_setIfInBounds]; exact hl q (by simp [hq]))

theorem size_puts : ∀ (l : List (Tmp × Value)) (t : Array Value), (l.foldl (fun t (p, v) => t.setIfInBounds p v) t).size = t.size
  | [], _ => rfl
  | (p, v) :: r, t => by simp only [List.foldl_cons]; rw [size_puts r]; exact Array.size_setIfInBounds

/-- **A RANGE OVER A FUNCTION**, outside every round -/
theorem SemV.range {n m : Nat} {fo : Operand} {ps : Array Tmp} {assign body : Code} {ds : List Nat} {loc : List Value} {tmp : List (Nat × Value)} {w : World} {N R : Kont} {X : Nat → Kont}
    {g : FuncId} {caps : List Value} {O Oi : List Res} {L : List Fact} {A : α → List Value → List Res → List Fact → Prop} {xs : List α} (U : List α → ζ → List Res × List Fact) (Ux : Code → List α → ζ → List Res × List Fact) (z0 : ζ)
    (hfo : ∀ base, ev n base loc tmp fo = .func (.func g) #[] caps.toArray) (hg : entered P g = true) (hok : (codeOK m assign && codeOK m body && ps.toList.all (· < m)) = true)
    (hA : ∀ x args r O L, A x args O L → A x args (r :: O) L) (hlen : ∀ x args O L, A x args O L → args.length = ps.size)
    (hit : IterOK P g caps A xs Oi O L) (h0 : Ctx w ((U [] z0).1 ++ (Oi ++ O)) ((U [] z0).2 ++ L))
    (hround : ∀ (l : Nat) (pre : List α) (x : α) (args : List Value) (z : ζ) (w : World) (Oy : List Res) (L' : List Fact), pre ++ [x] <+: xs → (∀ φ ∈ L, φ ∈ L') → Ctx w ((U pre z).1 ++ (Oy ++ O)) ((U pre z).2 ++ L') → A x args (Oy ++ O) L' →
      codeV P (some l) n m assign [] (putsK n (ps.toList.zip args) loc tmp).1 (putsK n (ps.toList.zip args) loc tmp).2 w (fun ds1 loc1 tmp1 w1 => ∃ U1 L1, Ctx w1 (U1 ++ (Oy ++ O)) (L1 ++ L') ∧
        ∀ (w2 : World) (O2 : List Res), Ctx w2 (U1 ++ (O2 ++ O)) (L1 ++ L') → A x args (O2 ++ O) L' → codeV P (some l) n m body ds1 loc1 tmp1 w2
          (fun ds2 _ _ w3 => ds2 = [] ∧ ∃ z', Ctx w3 ((U (pre ++ [x]) z').1 ++ (O2 ++ O)) ((U (pre ++ [x]) z').2 ++ L'))
          (fun i ds2 _ _ w3 => ds2 = [] ∧ ∃ z', Ctx w3 ((Ux (.exit i) (pre ++ [x]) z').1 ++ (O2 ++ O)) ((Ux (.exit i) (pre ++ [x]) z').2 ++ L'))
          (fun ds2 _ _ w3 => ds2 = [] ∧ ∃ z', Ctx w3 ((Ux .ret (pre ++ [x]) z').1 ++ (O2 ++ O)) ((Ux .ret (pre ++ [x]) z').2 ++ L'))) (fun _ _ _ _ _ => False) (fun _ _ _ _ => False))
    (hdone : ∀ (D : Nat) (z' : ζ) (w' : World), Ctx w' ((U xs z').1 ++ (own D (.deferred (some [])) :: O)) ((U xs z').2 ++ L) → N (D :: ds) loc tmp w')
    (hstop : ∀ (D : Nat) (c : Code) (pre : List α) (z' : ζ) (w' : World), pre <+: xs → (c = .ret ∨ ∃ i, c = .exit i) → Ctx w' ((Ux c pre z').1 ++ (own D (.deferred (some [])) :: O)) ((Ux c pre z').2 ++ L) → SemV P none n m c (D :: ds) loc tmp w' (mkQ N X R)) :
    SemV P none n m (.rangeFunc fo ps assign body) ds loc tmp w (mkQ N X R) := by
  simp only [Bool.and_eq_true] at hok
  obtain ⟨⟨hok1, hok2⟩, hps⟩ := hok
  intro a ha Qs hQs
  refine wpIn_rangeFunc fun fn hfn => ?_
  obtain ⟨base, hbase⟩ := ha.base
  have hev : a.eval fo = .func (.func g) #[] caps.toArray := by rw [hbase.ev]; exact hfo base
  obtain ⟨rec, hrec⟩ : ∃ rec : LoopState → Option Code → Loop, rec = fun st pe => { state := st, pending := pe, fn, tmps := a.tmps, params := ps, assign, body, defers := w.heap.size } := ⟨_, rfl⟩
  let l := w.heap.size + 1
  have hc1 := (h0.alloc (.deferred (some []))).alloc (.loop (rec .ready none))
  have hsz : (w.alloc (.deferred (some []))).heap.size = w.heap.size + 1 := by simp
  rw [hsz] at hc1
  refine ⟨l, [markOf w.heap.size], (w.alloc (.deferred (some []))).alloc (.loop (rec .ready none)), { target := .fn (.func g) caps.toArray, args := #[.func (.yield l) #[] #[]] }, (w.alloc (.deferred (some []))).alloc (.loop (rec .ready none)), g,
    (.func (.yield l) #[] #[] :: caps).toArray, (w.alloc (.deferred (some []))).alloc (.loop (rec .ready none)), ?_, ?_, fun f' _ => fz_fn f', ?_, fz_depth, ?_⟩
  · rw [hrec]; exact run_enterLoop_outer _ _ _ _ _
  · simp only [resolve, hev, rangeCall]
    simp [Deferred.ofValue, Act.eval]
  · simp only [invoke]
    have := entered_run hg ((.func (.yield l) #[] #[] :: caps).toArray) ((w.alloc (.deferred (some []))).alloc (.loop (rec .ready none)))
    simpa using this
  · -- the iterator
    let S : List α → (ζ × Code) → List Res × List Fact := fun pre z => ((U pre z.1).1 ++ [own l (.loop (rec .ready none)), own w.heap.size (.deferred (some []))], (U pre z.1).2)
    let Sx : List α → (ζ × Code) → List Res × List Fact := fun pre z => ((Ux z.2 pre z.1).1 ++ [own l (.loop (rec .done (some z.2))), own w.heap.size (.deferred (some []))] , (Ux z.2 pre z.1).2 ++ [truth (z.2 = .ret ∨ ∃ i, z.2 = .exit i)])
    have hy : Yields P l A xs S Sx O L := by
      intro pre x args z w1 Oi' L' hpx hL hc hax
      have hc' : Ctx w1 (own l (.loop (rec .ready none)) :: ((U pre z.1).1 ++ (own w.heap.size (.deferred (some [])) :: (Oi' ++ O)))) ((U pre z.1).2 ++ L') := by
        have := hc
        simp only [S, List.append_assoc, List.cons_append, List.nil_append] at this
        exact this.front
      have hl := hc'.own_get
      have hargs : args.toArray.size = (rec .ready none).params.size := by rw [hrec]; simpa using hlen _ _ _ _ hax
      have hyr := run_yield (P := P) (args := args.toArray) hl hargs
      refine ⟨_, _, _, _, hyr, ?_⟩
      rw [hrec]
      refine RoundIn.mono (F := Fence.wide) (R := fun e w' => ∃ v, e = .returned v ∧ ((v = .bool true ∧ ∃ z', Ctx w' ((S (pre ++ [x]) z').1 ++ (Oi' ++ O)) ((S (pre ++ [x]) z').2 ++ L')) ∨
        (v = .bool false ∧ ∃ z', Ctx w' ((Sx (pre ++ [x]) z').1 ++ (Oi' ++ O)) ((Sx (pre ++ [x]) z').2 ++ L')))) ?_ (fun e w' h => h)
      refine roundIn_of_wpIn (F := Fence.wide) trivial ?_
      -- the assignment
      have hstart : Fits' n m [] (putsK n (ps.toList.zip args) loc tmp).1 (putsK n (ps.toList.zip args) loc tmp).2
          { tmps := ((ps.zip args.toArray).foldl (fun tmps (t, a) => tmps.setIfInBounds t a) a.tmps), defers := [] } := by
        have e : (ps.zip args.toArray).foldl (fun tmps (t, a) => tmps.setIfInBounds t a) a.tmps = (ps.toList.zip args).foldl (fun t (p, v) => t.setIfInBounds p v) a.tmps := by
          rw [← Array.foldl_toList]; simp
        rw [e]
        have hb : Agree n base loc tmp ⟨a.tmps, []⟩ := hbase
        refine ⟨⟨base, Agree.puts _ hb fun p hp => ?_⟩, (size_puts _ _).trans ha.size, rfl⟩
        have := List.all_eq_true.1 hps p.1 (List.of_mem_zip hp).1
        rw [ha.size]
        simpa using this
      have hcA : Ctx w1 ((U pre z.1).1 ++ (([own l (.loop (rec .ready none)), own w.heap.size (.deferred (some []))] ++ Oi') ++ O)) ((U pre z.1).2 ++ L') := by
        simpa [S, List.append_assoc] using hc
      have hmono : ∀ (pre : List Res), A x args (pre ++ (Oi' ++ O)) L' := by
        intro pre
        induction pre with
        | nil => exact hax
        | cons r pre ih => exact hA _ _ _ _ _ ih
      have hcv := hround l pre x args z.1 w1 ([own l (.loop (rec .ready none)), own w.heap.size (.deferred (some []))] ++ Oi') L' hpx hL hcA (by rw [List.append_assoc]; exact hmono _)
      have hsem := codeV_sem assign _ _ _ _ _ _ _ hcv hok1 _ hstart
      refine hsem _ ?_
      intro e ds1 loc1 tmp1 w1' a1 ha1 hq
      cases e with
      | normal =>
        obtain ⟨U1, L1, hcU, hbody⟩ := hq
        have hcU' : Ctx w1' (own l (.loop (rec .ready none)) :: (U1 ++ (own w.heap.size (.deferred (some [])) :: (Oi' ++ O)))) (L1 ++ L') := by
          simp only [List.append_assoc, List.cons_append, List.nil_append] at hcU
          exact hcU.front
        have hl1 := hcU'.own_get
        have hbr := run_beginRound (P := P) hl1 (by rw [hrec])
        refine ⟨_, hbr, ?_⟩
        have hcB := (putObj_own (.loop { (rec .ready none) with state := .busy }) hcU').back
        have hcB' : Ctx (w1'.putObj l (.loop { (rec .ready none) with state := .busy })) (U1 ++ (([own l (.loop { (rec .ready none) with state := .busy }), own w.heap.size (.deferred (some []))] ++ Oi') ++ O)) (L1 ++ L') := by
          simpa [List.append_assoc] using hcB
        have hcv2 := hbody _ _ hcB' (by rw [List.append_assoc]; exact hmono _)
        have hsem2 := codeV_sem body _ _ _ _ _ _ _ hcv2 hok2 _ ha1
        refine hsem2 _ ?_
        intro e2 ds2 loc2 tmp2 w3 a3 ha3 hq2
        have fin : ∀ (jump : Option Code) (V : List Res × List Fact), Ctx w3 (V.1 ++ (([own l (.loop { (rec .ready none) with state := .busy }), own w.heap.size (.deferred (some []))] ++ Oi') ++ O)) (V.2 ++ L') →
            ∃ w4, (Instr.endRound l jump).run P w3 = .ok (.bool jump.isNone) w4 ∧ Ctx w4 ((V.1 ++ [own l (.loop (rec (if jump.isNone then .ready else .done) jump)), own w.heap.size (.deferred (some []))]) ++ (Oi' ++ O)) (V.2 ++ L') := by
          intro jump V hV
          have hV' : Ctx w3 (own l (.loop { (rec .ready none) with state := .busy }) :: (V.1 ++ (own w.heap.size (.deferred (some [])) :: (Oi' ++ O)))) (V.2 ++ L') := by
            simp only [List.append_assoc, List.cons_append, List.nil_append] at hV
            exact hV.front
          have hr := run_endRound (P := P) jump hV'.own_get
          refine ⟨_, hr, ?_⟩
          have := (putObj_own (.loop (rec (if jump.isNone then .ready else .done) jump)) hV').back
          rw [hrec] at this ⊢
          simpa [List.append_assoc] using this
        cases e2 with
        | normal =>
          obtain ⟨_, z', hz⟩ := hq2
          obtain ⟨w4, hr, hc4⟩ := fin none (U (pre ++ [x]) z') hz
          exact ⟨_, w4, hr, _, rfl, .inl ⟨rfl, (z', .ret), hc4⟩⟩
        | exit i =>
          obtain ⟨_, z', hz⟩ := hq2
          obtain ⟨w4, hr, hc4⟩ := fin (some (.exit i)) (Ux (.exit i) (pre ++ [x]) z') hz
          refine ⟨_, w4, hr, _, rfl, .inr ⟨rfl, (z', .exit i), ?_⟩⟩
          refine (hc4.add (φ := truth ((Code.exit i) = .ret ∨ ∃ j, (Code.exit i) = .exit j)) fun _ _ _ => .inr ⟨i, rfl⟩).weak fun φ hφ => ?_
          simp only [Sx, List.mem_append, List.mem_cons, List.not_mem_nil, or_false] at hφ ⊢
          rcases hφ with (hφ | hφ) | hφ
          · exact .inr (.inl hφ)
          · exact .inl hφ
          · exact .inr (.inr hφ)
        | ret =>
          obtain ⟨_, z', hz⟩ := hq2
          obtain ⟨w4, hr, hc4⟩ := fin (some .ret) (Ux .ret (pre ++ [x]) z') hz
          refine ⟨_, w4, hr, _, rfl, .inr ⟨rfl, (z', .ret), ?_⟩⟩
          refine (hc4.add (φ := truth (Code.ret = .ret ∨ ∃ j, Code.ret = .exit j)) fun _ _ _ => .inl rfl).weak fun φ hφ => ?_
          simp only [Sx, List.mem_append, List.mem_cons, List.not_mem_nil, or_false] at hφ ⊢
          rcases hφ with (hφ | hφ) | hφ
          · exact .inr (.inl hφ)
          · exact .inl hφ
          · exact .inr (.inr hφ)
        | _ => exact hq2.elim
      | _ => exact hq.elim
    have hstart : Ctx ((w.alloc (.deferred (some []))).alloc (.loop (rec .ready none))) ((S [] (z0, .ret)).1 ++ (Oi ++ O)) ((S [] (z0, .ret)).2 ++ L) := by
      have := (Ctx.perm (List.Perm.swap _ _ _) hc1)
      have h2 : Ctx ((w.alloc (.deferred (some []))).alloc (.loop (rec .ready none))) ((U [] z0).1 ++ (own l (.loop (rec .ready none)) :: own w.heap.size (.deferred (some [])) :: (Oi ++ O))) ((U [] z0).2 ++ L) := by
        refine hc1.perm ?_
        refine List.Perm.trans ?_ List.perm_middle.symm
        exact (List.perm_middle (l₁ := (U [] z0).1) (l₂ := Oi ++ O) (a := own w.heap.size (.deferred (some [])))).symm.cons _
      simpa [S, List.append_assoc] using h2
    have hret := hit l (ζ × Code) S Sx (z0, .ret) _ hy hstart
    have hcall := callsIn_wide (n := 0 - 1).2 hret
    refine CallsIn.mono (F := fz none) hcall fun e w3 hres => ?_
    obtain ⟨v, rfl, hres⟩ := hres
    have hfits : ∀ {V : List Res × List Fact}, Fits' n m (w.heap.size :: ds) loc tmp { a with defers := [markOf w.heap.size] ++ a.defers } := fun {_} =>
      ⟨⟨base, hbase⟩, ha.size, by simp [ha.defers]⟩
    rcases hres with ⟨z', hc3⟩ | ⟨pre, z', hpre, hc3⟩
    · have hc3' : Ctx w3 (own l (.loop (rec .ready none)) :: ((U xs z'.1).1 ++ (own w.heap.size (.deferred (some [])) :: O))) ((U xs z'.1).2 ++ L) := by
        have := hc3
        simp only [S, List.append_assoc, List.cons_append, List.nil_append] at this
        exact this.front
      have hp : (rec .ready none).pending = none := by rw [hrec]
      obtain ⟨w4, hend, hc4⟩ : ∃ w4, (Instr.endLoop l).run P w3 = .ok none w4 ∧ Ctx w4 ((U xs z'.1).1 ++ (own w.heap.size (.deferred (some [])) :: O)) ((U xs z'.1).2 ++ L) :=
        ⟨_, (run_endLoop (P := P) hc3'.own_get (by rw [hrec]; simp)).trans (congrArg (Result.ok · _) hp), (putObj_own (.loop { (rec .ready none) with state := .exhausted }) hc3').drop⟩
      refine ⟨_, _, hend, ?_⟩
      have hk := hdone w.heap.size z'.1 _ hc4
      exact hQs .normal _ _ _ _ _ (hfits (V := U xs z'.1)) hk
    · have hc3' : Ctx w3 (own l (.loop (rec .done (some z'.2))) :: ((Ux z'.2 pre z'.1).1 ++ (own w.heap.size (.deferred (some [])) :: O))) ((Ux z'.2 pre z'.1).2 ++ (truth (z'.2 = .ret ∨ ∃ i, z'.2 = .exit i) :: L)) := by
        have := hc3
        simp only [Sx, List.append_assoc, List.cons_append, List.nil_append] at this
        exact this.front
      have hp : (rec .done (some z'.2)).pending = some z'.2 := by rw [hrec]
      obtain ⟨w4, hend, hc4⟩ : ∃ w4, (Instr.endLoop l).run P w3 = .ok (some z'.2) w4 ∧ Ctx w4 ((Ux z'.2 pre z'.1).1 ++ (own w.heap.size (.deferred (some [])) :: O)) ((Ux z'.2 pre z'.1).2 ++ (truth (z'.2 = .ret ∨ ∃ i, z'.2 = .exit i) :: L)) :=
        ⟨_, (run_endLoop (P := P) hc3'.own_get (by rw [hrec]; simp)).trans (congrArg (Result.ok · _) hp), (putObj_own (.loop { (rec .done (some z'.2)) with state := .exhausted }) hc3').drop⟩
      refine ⟨_, _, hend, ?_⟩
      obtain ⟨_, _, htr⟩ := hc4.fact (φ := truth (z'.2 = .ret ∨ ∃ i, z'.2 = .exit i)) (by simp)
      have hk := hstop w.heap.size z'.2 pre z'.1 _ hpre htr (hc4.weak fun φ hφ => by
        simp only [List.mem_append, List.mem_cons] at hφ ⊢
        rcases hφ with hφ | hφ
        · exact .inl hφ
        · exact .inr (.inr hφ))
      exact hk _ (hfits (V := Ux z'.2 pre z'.1)) Qs hQs
end
end Go.E

set_option linter.unusedSimpArgs false
set_option linter.unusedVariables false
set_option linter.unusedSectionVars false
namespace Go.E
section
variable {P : Program} {w : World} {O : List Res} {L : List Fact} {a : Option Addr} {vs : List Value} {K : Value → World → Prop}

theorem Yld.mono {P : Program} {l : Nat} {args : Array Value} {w : World} {K K' : Value → World → Prop} (h : Yld P l args w K) (hk : ∀ v w, K v w → K' v w) : Yld P l args w K' := by
  obtain ⟨fn, tmps, assign, body, h1, h2⟩ := h
  exact ⟨fn, tmps, assign, body, h1, RoundIn.mono h2 fun e w' ⟨v, e1, h3⟩ => ⟨v, e1, hk _ _ h3⟩⟩

/-! ### Facts made of facts -/
def andF (A B : Fact) : Fact := ⟨fun Γ => A.holds Γ ∧ B.holds Γ, fun _ _ hl h => ⟨A.mono _ _ hl h.1, B.mono _ _ hl h.2⟩⟩
def exF {α : Type} (F : α → Fact) : Fact := ⟨fun Γ => ∃ x, (F x).holds Γ, fun _ _ hl ⟨x, h⟩ => ⟨x, (F x).mono _ _ hl h⟩⟩
def allF {α : Type} (p : α → Prop) (F : α → Fact) : Fact := ⟨fun Γ => ∀ x, p x → (F x).holds Γ, fun _ _ hl h x hx => (F x).mono _ _ hl (h x hx)⟩
theorem Ctx.and {A B : Fact} (h : Ctx w O (andF A B :: L)) : Ctx w O (A :: B :: L) := by
  obtain ⟨Γ, cs, h1, h2, h3, h4, h5⟩ := h
  have hab := h5 (andF A B) (by simp)
  refine ⟨Γ, cs, h1, h2, h3, h4, fun φ hφ => ?_⟩
  simp only [List.mem_cons] at hφ
  rcases hφ with rfl | rfl | hφ
  · exact hab.1
  · exact hab.2
  · exact h5 φ (by simp [hφ])
theorem Ctx.ex {α : Type} {F : α → Fact} (h : Ctx w O (exF F :: L)) : ∃ x, Ctx w O (F x :: L) := by
  obtain ⟨Γ, cs, h1, h2, h3, h4, h5⟩ := h
  obtain ⟨x, hx⟩ := h5 (exF F) (by simp)
  refine ⟨x, Γ, cs, h1, h2, h3, h4, fun φ hφ => ?_⟩
  simp only [List.mem_cons] at hφ
  rcases hφ with rfl | hφ
  · exact hx
  · exact h5 φ (by simp [hφ])
theorem Ctx.true {p : Prop} (h : Ctx w O (truth p :: L)) : p ∧ Ctx w O L := by
  obtain ⟨_, _, hp⟩ := h.fact (φ := truth p) (by simp)
  exact ⟨hp, h.weak fun φ hφ => by simp [hφ]⟩
theorem Ctx.pull {φ : Fact} (h : Ctx w O L) (hm : φ ∈ L) : Ctx w O (φ :: L) := h.weak fun ψ hψ => by
  simp only [List.mem_cons] at hψ
  rcases hψ with rfl | hψ
  · exact hm
  · exact hψ
theorem Ctx.tailF {φ : Fact} (h : Ctx w O (φ :: L)) : Ctx w O L := h.weak fun _ hm => .tail _ hm

/-! ### What is owned, made of parts -/
def sepR (r s : Res) : Res := fun c => ∃ c1 c2, c = c1 ++ c2 ∧ r c1 ∧ s c2
def exR {α : Type} (F : α → Res) : Res := fun c => ∃ x, F x c
theorem Ctx.sep {r s : Res} (h : Ctx w (sepR r s :: O) L) : Ctx w (r :: s :: O) L := by
  obtain ⟨Γ, cs, h1, h2, h3, h4, h5⟩ := h
  obtain ⟨c, cs', rfl, ⟨c1, c2, rfl, hr, hs⟩, h2'⟩ := h2.cons_inv
  exact ⟨Γ, c1 :: c2 :: cs', h1, ⟨hr, hs, h2'⟩, by simpa using h3, by simpa using h4, h5⟩
theorem Ctx.join {r s : Res} (h : Ctx w (r :: s :: O) L) : Ctx w (sepR r s :: O) L := by
  obtain ⟨Γ, cs, h1, h2, h3, h4, h5⟩ := h
  obtain ⟨c1, cs', rfl, hr, h2'⟩ := h2.cons_inv
  obtain ⟨c2, cs'', rfl, hs, h2''⟩ := h2'.cons_inv
  exact ⟨Γ, (c1 ++ c2) :: cs'', h1, ⟨⟨c1, c2, rfl, hr, hs⟩, h2''⟩, by simpa using h3, by simpa using h4, h5⟩
theorem Ctx.exr {α : Type} {F : α → Res} (h : Ctx w (exR F :: O) L) : ∃ x, Ctx w (F x :: O) L := by
  obtain ⟨Γ, cs, h1, h2, h3, h4, h5⟩ := h
  obtain ⟨c, cs', rfl, ⟨x, hx⟩, h2'⟩ := h2.cons_inv
  exact ⟨x, Γ, c :: cs', h1, ⟨hx, h2'⟩, h3, h4, h5⟩
theorem Ctx.mkr {α : Type} {F : α → Res} (x : α) (h : Ctx w (F x :: O) L) : Ctx w (exR F :: O) L := by
  obtain ⟨Γ, cs, h1, h2, h3, h4, h5⟩ := h
  obtain ⟨c, cs', rfl, hx, h2'⟩ := h2.cons_inv
  exact ⟨Γ, c :: cs', h1, ⟨⟨x, hx⟩, h2'⟩, h3, h4, h5⟩
theorem Ctx.to2 {r s t : Res} (h : Ctx w (r :: s :: t :: O) L) : Ctx w (t :: r :: s :: O) L :=
  h.perm ((List.Perm.swap _ _ _ |>.cons _).trans (List.Perm.swap _ _ _))
theorem Ctx.to3 {r s t u : Res} (h : Ctx w (r :: s :: t :: u :: O) L) : Ctx w (u :: r :: s :: t :: O) L :=
  h.perm (List.perm_middle (l₁ := [r, s, t]))
theorem Ctx.un2 {r s t : Res} (h : Ctx w (t :: r :: s :: O) L) : Ctx w (r :: s :: t :: O) L :=
  h.perm (List.perm_middle (l₁ := [r, s])).symm
theorem Ctx.un3 {r s t u : Res} (h : Ctx w (u :: r :: s :: t :: O) L) : Ctx w (r :: s :: t :: u :: O) L :=
  h.perm (List.perm_middle (l₁ := [r, s, t])).symm

theorem Ctx.tr {p : Prop} (h : Ctx w O L) (hp : p) : Ctx w O (truth p :: L) := h.add fun _ _ _ => hp
theorem Ctx.nthR : ∀ {k : Nat} {r : Res} {O : List Res}, Ctx w O L → O[k]? = some r → Ctx w (r :: O.eraseIdx k) L := by
  intro k r O h hk
  refine h.perm ?_
  obtain ⟨hk2, rfl⟩ := List.getElem?_eq_some_iff.1 hk
  have h1 : O = O.take k ++ O[k] :: O.drop (k + 1) := by rw [← List.drop_eq_getElem_cons hk2, List.take_append_drop]
  rw [List.eraseIdx_eq_take_drop_succ]
  conv => lhs; rw [h1]
  exact List.perm_middle
/-- another order: the numbered ones first -/
def reord : List Nat → List Res → List Res
  | [], O => O
  | k :: ks, O => match O[k]? with
    | some r => r :: reord ks (O.eraseIdx k)
    | none => O
theorem reord_perm : ∀ (ks : List Nat) (O : List Res), O.Perm (reord ks O)
  | [], _ => .refl _
  | k :: ks, O => by
    rw [reord]
    split
    · rename_i r hk
      obtain ⟨hk2, rfl⟩ := List.getElem?_eq_some_iff.1 hk
      have h1 : O = O.take k ++ O[k] :: O.drop (k + 1) := by rw [← List.drop_eq_getElem_cons hk2, List.take_append_drop]
      refine List.Perm.trans ?_ ((reord_perm ks (O.eraseIdx k)).cons _)
      rw [List.eraseIdx_eq_take_drop_succ]
      conv => lhs; rw [h1]
      exact List.perm_middle
    · exact .refl _
theorem Ctx.drop2 {r s : Res} (h : Ctx w (r :: s :: O) L) : Ctx w (r :: O) L := h.swap.drop
theorem Ctx.ord (ks : List Nat) (h : Ctx w O L) : Ctx w (reord ks O) L := h.perm (reord_perm ks O)

/-- without the numbered one -/
theorem Ctx.del (k : Nat) (h : Ctx w O L) : Ctx w (O.eraseIdx k) L := by
  cases hk : O[k]? with
  | some r => exact (h.nthR hk).drop
  | none => rw [List.eraseIdx_of_length_le (List.getElem?_eq_none_iff.1 hk)]; exact h

/-! ### Rules -/
theorem RunV.box {t : TypeId} {v : Value} (h : Ctx w O L) (k : ∀ b w', Ctx w' (cel b t v.cells.toList :: O) L → K (.pointer (some ⟨b, 0, none⟩)) w') : RunV P (Instr.box t v) w K := by
  obtain ⟨b, w', hr, hc⟩ := run_box (P := P) (t := t) (v := v) h
  exact .of_ok hr (k b w' hc)
theorem RunV.boxK {t : TypeId} {v : Value} (h : Ctx w O L) (k : ∀ q w', Ctx w' O (arr (some q) v.cells.toList :: L) → K (.pointer (some q)) w') : RunV P (Instr.box t v) w K := by
  obtain ⟨b, w', hr, hc⟩ := run_box (P := P) (t := t) (v := v) h
  exact .of_ok hr (k _ w' hc.keep_cel)
theorem RunV.alloc {t : TypeId} (z : Value) (h : Ctx w O L) (hz : tzr P t = some z) (k : ∀ b w', Ctx w' (cel b t z.cells.toList :: O) L → K (.pointer (some ⟨b, 0, none⟩)) w') : RunV P (Instr.alloc t true (.tuple #[])) w K := by
  obtain ⟨b, w', hr, hc⟩ := run_alloc (P := P) (t := t) h hz
  exact .of_ok hr (k b w' hc)
theorem RunV.lit {t : TypeId} (e : TypeId) (z : Value) (size : Nat) {len : Nat} {parts : List (Nat × Value)} (cs : List Value) (h : Ctx w O L) (ht : tk P t = .slice e) (hz : tzr P e = some z) (hs : tsz P e = size) (h0 : 0 < size)
    (hl : len * size ≤ 16777216) (hc : fillOf (if len * size = 0 then [] else z.cells.toList) size len parts = some cs)
    (k : ∀ b w', Ctx w' (cel b e cs :: O) L → K (.slice (some ⟨b, 0, none⟩) len len) w') : RunV P (Instr.buildSlice t len parts.toArray) w K := by
  obtain ⟨b, w', hr, hc⟩ := run_buildSlice (P := P) h ht hz size hs h0 hl hc
  exact .of_ok hr (k b w' hc)
/-- a slice of one element of one cell -/
theorem RunV.lit1 {t : TypeId} {v : Value} (e : TypeId) (z : Value) (h : Ctx w O L) (ht : tk P t = .slice e) (hz : tzr P e = some z) (hs : tsz P e = 1) (hv : v.cells = #[v]) (hzs : z.cells.size = 1)
    (k : ∀ b w', Ctx w' (cel b e [v] :: O) L → K (.slice (some ⟨b, 0, none⟩) 1 1) w') : RunV P (Instr.buildSlice t 1 #[(0, v)]) w K := by
  refine RunV.lit (parts := [(0, v)]) e z 1 [v] h ht hz hs (by decide) (by decide) ?_ k
  obtain ⟨u, hu⟩ : ∃ u, z.cells = #[u] := by
    match hc : z.cells, hzs with
    | ⟨[u]⟩, _ => exact ⟨u, rfl⟩
  simp [fillOf, Instr.fill, hv, hu, List.range, List.range.loop]
theorem RunV.loadn {t : TypeId} {k : Nat} (n : Nat) (xs : List Value) (hr : Rd w a vs) (hn : tsz P t = n) (h0 : 0 < n) (hk : k + n ≤ vs.length) (hx : (vs.drop k).take n = xs) (ht : (tis (tk P t) && tagg (tk P t)) = true) (h : K (.agg xs.toArray) w) :
    RunV P (Instr.loadAt t (.pointer (sh a k))) w K := by subst hx; exact .of_ok (run_loadn hr n hn h0 hk ht) h
theorem RunV.loadn0 {t : TypeId} (n : Nat) (xs : List Value) (hr : Rd w a vs) (hn : tsz P t = n) (h0 : 0 < n) (hk : n ≤ vs.length) (hx : vs.take n = xs) (ht : (tis (tk P t) && tagg (tk P t)) = true) (h : K (.agg xs.toArray) w) :
    RunV P (Instr.loadAt t (.pointer a)) w K := by
  have := RunV.loadn (P := P) (k := 0) (K := K) n xs hr hn h0 (by omega) (by simpa using hx) ht h
  rwa [sh_zero] at this
theorem FloatP.loadn {I : World → Prop} {K : Value → Prop} {t : TypeId} {k : Nat} (n : Nat) (xs : List Value) (hI : ∀ w, I w → Rd w a vs) (hn : tsz P t = n) (h0 : 0 < n) (hk : k + n ≤ vs.length) (hx : (vs.drop k).take n = xs) (ht : (tis (tk P t) && tagg (tk P t)) = true) (h : K (.agg xs.toArray)) :
    FloatP P (Instr.loadAt t (.pointer (sh a k))) I K := by subst hx; exact ⟨_, fun w hw => run_loadn (hI w hw) n hn h0 hk ht, h⟩
theorem RunV.build {t : TypeId} {parts : Array (Nat × Value)} (cells : Array Value) (h : P.built t parts.toList = some cells) (k : K (.agg cells) w) : RunV P (Instr.build t parts) w K := .of_ok (run_build w t parts cells h) k
theorem FloatP.build {I : World → Prop} {K : Value → Prop} {t : TypeId} {parts : Array (Nat × Value)} (cells : Array Value) (h : P.built t parts.toList = some cells) (k : K (.agg cells)) : FloatP P (Instr.build t parts) I K := ⟨_, fun w _ => run_build w t parts cells h, k⟩
theorem RunV.store {t : TypeId} {b k : Nat} {T : TypeId} {cs : List Value} {v : Value} (h : Ctx w (cel b T cs :: O) L) (hs : tsz P t = v.cells.size) (h0 : 0 < v.cells.size) (hk : k + v.cells.size ≤ cs.length)
    (h1 : ∀ u ∈ v.cells.toList, u.oneCell' = true) (kk : ∀ w', Ctx w' (cel b T (wr cs k v.cells.toList) :: O) L → K undef w') :
    RunV P (do Instr.storeAt t (.pointer (sh (some ⟨b, 0, none⟩) k)) v; pure undef) w K := by
  obtain ⟨w', hr, hc⟩ := run_store (P := P) h hs h0 hk h1
  exact .of_ok hr (kk w' hc)
theorem RunV.store0 {t : TypeId} {b : Nat} {T : TypeId} {cs : List Value} {v : Value} (h : Ctx w (cel b T cs :: O) L) (hs : tsz P t = v.cells.size) (h0 : 0 < v.cells.size) (hk : v.cells.size ≤ cs.length)
    (h1 : ∀ u ∈ v.cells.toList, u.oneCell' = true) (kk : ∀ w', Ctx w' (cel b T (wr cs 0 v.cells.toList) :: O) L → K undef w') :
    RunV P (do Instr.storeAt t (.pointer (some ⟨b, 0, none⟩)) v; pure undef) w K := by
  have := RunV.store (P := P) (k := 0) (K := K) h hs h0 (by omega) h1 kk
  rwa [sh_zero] at this
theorem wr_set {cs : List Value} {k : Nat} {v : Value} (hk : k < cs.length) : wr cs k [v] = cs.set k v := by
  rw [wr, List.set_eq_take_append_cons_drop, if_pos hk]; simp
/-- a store of one cell -/
theorem RunV.st {t : TypeId} {b k : Nat} {T : TypeId} {cs : List Value} {v : Value} (h : Ctx w (cel b T cs :: O) L) (hs : tsz P t = 1) (hv : v.cells = #[v]) (h1 : v.oneCell' = true) (hk : k < cs.length)
    (kk : ∀ w', Ctx w' (cel b T (cs.set k v) :: O) L → K undef w') : RunV P (do Instr.storeAt t (.pointer (sh (some ⟨b, 0, none⟩) k)) v; pure undef) w K := by
  refine RunV.store h (by rw [hv]; exact hs) (by rw [hv]; exact Nat.one_pos) (by rw [hv]; exact hk) (by rw [hv]; simpa using h1) fun w' h' => kk w' ?_
  rw [hv] at h'
  rw [← wr_set hk]
  simpa using h'
theorem RunV.st0 {t : TypeId} {b : Nat} {T : TypeId} {cs : List Value} {v : Value} (h : Ctx w (cel b T cs :: O) L) (hs : tsz P t = 1) (hv : v.cells = #[v]) (h1 : v.oneCell' = true) (hk : 0 < cs.length)
    (kk : ∀ w', Ctx w' (cel b T (cs.set 0 v) :: O) L → K undef w') : RunV P (do Instr.storeAt t (.pointer (some ⟨b, 0, none⟩)) v; pure undef) w K := by
  have := RunV.st (P := P) (k := 0) (K := K) h hs hv h1 hk kk
  rwa [sh_zero] at this
theorem RunV.append {t ty : TypeId} {T : TypeId} {size : Nat} {n c : Nat} {xs : List Value} {e : Option Addr} {m d : Nat} {ys : List Value} (z : Value)
    (h : Ctx w (buf T size a n c xs :: O) L) (hr : Rd w e ys) (hl : ys.length = m * size) (h1 : ∀ u ∈ ys, u.oneCell' = true)
    (ht : tk P t = .slice T) (hs : tsz P T = size) (h0 : 0 < size) (hz : tzr P T = some z) (hzs : z.cells.size = size) (hb : (n + m) * tby P T ≤ 140737488355328) (hm : n + m ≤ maxLen)
    (k : ∀ a' c' w', Ctx w' (buf T size a' (n + m) c' (xs ++ ys) :: O) L → K (.slice a' (n + m) c') w') : RunV P (Builtin.append_ #[t, t] ty #[.slice a n c, .slice e m d]) w K := by
  obtain ⟨a', c', w', hrun, hc⟩ := run_append (P := P) h ht hs h0 hz hzs hr hl h1 hb hm
  exact .of_ok hrun (k a' c' w' hc)

theorem Ctx.buf_block {g : Nat} {T : TypeId} {cur : Array Value} (h : Ctx w (own g (.cells cur T (0, 0)) :: O) L) (size c : Nat) (hn : cur.size = c * size) (hm : c ≤ maxLen) : Ctx w (buf T size (some ⟨g, 0, none⟩) 0 c [] :: O) L := by
  refine h.turn (w' := w) ⟨rfl, rfl⟩ fun ch hc hp hd => ?_
  cases hc
  exact ⟨_, ⟨by simp, .inr ⟨g, _, rfl, rfl, Nat.zero_le _, hm, hn, by simp⟩⟩, hp, hd, fun x hx => .inl hx, fun _ _ _ => rfl⟩
theorem Ctx.buf_open {T : TypeId} {size n c : Nat} {xs : List Value} (h : Ctx w (buf T size a n c xs :: O) L) (hn : 0 < n) : ∃ g cur, a = some ⟨g, 0, none⟩ ∧ n ≤ c ∧ c ≤ maxLen ∧ cur.length = c * size ∧ cur.take (n * size) = xs ∧ Ctx w (cel g T cur :: O) L := by
  have hp : ∃ ch, buf T size a n c xs ch := by
    obtain ⟨Γ, cs, g1, g2, g3, g4, g5⟩ := h
    obtain ⟨ch, cs', rfl, hr, _⟩ := g2.cons_inv
    exact ⟨ch, hr⟩
  obtain ⟨ch, hx, ⟨_, h0, _⟩ | ⟨g, cur, rfl, rfl, h1, h2, h3, h4⟩⟩ := hp
  · omega
  obtain ⟨Γ, cs, g1, g2, g3, g4, g5⟩ := h
  obtain ⟨ch, cs', rfl, hr, g2'⟩ := g2.cons_inv
  obtain ⟨hx', ⟨_, h0, _⟩ | ⟨g', cur', e1, rfl, h1', h2', h3', h4'⟩⟩ := hr
  · omega
  · cases e1
    exact ⟨g, cur'.toList, rfl, h1, h2, by simpa using h3', h4', Γ, _ :: cs', g1, ⟨by simp [cel, own], g2'⟩, g3, g4, g5⟩
theorem Ctx.buf_shut {g : Nat} {T : TypeId} {cur : List Value} (h : Ctx w (cel g T cur :: O) L) (size n c : Nat) (hn : cur.length = c * size) (hc : n ≤ c) (hm : c ≤ maxLen) : Ctx w (buf T size (some ⟨g, 0, none⟩) n c (cur.take (n * size)) :: O) L := by
  refine h.turn (w' := w) ⟨rfl, rfl⟩ fun ch hch hp hd => ?_
  cases hch
  refine ⟨_, ⟨?_, .inr ⟨g, _, rfl, rfl, hc, hm, by simpa using hn, by simp⟩⟩, hp, hd, fun x hx => .inl hx, fun _ _ _ => rfl⟩
  rw [List.length_take, hn]
  exact Nat.min_eq_left (Nat.mul_le_mul_right _ hc)
/-- a store of one cell into a row that grows -/
theorem RunV.stBuf {t : TypeId} {T : TypeId} {n c k : Nat} {xs : List Value} {v : Value} (h : Ctx w (buf T 1 a n c xs :: O) L) (hs : tsz P t = 1) (hv : v.cells = #[v]) (h1 : v.oneCell' = true) (hk : k < n)
    (kk : ∀ w', Ctx w' (buf T 1 a n c (xs.set k v) :: O) L → K undef w') : RunV P (do Instr.storeAt t (.pointer (sh a k)) v; pure undef) w K := by
  obtain ⟨g, cur, rfl, hnc, hcm, hl, hx, h2⟩ := h.buf_open (by omega)
  refine RunV.st h2 hs hv h1 (by omega) fun w' h' => kk w' ?_
  have := h'.buf_shut 1 n c (by simpa using hl) hnc hcm
  rw [List.take_set, hx] at this
  exact this
/-- append(nil, make([]T, n)...), cut back to nothing: a new row with room for n -/
theorem RunV.appendMake {t tn ty : TypeId} {T : TypeId} {k kn : IntKind} {n : Nat} (z : Value) (h : Ctx w O L) (ht : tk P t = .slice T) (htn : tk P tn = .int kn) (hs : tsz P T = 1) (hz : tzr P T = some z) (hzs : z.cells.size = 1)
    (h0 : 0 < n) (hm : n ≤ maxLen) (hb : n * tby P T ≤ 281474976710656)
    (kk : ∀ a' c' w', Ctx w' (buf T 1 a' 0 c' [] :: O) L → K (.slice a' n c') w') : RunV P (Builtin.append_ #[t, tn] ty #[.slice none 0 0, .int k n]) w K := by
  have htu : P.underlying t = some (.slice T) := by rw [← ht]; exact underlying_some (by rw [ht]; rfl)
  have htu' : P.underlying tn = some (.int kn) := by rw [← htn]; exact underlying_some (by rw [htn]; rfl)
  obtain ⟨i, hi, hsz, hby, hzr⟩ := info_of_tsz (P := P) (t := T) (by omega)
  have hr := Lib.run_append_nil_zeros (P := P) w t tn ty T i z k kn htu htu' hi (by rw [hzr, hz]) n h0 (by omega) (by simp only [maxLen] at hm; omega) (by rw [hby]; exact hb)
  refine .of_ok hr (kk _ _ _ ?_)
  have hge := grownCap_ge w n 0 T
  have hle := grownCap_le_maxLen w n 0 T (by simpa using hm)
  exact ((h.drew).alloc _).buf_block 1 _ (by simp [size_zeroCells, hzs]; omega) hle
/-- make([]T, n, m) of elements of one cell -/
theorem RunV.make {t : TypeId} (e : TypeId) (z : Value) {kl kc : IntKind} {n m : Nat} (h : Ctx w O L) (ht : tk P t = .slice e) (hz : tzr P e = some z) (hs : tsz P e = 1) (hzc : z.cells = #[z]) (hb : tby P e * m ≤ 281474976710656) (hm : m ≤ 1099511627776) (hnm : n ≤ m)
    (k : ∀ b w', Ctx w' (buf e 1 (some ⟨b, 0, none⟩) n m (List.replicate n z) :: O) L → K (.slice (some ⟨b, 0, none⟩) n m) w') : RunV P (Instr.makeSlice t (.int kl n) (.int kc m)) w K := by
  have htu : P.underlying t = some (.slice e) := by rw [← ht]; exact underlying_some (by rw [ht]; rfl)
  obtain ⟨i, hi, hsz, hby, hzr⟩ := info_of_tsz (P := P) (t := e) (by omega)
  have hb' : ((tby P e : Int)) * (m : Int) ≤ 281474976710656 := by
    rw [← Int.natCast_mul]
    generalize tby P e * m = q at hb ⊢
    omega
  have hr := run_make (P := P) (w := w) t e i z htu hi (by rw [hzr, hz]) kl kc n m (by omega) (by omega) (by rw [hby]; exact hb') (by omega)
  rw [Int.toNat_natCast, Int.toNat_natCast, hzc, hsz, hs, Nat.mul_one] at hr
  refine .of_ok hr (k _ _ ?_)
  have h1 : Ctx (w.alloc (.cells (madeCells #[z] m) e)) (cel w.heap.size e (List.replicate m z) :: O) L := by
    have := h.alloc (.cells (madeCells #[z] m) e)
    rw [cel, ← toList_madeCells_one]
    simpa using this
  have := h1.buf_shut 1 n m (by rw [List.length_replicate, Nat.mul_one]) hnm (Nat.le_trans hm (by unfold maxLen; omega))
  rwa [Nat.mul_one, List.take_replicate, Nat.min_eq_left hnm] at this
theorem run_cap {t ty : TypeId} {T : TypeId} {n c : Nat} (ht : tk P t = .slice T) (w : World) : (Builtin.cap_ #[t] ty #[.slice a n c]).run P w = .ok (.int .i64 c) w := by
  have htu : P.underlying t = some (.slice T) := by rw [← ht]; exact underlying_some (by rw [ht]; rfl)
  simp [Builtin.cap_, run_underlying htu, goInt]
theorem RunV.cap {t ty : TypeId} {T : TypeId} {n c : Nat} (ht : tk P t = .slice T) (h : K (.int .i64 c) w) : RunV P (Builtin.cap_ #[t] ty #[.slice a n c]) w K := .of_ok (run_cap ht w) h
theorem run_min {k : IntKind} {ts : Array TypeId} {ty : TypeId} (x y : Int) (w : World) : (Builtin.min_ ts ty #[.int k x, .int k y]).run P w = .ok (.int k (if y < x then y else x)) w := by
  simp [Builtin.min_, Builtin.min2]
theorem RunV.min {k : IntKind} {ts : Array TypeId} {ty : TypeId} {x y : Int} (h : K (.int k (if y < x then y else x)) w) : RunV P (Builtin.min_ ts ty #[.int k x, .int k y]) w K := .of_ok (run_min x y w) h

/-- the head of a slice's piece -/
def sa (a : Option Addr) (l c sz : Nat) : Option Addr := if c = l then a else sh a (l * sz)
theorem run_slice {t e : TypeId} {n c l h : Nat} (ht : tk P t = .slice e) (hs : tsz P e ≠ 0) (hl : l ≤ h) (hh : h ≤ c) (lo hi : Option Value) (k1 k2 : IntKind)
    (hlo : lo = some (.int k1 l) ∨ (lo = none ∧ l = 0)) (hhi : hi = some (.int k2 h) ∨ (hi = none ∧ h = n)) (w : World) :
    (Instr.sliceAt t (.slice a n c) lo hi none).run P w = .ok (.slice (sa a l c (tsz P e)) (h - l) (c - l)) w := by
  obtain ⟨i, hi', hsz, _⟩ := info_of_tsz hs
  have e1 : (Instr.sliceAt t (.slice a n c) lo hi none).run P w = (Instr.slice t (.slice a n c) lo hi none).run P w := by
    simp only [Instr.sliceAt, Sem.run_bind, tis_of ht rfl, Result.andThen_ok]
  rw [e1]
  have hb : (Instr.sliceBounds true n c lo hi none).run P w = .ok (l, h, c) w := by
    have g2 : ∀ u, (Instr.sliceBound (.int k2 (h : Int)) c u).run P w = .ok h w := fun u => by simp [Instr.sliceBound, asIntOf, hh]
    have g1 : ∀ u, (Instr.sliceBound (.int k1 (l : Int)) h u).run P w = .ok l w := fun u => by simp [Instr.sliceBound, asIntOf, hl]
    rcases hlo with rfl | ⟨rfl, rfl⟩ <;> rcases hhi with rfl | ⟨rfl, rfl⟩ <;> simp [Instr.sliceBounds, g1, g2]
  simp only [Instr.slice, Sem.run_bind, tis_of ht rfl, Result.andThen_ok, hb, sizeOf, typeInfo, run_program, hi', hsz, Sem.run_pure, sa, sh]

theorem RunV.slice {t : TypeId} {n c : Nat} (e : TypeId) (sz l h : Nat) (lo hi : Option Value) (k1 k2 : IntKind) (ht : tk P t = .slice e) (hs : tsz P e = sz) (h0 : sz ≠ 0) (hl : l ≤ h) (hh : h ≤ c)
    (hlo : lo = some (.int k1 l) ∨ (lo = none ∧ l = 0)) (hhi : hi = some (.int k2 h) ∨ (hi = none ∧ h = n)) (k : K (.slice (sa a l c sz) (h - l) (c - l)) w) :
    RunV P (Instr.sliceAt t (.slice a n c) lo hi none) w K := by subst hs; exact .of_ok (run_slice ht h0 hl hh lo hi k1 k2 hlo hhi w) k
theorem FloatP.slice {I : World → Prop} {K : Value → Prop} {t : TypeId} {n c : Nat} (e : TypeId) (sz l h : Nat) (lo hi : Option Value) (k1 k2 : IntKind) (ht : tk P t = .slice e) (hs : tsz P e = sz) (h0 : sz ≠ 0) (hl : l ≤ h) (hh : h ≤ c)
    (hlo : lo = some (.int k1 l) ∨ (lo = none ∧ l = 0)) (hhi : hi = some (.int k2 h) ∨ (hi = none ∧ h = n)) (k : K (.slice (sa a l c sz) (h - l) (c - l))) :
    FloatP P (Instr.sliceAt t (.slice a n c) lo hi none) I K := by subst hs; exact ⟨_, fun w _ => run_slice ht h0 hl hh lo hi k1 k2 hlo hhi w, k⟩

/-- a piece can be read where the whole can -/
theorem Rdb.sa {l c sz : Nat} (h : Rdb O L a vs) (hc : vs.length ≤ c * sz) (m : Nat) : Rdb O L (sa a l c sz) ((vs.drop (l * sz)).take m) := by
  unfold E.sa
  split
  · rename_i hcl
    subst hcl
    intro w L' hs hc'
    exact .inl (by rw [List.drop_of_length_le hc]; simp)
  · exact h.piece _ _
theorem Rdb.sa' {l c sz : Nat} (h : Rdb O L a vs) (hc : vs.length ≤ c * sz) : Rdb O L (E.sa a l c sz) (vs.drop (l * sz)) := by
  have := h.sa (l := l) hc vs.length
  rwa [List.take_of_length_le (by simp)] at this
theorem sa_zero (a : Option Addr) (c sz : Nat) : sa a 0 c sz = a := by unfold sa; split <;> simp [sh_zero]

/-- []byte of a constant text: a literal's row, marked -/
theorem run_markConv {t e : TypeId} {b n c : Nat} {T : TypeId} {cs : List Value} (h : Ctx w (cel b T cs :: O) L) (ht : tk P t = .slice e) (he : tk P e = .int .u8) :
    ∃ w', (convert t t (.slice (some ⟨b, 0, none⟩) n c)).run P w = .ok (.slice (some ⟨b, 0, none⟩) n c) w' ∧ Ctx w' O (arr (some ⟨b, 0, none⟩) cs :: L) := by
  have htu : P.underlying t = some (.slice e) := by rw [← ht]; exact underlying_some (by rw [ht]; rfl)
  have heu : P.underlying e = some (.int .u8) := by rw [← he]; exact underlying_some (by rw [he]; rfl)
  have hg : w.heap[b]? = some (.cells cs.toArray T (0, 0)) := h.own_get
  have hsh : w.shape? b = some (T, cs.length) := by simp [World.shape?, hg]
  have hb : b < w.heap.size := (Array.getElem?_eq_some_iff.1 hg).1
  have hbe : w.heap[b] = .cells cs.toArray T (0, 0) := (Array.getElem?_eq_some_iff.1 hg).2
  refine ⟨w.freeze ⟨b, cs.length, none⟩ 1, ?_, ?_⟩
  · simp [convert, run_underlying htu, run_underlying heu, markStringish, hsh]
  · have h1 : Ctx (w.freeze ⟨b, cs.length, none⟩ 1) (own b (.cells cs.toArray T (cs.length, cs.length + 1)) :: O) L := by
      refine h.own_set _ _ ?_ ?_ ⟨?_, ?_⟩
      · simp [World.freeze, Array.getElem?_modify, hg]
      · intro k hk
        simp [World.freeze, Array.getElem?_modify, Ne.symm hk]
      · simp [World.freeze]
      · simp [World.freeze]
    have h2 := h1.keep
    refine (h2.add (φ := arr (some ⟨b, 0, none⟩) cs) fun Γ _ hL => ?_).weak fun φ hφ => ?_
    · refine .inr ⟨_, cs.toArray, T, _, rfl, rfl, hL _ (List.mem_cons_self ..), fun k v hk => ?_⟩
      simpa using hk
    · simp only [List.mem_cons] at hφ ⊢
      rcases hφ with rfl | hφ
      · exact .inl rfl
      · exact .inr (.inr hφ)
theorem RunV.markConv {t : TypeId} (e : TypeId) {b n c : Nat} {T : TypeId} {cs : List Value} (h : Ctx w (cel b T cs :: O) L) (ht : tk P t = .slice e) (he : tk P e = .int .u8)
    (k : ∀ w', Ctx w' O (arr (some ⟨b, 0, none⟩) cs :: L) → K (.slice (some ⟨b, 0, none⟩) n c) w') : RunV P (convert t t (.slice (some ⟨b, 0, none⟩) n c)) w K := by
  obtain ⟨w', hr, hc⟩ := run_markConv (P := P) (n := n) (c := c) h ht he
  exact .of_ok hr (k w' hc)

/-! ### Slices of slices of bytes -/
def hdr (h : Option Addr × Nat) (l : List UInt8) : Value := .slice h.1 l.length h.2
/-- the heads hs stand for the rows of bytes ls -/
def rowsF (hs : List (Option Addr × Nat)) (ls : List (List UInt8)) : Fact := allF (fun (i : Nat × (Option Addr × Nat) × List UInt8) => hs[i.1]? = some i.2.1 ∧ ls[i.1]? = some i.2.2) fun i => byt i.2.1.1 i.2.2
/-- at a lie the rows ls, for ever -/
def rows (a : Option Addr) (ls : List (List UInt8)) : Fact := exF fun hs : List (Option Addr × Nat) => andF (truth (hs.length = ls.length)) (andF (arr a (List.zipWith hdr hs ls)) (rowsF hs ls))
theorem hdr_one (h : Option Addr × Nat) (l : List UInt8) : (hdr h l).oneCell' = true := rfl
theorem Ctx.open_rows {ls : List (List UInt8)} (h : Ctx w O L) (hm : rows a ls ∈ L) : ∃ hs : List (Option Addr × Nat), hs.length = ls.length ∧ Ctx w O (arr a (List.zipWith hdr hs ls) :: rowsF hs ls :: L) := by
  obtain ⟨hs, h1⟩ := (h.pull hm).ex
  obtain ⟨h2, h3⟩ := h1.and.true
  exact ⟨hs, h2, h3.and⟩
theorem Ctx.shut_rows {ls : List (List UInt8)} {hs : List (Option Addr × Nat)} (h : Ctx w O L) (hl : hs.length = ls.length) (ha : arr a (List.zipWith hdr hs ls) ∈ L) (hr : rowsF hs ls ∈ L) : Ctx w O (rows a ls :: L) :=
  h.add fun Γ _ hL => ⟨hs, hl, hL _ ha, hL _ hr⟩
theorem Ctx.rowsF_get {hs : List (Option Addr × Nat)} {ls : List (List UInt8)} {i : Nat} {g : Option Addr × Nat} {l : List UInt8} (h : Ctx w O L) (hm : rowsF hs ls ∈ L) (h1 : hs[i]? = some g) (h2 : ls[i]? = some l) : Ctx w O (byt g.1 l :: L) :=
  h.add fun Γ _ hL => hL _ hm (i, g, l) ⟨h1, h2⟩
theorem Ctx.rowsF_nil (h : Ctx w O L) : Ctx w O (rowsF [] [] :: L) := h.add fun Γ _ _ i hi => by simp at hi
theorem Ctx.rowsF_snoc {hs : List (Option Addr × Nat)} {ls : List (List UInt8)} {g : Option Addr × Nat} {l : List UInt8} (h : Ctx w O L) (hl : hs.length = ls.length) (hm : rowsF hs ls ∈ L) (hb : byt g.1 l ∈ L) : Ctx w O (rowsF (hs ++ [g]) (ls ++ [l]) :: L) :=
  h.add fun Γ _ hL ⟨i, g', l'⟩ ⟨h1, h2⟩ => by
    simp only at h1 h2
    by_cases hi : i < hs.length
    · rw [List.getElem?_append_left hi] at h1
      rw [List.getElem?_append_left (by omega)] at h2
      exact hL _ hm (i, g', l') ⟨h1, h2⟩
    · rw [List.getElem?_append_right (by omega)] at h1
      rw [List.getElem?_append_right (by omega)] at h2
      have e : i - hs.length = 0 := by
        rcases Nat.eq_zero_or_pos (i - hs.length) with e | e
        · exact e
        · rw [List.getElem?_eq_none (by simp; omega)] at h1; cases h1
      rw [e] at h1
      rw [show i - ls.length = 0 by omega] at h2
      simp at h1 h2
      subst h1; subst h2
      exact hL _ hb
theorem zip_hdr_snoc {hs : List (Option Addr × Nat)} {ls : List (List UInt8)} (hl : hs.length = ls.length) (g : Option Addr × Nat) (l : List UInt8) : List.zipWith hdr (hs ++ [g]) (ls ++ [l]) = List.zipWith hdr hs ls ++ [hdr g l] := by
  rw [List.zipWith_append hl]; rfl
theorem zip_hdr_get {hs : List (Option Addr × Nat)} {ls : List (List UInt8)} (hl : hs.length = ls.length) {i : Nat} (hi : i < ls.length) : (List.zipWith hdr hs ls)[i]? = some (hdr (hs[i]'(by omega)) ls[i]) := by
  simp [hl, hi]

/-! ### The end of a function with marks; results in cells -/
theorem ResP.mark {fn : Func} {n d : Nat} {ds : List Nat} {loc : List Value} {R : Value → World → Prop} (h : Ctx w (own d (.deferred (some [])) :: O) L) (k : ∀ w', Ctx w' O L → ResP P fn n R ds loc w') : ResP P fn n R (d :: ds) loc w :=
  ⟨_, run_takeDeferred h.own_get, k _ ((putObj_own (.deferred none) h).drop)⟩
/-- two results that lie in cells -/
theorem ResP.cells2 {fn : Func} {n : Nat} {loc : List Value} {R : Value → World → Prop} {t u : Tmp} {T U : TypeId} {a b : Option Addr} {x y : Value} (hr : fn.results = #[.cell t T, .cell u U]) (hn : t < n ∧ u < n)
    (ha : loc.getD t undef = .pointer a) (hb : loc.getD u undef = .pointer b) (h1 : Rd w a [x]) (h2 : Rd w b [y]) (hT : (tis (tk P T) && !tagg (tk P T)) = true) (hU : (tis (tk P U) && !tagg (tk P U)) = true)
    (hR : R (.tuple #[x, y]) w) : ResP P fn n R [] loc w := by
  refine ResP.run (v := .tuple #[x, y]) (fun tmps ht => ?_) hR
  obtain ⟨p, rfl, _⟩ := h1.cells (by simp)
  obtain ⟨q, rfl, _⟩ := h2.cells (by simp)
  have e1 := run_load1 (P := P) (k := 0) (v := x) h1 rfl hT
  have e2 := run_load1 (P := P) (k := 0) (v := y) h2 rfl hU
  rw [sh_zero] at e1 e2
  have e3 := ht t hn.1
  have e4 := ht u hn.2
  rw [ha] at e3
  rw [hb] at e4
  rw [Array.getD_eq_getD_getElem?] at e3 e4
  simp [Instr.loadAt, Instr.sureAddr] at e1 e2
  simp [results, asAddr, hr, e3, e4, e1, e2]
end
end Go.E

set_option linter.unusedSimpArgs false
set_option linter.unusedVariables false
set_option linter.unusedSectionVars false
namespace Go.E
open Go.ChangeShapes Go.WideShapes Go.ChangeAt Go.RowKit

section
variable {P : Program} {w W W' : World} {O : List Res} {L : List Fact} {a : Option Addr} {vs : List Value}
/-- what lay there when the call began lies there for ever -/
theorem arr_holds {Γ : Heap} (hw : (whole W).holds Γ) (hr : Rd W a vs) : (arr a vs).holds Γ := by
  rcases hr with rfl | ⟨p, rfl, h1, h2⟩
  · exact .inl rfl
  · by_cases hv : vs = []
    · exact .inl hv
    · refine .inr ?_
      have h0 : ∃ c T fr, W.heap[p.block]? = some (.cells c T fr) := by
        obtain ⟨v, hv⟩ : ∃ v, vs[0]? = some v := by
          cases vs with
          | nil => exact absurd rfl hv
          | cons v _ => exact ⟨v, rfl⟩
        have := h2 0 v hv
        rw [add_plain h1] at this
        unfold World.cell? at this
        simp only at this
        split at this
        · rename_i c T fr hc; exact ⟨c, T, fr, hc⟩
        · cases this
      obtain ⟨c, T, fr, hc⟩ := h0
      refine ⟨p, c, T, fr, rfl, h1, hw.1 _ _ hc, fun k v hk => ?_⟩
      have := h2 k v hk
      rw [add_plain h1] at this
      simpa [World.cell?, hc] using this
theorem Ctx.arr_of (h : Ctx w O L) (hw : whole W ∈ L) (hr : Rd W a vs) : Ctx w O (arr a vs :: L) := h.add fun _ _ hL => arr_holds (hL _ hw) hr
theorem Ctx.all_of {ι : Type} (p : ι → Prop) (A : ι → Option Addr) (V : ι → List Value) (h : Ctx w O L) (hw : whole W ∈ L) (hr : ∀ i, p i → Rd W (A i) (V i)) : Ctx w O (allF p (fun i => arr (A i) (V i)) :: L) :=
  h.add fun _ _ hL i hi => arr_holds (hL _ hw) (hr i hi)
theorem Rdb.of_all {ι : Type} {p : ι → Prop} {A : ι → Option Addr} {V : ι → List Value} (hm : allF p (fun i => arr (A i) (V i)) ∈ L) {i : ι} (hi : p i) : Rdb O L (A i) (V i) := fun _ _ hs hc =>
  (hc.add (φ := arr (A i) (V i)) fun _ _ hL => hL _ (hs _ hm) i hi).rd mem0

theorem sameAt_of (h : Ctx W' O L) (hw : whole W ∈ L) {p : MemPlace} (hp : p.block < W.heap.size) : W.sameAt W' p := by
  have hb := (h.whole_grown hw).1 p.block hp
  cases p with
  | cell b o => exact World.cell?_of_block (w := W) hb
  | map b => exact hb

theorem kept_of (h : Ctx W' O L) (hw : whole W ∈ L) (may : MemPlace → Prop) : W.keptBut W' may := by
  obtain ⟨hb, _, h1, h2⟩ := h.whole_grown hw
  refine ⟨h1, h2, fun i hi => ?_⟩
  rw [hb i hi]
  split <;> simp_all

variable {H : Type} {enc : TypeId × Value → H}
theorem trodAll_stays (hl : laidOutB P = true) {sp : Nat → Bool} : ∀ {ts : List TypeId} {vs : List Value} {ds : List (DataW H)} {ps : List MemPlace}, (ts.all fun t => P.readableRec t && decide (t < P.types.size)) = true →
    DataW.TrodAll enc P W 0 (fun _ => true) true ts vs ds ps → (∀ p ∈ ps, W.sameAt W' p) → (∀ p ∈ ps, sp p.block = true) → DataW.TrodAll enc P W' 0 sp true ts vs ds ps
  | [], vs, ds, ps, _, h, _, _ => by obtain ⟨rfl, rfl, rfl⟩ := trodAll_nil h; exact trodAll_mk0
  | t :: ts, vs, ds, ps, hr, h, hs, hp => by
    obtain ⟨v, vs', d, ds', p, q, rfl, rfl, rfl, h0, r0⟩ := trodAll_cons h
    simp only [List.all_cons, Bool.and_eq_true, decide_eq_true_eq] at hr
    exact trodAll_cons_mk (WideElems.Trod_stays hl hr.1.1 hr.1.2 h0 (fun x hx => hs x (by simp [hx])) (fun x hx => hp x (by simp [hx])))
      (trodAll_stays hl hr.2 r0 (fun x hx => hs x (by simp [hx])) (fun x hx => hp x (by simp [hx])))

/-- A LAW's CONTRACT: the walk shows that it returns true and leaves all as it was -/
theorem law_post {f : Func} {s : ChangeSpec} {args : Array Value} {ds gs : List (DataW H)} {before : List MemPlace} (tb : TypeId) (hl : laidOutB P = true) (hr : (f.params.toList.all fun t => P.readableRec t && decide (t < P.types.size)) = true)
    (hres : f.resultTypes = #[tb]) (htb : P.underlying tb = some .bool) (hvars : s.vars = []) (hfn : s.fn H (ds ++ gs) = { results := [.lit (.bool true)], args := ds })
    (hW : DataW.Whole enc P f.params.toList s.vars false W args.toList ds gs before) (h : Ctx W' O L) (hw : whole W ∈ L) : s.post enc P f false true false false W args (.bool true) W' := by
  have hlt : ∀ p ∈ before, p.block < W.heap.size := fun p hp => hW.lt p hp
  have hW' := hW
  obtain ⟨p, q, hA, hV, rfl, hz, hn⟩ := hW
  rw [hvars] at hV
  obtain ⟨rfl, rfl⟩ := trodVars_none hV
  refine ⟨ds, [], p ++ [], [], p, [], hW', ?_, ?_, ?_, kept_of h hw _, fun h => by cases h⟩
  · rw [hfn, hres]
    exact trodAll_cons_mk (shut_bool htb _) trodAll_mk0
  · rw [hfn]
    exact trodAll_stays hl hr hA (fun x hx => sameAt_of h hw (hlt x (by simp [hx]))) (fun x hx => by simpa using hlt x (by simp [hx]))
  · rw [hfn, hvars]
    rfl
theorem law_calls {f : FuncId} {fn : Func} {s : ChangeSpec} {args : Array Value} {ds gs : List (DataW H)} {before : List MemPlace} (tb : TypeId) (hl : laidOutB P = true) (hr : (fn.params.toList.all fun t => P.readableRec t && decide (t < P.types.size)) = true)
    (hres : fn.resultTypes = #[tb]) (htb : P.underlying tb = some .bool) (hvars : s.vars = []) (hfn : s.fn H (ds ++ gs) = { results := [.lit (.bool true)], args := ds })
    (hW : DataW.Whole enc P fn.params.toList s.vars false W args.toList ds gs before) (h : Ret P f args W fun v w' => v = .bool true ∧ ∃ O L, Ctx w' O L ∧ whole W ∈ L) :
    Calls P f args W fun e W' => ∃ v, e = .returned v ∧ s.post enc P fn false true false false W args v W' := by
  refine Calls.mono h fun e W' ⟨v, he, hv, O, L, hc, hw⟩ => ⟨v, he, ?_⟩
  subst hv
  exact law_post tb hl hr hres htb hvars hfn hW hc hw
/-! ### Arguments opened -/
theorem u8_list : ∀ (zs : List Int), (∀ n ∈ zs, (Lit.int .u8 n).wf = true) → ∃ l : List UInt8, l.length = zs.length ∧ l.map bv = zs.map (Value.int .u8)
  | [], _ => ⟨[], rfl, rfl⟩
  | z :: zs, h => by
    obtain ⟨l, h1, h2⟩ := u8_list zs fun n hn => h n (by simp [hn])
    have hz : 0 ≤ z ∧ z ≤ 255 := by simpa [Lit.wf, IntKind.min, IntKind.max, IntKind.signed, IntKind.bits] using h z (by simp)
    refine ⟨UInt8.ofNat z.toNat :: l, by simp [h1], ?_⟩
    simp only [List.map_cons, h2, bv]
    congr 2
    have : (UInt8.ofNat z.toNat).toNat = z.toNat := by
      rw [UInt8.toNat_ofNat']
      omega
    rw [this]
    omega
theorem spot_none {a : Addr} {v : Value} (h : W.cell? a = some v) : a.spot = none := by
  unfold World.cell? at h
  split at h
  · split at h
    · cases h
    · rename_i hs; simpa using hs
  · cases h
theorem open_bytes {t e : TypeId} {fuel : Nat} {base : Nat} {spare : Nat → Bool} {held : Bool} {cs : List Value} {x : DataW H × List MemPlace} (ht : P.underlying t = some (.slice e)) (he : P.underlying e = some (.int .u8)) (hc : P.cellsOf e = 1)
    (h : DataW.trod enc P W base spare held fuel t cs = some x) : ∃ (a : Option Addr) (c : Nat) (l : List UInt8), cs = [.slice a l.length c] ∧ l.length ≤ c ∧ c ≤ maxLen ∧ Rd W a (l.map bv) ∧
      (x.1 = .nil ∧ l = [] ∨ ∃ E S, x.1 = .slice E S ∧ E.length = l.length) := by
  rcases open_ints ht he hc h with ⟨rfl, rfl⟩ | ⟨a, len, cap, zs, rfl, _, hl, hm, hz, rfl, hcell, hwf⟩
  · exact ⟨none, 0, [], rfl, Nat.le_refl _, by simp [maxLen], .inl rfl, .inl ⟨rfl, rfl⟩⟩
  · have hzl : len ≤ zs.length := by rw [hz]; split <;> omega
    obtain ⟨l, h1, h2⟩ := u8_list (zs.take len) fun n hn => hwf n (List.mem_of_mem_take hn)
    have h1' : l.length = len := by rw [h1, List.length_take]; omega
    subst h1'
    refine ⟨some a, cap, l, rfl, hl, hm, ?_, .inr ⟨_, _, rfl, by simp [lits]; omega⟩⟩
    by_cases hl0 : l = []
    · exact .inl (by simp [hl0])
    · refine .inr ⟨a, rfl, spot_none (hcell 0 (by have : 0 < l.length := List.length_pos_iff.2 hl0; omega)), fun k v hk => ?_⟩
      rw [h2] at hk
      have hk' : k < l.length := by
        have := (List.getElem?_eq_some_iff.1 hk).1
        simp at this
        omega
      have := hcell k (by omega)
      rw [List.getElem?_map, List.getElem?_take, if_pos hk', List.getElem?_eq_getElem (by omega)] at hk
      have he : v = Value.int .u8 (zs[k]'(by omega)) := by simpa using hk.symm
      subst he
      have e2 : (a.add (k * 1)) = a.add k := by rw [Nat.mul_one]
      simpa [List.getD, List.getElem?_eq_getElem (show k < zs.length by omega)] using this
/-- an argument: bytes -/
theorem arg_bytes {t e : TypeId} {base b0 : Nat} {r : Reach} {sp : Nat → Bool} {held : Bool} {v : Value} {d : DataW H} {p : List MemPlace} (ht : P.underlying t = some (.slice e)) (he : P.underlying e = some (.int .u8)) (hc : P.cellsOf e = 1)
    (hv : Value.okWide P W r b0 t v) (h : DataW.Trod enc P W base sp held t v d p) : ∃ (a : Option Addr) (c : Nat) (l : List UInt8), v = .slice a l.length c ∧ l.length ≤ c ∧ c ≤ maxLen ∧ Rd W a (l.map bv) ∧ (d = .nil ∧ l = [] ∨ ∃ E S, d = .slice E S ∧ E.length = l.length) := by
  obtain ⟨a, len, cap, rfl⟩ := okWide_slice ht hv
  obtain ⟨n, hn⟩ := h
  obtain ⟨a', c', l, h1, h2, h3, h4, h5⟩ := open_bytes ht he hc hn
  have : Value.slice a len cap = .slice a' l.length c' := by simpa [Value.cells] using h1
  exact ⟨a', c', l, this, h2, h3, h4, h5⟩
theorem weightsAll_mem {e : TypeId} : ∀ {l : List (DataW H)} {d : DataW H}, d ∈ l → ∀ n ∈ d.weights P e, n ∈ DataW.weightsAll P e l
  | x :: l, d, hd, n, hn => by
    simp only [DataW.weightsAll, List.mem_append]
    rcases List.mem_cons.1 hd with rfl | hd
    · exact .inl hn
    · exact .inr (weightsAll_mem hd n hn)
end
end Go.E

set_option linter.unusedSimpArgs false
set_option linter.unusedVariables false
set_option linter.unusedSectionVars false
namespace Go.E

/-- an abstract value: p: itself; ptr, sl: into an owned object; vp, vs: into cells that last; ag: an aggregate's cells -/
inductive AV where
  | p (v : Value)
  | any
  | ptr (i off : Nat)
  | sl (i off n : Nat)
  | vp (cs : List AV) (off : Nat)
  | vs (cs : List AV) (n : Nat)
  | ag (cs : List AV)
  | tu (cs : List AV)
  | fn (f : FuncId) (cs : List AV)
  | ic (t : TypeId) (v : AV)
  | mp (i : Nat)
  | yl (i : Nat)
  deriving Inhabited

def AV.cells : AV → List AV
  | .ag cs => cs
  | v => [v]
/-- surely one cell -/
def AV.one : AV → Bool
  | .p v => v.oneCell'
  | .any => false
  | .ag _ => false
  | .tu _ => false
  | _ => true

structure BI where
  blk : Option Nat
  cap : Nat
  grow : Bool

inductive AObj where
  | cells (T : TypeId) (cs : List AV)
  | buf (T : TypeId) (sz : Nat) (cs : List AV)
  | map (es : List (Value × AV))
  | raw (o : Obj)
  | rcd (o : Obj) (cs : List AV) (vs : List Value)
  | gone
abbrev Tbl := List AObj

inductive Rel (Γ : Heap) : List BI → AV → Value → Prop
  | p {ρ : List BI} (v : Value) : Rel Γ ρ (.p v) v
  | any {ρ : List BI} (v : Value) : Rel Γ ρ .any v
  | ptr {ρ : List BI} {i off b : Nat} {x : BI} (h : ρ[i]? = some x) (hb : x.blk = some b) : Rel Γ ρ (.ptr i off) (.pointer (some ⟨b, off, none⟩))
  | sl {ρ : List BI} {i off n c : Nat} {x : BI} {a : Option Addr} (h : ρ[i]? = some x) (ha : 0 < n ∨ off = 0 → a = x.blk.map fun b => ⟨b, off, none⟩) (hc : n ≤ c) (h0 : off = 0 → x.grow = true → c = x.cap) : Rel Γ ρ (.sl i off n) (.slice a n c)
  | vp {ρ : List BI} {cs : List AV} {off b o : Nat} {c : Array Value} {T : TypeId} {fr : Nat × Nat} {f : Nat → Value} (hb : Γ b = some (.cells c T fr)) (hc : ∀ k, k < cs.length → c[o + k]? = some (f k))
      (hr : ∀ k (h : k < cs.length), Rel Γ [] (cs[k]) (f k)) : Rel Γ ρ (.vp cs off) (.pointer (some ⟨b, o + off, none⟩))
  | vs0 {ρ : List BI} {cs : List AV} {n c : Nat} {a : Option Addr} (h : cs = [] ∨ n = 0) (hc : n ≤ c) : Rel Γ ρ (.vs cs n) (.slice a n c)
  | vs {ρ : List BI} {cs : List AV} {n m b o : Nat} {c : Array Value} {T : TypeId} {fr : Nat × Nat} {f : Nat → Value} (hm : n ≤ m) (hb : Γ b = some (.cells c T fr)) (hc : ∀ k, k < cs.length → c[o + k]? = some (f k))
      (hr : ∀ k (h : k < cs.length), Rel Γ [] (cs[k]) (f k)) : Rel Γ ρ (.vs cs n) (.slice (some ⟨b, o, none⟩) n m)
  | ag {ρ : List BI} {cs : List AV} {vs : List Value} (hl : cs.length = vs.length) (h : ∀ k (h1 : k < cs.length) (h2 : k < vs.length), Rel Γ ρ (cs[k]) (vs[k])) : Rel Γ ρ (.ag cs) (.agg vs.toArray)
  | tu {ρ : List BI} {cs : List AV} {vs : List Value} (hl : cs.length = vs.length) (h : ∀ k (h1 : k < cs.length) (h2 : k < vs.length), Rel Γ ρ (cs[k]) (vs[k])) : Rel Γ ρ (.tu cs) (.tuple vs.toArray)
  | fn {ρ : List BI} {g : FuncId} {cs : List AV} {vs : List Value} (hl : cs.length = vs.length) (h : ∀ k (h1 : k < cs.length) (h2 : k < vs.length), Rel Γ ρ (cs[k]) (vs[k])) : Rel Γ ρ (.fn g cs) (.func (.func g) #[] vs.toArray)
  | ic {ρ : List BI} {t : TypeId} {v : AV} {x : Value} (h : Rel Γ ρ v x) : Rel Γ ρ (.ic t v) (.iface t x)
  | mp {ρ : List BI} {i b : Nat} {x : BI} (h : ρ[i]? = some x) (hb : x.blk = some b) : Rel Γ ρ (.mp i) (.map (some b))
  | yl {ρ : List BI} {i b : Nat} {x : BI} (h : ρ[i]? = some x) (hb : x.blk = some b) : Rel Γ ρ (.yl i) (.func (.yield b) #[] #[])

/-- pointwise -/
def RelL (Γ : Heap) (ρ : List BI) (cs : List AV) (vs : List Value) : Prop := cs.length = vs.length ∧ ∀ (k : Nat) (a : AV) (v : Value), cs[k]? = some a → vs[k]? = some v → Rel Γ ρ a v

section
variable {Γ Γ' : Heap} {ρ ρ' : List BI} {cs ds : List AV} {vs us : List Value} {a : AV} {v : Value}
theorem RelL.nil : RelL Γ ρ [] [] := ⟨rfl, by simp⟩
theorem RelL.cons (h : Rel Γ ρ a v) (hs : RelL Γ ρ cs vs) : RelL Γ ρ (a :: cs) (v :: vs) := by
  refine ⟨by simp [hs.1], fun k x y hx hy => ?_⟩
  cases k with
  | zero => simp at hx hy; subst hx; subst hy; exact h
  | succ k => exact hs.2 k x y (by simpa using hx) (by simpa using hy)
theorem RelL.uncons (h : RelL Γ ρ (a :: cs) vs) : ∃ v us, vs = v :: us ∧ Rel Γ ρ a v ∧ RelL Γ ρ cs us := by
  cases vs with
  | nil => have := h.1; simp at this
  | cons v us => exact ⟨v, us, rfl, h.2 0 a v rfl rfl, by have := h.1; simpa using this, fun k x y hx hy => h.2 (k + 1) x y (by simpa using hx) (by simpa using hy)⟩
theorem RelL.unnil (h : RelL Γ ρ [] vs) : vs = [] := List.eq_nil_of_length_eq_zero h.1.symm
theorem RelL.get (h : RelL Γ ρ cs vs) {k : Nat} (hk : cs[k]? = some a) : ∃ v, vs[k]? = some v ∧ Rel Γ ρ a v := by
  obtain ⟨hk', rfl⟩ := List.getElem?_eq_some_iff.1 hk
  have hk2 : k < vs.length := by rw [← h.1]; exact hk'
  exact ⟨vs[k], by simp [hk2], h.2 k _ _ hk (by simp [hk2])⟩
theorem RelL.append (h : RelL Γ ρ cs vs) (h' : RelL Γ ρ ds us) : RelL Γ ρ (cs ++ ds) (vs ++ us) := by
  refine ⟨by simp [h.1, h'.1], fun k x y hx hy => ?_⟩
  by_cases hk : k < cs.length
  · rw [List.getElem?_append_left hk] at hx
    rw [List.getElem?_append_left (by rw [← h.1]; exact hk)] at hy
    exact h.2 k x y hx hy
  · rw [List.getElem?_append_right (by omega)] at hx
    rw [List.getElem?_append_right (by rw [← h.1]; omega), ← h.1] at hy
    exact h'.2 _ x y hx hy
theorem RelL.take (h : RelL Γ ρ cs vs) (n : Nat) : RelL Γ ρ (cs.take n) (vs.take n) := by
  refine ⟨by simp [h.1], fun k x y hx hy => ?_⟩
  rw [List.getElem?_take] at hx hy
  split at hx
  · rename_i hk; rw [if_pos hk] at hy; exact h.2 k x y hx hy
  · cases hx
theorem RelL.drop (h : RelL Γ ρ cs vs) (n : Nat) : RelL Γ ρ (cs.drop n) (vs.drop n) := by
  refine ⟨by simp [h.1], fun k x y hx hy => ?_⟩
  rw [List.getElem?_drop] at hx hy
  exact h.2 _ x y hx hy
theorem RelL.set (h : RelL Γ ρ cs vs) (hv : Rel Γ ρ a v) (k : Nat) : RelL Γ ρ (cs.set k a) (vs.set k v) := by
  refine ⟨by simp [h.1], fun j x y hx hy => ?_⟩
  by_cases hj : k = j
  · subst hj
    rw [List.getElem?_set] at hx hy
    rw [if_pos rfl] at hx hy
    split at hx
    · rename_i hk; rw [if_pos (by rw [← h.1]; exact hk)] at hy; cases hx; cases hy; exact hv
    · cases hx
  · rw [List.getElem?_set_ne hj] at hx hy; exact h.2 j x y hx hy
theorem RelL.of_all (hl : cs.length = vs.length) (h : ∀ k (h1 : k < cs.length) (h2 : k < vs.length), Rel Γ ρ (cs[k]) (vs[k])) : RelL Γ ρ cs vs := by
  refine ⟨hl, fun k x y hx hy => ?_⟩
  obtain ⟨h1, rfl⟩ := List.getElem?_eq_some_iff.1 hx
  obtain ⟨h2, rfl⟩ := List.getElem?_eq_some_iff.1 hy
  exact h k h1 h2
theorem RelL.all (h : RelL Γ ρ cs vs) : ∀ k (h1 : k < cs.length) (h2 : k < vs.length), Rel Γ ρ (cs[k]) (vs[k]) := fun k h1 h2 => h.2 k _ _ (by simp [h1]) (by simp [h2])
theorem Rel.ag' (h : RelL Γ ρ cs vs) : Rel Γ ρ (.ag cs) (.agg vs.toArray) := .ag h.1 h.all
theorem Rel.tu' (h : RelL Γ ρ cs vs) : Rel Γ ρ (.tu cs) (.tuple vs.toArray) := .tu h.1 h.all
theorem Rel.ag_inv (h : Rel Γ ρ (.ag cs) v) : ∃ vs, v = .agg vs.toArray ∧ RelL Γ ρ cs vs := by cases h with | ag hl h => exact ⟨_, rfl, .of_all hl h⟩
theorem Rel.tu_inv (h : Rel Γ ρ (.tu cs) v) : ∃ vs, v = .tuple vs.toArray ∧ RelL Γ ρ cs vs := by cases h with | tu hl h => exact ⟨_, rfl, .of_all hl h⟩
theorem Rel.fn_inv {g : FuncId} (h : Rel Γ ρ (.fn g cs) v) : ∃ vs, v = .func (.func g) #[] vs.toArray ∧ RelL Γ ρ cs vs := by cases h with | fn hl h => exact ⟨_, rfl, .of_all hl h⟩
theorem Rel.p_inv {x : Value} (h : Rel Γ ρ (.p x) v) : v = x := by cases h; rfl
theorem RelL.ps (vs : List Value) : RelL Γ ρ (vs.map .p) vs := by
  refine ⟨by simp, fun k x y hx hy => ?_⟩
  rw [List.getElem?_map, hy] at hx
  cases hx; exact .p _
theorem RelL.ps_inv {us : List Value} (h : RelL Γ ρ (us.map .p) vs) : vs = us := by
  refine List.ext_getElem? fun k => ?_
  by_cases hk : k < us.length
  · obtain ⟨v, hv, hr⟩ := h.get (k := k) (a := .p us[k]) (by simp [hk])
    rw [hv, hr.p_inv]; simp [hk]
  · have hl := h.1
    simp only [List.length_map] at hl
    rw [List.getElem?_eq_none (by omega), List.getElem?_eq_none (by omega)]

/-- what relates lasts -/
theorem Rel.mono (h : Rel Γ ρ a v) (hle : Heap.le Γ Γ') (hρ : ∀ (i : Nat) (x : BI), ρ[i]? = some x → ρ'[i]? = some x) : Rel Γ' ρ' a v := by
  induction h generalizing ρ' with
  | p v => exact .p v
  | any v => exact .any v
  | ptr h hb => exact .ptr (hρ _ _ h) hb
  | sl h ha hc h0 => exact .sl (hρ _ _ h) ha hc h0
  | vp hb hc _ ih => exact .vp (hle.1 _ _ hb) hc fun k hk => ih k hk (by simp)
  | vs0 h hc => exact .vs0 h hc
  | vs hm hb hc _ ih => exact .vs hm (hle.1 _ _ hb) hc fun k hk => ih k hk (by simp)
  | ag hl _ ih => exact .ag hl fun k h1 h2 => ih k h1 h2 hρ
  | tu hl _ ih => exact .tu hl fun k h1 h2 => ih k h1 h2 hρ
  | fn hl _ ih => exact .fn hl fun k h1 h2 => ih k h1 h2 hρ
  | ic _ ih => exact .ic (ih hρ)
  | mp h hb => exact .mp (hρ _ _ h) hb
  | yl h hb => exact .yl (hρ _ _ h) hb
theorem RelL.mono (h : RelL Γ ρ cs vs) (hle : Heap.le Γ Γ') (hρ : ∀ (i : Nat) (x : BI), ρ[i]? = some x → ρ'[i]? = some x) : RelL Γ' ρ' cs vs := ⟨h.1, fun k x y hx hy => (h.2 k x y hx hy).mono hle hρ⟩
end

/-! ### References to objects that have moved, or are no more: q tells them -/
mutual
def AV.wo (q : Nat → Bool) : AV → AV
  | .ptr j o => if q j then .any else .ptr j o
  | .sl j o n => if q j then .any else .sl j o n
  | .mp j => if q j then .any else .mp j
  | .yl j => if q j then .any else .yl j
  | .ag cs => .ag (AV.woL q cs)
  | .tu cs => .tu (AV.woL q cs)
  | .fn f cs => .fn f (AV.woL q cs)
  | .ic t v => .ic t (AV.wo q v)
  | .p v => .p v
  | .any => .any
  | .vp cs o => .vp cs o
  | .vs cs n => .vs cs n
def AV.woL (q : Nat → Bool) : List AV → List AV
  | [] => []
  | a :: r => AV.wo q a :: AV.woL q r
end
theorem AV.woL_eq (q : Nat → Bool) : ∀ (l : List AV), AV.woL q l = l.map (AV.wo q)
  | [] => by rw [AV.woL]; rfl
  | a :: r => by rw [AV.woL, AV.woL_eq q r]; rfl
def AObj.wo (q : Nat → Bool) : AObj → AObj
  | .cells T cs => .cells T (cs.map (AV.wo q))
  | .buf T sz cs => .buf T sz (cs.map (AV.wo q))
  | .map es => .map (es.map fun e => (e.1, e.2.wo q))
  | .raw o => .raw o
  | .rcd o cs vs => .rcd o (cs.map (AV.wo q)) vs
  | .gone => .gone
/-- from one table of places to another: all but those of q -/
def Kept (q : Nat → Bool) (ρ ρ' : List BI) : Prop := ∀ (i : Nat) (x : BI), q i = false → ρ[i]? = some x → ρ'[i]? = some x

section
variable {Γ Γ' : Heap} {ρ ρ' : List BI} {cs : List AV} {vs : List Value} {a : AV} {v : Value} {q : Nat → Bool}
theorem Rel.wo (h : Rel Γ ρ a v) (hρ : Kept q ρ ρ') : Rel Γ ρ' (a.wo q) v := by
  induction h generalizing ρ' with
  | p v => rw [AV.wo]; exact .p v
  | any v => rw [AV.wo]; exact .any v
  | ptr h hb => rw [AV.wo]; split <;> first | exact .any _ | exact .ptr (hρ _ _ (Bool.eq_false_iff.2 (by assumption)) h) hb
  | sl h ha hc h0 => rw [AV.wo]; split <;> first | exact .any _ | exact .sl (hρ _ _ (Bool.eq_false_iff.2 (by assumption)) h) ha hc h0
  | vp hb hc hr _ => rw [AV.wo]; exact .vp hb hc hr
  | vs0 h hc => rw [AV.wo]; exact .vs0 h hc
  | vs hm hb hc hr _ => rw [AV.wo]; exact .vs hm hb hc hr
  | ag hl _ ih => rw [AV.wo, AV.woL_eq]; exact .ag (by simpa using hl) fun k h1 h2 => by simpa using ih k (by simpa using h1) h2 hρ
  | tu hl _ ih => rw [AV.wo, AV.woL_eq]; exact .tu (by simpa using hl) fun k h1 h2 => by simpa using ih k (by simpa using h1) h2 hρ
  | fn hl _ ih => rw [AV.wo, AV.woL_eq]; exact .fn (by simpa using hl) fun k h1 h2 => by simpa using ih k (by simpa using h1) h2 hρ
  | ic _ ih => rw [AV.wo]; exact .ic (ih hρ)
  | mp h hb => rw [AV.wo]; split <;> first | exact .any _ | exact .mp (hρ _ _ (Bool.eq_false_iff.2 (by assumption)) h) hb
  | yl h hb => rw [AV.wo]; split <;> first | exact .any _ | exact .yl (hρ _ _ (Bool.eq_false_iff.2 (by assumption)) h) hb
theorem RelL.wo (h : RelL Γ ρ cs vs) (hρ : Kept q ρ ρ') : RelL Γ ρ' (cs.map (AV.wo q)) vs := by
  refine ⟨by simpa using h.1, fun k x y hx hy => ?_⟩
  rw [List.getElem?_map] at hx
  cases ha : cs[k]? with
  | none => rw [ha] at hx; cases hx
  | some a => rw [ha] at hx; cases hx; exact (h.2 k a y ha hy).wo hρ
/-- what relates refers to no place beyond the table -/
theorem Rel.wo_eq (h : Rel Γ ρ a v) (hq : ∀ i, i < ρ.length → q i = false) : a.wo q = a := by
  have key : ∀ {i : Nat} {x : BI} {ρ : List BI}, (∀ i, i < ρ.length → q i = false) → ρ[i]? = some x → q i = false := fun hq h => hq _ (List.getElem?_eq_some_iff.1 h).1
  induction h with
  | p v => rw [AV.wo]
  | any v => rw [AV.wo]
  | ptr h _ => rw [AV.wo, if_neg (by rw [key hq h]; simp)]
  | sl h _ hc h0 => rw [AV.wo, if_neg (by rw [key hq h]; simp)]
  | vp hb hc hr _ => rw [AV.wo]
  | vs0 _ hc => rw [AV.wo]
  | vs hm hb hc hr _ => rw [AV.wo]
  | ag hl _ ih => rw [AV.wo, AV.woL_eq]; congr 1; exact List.ext_getElem (by simp) fun k h1 h2 => by simpa using ih k h2 (by rw [← hl]; exact h2) hq
  | tu hl _ ih => rw [AV.wo, AV.woL_eq]; congr 1; exact List.ext_getElem (by simp) fun k h1 h2 => by simpa using ih k h2 (by rw [← hl]; exact h2) hq
  | fn hl _ ih => rw [AV.wo, AV.woL_eq]; congr 1; exact List.ext_getElem (by simp) fun k h1 h2 => by simpa using ih k h2 (by rw [← hl]; exact h2) hq
  | ic _ ih => rw [AV.wo, ih hq]
  | mp h _ => rw [AV.wo, if_neg (by rw [key hq h]; simp)]
  | yl h _ => rw [AV.wo, if_neg (by rw [key hq h]; simp)]
theorem RelL.wo_eq (h : RelL Γ ρ cs vs) (hq : ∀ i, i < ρ.length → q i = false) : cs.map (AV.wo q) = cs := by
  refine List.ext_getElem (by simp) fun k h1 h2 => ?_
  obtain ⟨v, _, hr⟩ := h.get (k := k) (a := cs[k]) (by simp [h2])
  simpa using hr.wo_eq hq
end

/-! ### Objects, states -/
/-- entries of a map: each key once -/
def MapRel (Γ : Heap) (ρ : List BI) (es : List (Value × AV)) (ms : List MapEntry) (clock : Nat) : Prop :=
  RelL Γ ρ (es.map (·.2)) (ms.map (·.val)) ∧ es.map (·.1) = ms.map (·.key) ∧ (ms.map (·.born)).Nodup ∧ (∀ e ∈ ms, e.born < clock) ∧ (ms.map (·.key)).Nodup

def ObjRel (Γ : Heap) (ρ : List BI) (w : World) (x : BI) : AObj → Prop
  | .cells T cs => x.grow = false ∧ ∃ b vs, x.blk = some b ∧ w.heap[b]? = some (.cells vs.toArray T (0, 0)) ∧ RelL Γ ρ cs vs
  | .buf T sz cs => (x.grow = true ∧ 0 < sz) ∧ ∃ n, cs.length = n * sz ∧ n ≤ x.cap ∧ ((x.blk = none ∧ cs = [] ∧ x.cap = 0) ∨
      ∃ b cur, x.blk = some b ∧ w.heap[b]? = some (.cells cur T (0, 0)) ∧ x.cap ≤ maxLen ∧ cur.size = x.cap * sz ∧ RelL Γ ρ cs (cur.toList.take (n * sz)))
  | .map es => ∃ b ms c, x.blk = some b ∧ w.heap[b]? = some (.map ms c) ∧ MapRel Γ ρ es ms.toList c
  | .raw o => ∃ b, x.blk = some b ∧ w.heap[b]? = some o
  | .rcd o cs vs => ∃ b, x.blk = some b ∧ w.heap[b]? = some o ∧ RelL Γ ρ cs vs
  | .gone => True

def AObj.live : AObj → Bool
  | .gone => false
  | _ => true
theorem AObj.live_wo (q : Nat → Bool) (o : AObj) : (o.wo q).live = o.live := by cases o <;> rfl

structure St (Γ : Heap) (ρ : List BI) (T : Tbl) (w : World) : Prop where
  of : Γ.of w
  len : ρ.length = T.length
  obj : ∀ (i : Nat) (o : AObj) (x : BI), T[i]? = some o → ρ[i]? = some x → ObjRel Γ ρ w x o
  apart : ∀ (i : Nat) (o : AObj) (x : BI) (b : Nat), T[i]? = some o → o.live = true → ρ[i]? = some x → x.blk = some b →
    Γ b = none ∧ ∀ (j : Nat) (o' : AObj) (y : BI), j ≠ i → T[j]? = some o' → o'.live = true → ρ[j]? = some y → y.blk ≠ some b

section
variable {Γ Γ' : Heap} {ρ ρ' : List BI} {T : Tbl} {w w' : World} {x : BI} {o : AObj} {i : Nat}
theorem ObjRel.blk_lt (h : ObjRel Γ ρ w x o) (hl : o.live = true) {b : Nat} (hb : x.blk = some b) : b < w.heap.size := by
  cases o with
  | cells T cs => obtain ⟨_, b', _, h1, h2, _⟩ := h; rw [hb] at h1; cases h1; exact (Array.getElem?_eq_some_iff.1 h2).1
  | buf T sz cs =>
    obtain ⟨_, _, _, _, ⟨h1, _⟩ | ⟨b', _, h1, h2, _⟩⟩ := h
    · rw [hb] at h1; cases h1
    · rw [hb] at h1; cases h1; exact (Array.getElem?_eq_some_iff.1 h2).1
  | map es => obtain ⟨b', _, _, h1, h2, _⟩ := h; rw [hb] at h1; cases h1; exact (Array.getElem?_eq_some_iff.1 h2).1
  | raw o => obtain ⟨b', h1, h2⟩ := h; rw [hb] at h1; cases h1; exact (Array.getElem?_eq_some_iff.1 h2).1
  | rcd o cs vs => obtain ⟨b', h1, h2, _⟩ := h; rw [hb] at h1; cases h1; exact (Array.getElem?_eq_some_iff.1 h2).1
  | gone => cases hl
/-- an object hangs on its own block alone -/
theorem ObjRel.world (h : ObjRel Γ ρ w x o) (hw : ∀ b, x.blk = some b → w'.heap[b]? = w.heap[b]?) : ObjRel Γ ρ w' x o := by
  cases o with
  | cells T cs => obtain ⟨h0, b, vs, h1, h2, h3⟩ := h; exact ⟨h0, b, vs, h1, by rw [hw b h1]; exact h2, h3⟩
  | buf T sz cs =>
    obtain ⟨h0, n, h1, h2, h3 | ⟨b, cur, h3, h4, h5⟩⟩ := h
    · exact ⟨h0, n, h1, h2, .inl h3⟩
    · exact ⟨h0, n, h1, h2, .inr ⟨b, cur, h3, by rw [hw b h3]; exact h4, h5⟩⟩
  | map es => obtain ⟨b, ms, c, h1, h2, h3⟩ := h; exact ⟨b, ms, c, h1, by rw [hw b h1]; exact h2, h3⟩
  | raw o => obtain ⟨b, h1, h2⟩ := h; exact ⟨b, h1, by rw [hw b h1]; exact h2⟩
  | rcd o cs vs => obtain ⟨b, h1, h2, h3⟩ := h; exact ⟨b, h1, by rw [hw b h1]; exact h2, h3⟩
  | gone => trivial
theorem ObjRel.mono (h : ObjRel Γ ρ w x o) (hle : Heap.le Γ Γ') (hρ : ∀ (i : Nat) (x : BI), ρ[i]? = some x → ρ'[i]? = some x) : ObjRel Γ' ρ' w x o := by
  cases o with
  | cells T cs => obtain ⟨h0, b, vs, h1, h2, h3⟩ := h; exact ⟨h0, b, vs, h1, h2, h3.mono hle hρ⟩
  | buf T sz cs =>
    obtain ⟨h0, n, h1, h2, h3 | ⟨b, cur, h3, h4, h5, h6, h7⟩⟩ := h
    · exact ⟨h0, n, h1, h2, .inl h3⟩
    · exact ⟨h0, n, h1, h2, .inr ⟨b, cur, h3, h4, h5, h6, h7.mono hle hρ⟩⟩
  | map es => obtain ⟨b, ms, c, h1, h2, h3, h4⟩ := h; exact ⟨b, ms, c, h1, h2, h3.mono hle hρ, h4⟩
  | raw o => exact h
  | rcd o cs vs => obtain ⟨b, h1, h2, h3⟩ := h; exact ⟨b, h1, h2, h3.mono hle hρ⟩
  | gone => trivial
theorem ObjRel.wo {q : Nat → Bool} (h : ObjRel Γ ρ w x o) (hρ : Kept q ρ ρ') : ObjRel Γ ρ' w x (o.wo q) := by
  cases o with
  | cells T cs => obtain ⟨h0, b, vs, h1, h2, h3⟩ := h; exact ⟨h0, b, vs, h1, h2, h3.wo hρ⟩
  | buf T sz cs =>
    obtain ⟨h0, n, h1, h2, h3⟩ := h
    refine ⟨h0, n, by simpa using h1, h2, ?_⟩
    rcases h3 with ⟨h3, h4, h5⟩ | ⟨b, cur, h3, h4, h5, h6, h7⟩
    · exact .inl ⟨h3, by subst h4; rfl, h5⟩
    · exact .inr ⟨b, cur, h3, h4, h5, h6, h7.wo hρ⟩
  | map es =>
    obtain ⟨b, ms, c, h1, h2, h3, h4, h5⟩ := h
    refine ⟨b, ms, c, h1, h2, ?_, ?_, h5⟩
    · have := h3.wo hρ; simpa [List.map_map, Function.comp_def] using this
    · simpa [List.map_map, Function.comp_def] using h4
  | raw o => exact h
  | rcd o cs vs => obtain ⟨b, h1, h2, h3⟩ := h; exact ⟨b, h1, h2, h3.wo hρ⟩
  | gone => trivial
theorem ObjRel.wo_eq {q : Nat → Bool} (h : ObjRel Γ ρ w x o) (hq : ∀ i, i < ρ.length → q i = false) : o.wo q = o := by
  cases o with
  | cells T cs => obtain ⟨_, b, vs, h1, h2, h3⟩ := h; rw [AObj.wo, h3.wo_eq hq]
  | buf T sz cs =>
    obtain ⟨h0, n, h1, h2, ⟨h3, rfl, h5⟩ | ⟨b, cur, h3, h4, h5, h6, h7⟩⟩ := h
    · rfl
    · rw [AObj.wo, h7.wo_eq hq]
  | map es =>
    obtain ⟨b, ms, c, h1, h2, h3, h4, h5⟩ := h
    have e := h3.wo_eq hq
    rw [List.map_map] at e
    rw [AObj.wo]
    congr 1
    refine List.ext_getElem (by simp) fun k g1 g2 => ?_
    have := congrArg (·[k]?) e
    simp [g2] at this
    simp [this]
  | raw o => rfl
  | rcd o cs vs => obtain ⟨b, h1, h2, h3⟩ := h; rw [AObj.wo, h3.wo_eq hq]
  | gone => rfl
end

/-! ### What a step has turned -/
abbrev Eff := List (Nat × Bool)
/-- from one state to a later one: what is not in es is as it was: its place, its content, its abstract content -/
structure Ext (Γ : Heap) (ρ : List BI) (T : Tbl) (w : World) (Γ' : Heap) (ρ' : List BI) (T' : Tbl) (w' : World) (es : Eff) : Prop where
  le : Heap.le Γ Γ'
  place : ∀ (i : Nat) (x : BI), ρ[i]? = some x → (i, true) ∉ es → ρ'[i]? = some x
  same : ∀ (i : Nat) (x : BI) (o : AObj) (b : Nat), T[i]? = some o → o.live = true → ρ[i]? = some x → x.blk = some b → (∀ t, (i, t) ∉ es) → w'.heap[b]? = w.heap[b]? ∧ ∃ o', T'[i]? = some o' ∧ o'.live = true
section
variable {Γ Γ1 Γ2 : Heap} {ρ ρ1 ρ2 : List BI} {T T1 T2 : Tbl} {w w1 w2 : World} {e1 e2 : Eff}
theorem Ext.refl (h : w1.heap = w.heap) : Ext Γ ρ T w Γ ρ T w1 [] := ⟨Heap.le_refl _, fun _ _ h _ => h, fun _ _ o _ ho hl _ _ _ => ⟨by rw [h], o, ho, hl⟩⟩
theorem Ext.more (h : Ext Γ ρ T w Γ1 ρ1 T1 w1 e1) (hs : ∀ x ∈ e1, x.1 < ρ.length → x ∈ e2) : Ext Γ ρ T w Γ1 ρ1 T1 w1 e2 := by
  refine ⟨h.le, fun i x hx hn => h.place i x hx fun hm => hn (hs _ hm (List.getElem?_eq_some_iff.1 hx).1), fun i x o b ho hl hx hb hn => h.same i x o b ho hl hx hb fun t hm => hn t (hs _ hm (List.getElem?_eq_some_iff.1 hx).1)⟩
theorem Ext.trans (h : Ext Γ ρ T w Γ1 ρ1 T1 w1 e1) (h' : Ext Γ1 ρ1 T1 w1 Γ2 ρ2 T2 w2 e2) : Ext Γ ρ T w Γ2 ρ2 T2 w2 (e2 ++ e1) := by
  refine ⟨Heap.le_trans h.le h'.le, fun i x hx hn => ?_, fun i x o b ho hl hx hb hn => ?_⟩
  · simp only [List.mem_append, not_or] at hn
    exact h'.place i x (h.place i x hx hn.2) hn.1
  · simp only [List.mem_append, not_or] at hn
    obtain ⟨g1, o1, g2, g3⟩ := h.same i x o b ho hl hx hb fun t => (hn t).2
    obtain ⟨g4, g5⟩ := h'.same i x o1 b g2 g3 (h.place i x hx (hn true).2) hb fun t => (hn t).1
    exact ⟨g4.trans g1, g5⟩
end
end Go.E

set_option linter.unusedSimpArgs false
set_option linter.unusedVariables false
set_option linter.unusedSectionVars false
namespace Go.E
section
variable {P : Program} {Γ Γ' : Heap} {ρ ρ' : List BI} {T : Tbl} {w w' : World} {x : BI} {o : AObj} {i : Nat} {cs : List AV} {vs : List Value} {a : AV} {v : Value}

theorem getElem?_snoc {α : Type _} (l : List α) (a : α) (i : Nat) : (l ++ [a])[i]? = if i = l.length then some a else l[i]? := by
  split
  · rename_i h; subst h; simp
  · rename_i h
    by_cases h' : i < l.length
    · rw [List.getElem?_append_left h']
    · rw [List.getElem?_eq_none (by simp; omega), List.getElem?_eq_none (by omega)]
theorem snoc_mono (ρ : List BI) (x : BI) : ∀ (i : Nat) (y : BI), ρ[i]? = some y → (ρ ++ [x])[i]? = some y := by
  intro i y h
  rw [List.getElem?_append_left (List.getElem?_eq_some_iff.1 h).1]; exact h

/-- the state hangs on the heap alone -/
theorem St.same (h : St Γ ρ T w) (e : Alike w' w) : St Γ ρ T w' :=
  ⟨⟨fun b o hb => by rw [e.1]; exact h.of.1 b o hb, e.2.1.trans h.of.2.1, e.2.2.trans h.of.2.2⟩, h.len, fun i o x h1 h2 => (h.obj i o x h1 h2).world fun b _ => by rw [e.1], h.apart⟩
theorem St.lt (h : St Γ ρ T w) {b : Nat} {ob : Obj} (hb : Γ b = some ob) : b < w.heap.size := (Array.getElem?_eq_some_iff.1 (h.of.1 _ _ hb)).1
theorem St.wf (h : St Γ ρ T w) {q : Nat → Bool} (hq : ∀ i, i < T.length → q i = false) : T.map (AObj.wo q) = T := by
  refine List.ext_getElem (by simp) fun k h1 h2 => ?_
  have hk : k < ρ.length := by rw [h.len]; exact h2
  simpa using (h.obj k T[k] ρ[k] (by simp [h2]) (by simp [hk])).wo_eq (by rw [h.len]; exact hq)

/-- one more object, of new blocks alone; what was there stays -/
theorem St.push (h : St Γ ρ T w) (x : BI) (o : AObj) (hof : Γ.of w') (hk : ∀ b, b < w.heap.size → w'.heap[b]? = w.heap[b]?)
    (ho : ObjRel Γ (ρ ++ [x]) w' x o) (hx : ∀ b, x.blk = some b → w.heap.size ≤ b) : St Γ (ρ ++ [x]) (T ++ [o]) w' ∧ Ext Γ ρ T w Γ (ρ ++ [x]) (T ++ [o]) w' [] := by
  have hlen := h.len
  refine ⟨⟨hof, by simp [hlen], ?_, ?_⟩, ⟨Heap.le_refl _, fun i y hy _ => snoc_mono _ _ _ _ hy, fun i y o' b hT hl hy hb _ => ⟨hk b ((h.obj i o' y hT hy).blk_lt hl hb), o', ?_, hl⟩⟩⟩
  · intro i o' y h1 h2
    rw [getElem?_snoc] at h1 h2
    rw [hlen] at h2
    by_cases hi : i = T.length
    · rw [if_pos hi] at h1 h2
      cases h1; cases h2; exact ho
    · rw [if_neg hi] at h1 h2
      by_cases hl : o'.live = true
      · exact ((h.obj i o' y h1 h2).world (w' := w') fun b hb => hk b ((h.obj i o' y h1 h2).blk_lt hl hb)).mono (Heap.le_refl _) (snoc_mono _ _)
      · cases o' <;> first | exact (hl rfl).elim | trivial
  · intro i o' y b h1 hl h2 hb
    rw [getElem?_snoc] at h1 h2
    rw [hlen] at h2
    by_cases hi : i = T.length
    · rw [if_pos hi] at h1 h2
      cases h1; cases h2
      have hge := hx b hb
      refine ⟨?_, fun j o2 y2 hj g1 g2 g3 g4 => ?_⟩
      · cases hg : Γ b with
        | none => rfl
        | some ob => have := h.lt hg; omega
      · rw [getElem?_snoc] at g1 g3
        rw [hlen] at g3
        rw [if_neg (by omega)] at g1 g3
        have := (h.obj j o2 y2 g1 g3).blk_lt g2 g4
        omega
    · rw [if_neg hi] at h1 h2
      obtain ⟨g0, g⟩ := h.apart i o' y b h1 hl h2 hb
      refine ⟨g0, fun j o2 y2 hj g1 g2 g3 => ?_⟩
      rw [getElem?_snoc] at g1 g3
      rw [hlen] at g3
      by_cases hj' : j = T.length
      · rw [if_pos hj'] at g1 g3
        cases g1; cases g3
        intro hb'
        have := hx b hb'
        have := (h.obj i o' y h1 h2).blk_lt hl hb
        omega
      · rw [if_neg hj'] at g1 g3
        exact g j o2 y2 hj g1 g2 g3
  · rw [getElem?_snoc, if_neg (by have := (List.getElem?_eq_some_iff.1 hT).1; omega)]; exact hT

/-- one object turned where it stands -/
theorem St.write (h : St Γ ρ T w) (hT : T[i]? = some o) (hx : ρ[i]? = some x) (hl : o.live = true) (o' : AObj) (hl' : o'.live = true) (hk : ∀ b, x.blk ≠ some b → w'.heap[b]? = w.heap[b]?) (ho : w'.os = w.os ∧ w'.output = w.output)
    (hr : ObjRel Γ ρ w' x o') : St Γ ρ (T.set i o') w' ∧ Ext Γ ρ T w Γ ρ (T.set i o') w' [(i, false)] := by
  have hi := (List.getElem?_eq_some_iff.1 hT).1
  have hget : ∀ j, (T.set i o')[j]? = if j = i then some o' else T[j]? := by
    intro j
    by_cases hj : j = i
    · subst hj; simp [hi]
    · rw [if_neg hj, List.getElem?_set_ne (Ne.symm hj)]
  refine ⟨⟨⟨fun b ob hb => ?_, ho.1.trans h.of.2.1, ho.2.trans h.of.2.2⟩, by simp [h.len], ?_, ?_⟩, ⟨Heap.le_refl _, fun _ _ h _ => h, ?_⟩⟩
  · by_cases hb' : x.blk = some b
    · have := (h.apart i o x b hT hl hx hb').1
      rw [this] at hb; cases hb
    · rw [hk b hb']; exact h.of.1 b ob hb
  · intro j o2 y h1 h2
    rw [hget] at h1
    by_cases hj : j = i
    · subst hj
      rw [if_pos rfl] at h1
      cases h1
      rw [hx] at h2; cases h2
      exact hr
    · rw [if_neg hj] at h1
      by_cases hl2 : o2.live = true
      · refine (h.obj j o2 y h1 h2).world fun b hb => hk b fun hb' => ?_
        exact (h.apart j o2 y b h1 hl2 h2 hb).2 i o x (Ne.symm hj) hT hl hx hb'
      · cases o2 <;> first | exact (hl2 rfl).elim | trivial
  · intro j o2 y b h1 hl2 h2 hb
    rw [hget] at h1
    have hcl : ∃ o3, T[j]? = some o3 ∧ o3.live = true := by
      by_cases hj : j = i
      · subst hj; exact ⟨o, hT, hl⟩
      · rw [if_neg hj] at h1; exact ⟨o2, h1, hl2⟩
    obtain ⟨o3, g1, g2⟩ := hcl
    obtain ⟨g3, g4⟩ := h.apart j o3 y b g1 g2 h2 hb
    refine ⟨g3, fun k o4 z hkj k1 k2 k3 => ?_⟩
    rw [hget] at k1
    by_cases hki : k = i
    · subst hki
      exact g4 k o z hkj hT hl k3
    · rw [if_neg hki] at k1
      exact g4 k o4 z hkj k1 k2 k3
  · intro j y o2 b h1 hl2 h2 hb hn
    have hj : j ≠ i := by rintro rfl; exact hn false (by simp)
    refine ⟨hk b fun hb' => (h.apart j o2 y b h1 hl2 h2 hb).2 i o x (Ne.symm hj) hT hl hx hb', o2, ?_, hl2⟩
    rw [hget, if_neg hj]; exact h1

/-- one object has moved: to its own block, or to a new one -/
theorem St.move (h : St Γ ρ T w) (hT : T[i]? = some o) (hx : ρ[i]? = some x) (hl : o.live = true) (x' : BI) (o' : AObj) (hl' : o'.live = true) (hk : ∀ b, b < w.heap.size → x.blk ≠ some b → w'.heap[b]? = w.heap[b]?) (ho : w'.os = w.os ∧ w'.output = w.output)
    (hx' : ∀ b, x'.blk = some b → x.blk = some b ∨ w.heap.size ≤ b) (hr : ObjRel Γ (ρ.set i x') w' x' o') :
    St Γ (ρ.set i x') ((T.map (AObj.wo (· == i))).set i o') w' ∧ Ext Γ ρ T w Γ (ρ.set i x') ((T.map (AObj.wo (· == i))).set i o') w' [(i, true)] ∧ Kept (· == i) ρ (ρ.set i x') := by
  have hi := (List.getElem?_eq_some_iff.1 hT).1
  have hi' := (List.getElem?_eq_some_iff.1 hx).1
  have hget : ∀ j, ((T.map (AObj.wo (· == i))).set i o')[j]? = if j = i then some o' else T[j]?.map (AObj.wo (· == i)) := by
    intro j
    by_cases hj : j = i
    · subst hj; simp [hi]
    · rw [if_neg hj, List.getElem?_set_ne (Ne.symm hj), List.getElem?_map]
  have hgetρ : ∀ j, (ρ.set i x')[j]? = if j = i then some x' else ρ[j]? := by
    intro j
    by_cases hj : j = i
    · subst hj; simp [hi']
    · rw [if_neg hj, List.getElem?_set_ne (Ne.symm hj)]
  have hkept : Kept (· == i) ρ (ρ.set i x') := fun j y hj hy => by
    rw [hgetρ, if_neg (by simpa using hj)]; exact hy
  have hother : ∀ j o2, j ≠ i → ((T.map (AObj.wo (· == i))).set i o')[j]? = some o2 → ∃ o3, T[j]? = some o3 ∧ o2 = o3.wo (· == i) := by
    intro j o2 hj h1
    rw [hget, if_neg hj] at h1
    cases hTj : T[j]? with
    | none => rw [hTj] at h1; cases h1
    | some o3 => rw [hTj] at h1; cases h1; exact ⟨o3, rfl, rfl⟩
  have hout : ∀ j o2 y b, j ≠ i → T[j]? = some o2 → o2.live = true → ρ[j]? = some y → y.blk = some b → b < w.heap.size ∧ x.blk ≠ some b ∧ x'.blk ≠ some b := by
    intro j o2 y b hj h1 hl2 h2 hb
    have hlt := (h.obj j o2 y h1 h2).blk_lt hl2 hb
    have hne : x.blk ≠ some b := (h.apart j o2 y b h1 hl2 h2 hb).2 i o x (Ne.symm hj) hT hl hx
    refine ⟨hlt, hne, fun hb' => ?_⟩
    rcases hx' b hb' with g | g
    · exact hne g
    · omega
  refine ⟨⟨⟨fun b ob hb => ?_, ho.1.trans h.of.2.1, ho.2.trans h.of.2.2⟩, by simp [h.len], ?_, ?_⟩, ⟨Heap.le_refl _, ?_, ?_⟩, hkept⟩
  · by_cases hb' : x.blk = some b
    · have := (h.apart i o x b hT hl hx hb').1
      rw [this] at hb; cases hb
    · rw [hk b (h.lt hb) hb']; exact h.of.1 b ob hb
  · intro j o2 y h1 h2
    rw [hgetρ] at h2
    by_cases hj : j = i
    · subst hj
      rw [hget, if_pos rfl] at h1
      rw [if_pos rfl] at h2
      cases h1; cases h2
      exact hr
    · rw [if_neg hj] at h2
      obtain ⟨o3, g1, rfl⟩ := hother j o2 hj h1
      by_cases hl2 : o3.live = true
      · refine ((h.obj j o3 y g1 h2).world (w' := w') fun b hb => ?_).wo hkept
        obtain ⟨k1, k2, _⟩ := hout j o3 y b hj g1 hl2 h2 hb
        exact hk b k1 k2
      · cases o3 <;> first | exact (hl2 rfl).elim | trivial
  · intro j o2 y b h1 hl2 h2 hb
    rw [hgetρ] at h2
    by_cases hj : j = i
    · subst hj
      rw [if_pos rfl] at h2
      cases h2
      refine ⟨?_, fun k o4 z hkj k1 k2 k3 k4 => ?_⟩
      · rcases hx' b hb with g | g
        · exact (h.apart j o x b hT hl hx g).1
        · cases hg : Γ b with
          | none => rfl
          | some ob => have := h.lt hg; omega
      · obtain ⟨o5, g1, rfl⟩ := hother k o4 hkj k1
        rw [hgetρ, if_neg hkj] at k3
        exact (hout k o5 z b hkj g1 (by rwa [AObj.live_wo] at k2) k3 k4).2.2 hb
    · rw [if_neg hj] at h2
      obtain ⟨o3, g1, rfl⟩ := hother j o2 hj h1
      rw [AObj.live_wo] at hl2
      obtain ⟨g3, g4⟩ := h.apart j o3 y b g1 hl2 h2 hb
      refine ⟨g3, fun k o4 z hkj k1 k2 k3 => ?_⟩
      rw [hgetρ] at k3
      by_cases hki : k = i
      · subst hki
        rw [if_pos rfl] at k3
        cases k3
        exact (hout j o3 y b hj g1 hl2 h2 hb).2.2
      · rw [if_neg hki] at k3
        obtain ⟨o5, m1, rfl⟩ := hother k o4 hki k1
        exact g4 k o5 z hkj m1 (by rwa [AObj.live_wo] at k2) k3
  · intro j y hy hn
    have hj : j ≠ i := by rintro rfl; exact hn (by simp)
    rw [hgetρ, if_neg hj]; exact hy
  · intro j y o2 b h1 hl2 h2 hb hn
    have hj : j ≠ i := by rintro rfl; exact hn true (by simp)
    obtain ⟨k1, k2, _⟩ := hout j o2 y b hj h1 hl2 h2 hb
    refine ⟨hk b k1 k2, o2.wo (· == i), ?_, by rwa [AObj.live_wo]⟩
    rw [hget, if_neg hj, h1]; rfl

/-- what stands at n and beyond is let go -/
theorem St.cut (h : St Γ ρ T w) (n : Nat) : St Γ (ρ.take n) ((T.take n).map (AObj.wo (n ≤ ·))) w ∧ Kept (n ≤ ·) ρ (ρ.take n) := by
  have hkept : Kept (fun i => decide (n ≤ i)) ρ (ρ.take n) := fun j y hj hy => by
    rw [List.getElem?_take_of_lt (by simpa using hj)]; exact hy
  have hget : ∀ j o2, ((T.take n).map (AObj.wo (n ≤ ·)))[j]? = some o2 → j < n ∧ ∃ o3, T[j]? = some o3 ∧ o2 = o3.wo (n ≤ ·) := by
    intro j o2 h1
    rw [List.getElem?_map, List.getElem?_take] at h1
    split at h1
    · rename_i hj
      cases hTj : T[j]? with
      | none => rw [hTj] at h1; cases h1
      | some o3 => rw [hTj] at h1; cases h1; exact ⟨hj, o3, rfl, rfl⟩
    · cases h1
  have hgetρ : ∀ (j : Nat) (y : BI), (ρ.take n)[j]? = some y → ρ[j]? = some y := by
    intro j y h2
    rw [List.getElem?_take] at h2
    split at h2
    · exact h2
    · cases h2
  refine ⟨⟨h.of, by simp [h.len], ?_, ?_⟩, hkept⟩
  · intro j o2 y h1 h2
    obtain ⟨hj, o3, g1, rfl⟩ := hget j o2 h1
    exact (h.obj j o3 y g1 (hgetρ j y h2)).wo hkept
  · intro j o2 y b h1 hl2 h2 hb
    obtain ⟨hj, o3, g1, rfl⟩ := hget j o2 h1
    rw [AObj.live_wo] at hl2
    obtain ⟨g3, g4⟩ := h.apart j o3 y b g1 hl2 (hgetρ j y h2) hb
    refine ⟨g3, fun k o4 z hkj k1 k2 k3 => ?_⟩
    obtain ⟨_, o5, m1, rfl⟩ := hget k o4 k1
    exact g4 k o5 z hkj m1 (by rwa [AObj.live_wo] at k2) (hgetρ k z k3)
end

/-! ### What is published lasts -/
/-- no reference to an owned object -/
inductive AV.Clean : AV → Prop
  | p (v : Value) : Clean (.p v)
  | any : Clean .any
  | vp (cs : List AV) (o : Nat) : Clean (.vp cs o)
  | vs (cs : List AV) (n : Nat) : Clean (.vs cs n)
  | ag {cs : List AV} (h : ∀ a ∈ cs, Clean a) : Clean (.ag cs)
  | tu {cs : List AV} (h : ∀ a ∈ cs, Clean a) : Clean (.tu cs)
  | fn {f : FuncId} {cs : List AV} (h : ∀ a ∈ cs, Clean a) : Clean (.fn f cs)
  | ic {t : TypeId} {v : AV} (h : Clean v) : Clean (.ic t v)
mutual
/-- references to object i, of cells cs, that lasts from now on -/
def AV.pub (i : Nat) (cs : List AV) : AV → AV
  | .ptr j o => if j = i then .vp cs o else .ptr j o
  | .sl j o n => if j = i then .vs (if o = 0 then cs else cs.drop o) n else .sl j o n
  | .mp j => if j = i then .any else .mp j
  | .yl j => if j = i then .any else .yl j
  | .ag l => .ag (AV.pubL i cs l)
  | .tu l => .tu (AV.pubL i cs l)
  | .fn f l => .fn f (AV.pubL i cs l)
  | .ic t v => .ic t (AV.pub i cs v)
  | .p v => .p v
  | .any => .any
  | .vp l o => .vp l o
  | .vs l n => .vs l n
def AV.pubL (i : Nat) (cs : List AV) : List AV → List AV
  | [] => []
  | a :: r => AV.pub i cs a :: AV.pubL i cs r
end
theorem AV.pubL_eq (i : Nat) (cs : List AV) : ∀ (l : List AV), AV.pubL i cs l = l.map (AV.pub i cs)
  | [] => by rw [AV.pubL]; rfl
  | a :: r => by rw [AV.pubL, AV.pubL_eq i cs r]; rfl
def AObj.pub (i : Nat) (cs : List AV) : AObj → AObj
  | .cells T l => .cells T (l.map (AV.pub i cs))
  | .buf T sz l => .buf T sz (l.map (AV.pub i cs))
  | .map es => .map (es.map fun e => (e.1, e.2.pub i cs))
  | .raw o => .raw o
  | .rcd o l vs => .rcd o (l.map (AV.pub i cs)) vs
  | .gone => .gone
/-- the cells of an object of cells -/
def AObj.cs : AObj → Option (List AV)
  | .cells _ cs => some cs
  | .buf _ _ cs => some cs
  | _ => none

section
variable {P : Program} {Γ Γ' : Heap} {ρ ρ' : List BI} {T : Tbl} {w w' : World} {x : BI} {o : AObj} {i : Nat} {cs : List AV} {vs : List Value} {a : AV} {v : Value}
theorem Rel.clean (h : Rel Γ ρ a v) (hc : a.Clean) : Rel Γ ρ' a v := by
  induction h with
  | p v => exact .p v
  | any v => exact .any v
  | vp hb hk hr _ => exact .vp hb hk hr
  | vs0 h0 hm => exact .vs0 h0 hm
  | vs hm hb hk hr _ => exact .vs hm hb hk hr
  | ag hl _ ih => cases hc with | ag hc => exact .ag hl fun k h1 h2 => ih k h1 h2 (hc _ (List.getElem_mem _))
  | tu hl _ ih => cases hc with | tu hc => exact .tu hl fun k h1 h2 => ih k h1 h2 (hc _ (List.getElem_mem _))
  | fn hl _ ih => cases hc with | fn hc => exact .fn hl fun k h1 h2 => ih k h1 h2 (hc _ (List.getElem_mem _))
  | ic _ ih => cases hc with | ic hc => exact .ic (ih hc)
  | _ => cases hc
theorem RelL.clean (h : RelL Γ ρ cs vs) (hc : ∀ a ∈ cs, a.Clean) : RelL Γ ρ' cs vs := ⟨h.1, fun k a v ha hv => (h.2 k a v ha hv).clean (hc a (List.mem_of_getElem? ha))⟩

/-- the cells of a block that lasts -/
def Row (Γ : Heap) (x : BI) (cs : List AV) : Prop := (x.blk = none ∧ cs = []) ∨ ∃ b c T fr vs, x.blk = some b ∧ Γ b = some (.cells c T fr) ∧ (∀ (k : Nat) (v : Value), vs[k]? = some v → c[k]? = some v) ∧ RelL Γ [] cs vs
theorem Rel.pub (h : Rel Γ ρ a v) (hle : Heap.le Γ Γ') (hx : ρ[i]? = some x) (hr : Row Γ' x cs) : Rel Γ' ρ (a.pub i cs) v := by
  induction h with
  | p v => rw [AV.pub]; exact .p v
  | any v => rw [AV.pub]; exact .any v
  | @ptr ρ j off b y h hb =>
    rw [AV.pub]
    split
    · rename_i hj
      subst hj
      rw [h] at hx; cases hx
      rcases hr with ⟨h1, _⟩ | ⟨b', c', T, fr, vs, h1, h2, h3, h4⟩
      · rw [hb] at h1; cases h1
      · rw [hb] at h1; cases h1
        have := Rel.vp (Γ := Γ') (ρ := ρ) (cs := cs) (off := off) (b := b) (o := 0) (f := fun k => vs.getD k undef) h2 (fun k hk => ?_) (fun k hk => ?_)
        · simpa using this
        · have hk' : k < vs.length := by rw [← h4.1]; exact hk
          exact h3 _ _ (by simp [hk'])
        · have hk' : k < vs.length := by rw [← h4.1]; exact hk
          exact h4.2 k _ _ (by simp [hk]) (by simp [hk'])
    · exact .ptr h hb
  | @sl ρ j off n c y ad h ha hc h0 =>
    rw [AV.pub]
    split
    · rename_i hj
      subst hj
      rw [h] at hx; cases hx
      have hcs : (if off = 0 then cs else cs.drop off) = cs.drop off := by split <;> simp_all
      rw [hcs]
      rcases hr with ⟨h1, rfl⟩ | ⟨b', c', T, fr, vs, h1, h2, h3, h4⟩
      · rw [List.drop_nil]; exact .vs0 (.inl rfl) hc
      · by_cases hn : n = 0
        · exact .vs0 (.inr hn) hc
        rw [ha (.inl (by omega)), h1]
        refine Rel.vs (f := fun k => vs.getD (off + k) undef) hc h2 (fun k hk => ?_) (fun k hk => ?_)
        · simp only [List.length_drop] at hk
          have hk' : off + k < vs.length := by rw [← h4.1]; omega
          exact h3 _ _ (by simp [hk'])
        · simp only [List.length_drop] at hk
          have hk' : off + k < vs.length := by rw [← h4.1]; omega
          exact h4.2 (off + k) _ _ (by first | (simp; done) | (simp; omega)) (by simp [hk'])
    · exact .sl h ha hc h0
  | vp hb hc hr' _ => rw [AV.pub]; exact .vp (hle.1 _ _ hb) hc fun k hk => (hr' k hk).mono hle (by simp)
  | vs0 h hc => rw [AV.pub]; exact .vs0 h hc
  | vs hm hb hc hr' _ => rw [AV.pub]; exact .vs hm (hle.1 _ _ hb) hc fun k hk => (hr' k hk).mono hle (by simp)
  | ag hl _ ih => rw [AV.pub, AV.pubL_eq]; exact .ag (by simpa using hl) fun k h1 h2 => by simpa using ih k (by simpa using h1) h2 hx
  | tu hl _ ih => rw [AV.pub, AV.pubL_eq]; exact .tu (by simpa using hl) fun k h1 h2 => by simpa using ih k (by simpa using h1) h2 hx
  | fn hl _ ih => rw [AV.pub, AV.pubL_eq]; exact .fn (by simpa using hl) fun k h1 h2 => by simpa using ih k (by simpa using h1) h2 hx
  | ic _ ih => rw [AV.pub]; exact .ic (ih hx)
  | mp h hb => rw [AV.pub]; split <;> first | exact .any _ | exact .mp h hb
  | yl h hb => rw [AV.pub]; split <;> first | exact .any _ | exact .yl h hb
theorem RelL.pub (h : RelL Γ ρ cs vs) {ds : List AV} (hle : Heap.le Γ Γ') (hx : ρ[i]? = some x) (hr : Row Γ' x ds) : RelL Γ' ρ (cs.map (AV.pub i ds)) vs := by
  refine ⟨by simpa using h.1, fun k y z hy hz => ?_⟩
  rw [List.getElem?_map] at hy
  cases ha : cs[k]? with
  | none => rw [ha] at hy; cases hy
  | some a => rw [ha] at hy; cases hy; exact (h.2 k a z ha hz).pub hle hx hr
theorem ObjRel.pub {y : BI} {ds : List AV} (h : ObjRel Γ ρ w y o) (hle : Heap.le Γ Γ') (hx : ρ[i]? = some x) (hr : Row Γ' x ds) : ObjRel Γ' ρ w y (o.pub i ds) := by
  cases o with
  | cells T cs => obtain ⟨h0, b, vs, h1, h2, h3⟩ := h; exact ⟨h0, b, vs, h1, h2, h3.pub hle hx hr⟩
  | buf T sz cs =>
    obtain ⟨h0, n, h1, h2, h3⟩ := h
    refine ⟨h0, n, by simpa using h1, h2, ?_⟩
    rcases h3 with ⟨h3, h4, h5⟩ | ⟨b, cur, h3, h4, h5, h6, h7⟩
    · exact .inl ⟨h3, by subst h4; rfl, h5⟩
    · exact .inr ⟨b, cur, h3, h4, h5, h6, h7.pub hle hx hr⟩
  | map es =>
    obtain ⟨b, ms, c, h1, h2, h3, h4, h5⟩ := h
    refine ⟨b, ms, c, h1, h2, ?_, ?_, h5⟩
    · have := h3.pub hle hx hr; simpa [List.map_map, Function.comp_def] using this
    · simpa [List.map_map, Function.comp_def] using h4
  | raw o => exact h
  | rcd o cs vs => obtain ⟨b, h1, h2, h3⟩ := h; exact ⟨b, h1, h2, h3.pub hle hx hr⟩
  | gone => trivial
theorem AObj.live_pub (i : Nat) (cs : List AV) (o : AObj) : (o.pub i cs).live = o.live := by cases o <;> rfl

/-- an object of clean cells lasts from now on -/
theorem St.publish (h : St Γ ρ T w) (hT : T[i]? = some o) (hc : o.cs = some cs) (hcl : ∀ a ∈ cs, a.Clean) :
    ∃ Γ', Heap.le Γ Γ' ∧ St Γ' ρ ((T.map (AObj.pub i cs)).set i .gone) w ∧ Ext Γ ρ T w Γ' ρ ((T.map (AObj.pub i cs)).set i .gone) w [(i, false)] ∧ ∀ a v, Rel Γ ρ a v → Rel Γ' ρ (a.pub i cs) v := by
  have hi := (List.getElem?_eq_some_iff.1 hT).1
  obtain ⟨x, hx⟩ : ∃ x, ρ[i]? = some x := ⟨ρ[i]'(by rw [h.len]; exact hi), by simp [h.len, hi]⟩
  have hl : o.live = true := by cases o <;> first | rfl | cases hc
  have hor := h.obj i o x hT hx
  obtain ⟨Γ', hle, hof', hrow, hdom⟩ : ∃ Γ' : Heap, Heap.le Γ Γ' ∧ Γ'.of w ∧ Row Γ' x cs ∧ ∀ b, x.blk ≠ some b → Γ' b = Γ b := by
    have mk : ∀ b c E, x.blk = some b → w.heap[b]? = some (.cells c E (0, 0)) → ∃ Γ' : Heap, Heap.le Γ Γ' ∧ Γ'.of w ∧ Γ' b = some (.cells c E (0, 0)) ∧ ∀ b, x.blk ≠ some b → Γ' b = Γ b := by
      intro b c E hb hw
      have hnone := (h.apart i o x b hT hl hx hb).1
      refine ⟨⟨fun b' => if b' = b then some (.cells c E (0, 0)) else Γ b', Γ.os, Γ.out⟩, ⟨fun b' ob hb' => ?_, rfl, rfl⟩, ⟨fun b' ob hb' => ?_, h.of.2⟩, if_pos rfl, fun b' hb' => if_neg fun e => hb' (by rw [e]; exact hb)⟩
      · show (if b' = b then _ else _) = _
        rw [if_neg (by rintro rfl; rw [hnone] at hb'; cases hb')]; exact hb'
      · replace hb' : (if b' = b then some (Obj.cells c E (0, 0)) else Γ b') = some ob := hb'
        by_cases e : b' = b
        · subst e; rw [if_pos rfl] at hb'; rw [hw]; exact hb'
        · rw [if_neg e] at hb'; exact h.of.1 _ _ hb'
    cases o with
    | cells E l =>
      cases hc
      obtain ⟨_, b, vs, h1, h2, h3⟩ := hor
      obtain ⟨Γ', g1, g2, g3, g4⟩ := mk b _ E h1 h2
      exact ⟨Γ', g1, g2, .inr ⟨b, _, E, _, vs, h1, g3, fun k v hk => by simpa using hk, (h3.clean (ρ' := []) hcl).mono g1 (by simp)⟩, g4⟩
    | buf E sz l =>
      cases hc
      obtain ⟨h0, n, h1, h2, ⟨h3, rfl, h5⟩ | ⟨b, cur, h3, h4, h5, h6, h7⟩⟩ := hor
      · exact ⟨Γ, Heap.le_refl _, h.of, .inl ⟨h3, rfl⟩, fun _ _ => rfl⟩
      · obtain ⟨Γ', g1, g2, g3, g4⟩ := mk b _ E h3 h4
        refine ⟨Γ', g1, g2, .inr ⟨b, _, E, _, cur.toList.take (n * sz), h3, g3, fun k v hk => ?_, (h7.clean (ρ' := []) hcl).mono g1 (by simp)⟩, g4⟩
        rw [List.getElem?_take] at hk
        split at hk
        · simpa using hk
        · cases hk
    | _ => cases hc
  have hget : ∀ j, ((T.map (AObj.pub i cs)).set i .gone)[j]? = if j = i then some .gone else T[j]?.map (AObj.pub i cs) := by
    intro j
    by_cases hj : j = i
    · subst hj; simp [hi]
    · rw [if_neg hj, List.getElem?_set_ne (Ne.symm hj), List.getElem?_map]
  have hother : ∀ j o2, ((T.map (AObj.pub i cs)).set i .gone)[j]? = some o2 → o2.live = true → j ≠ i ∧ ∃ o3, T[j]? = some o3 ∧ o2 = o3.pub i cs := by
    intro j o2 h1 hl2
    rw [hget] at h1
    by_cases hj : j = i
    · rw [if_pos hj] at h1; cases h1; cases hl2
    · rw [if_neg hj] at h1
      refine ⟨hj, ?_⟩
      cases hTj : T[j]? with
      | none => rw [hTj] at h1; cases h1
      | some o3 => rw [hTj] at h1; cases h1; exact ⟨o3, rfl, rfl⟩
  refine ⟨Γ', hle, ⟨hof', by simp [h.len], ?_, ?_⟩, ⟨hle, fun _ _ h _ => h, ?_⟩, fun a v hr => hr.pub hle hx hrow⟩
  · intro j o2 y h1 h2
    by_cases hl2 : o2.live = true
    · obtain ⟨_, o3, g1, rfl⟩ := hother j o2 h1 hl2
      exact (h.obj j o3 y g1 h2).pub hle hx hrow
    · cases o2 <;> first | exact (hl2 rfl).elim | trivial
  · intro j o2 y b h1 hl2 h2 hb
    obtain ⟨hj, o3, g1, rfl⟩ := hother j o2 h1 hl2
    rw [AObj.live_pub] at hl2
    obtain ⟨g3, g4⟩ := h.apart j o3 y b g1 hl2 h2 hb
    refine ⟨by rw [hdom b (g4 i o x (Ne.symm hj) hT hl hx)]; exact g3, fun k o4 z hkj k1 k2 k3 => ?_⟩
    obtain ⟨_, o5, m1, rfl⟩ := hother k o4 k1 k2
    exact g4 k o5 z hkj m1 (by rwa [AObj.live_pub] at k2) k3
  · intro j y o2 b h1 hl2 h2 hb hn
    have hj : j ≠ i := by rintro rfl; exact hn false (by simp)
    refine ⟨rfl, o2.pub i cs, ?_, by rwa [AObj.live_pub]⟩
    rw [hget, if_neg hj, h1]; rfl
end
end Go.E
