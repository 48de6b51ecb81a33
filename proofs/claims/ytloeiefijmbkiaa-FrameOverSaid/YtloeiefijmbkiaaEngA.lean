/-
  THE ENGINE, PART A: a context of owned blocks and lasting facts about a world, and how the memory operations turn it. Over any program. No condition.
-/
import Derived.WalkKit
import Derived.RowKit3
set_option linter.unusedSimpArgs false
set_option linter.unusedVariables false
set_option linter.unusedSectionVars false
namespace Go.E

/-! ### Heaps that last: what no later step turns -/
structure Heap where
  blk : Nat → Option Obj
  os : Os
  out : Array (Nat × ByteArray)
instance : CoeFun Heap fun _ => Nat → Option Obj := ⟨Heap.blk⟩
def Heap.le (h h' : Heap) : Prop := (∀ b o, h b = some o → h' b = some o) ∧ h'.os = h.os ∧ h'.out = h.out
theorem Heap.le_refl (h : Heap) : Heap.le h h := ⟨fun _ _ e => e, rfl, rfl⟩
theorem Heap.le_trans {a b c : Heap} (h : Heap.le a b) (h' : Heap.le b c) : Heap.le a c := ⟨fun _ _ e => h'.1 _ _ (h.1 _ _ e), h'.2.1.trans h.2.1, h'.2.2.trans h.2.2⟩
/-- a part of a world's heap, and what lies outside -/
def Heap.of (Γ : Heap) (w : World) : Prop := (∀ b o, Γ b = some o → w.heap[b]? = some o) ∧ w.os = Γ.os ∧ w.output = Γ.out
/-- alike, but for what was drawn -/
def Alike (w' w : World) : Prop := w'.heap = w.heap ∧ w'.os = w.os ∧ w'.output = w.output

/-- a lasting fact -/
structure Fact where
  holds : Heap → Prop
  mono : ∀ h h', Heap.le h h' → holds h → holds h'

abbrev Chunk := List (Nat × Obj)
/-- what is owned: a predicate on the blocks that it is made of -/
abbrev Res := Chunk → Prop

def Fits : List Res → List Chunk → Prop
  | [], [] => True
  | r :: O, c :: cs => r c ∧ Fits O cs
  | _, _ => False

/-- the world holds the lasting facts L, and apart from them what is owned, O -/
def Ctx (w : World) (O : List Res) (L : List Fact) : Prop :=
  ∃ (Γ : Heap) (cs : List Chunk),
    Γ.of w ∧ Fits O cs ∧
    (∀ p ∈ cs.flatten, w.heap[p.1]? = some p.2 ∧ Γ p.1 = none) ∧
    (cs.flatten.map (·.1)).Nodup ∧ (∀ φ ∈ L, φ.holds Γ)

section
variable {w w' : World} {O O' : List Res} {L L' : List Fact} {φ : Fact}

theorem Ctx.fact (h : Ctx w O L) (hm : φ ∈ L) : ∃ Γ : Heap, Γ.of w ∧ φ.holds Γ := by
  obtain ⟨Γ, cs, h1, _, _, _, h5⟩ := h
  exact ⟨Γ, h1, h5 _ hm⟩

theorem Ctx.weak (h : Ctx w O L) (hs : ∀ φ ∈ L', φ ∈ L) : Ctx w O L' := by
  obtain ⟨Γ, cs, h1, h2, h3, h4, h5⟩ := h
  exact ⟨Γ, cs, h1, h2, h3, h4, fun φ hφ => h5 φ (hs φ hφ)⟩

/-- a fact that follows from facts -/
theorem Ctx.add (h : Ctx w O L) (hf : ∀ Γ : Heap, Γ.of w → (∀ ψ ∈ L, ψ.holds Γ) → φ.holds Γ) : Ctx w O (φ :: L) := by
  obtain ⟨Γ, cs, h1, h2, h3, h4, h5⟩ := h
  refine ⟨Γ, cs, h1, h2, h3, h4, fun ψ hψ => ?_⟩
  rcases List.mem_cons.1 hψ with e | e
  · subst e; exact hf Γ h1 h5
  · exact h5 ψ e

/-- only the heap counts -/
theorem Ctx.same (h : Ctx w O L) (e : Alike w' w) : Ctx w' O L := by
  obtain ⟨Γ, cs, h1, h2, h3, h4, h5⟩ := h
  exact ⟨Γ, cs, ⟨fun b o hb => by rw [e.1]; exact h1.1 b o hb, e.2.1.trans h1.2.1, e.2.2.trans h1.2.2⟩, h2, fun p hp => by rw [e.1]; exact h3 p hp, h4, h5⟩

theorem Ctx.drew (h : Ctx w O L) : Ctx w.drew O L := h.same ⟨rfl, rfl, rfl⟩

theorem Fits.cons_inv {r : Res} {O : List Res} {cs : List Chunk} (h : Fits (r :: O) cs) : ∃ c cs', cs = c :: cs' ∧ r c ∧ Fits O cs' := by
  cases cs with
  | nil => exact h.elim
  | cons c cs' => exact ⟨c, cs', rfl, h.1, h.2⟩

/-- what is owned may stand in another order -/
theorem Ctx.swap {r s : Res} (h : Ctx w (r :: s :: O) L) : Ctx w (s :: r :: O) L := by
  obtain ⟨Γ, cs, h1, h2, h3, h4, h5⟩ := h
  obtain ⟨c, cs', rfl, hr, h2'⟩ := h2.cons_inv
  obtain ⟨d, cs'', rfl, hs, h2''⟩ := h2'.cons_inv
  refine ⟨Γ, d :: c :: cs'', h1, ⟨hs, hr, h2''⟩, fun p hp => h3 p ?_, ?_, h5⟩
  · simp only [List.flatten_cons, List.mem_append] at hp ⊢
    rcases hp with hp | hp | hp
    · exact .inr (.inl hp)
    · exact .inl hp
    · exact .inr (.inr hp)
  · have hp : List.Perm ((d :: c :: cs'').flatten.map (·.1)) ((c :: d :: cs'').flatten.map (·.1)) := by
      simp only [List.flatten_cons]
      rw [← List.append_assoc, ← List.append_assoc]
      exact (List.perm_append_comm.append_right _).map _
    exact hp.nodup_iff.2 h4

/-- the first of what is owned is given up -/
theorem Ctx.drop {r : Res} (h : Ctx w (r :: O) L) : Ctx w O L := by
  obtain ⟨Γ, cs, h1, h2, h3, h4, h5⟩ := h
  obtain ⟨c, cs', rfl, hr, h2'⟩ := h2.cons_inv
  refine ⟨Γ, cs', h1, h2', fun p hp => h3 p (by simp only [List.flatten_cons, List.mem_append]; exact .inr hp), ?_, h5⟩
  simp only [List.flatten_cons, List.map_append] at h4
  exact (List.nodup_append.1 h4).2.1
end

/-- two lists of what is owned: the second is the first in another order -/
theorem Ctx.perm {w : World} {O O' : List Res} {L : List Fact} (hp : O.Perm O') : Ctx w O L → Ctx w O' L := by
  intro h
  obtain ⟨Γ, cs, h1, h2, h3, h4, h5⟩ := h
  have key : ∀ {O O' : List Res}, O.Perm O' → ∀ cs, Fits O cs → ∃ cs', Fits O' cs' ∧ cs.Perm cs' := by
    intro O O' hp
    induction hp with
    | nil => intro cs h; cases cs with
      | nil => exact ⟨[], trivial, .nil⟩
      | cons _ _ => exact h.elim
    | cons r _ ih =>
      intro cs h
      obtain ⟨c, cs', rfl, hr, h'⟩ := h.cons_inv
      obtain ⟨ds, hd, hpd⟩ := ih cs' h'
      exact ⟨c :: ds, ⟨hr, hd⟩, hpd.cons c⟩
    | swap r s l =>
      intro cs h
      obtain ⟨c, cs', rfl, hr, h'⟩ := h.cons_inv
      obtain ⟨d, cs'', rfl, hs, h''⟩ := h'.cons_inv
      exact ⟨d :: c :: cs'', ⟨hs, hr, h''⟩, List.Perm.swap _ _ _⟩
    | trans _ _ ih1 ih2 =>
      intro cs h
      obtain ⟨ds, hd, hp1⟩ := ih1 cs h
      obtain ⟨es, he, hp2⟩ := ih2 ds hd
      exact ⟨es, he, hp1.trans hp2⟩
  obtain ⟨cs', h2', hpc⟩ := key hp cs h2
  have hpf : cs.flatten.Perm cs'.flatten := hpc.flatten
  exact ⟨Γ, cs', h1, h2', fun p hp' => h3 p (hpf.mem_iff.2 hp'), (hpf.map _).nodup_iff.1 h4, h5⟩

/-! ### Single blocks -/
/-- one block, owned -/
def own (b : Nat) (o : Obj) : Res := fun c => c = [(b, o)]
/-- one block, for ever -/
def blk (b : Nat) (o : Obj) : Fact := ⟨fun Γ => Γ b = some o, fun _ _ hl h => hl.1 _ _ h⟩
/-- a plain truth -/
def truth (p : Prop) : Fact := ⟨fun _ => p, fun _ _ _ h => h⟩
/-- nothing of a world is turned -/
def whole (W : World) : Fact := ⟨fun Γ => (∀ b o, W.heap[b]? = some o → Γ b = some o) ∧ Γ.os = W.os ∧ Γ.out = W.output, fun _ _ hl h => ⟨fun b o e => hl.1 _ _ (h.1 b o e), hl.2.1.trans h.2.1, hl.2.2.trans h.2.2⟩⟩

section
variable {w w' : World} {O : List Res} {L : List Fact} {b : Nat} {o o' : Obj}

theorem Ctx.begin (W : World) : Ctx W [] [whole W] := by
  refine ⟨⟨fun b => W.heap[b]?, W.os, W.output⟩, [], ⟨fun _ _ h => h, rfl, rfl⟩, trivial, ?_, ?_, ?_⟩
  · intro p hp; simp at hp
  · simp
  · intro φ hφ
    simp only [List.mem_singleton] at hφ
    subst hφ
    exact ⟨fun _ _ h => h, rfl, rfl⟩

theorem Ctx.own_get (h : Ctx w (own b o :: O) L) : w.heap[b]? = some o := by
  obtain ⟨Γ, cs, h1, h2, h3, h4, h5⟩ := h
  obtain ⟨c, cs', rfl, hr, h2'⟩ := h2.cons_inv
  cases hr
  exact (h3 (b, o) (by simp)).1

theorem Ctx.blk_get (h : Ctx w O L) (hm : blk b o ∈ L) : w.heap[b]? = some o := by
  obtain ⟨Γ, h1, h2⟩ := h.fact hm
  exact h1.1 _ _ h2

theorem heap_alloc (w : World) (o : Obj) (b : Nat) : (w.alloc o).heap[b]? = if b = w.heap.size then some o else w.heap[b]? := by
  by_cases hb : b = w.heap.size
  · subst hb; rw [if_pos rfl]; exact heap_alloc_new w o
  · rw [if_neg hb]
    by_cases hl : b < w.heap.size
    · exact heap_alloc_old w o hl
    · have h1 : w.heap[b]? = none := Array.getElem?_eq_none (by omega)
      have h2 : (w.alloc o).heap[b]? = none := Array.getElem?_eq_none (by simp; omega)
      rw [h1, h2]

/-- a new block -/
theorem Ctx.alloc (h : Ctx w O L) (o : Obj) : Ctx (w.alloc o) (own w.heap.size o :: O) L := by
  obtain ⟨Γ, cs, h1, h2, h3, h4, h5⟩ := h
  have hlt : ∀ b o', w.heap[b]? = some o' → b < w.heap.size := fun b o' hb => (Array.getElem?_eq_some_iff.1 hb).1
  have old : ∀ b o', w.heap[b]? = some o' → (w.alloc o).heap[b]? = some o' := fun b o' hb => by
    rw [heap_alloc_old w o (hlt b o' hb)]; exact hb
  refine ⟨Γ, [(w.heap.size, o)] :: cs, ⟨fun b o' hb => old b o' (h1.1 b o' hb), h1.2⟩, ⟨rfl, h2⟩, ?_, ?_, h5⟩
  · intro p hp
    simp only [List.flatten_cons, List.mem_append, List.mem_singleton] at hp
    rcases hp with rfl | hp
    · refine ⟨heap_alloc_new w o, ?_⟩
      cases hg : Γ w.heap.size with
      | none => rfl
      | some o' => have := hlt _ _ (h1.1 _ _ hg); omega
    · exact ⟨old _ _ (h3 p hp).1, (h3 p hp).2⟩
  · simp only [List.flatten_cons, List.map_append, List.map_cons, List.map_nil, List.singleton_append, List.nodup_cons]
    refine ⟨fun hm => ?_, h4⟩
    obtain ⟨p, hp, he⟩ := List.mem_map.1 hm
    have := hlt _ _ (h3 p hp).1
    omega

/-- what was owned is given to all, for ever -/
theorem Ctx.publish {r : Res} {φ : Fact} (h : Ctx w (r :: O) L)
    (hf : ∀ (c : Chunk) (Γ : Heap), r c → Γ.of w → (∀ p ∈ c, Γ p.1 = some p.2) → (∀ ψ ∈ L, ψ.holds Γ) → φ.holds Γ) : Ctx w O (φ :: L) := by
  obtain ⟨Γ, cs, h1, h2, h3, h4, h5⟩ := h
  obtain ⟨c, cs', rfl, hr, h2'⟩ := h2.cons_inv
  let Γ' : Heap := ⟨fun b => if (c.map (·.1)).contains b then w.heap[b]? else Γ b, Γ.os, Γ.out⟩
  have hle : Heap.le Γ Γ' := by
    refine ⟨?_, rfl, rfl⟩
    intro b o hb
    by_cases hc : (c.map (·.1)).contains b = true
    · simp only [Γ', hc, if_true]; exact h1.1 b o hb
    · simp only [Γ', hc]; exact hb
  have h1' : Γ'.of w := by
    refine ⟨?_, h1.2⟩
    intro b o hb
    by_cases hc : (c.map (·.1)).contains b = true
    · simp only [Γ', hc, if_true] at hb; exact hb
    · simp only [Γ', hc] at hb; exact h1.1 b o hb
  simp only [List.flatten_cons, List.map_append] at h4
  have h4' := List.nodup_append.1 h4
  have h5' : ∀ ψ ∈ L, ψ.holds Γ' := fun ψ hψ => ψ.mono _ _ hle (h5 ψ hψ)
  refine ⟨Γ', cs', h1', h2', fun p hp => ⟨(h3 p (by simp only [List.flatten_cons, List.mem_append]; exact .inr hp)).1, ?_⟩, h4'.2.1, ?_⟩
  · have hn : ¬ (c.map (·.1)).contains p.1 = true := by
      simp only [List.contains_iff_mem]
      exact fun hm => h4'.2.2 p.1 hm p.1 (List.mem_map_of_mem hp) rfl
    simp only [Γ', hn]
    exact (h3 p (by simp only [List.flatten_cons, List.mem_append]; exact .inr hp)).2
  · intro ψ hψ
    rcases List.mem_cons.1 hψ with e | e
    · subst e
      refine hf c Γ' hr h1' (fun p hp => ?_) h5'
      have hm : (c.map (·.1)).contains p.1 = true := List.contains_iff_mem.2 (List.mem_map_of_mem hp)
      simp only [Γ', hm, if_true]
      exact (h3 p (by simp only [List.flatten_cons, List.mem_append]; exact .inl hp)).1
    · exact h5' ψ e

theorem Ctx.keep (h : Ctx w (own b o :: O) L) : Ctx w O (blk b o :: L) :=
  h.publish fun c Γ hr _ hc _ => by cases hr; exact hc (b, o) (by simp)

/-- an owned thing is turned: the blocks that it is made of, and new ones, alone have changed -/
theorem Ctx.turn {r r' : Res} (h : Ctx w (r :: O) L) (ho : w'.os = w.os ∧ w'.output = w.output)
    (ht : ∀ c, r c → (∀ p ∈ c, w.heap[p.1]? = some p.2) → (c.map (·.1)).Nodup → ∃ c', r' c' ∧ (∀ p ∈ c', w'.heap[p.1]? = some p.2) ∧ (c'.map (·.1)).Nodup ∧
      (∀ b ∈ c'.map (·.1), b ∈ c.map (·.1) ∨ w.heap.size ≤ b) ∧ (∀ b, b < w.heap.size → b ∉ c.map (·.1) → w'.heap[b]? = w.heap[b]?)) : Ctx w' (r' :: O) L := by
  obtain ⟨Γ, cs, h1, h2, h3, h4, h5⟩ := h
  obtain ⟨c, cs', rfl, hr, h2'⟩ := h2.cons_inv
  simp only [List.flatten_cons, List.map_append] at h4
  have h4' := List.nodup_append.1 h4
  have hlt : ∀ b o', w.heap[b]? = some o' → b < w.heap.size := fun b o' hb => (Array.getElem?_eq_some_iff.1 hb).1
  have hin : ∀ p ∈ c, w.heap[p.1]? = some p.2 ∧ Γ p.1 = none := fun p hp => h3 p (by simp only [List.flatten_cons, List.mem_append]; exact .inl hp)
  have hout : ∀ p ∈ cs'.flatten, w.heap[p.1]? = some p.2 ∧ Γ p.1 = none := fun p hp => h3 p (by simp only [List.flatten_cons, List.mem_append]; exact .inr hp)
  obtain ⟨c', hr', hc', hn', hsub, hkeep⟩ := ht c hr (fun p hp => (hin p hp).1) h4'.1
  have hΓc : ∀ b o', Γ b = some o' → b ∉ c.map (·.1) := by
    intro b o' hb hm
    obtain ⟨p, hp, rfl⟩ := List.mem_map.1 hm
    rw [(hin p hp).2] at hb
    cases hb
  refine ⟨Γ, c' :: cs', ⟨fun b o' hb => ?_, ho.1.trans h1.2.1, ho.2.trans h1.2.2⟩, ⟨hr', h2'⟩, fun p hp => ?_, ?_, h5⟩
  · rw [hkeep b (hlt _ _ (h1.1 _ _ hb)) (hΓc b o' hb)]
    exact h1.1 b o' hb
  · simp only [List.flatten_cons, List.mem_append] at hp
    rcases hp with hp | hp
    · refine ⟨hc' p hp, ?_⟩
      rcases hsub p.1 (List.mem_map_of_mem hp) with hm | hm
      · obtain ⟨q, hq, he⟩ := List.mem_map.1 hm
        rw [← he]; exact (hin q hq).2
      · cases hg : Γ p.1 with
        | none => rfl
        | some o' => have := hlt _ _ (h1.1 _ _ hg); omega
    · refine ⟨?_, (hout p hp).2⟩
      have hnc : p.1 ∉ c.map (·.1) := fun hm => h4'.2.2 p.1 hm p.1 (List.mem_map_of_mem hp) rfl
      rw [hkeep p.1 (hlt _ _ (hout p hp).1) hnc]
      exact (hout p hp).1
  · simp only [List.flatten_cons, List.map_append]
    refine List.nodup_append.2 ⟨hn', h4'.2.1, ?_⟩
    intro x hx y hy hxy
    subst hxy
    obtain ⟨q, hq, he⟩ := List.mem_map.1 hy
    rcases hsub x hx with hm | hm
    · exact h4'.2.2 x hm x hy rfl
    · have := hlt _ _ (hout q hq).1
      omega

theorem Ctx.own_set (h : Ctx w (own b o :: O) L) (o' : Obj) (w' : World) (hb : w'.heap[b]? = some o') (hk : ∀ k, k ≠ b → w'.heap[k]? = w.heap[k]?) (ho : w'.os = w.os ∧ w'.output = w.output) : Ctx w' (own b o' :: O) L := by
  refine h.turn ho (fun c hc _ _ => ?_)
  cases hc
  refine ⟨[(b, o')], rfl, ?_, by simp, ?_, ?_⟩
  · intro p hp; simp only [List.mem_singleton] at hp; subst hp; exact hb
  · intro x hx; simp at hx; subst hx; simp
  · intro k _ hk'
    simp at hk'
    exact hk k hk'

/-- of an unturned world -/
theorem Ctx.whole_grown {W : World} (h : Ctx w O L) (hm : whole W ∈ L) : (∀ b, b < W.heap.size → w.heap[b]? = W.heap[b]?) ∧ W.heap.size ≤ w.heap.size ∧ w.os = W.os ∧ w.output = W.output := by
  obtain ⟨Γ, h1, h2⟩ := h.fact hm
  have key : ∀ b, b < W.heap.size → w.heap[b]? = W.heap[b]? := by
    intro b hb
    have e : W.heap[b]? = some W.heap[b] := by simp [hb]
    rw [e]
    exact h1.1 _ _ (h2.1 _ _ e)
  refine ⟨key, ?_, h1.2.1.trans h2.2.1, h1.2.2.trans h2.2.2⟩
  rcases Nat.eq_zero_or_pos W.heap.size with h0 | h0
  · omega
  · have e := key (W.heap.size - 1) (by omega)
    have e' : W.heap[W.heap.size - 1]? = some W.heap[W.heap.size - 1] := by simp
    rw [e'] at e
    have := (Array.getElem?_eq_some_iff.1 e).1
    omega
end
end Go.E
