/-
  THE ENGINE, PART H: the memory operations' rules in the form in which proofs use them; slices of slices. Over any program. No condition.
-/
import Derived.Test.YtloeiefijmbkiaaEngG
import Derived.Lib.AppendZeros
import Derived.Laws.Tables
import Derived.Laws.OwnMore
set_option linter.unusedSimpArgs false
set_option linter.unusedVariables false
set_option linter.unusedSectionVars false
namespace Go.E
section
variable {P : Program} {w : World} {O : List Res} {L : List Fact} {a : Option Addr} {vs : List Value} {K : Value → World → Prop}

theorem Yld.mono {P : Program} {l : Nat} {args : Array Value} {w : World} {K K' : Value → World → Prop} (h : Yld P l args w K) (hk : ∀ v w, K v w → K' v w) : Yld P l args w K' := by
  obtain ⟨fn, tmps, assign, body, h1, h2⟩ := h
  exact ⟨fn, tmps, assign, body, h1, RoundIn.mono h2 fun e w' ⟨v, e1, h3⟩ => ⟨v, e1, hk _ _ h3⟩⟩

/-! ### Facts made of facts -/
def andF (A B : Fact) : Fact := ⟨fun Γ => A.holds Γ ∧ B.holds Γ, fun _ _ hl h => ⟨A.mono _ _ hl h.1, B.mono _ _ hl h.2⟩⟩
def exF {α : Type} (F : α → Fact) : Fact := ⟨fun Γ => ∃ x, (F x).holds Γ, fun _ _ hl ⟨x, h⟩ => ⟨x, (F x).mono _ _ hl h⟩⟩
def allF {α : Type} (p : α → Prop) (F : α → Fact) : Fact := ⟨fun Γ => ∀ x, p x → (F x).holds Γ, fun _ _ hl h x hx => (F x).mono _ _ hl (h x hx)⟩
theorem Ctx.and {A B : Fact} (h : Ctx w O (andF A B :: L)) : Ctx w O (A :: B :: L) := by
  obtain ⟨Γ, cs, h1, h2, h3, h4, h5⟩ := h
  have hab := h5 (andF A B) (by simp)
  refine ⟨Γ, cs, h1, h2, h3, h4, fun φ hφ => ?_⟩
  simp only [List.mem_cons] at hφ
  rcases hφ with rfl | rfl | hφ
  · exact hab.1
  · exact hab.2
  · exact h5 φ (by simp [hφ])
theorem Ctx.ex {α : Type} {F : α → Fact} (h : Ctx w O (exF F :: L)) : ∃ x, Ctx w O (F x :: L) := by
  obtain ⟨Γ, cs, h1, h2, h3, h4, h5⟩ := h
  obtain ⟨x, hx⟩ := h5 (exF F) (by simp)
  refine ⟨x, Γ, cs, h1, h2, h3, h4, fun φ hφ => ?_⟩
  simp only [List.mem_cons] at hφ
  rcases hφ with rfl | hφ
  · exact hx
  · exact h5 φ (by simp [hφ])
theorem Ctx.true {p : Prop} (h : Ctx w O (truth p :: L)) : p ∧ Ctx w O L := by
  obtain ⟨_, _, hp⟩ := h.fact (φ := truth p) (by simp)
  exact ⟨hp, h.weak fun φ hφ => by simp [hφ]⟩
theorem Ctx.pull {φ : Fact} (h : Ctx w O L) (hm : φ ∈ L) : Ctx w O (φ :: L) := h.weak fun ψ hψ => by
  simp only [List.mem_cons] at hψ
  rcases hψ with rfl | hψ
  · exact hm
  · exact hψ
theorem Ctx.tailF {φ : Fact} (h : Ctx w O (φ :: L)) : Ctx w O L := h.weak fun _ hm => .tail _ hm

/-! ### What is owned, made of parts -/
def sepR (r s : Res) : Res := fun c => ∃ c1 c2, c = c1 ++ c2 ∧ r c1 ∧ s c2
def exR {α : Type} (F : α → Res) : Res := fun c => ∃ x, F x c
theorem Ctx.sep {r s : Res} (h : Ctx w (sepR r s :: O) L) : Ctx w (r :: s :: O) L := by
  obtain ⟨Γ, cs, h1, h2, h3, h4, h5⟩ := h
  obtain ⟨c, cs', rfl, ⟨c1, c2, rfl, hr, hs⟩, h2'⟩ := h2.cons_inv
  exact ⟨Γ, c1 :: c2 :: cs', h1, ⟨hr, hs, h2'⟩, by simpa using h3, by simpa using h4, h5⟩
theorem Ctx.join {r s : Res} (h : Ctx w (r :: s :: O) L) : Ctx w (sepR r s :: O) L := by
  obtain ⟨Γ, cs, h1, h2, h3, h4, h5⟩ := h
  obtain ⟨c1, cs', rfl, hr, h2'⟩ := h2.cons_inv
  obtain ⟨c2, cs'', rfl, hs, h2''⟩ := h2'.cons_inv
  exact ⟨Γ, (c1 ++ c2) :: cs'', h1, ⟨⟨c1, c2, rfl, hr, hs⟩, h2''⟩, by simpa using h3, by simpa using h4, h5⟩
theorem Ctx.exr {α : Type} {F : α → Res} (h : Ctx w (exR F :: O) L) : ∃ x, Ctx w (F x :: O) L := by
  obtain ⟨Γ, cs, h1, h2, h3, h4, h5⟩ := h
  obtain ⟨c, cs', rfl, ⟨x, hx⟩, h2'⟩ := h2.cons_inv
  exact ⟨x, Γ, c :: cs', h1, ⟨hx, h2'⟩, h3, h4, h5⟩
theorem Ctx.mkr {α : Type} {F : α → Res} (x : α) (h : Ctx w (F x :: O) L) : Ctx w (exR F :: O) L := by
  obtain ⟨Γ, cs, h1, h2, h3, h4, h5⟩ := h
  obtain ⟨c, cs', rfl, hx, h2'⟩ := h2.cons_inv
  exact ⟨Γ, c :: cs', h1, ⟨⟨x, hx⟩, h2'⟩, h3, h4, h5⟩
theorem Ctx.to2 {r s t : Res} (h : Ctx w (r :: s :: t :: O) L) : Ctx w (t :: r :: s :: O) L :=
  h.perm ((List.Perm.swap _ _ _ |>.cons _).trans (List.Perm.swap _ _ _))
theorem Ctx.to3 {r s t u : Res} (h : Ctx w (r :: s :: t :: u :: O) L) : Ctx w (u :: r :: s :: t :: O) L :=
  h.perm (List.perm_middle (l₁ := [r, s, t]))
theorem Ctx.un2 {r s t : Res} (h : Ctx w (t :: r :: s :: O) L) : Ctx w (r :: s :: t :: O) L :=
  h.perm (List.perm_middle (l₁ := [r, s])).symm
theorem Ctx.un3 {r s t u : Res} (h : Ctx w (u :: r :: s :: t :: O) L) : Ctx w (r :: s :: t :: u :: O) L :=
  h.perm (List.perm_middle (l₁ := [r, s, t])).symm

theorem Ctx.tr {p : Prop} (h : Ctx w O L) (hp : p) : Ctx w O (truth p :: L) := h.add fun _ _ _ => hp
theorem Ctx.nthR : ∀ {k : Nat} {r : Res} {O : List Res}, Ctx w O L → O[k]? = some r → Ctx w (r :: O.eraseIdx k) L := by
  intro k r O h hk
  refine h.perm ?_
  obtain ⟨hk2, rfl⟩ := List.getElem?_eq_some_iff.1 hk
  have h1 : O = O.take k ++ O[k] :: O.drop (k + 1) := by rw [← List.drop_eq_getElem_cons hk2, List.take_append_drop]
  rw [List.eraseIdx_eq_take_drop_succ]
  conv => lhs; rw [h1]
  exact List.perm_middle
/-- another order: the numbered ones first -/
def reord : List Nat → List Res → List Res
  | [], O => O
  | k :: ks, O => match O[k]? with
    | some r => r :: reord ks (O.eraseIdx k)
    | none => O
theorem reord_perm : ∀ (ks : List Nat) (O : List Res), O.Perm (reord ks O)
  | [], _ => .refl _
  | k :: ks, O => by
    rw [reord]
    split
    · rename_i r hk
      obtain ⟨hk2, rfl⟩ := List.getElem?_eq_some_iff.1 hk
      have h1 : O = O.take k ++ O[k] :: O.drop (k + 1) := by rw [← List.drop_eq_getElem_cons hk2, List.take_append_drop]
      refine List.Perm.trans ?_ ((reord_perm ks (O.eraseIdx k)).cons _)
      rw [List.eraseIdx_eq_take_drop_succ]
      conv => lhs; rw [h1]
      exact List.perm_middle
    · exact .refl _
theorem Ctx.drop2 {r s : Res} (h : Ctx w (r :: s :: O) L) : Ctx w (r :: O) L := h.swap.drop
theorem Ctx.ord (ks : List Nat) (h : Ctx w O L) : Ctx w (reord ks O) L := h.perm (reord_perm ks O)

/-- without the numbered one -/
theorem Ctx.del (k : Nat) (h : Ctx w O L) : Ctx w (O.eraseIdx k) L := by
  cases hk : O[k]? with
  | some r => exact (h.nthR hk).drop
  | none => rw [List.eraseIdx_of_length_le (List.getElem?_eq_none_iff.1 hk)]; exact h

/-! ### Rules -/
theorem RunV.box {t : TypeId} {v : Value} (h : Ctx w O L) (k : ∀ b w', Ctx w' (cel b t v.cells.toList :: O) L → K (.pointer (some ⟨b, 0, none⟩)) w') : RunV P (Instr.box t v) w K := by
  obtain ⟨b, w', hr, hc⟩ := run_box (P := P) (t := t) (v := v) h
  exact .of_ok hr (k b w' hc)
theorem RunV.boxK {t : TypeId} {v : Value} (h : Ctx w O L) (k : ∀ q w', Ctx w' O (arr (some q) v.cells.toList :: L) → K (.pointer (some q)) w') : RunV P (Instr.box t v) w K := by
  obtain ⟨b, w', hr, hc⟩ := run_box (P := P) (t := t) (v := v) h
  exact .of_ok hr (k _ w' hc.keep_cel)
theorem RunV.alloc {t : TypeId} (z : Value) (h : Ctx w O L) (hz : tzr P t = some z) (k : ∀ b w', Ctx w' (cel b t z.cells.toList :: O) L → K (.pointer (some ⟨b, 0, none⟩)) w') : RunV P (Instr.alloc t true (.tuple #[])) w K := by
  obtain ⟨b, w', hr, hc⟩ := run_alloc (P := P) (t := t) h hz
  exact .of_ok hr (k b w' hc)
theorem RunV.lit {t : TypeId} (e : TypeId) (z : Value) (size : Nat) {len : Nat} {parts : List (Nat × Value)} (cs : List Value) (h : Ctx w O L) (ht : tk P t = .slice e) (hz : tzr P e = some z) (hs : tsz P e = size) (h0 : 0 < size)
    (hl : len * size ≤ 16777216) (hc : fillOf (if len * size = 0 then [] else z.cells.toList) size len parts = some cs)
    (k : ∀ b w', Ctx w' (cel b e cs :: O) L → K (.slice (some ⟨b, 0, none⟩) len len) w') : RunV P (Instr.buildSlice t len parts.toArray) w K := by
  obtain ⟨b, w', hr, hc⟩ := run_buildSlice (P := P) h ht hz size hs h0 hl hc
  exact .of_ok hr (k b w' hc)
/-- a slice of one element of one cell -/
theorem RunV.lit1 {t : TypeId} {v : Value} (e : TypeId) (z : Value) (h : Ctx w O L) (ht : tk P t = .slice e) (hz : tzr P e = some z) (hs : tsz P e = 1) (hv : v.cells = #[v]) (hzs : z.cells.size = 1)
    (k : ∀ b w', Ctx w' (cel b e [v] :: O) L → K (.slice (some ⟨b, 0, none⟩) 1 1) w') : RunV P (Instr.buildSlice t 1 #[(0, v)]) w K := by
  refine RunV.lit (parts := [(0, v)]) e z 1 [v] h ht hz hs (by decide) (by decide) ?_ k
  obtain ⟨u, hu⟩ : ∃ u, z.cells = #[u] := by
    match hc : z.cells, hzs with
    | ⟨[u]⟩, _ => exact ⟨u, rfl⟩
  simp [fillOf, Instr.fill, hv, hu, List.range, List.range.loop]
theorem RunV.loadn {t : TypeId} {k : Nat} (n : Nat) (xs : List Value) (hr : Rd w a vs) (hn : tsz P t = n) (h0 : 0 < n) (hk : k + n ≤ vs.length) (hx : (vs.drop k).take n = xs) (ht : (tis (tk P t) && tagg (tk P t)) = true) (h : K (.agg xs.toArray) w) :
    RunV P (Instr.loadAt t (.pointer (sh a k))) w K := by subst hx; exact .of_ok (run_loadn hr n hn h0 hk ht) h
theorem RunV.loadn0 {t : TypeId} (n : Nat) (xs : List Value) (hr : Rd w a vs) (hn : tsz P t = n) (h0 : 0 < n) (hk : n ≤ vs.length) (hx : vs.take n = xs) (ht : (tis (tk P t) && tagg (tk P t)) = true) (h : K (.agg xs.toArray) w) :
    RunV P (Instr.loadAt t (.pointer a)) w K := by
  have := RunV.loadn (P := P) (k := 0) (K := K) n xs hr hn h0 (by omega) (by simpa using hx) ht h
  rwa [sh_zero] at this
theorem FloatP.loadn {I : World → Prop} {K : Value → Prop} {t : TypeId} {k : Nat} (n : Nat) (xs : List Value) (hI : ∀ w, I w → Rd w a vs) (hn : tsz P t = n) (h0 : 0 < n) (hk : k + n ≤ vs.length) (hx : (vs.drop k).take n = xs) (ht : (tis (tk P t) && tagg (tk P t)) = true) (h : K (.agg xs.toArray)) :
    FloatP P (Instr.loadAt t (.pointer (sh a k))) I K := by subst hx; exact ⟨_, fun w hw => run_loadn (hI w hw) n hn h0 hk ht, h⟩
theorem RunV.build {t : TypeId} {parts : Array (Nat × Value)} (cells : Array Value) (h : P.built t parts.toList = some cells) (k : K (.agg cells) w) : RunV P (Instr.build t parts) w K := .of_ok (run_build w t parts cells h) k
theorem FloatP.build {I : World → Prop} {K : Value → Prop} {t : TypeId} {parts : Array (Nat × Value)} (cells : Array Value) (h : P.built t parts.toList = some cells) (k : K (.agg cells)) : FloatP P (Instr.build t parts) I K := ⟨_, fun w _ => run_build w t parts cells h, k⟩
theorem RunV.store {t : TypeId} {b k : Nat} {T : TypeId} {cs : List Value} {v : Value} (h : Ctx w (cel b T cs :: O) L) (hs : tsz P t = v.cells.size) (h0 : 0 < v.cells.size) (hk : k + v.cells.size ≤ cs.length)
    (h1 : ∀ u ∈ v.cells.toList, u.oneCell' = true) (kk : ∀ w', Ctx w' (cel b T (wr cs k v.cells.toList) :: O) L → K undef w') :
    RunV P (do Instr.storeAt t (.pointer (sh (some ⟨b, 0, none⟩) k)) v; pure undef) w K := by
  obtain ⟨w', hr, hc⟩ := run_store (P := P) h hs h0 hk h1
  exact .of_ok hr (kk w' hc)
theorem RunV.store0 {t : TypeId} {b : Nat} {T : TypeId} {cs : List Value} {v : Value} (h : Ctx w (cel b T cs :: O) L) (hs : tsz P t = v.cells.size) (h0 : 0 < v.cells.size) (hk : v.cells.size ≤ cs.length)
    (h1 : ∀ u ∈ v.cells.toList, u.oneCell' = true) (kk : ∀ w', Ctx w' (cel b T (wr cs 0 v.cells.toList) :: O) L → K undef w') :
    RunV P (do Instr.storeAt t (.pointer (some ⟨b, 0, none⟩)) v; pure undef) w K := by
  have := RunV.store (P := P) (k := 0) (K := K) h hs h0 (by omega) h1 kk
  rwa [sh_zero] at this
theorem wr_set {cs : List Value} {k : Nat} {v : Value} (hk : k < cs.length) : wr cs k [v] = cs.set k v := by
  rw [wr, List.set_eq_take_append_cons_drop, if_pos hk]; simp
/-- a store of one cell -/
theorem RunV.st {t : TypeId} {b k : Nat} {T : TypeId} {cs : List Value} {v : Value} (h : Ctx w (cel b T cs :: O) L) (hs : tsz P t = 1) (hv : v.cells = #[v]) (h1 : v.oneCell' = true) (hk : k < cs.length)
    (kk : ∀ w', Ctx w' (cel b T (cs.set k v) :: O) L → K undef w') : RunV P (do Instr.storeAt t (.pointer (sh (some ⟨b, 0, none⟩) k)) v; pure undef) w K := by
  refine RunV.store h (by rw [hv]; exact hs) (by rw [hv]; exact Nat.one_pos) (by rw [hv]; exact hk) (by rw [hv]; simpa using h1) fun w' h' => kk w' ?_
  rw [hv] at h'
  rw [← wr_set hk]
  simpa using h'
theorem RunV.st0 {t : TypeId} {b : Nat} {T : TypeId} {cs : List Value} {v : Value} (h : Ctx w (cel b T cs :: O) L) (hs : tsz P t = 1) (hv : v.cells = #[v]) (h1 : v.oneCell' = true) (hk : 0 < cs.length)
    (kk : ∀ w', Ctx w' (cel b T (cs.set 0 v) :: O) L → K undef w') : RunV P (do Instr.storeAt t (.pointer (some ⟨b, 0, none⟩)) v; pure undef) w K := by
  have := RunV.st (P := P) (k := 0) (K := K) h hs hv h1 hk kk
  rwa [sh_zero] at this
theorem RunV.append {t ty : TypeId} {T : TypeId} {size : Nat} {n c : Nat} {xs : List Value} {e : Option Addr} {m d : Nat} {ys : List Value} (z : Value)
    (h : Ctx w (buf T size a n c xs :: O) L) (hr : Rd w e ys) (hl : ys.length = m * size) (h1 : ∀ u ∈ ys, u.oneCell' = true)
    (ht : tk P t = .slice T) (hs : tsz P T = size) (h0 : 0 < size) (hz : tzr P T = some z) (hzs : z.cells.size = size) (hb : (n + m) * tby P T ≤ 140737488355328) (hm : n + m ≤ maxLen)
    (k : ∀ a' c' w', Ctx w' (buf T size a' (n + m) c' (xs ++ ys) :: O) L → K (.slice a' (n + m) c') w') : RunV P (Builtin.append_ #[t, t] ty #[.slice a n c, .slice e m d]) w K := by
  obtain ⟨a', c', w', hrun, hc⟩ := run_append (P := P) h ht hs h0 hz hzs hr hl h1 hb hm
  exact .of_ok hrun (k a' c' w' hc)

theorem Ctx.buf_block {g : Nat} {T : TypeId} {cur : Array Value} (h : Ctx w (own g (.cells cur T (0, 0)) :: O) L) (size c : Nat) (hn : cur.size = c * size) (hm : c ≤ maxLen) : Ctx w (buf T size (some ⟨g, 0, none⟩) 0 c [] :: O) L := by
  refine h.turn (w' := w) ⟨rfl, rfl⟩ fun ch hc hp hd => ?_
  cases hc
  exact ⟨_, ⟨by simp, .inr ⟨g, _, rfl, rfl, Nat.zero_le _, hm, hn, by simp⟩⟩, hp, hd, fun x hx => .inl hx, fun _ _ _ => rfl⟩
theorem Ctx.buf_open {T : TypeId} {size n c : Nat} {xs : List Value} (h : Ctx w (buf T size a n c xs :: O) L) (hn : 0 < n) : ∃ g cur, a = some ⟨g, 0, none⟩ ∧ n ≤ c ∧ c ≤ maxLen ∧ cur.length = c * size ∧ cur.take (n * size) = xs ∧ Ctx w (cel g T cur :: O) L := by
  have hp : ∃ ch, buf T size a n c xs ch := by
    obtain ⟨Γ, cs, g1, g2, g3, g4, g5⟩ := h
    obtain ⟨ch, cs', rfl, hr, _⟩ := g2.cons_inv
    exact ⟨ch, hr⟩
  obtain ⟨ch, hx, ⟨_, h0, _⟩ | ⟨g, cur, rfl, rfl, h1, h2, h3, h4⟩⟩ := hp
  · omega
  obtain ⟨Γ, cs, g1, g2, g3, g4, g5⟩ := h
  obtain ⟨ch, cs', rfl, hr, g2'⟩ := g2.cons_inv
  obtain ⟨hx', ⟨_, h0, _⟩ | ⟨g', cur', e1, rfl, h1', h2', h3', h4'⟩⟩ := hr
  · omega
  · cases e1
    exact ⟨g, cur'.toList, rfl, h1, h2, by simpa using h3', h4', Γ, _ :: cs', g1, ⟨by simp [cel, own], g2'⟩, g3, g4, g5⟩
theorem Ctx.buf_shut {g : Nat} {T : TypeId} {cur : List Value} (h : Ctx w (cel g T cur :: O) L) (size n c : Nat) (hn : cur.length = c * size) (hc : n ≤ c) (hm : c ≤ maxLen) : Ctx w (buf T size (some ⟨g, 0, none⟩) n c (cur.take (n * size)) :: O) L := by
  refine h.turn (w' := w) ⟨rfl, rfl⟩ fun ch hch hp hd => ?_
  cases hch
  refine ⟨_, ⟨?_, .inr ⟨g, _, rfl, rfl, hc, hm, by simpa using hn, by simp⟩⟩, hp, hd, fun x hx => .inl hx, fun _ _ _ => rfl⟩
  rw [List.length_take, hn]
  exact Nat.min_eq_left (Nat.mul_le_mul_right _ hc)
/-- a store of one cell into a row that grows -/
theorem RunV.stBuf {t : TypeId} {T : TypeId} {n c k : Nat} {xs : List Value} {v : Value} (h : Ctx w (buf T 1 a n c xs :: O) L) (hs : tsz P t = 1) (hv : v.cells = #[v]) (h1 : v.oneCell' = true) (hk : k < n)
    (kk : ∀ w', Ctx w' (buf T 1 a n c (xs.set k v) :: O) L → K undef w') : RunV P (do Instr.storeAt t (.pointer (sh a k)) v; pure undef) w K := by
  obtain ⟨g, cur, rfl, hnc, hcm, hl, hx, h2⟩ := h.buf_open (by omega)
  refine RunV.st h2 hs hv h1 (by omega) fun w' h' => kk w' ?_
  have := h'.buf_shut 1 n c (by simpa using hl) hnc hcm
  rw [List.take_set, hx] at this
  exact this
/-- append(nil, make([]T, n)...), cut back to nothing: a new row with room for n -/
theorem RunV.appendMake {t tn ty : TypeId} {T : TypeId} {k kn : IntKind} {n : Nat} (z : Value) (h : Ctx w O L) (ht : tk P t = .slice T) (htn : tk P tn = .int kn) (hs : tsz P T = 1) (hz : tzr P T = some z) (hzs : z.cells.size = 1)
    (h0 : 0 < n) (hm : n ≤ maxLen) (hb : n * tby P T ≤ 281474976710656)
    (kk : ∀ a' c' w', Ctx w' (buf T 1 a' 0 c' [] :: O) L → K (.slice a' n c') w') : RunV P (Builtin.append_ #[t, tn] ty #[.slice none 0 0, .int k n]) w K := by
  have htu : P.underlying t = some (.slice T) := by rw [← ht]; exact underlying_some (by rw [ht]; rfl)
  have htu' : P.underlying tn = some (.int kn) := by rw [← htn]; exact underlying_some (by rw [htn]; rfl)
  obtain ⟨i, hi, hsz, hby, hzr⟩ := info_of_tsz (P := P) (t := T) (by omega)
  have hr := Lib.run_append_nil_zeros (P := P) w t tn ty T i z k kn htu htu' hi (by rw [hzr, hz]) n h0 (by omega) (by simp only [maxLen] at hm; omega) (by rw [hby]; exact hb)
  refine .of_ok hr (kk _ _ _ ?_)
  have hge := grownCap_ge w n 0 T
  have hle := grownCap_le_maxLen w n 0 T (by simpa using hm)
  exact ((h.drew).alloc _).buf_block 1 _ (by simp [size_zeroCells, hzs]; omega) hle
/-- make([]T, n, m) of elements of one cell -/
theorem RunV.make {t : TypeId} (e : TypeId) (z : Value) {kl kc : IntKind} {n m : Nat} (h : Ctx w O L) (ht : tk P t = .slice e) (hz : tzr P e = some z) (hs : tsz P e = 1) (hzc : z.cells = #[z]) (hb : tby P e * m ≤ 281474976710656) (hm : m ≤ 1099511627776) (hnm : n ≤ m)
    (k : ∀ b w', Ctx w' (buf e 1 (some ⟨b, 0, none⟩) n m (List.replicate n z) :: O) L → K (.slice (some ⟨b, 0, none⟩) n m) w') : RunV P (Instr.makeSlice t (.int kl n) (.int kc m)) w K := by
  have htu : P.underlying t = some (.slice e) := by rw [← ht]; exact underlying_some (by rw [ht]; rfl)
  obtain ⟨i, hi, hsz, hby, hzr⟩ := info_of_tsz (P := P) (t := e) (by omega)
  have hb' : ((tby P e : Int)) * (m : Int) ≤ 281474976710656 := by
    rw [← Int.natCast_mul]
    generalize tby P e * m = q at hb ⊢
    omega
  have hr := run_make (P := P) (w := w) t e i z htu hi (by rw [hzr, hz]) kl kc n m (by omega) (by omega) (by rw [hby]; exact hb') (by omega)
  rw [Int.toNat_natCast, Int.toNat_natCast, hzc, hsz, hs, Nat.mul_one] at hr
  refine .of_ok hr (k _ _ ?_)
  have h1 : Ctx (w.alloc (.cells (madeCells #[z] m) e)) (cel w.heap.size e (List.replicate m z) :: O) L := by
    have := h.alloc (.cells (madeCells #[z] m) e)
    rw [cel, ← toList_madeCells_one]
    simpa using this
  have := h1.buf_shut 1 n m (by rw [List.length_replicate, Nat.mul_one]) hnm (Nat.le_trans hm (by unfold maxLen; omega))
  rwa [Nat.mul_one, List.take_replicate, Nat.min_eq_left hnm] at this
theorem run_cap {t ty : TypeId} {T : TypeId} {n c : Nat} (ht : tk P t = .slice T) (w : World) : (Builtin.cap_ #[t] ty #[.slice a n c]).run P w = .ok (.int .i64 c) w := by
  have htu : P.underlying t = some (.slice T) := by rw [← ht]; exact underlying_some (by rw [ht]; rfl)
  simp [Builtin.cap_, run_underlying htu, goInt]
theorem RunV.cap {t ty : TypeId} {T : TypeId} {n c : Nat} (ht : tk P t = .slice T) (h : K (.int .i64 c) w) : RunV P (Builtin.cap_ #[t] ty #[.slice a n c]) w K := .of_ok (run_cap ht w) h
theorem run_min {k : IntKind} {ts : Array TypeId} {ty : TypeId} (x y : Int) (w : World) : (Builtin.min_ ts ty #[.int k x, .int k y]).run P w = .ok (.int k (if y < x then y else x)) w := by
  simp [Builtin.min_, Builtin.min2]
theorem RunV.min {k : IntKind} {ts : Array TypeId} {ty : TypeId} {x y : Int} (h : K (.int k (if y < x then y else x)) w) : RunV P (Builtin.min_ ts ty #[.int k x, .int k y]) w K := .of_ok (run_min x y w) h

/-- the head of a slice's piece -/
def sa (a : Option Addr) (l c sz : Nat) : Option Addr := if c = l then a else sh a (l * sz)
theorem run_slice {t e : TypeId} {n c l h : Nat} (ht : tk P t = .slice e) (hs : tsz P e ≠ 0) (hl : l ≤ h) (hh : h ≤ c) (lo hi : Option Value) (k1 k2 : IntKind)
    (hlo : lo = some (.int k1 l) ∨ (lo = none ∧ l = 0)) (hhi : hi = some (.int k2 h) ∨ (hi = none ∧ h = n)) (w : World) :
    (Instr.sliceAt t (.slice a n c) lo hi none).run P w = .ok (.slice (sa a l c (tsz P e)) (h - l) (c - l)) w := by
  obtain ⟨i, hi', hsz, _⟩ := info_of_tsz hs
  have e1 : (Instr.sliceAt t (.slice a n c) lo hi none).run P w = (Instr.slice t (.slice a n c) lo hi none).run P w := by
    simp only [Instr.sliceAt, Sem.run_bind, tis_of ht rfl, Result.andThen_ok]
  rw [e1]
  have hb : (Instr.sliceBounds true n c lo hi none).run P w = .ok (l, h, c) w := by
    have g2 : ∀ u, (Instr.sliceBound (.int k2 (h : Int)) c u).run P w = .ok h w := fun u => by simp [Instr.sliceBound, asIntOf, hh]
    have g1 : ∀ u, (Instr.sliceBound (.int k1 (l : Int)) h u).run P w = .ok l w := fun u => by simp [Instr.sliceBound, asIntOf, hl]
    rcases hlo with rfl | ⟨rfl, rfl⟩ <;> rcases hhi with rfl | ⟨rfl, rfl⟩ <;> simp [Instr.sliceBounds, g1, g2]
  simp only [Instr.slice, Sem.run_bind, tis_of ht rfl, Result.andThen_ok, hb, sizeOf, typeInfo, run_program, hi', hsz, Sem.run_pure, sa, sh]

theorem RunV.slice {t : TypeId} {n c : Nat} (e : TypeId) (sz l h : Nat) (lo hi : Option Value) (k1 k2 : IntKind) (ht : tk P t = .slice e) (hs : tsz P e = sz) (h0 : sz ≠ 0) (hl : l ≤ h) (hh : h ≤ c)
    (hlo : lo = some (.int k1 l) ∨ (lo = none ∧ l = 0)) (hhi : hi = some (.int k2 h) ∨ (hi = none ∧ h = n)) (k : K (.slice (sa a l c sz) (h - l) (c - l)) w) :
    RunV P (Instr.sliceAt t (.slice a n c) lo hi none) w K := by subst hs; exact .of_ok (run_slice ht h0 hl hh lo hi k1 k2 hlo hhi w) k
theorem FloatP.slice {I : World → Prop} {K : Value → Prop} {t : TypeId} {n c : Nat} (e : TypeId) (sz l h : Nat) (lo hi : Option Value) (k1 k2 : IntKind) (ht : tk P t = .slice e) (hs : tsz P e = sz) (h0 : sz ≠ 0) (hl : l ≤ h) (hh : h ≤ c)
    (hlo : lo = some (.int k1 l) ∨ (lo = none ∧ l = 0)) (hhi : hi = some (.int k2 h) ∨ (hi = none ∧ h = n)) (k : K (.slice (sa a l c sz) (h - l) (c - l))) :
    FloatP P (Instr.sliceAt t (.slice a n c) lo hi none) I K := by subst hs; exact ⟨_, fun w _ => run_slice ht h0 hl hh lo hi k1 k2 hlo hhi w, k⟩

/-- a piece can be read where the whole can -/
theorem Rdb.sa {l c sz : Nat} (h : Rdb O L a vs) (hc : vs.length ≤ c * sz) (m : Nat) : Rdb O L (sa a l c sz) ((vs.drop (l * sz)).take m) := by
  unfold E.sa
  split
  · rename_i hcl
    subst hcl
    intro w L' hs hc'
    exact .inl (by rw [List.drop_of_length_le hc]; simp)
  · exact h.piece _ _
theorem Rdb.sa' {l c sz : Nat} (h : Rdb O L a vs) (hc : vs.length ≤ c * sz) : Rdb O L (E.sa a l c sz) (vs.drop (l * sz)) := by
  have := h.sa (l := l) hc vs.length
  rwa [List.take_of_length_le (by simp)] at this
theorem sa_zero (a : Option Addr) (c sz : Nat) : sa a 0 c sz = a := by unfold sa; split <;> simp [sh_zero]

/-- []byte of a constant text: a literal's row, marked -/
theorem run_markConv {t e : TypeId} {b n c : Nat} {T : TypeId} {cs : List Value} (h : Ctx w (cel b T cs :: O) L) (ht : tk P t = .slice e) (he : tk P e = .int .u8) :
    ∃ w', (convert t t (.slice (some ⟨b, 0, none⟩) n c)).run P w = .ok (.slice (some ⟨b, 0, none⟩) n c) w' ∧ Ctx w' O (arr (some ⟨b, 0, none⟩) cs :: L) := by
  have htu : P.underlying t = some (.slice e) := by rw [← ht]; exact underlying_some (by rw [ht]; rfl)
  have heu : P.underlying e = some (.int .u8) := by rw [← he]; exact underlying_some (by rw [he]; rfl)
  have hg : w.heap[b]? = some (.cells cs.toArray T (0, 0)) := h.own_get
  have hsh : w.shape? b = some (T, cs.length) := by simp [World.shape?, hg]
  have hb : b < w.heap.size := (Array.getElem?_eq_some_iff.1 hg).1
  have hbe : w.heap[b] = .cells cs.toArray T (0, 0) := (Array.getElem?_eq_some_iff.1 hg).2
  refine ⟨w.freeze ⟨b, cs.length, none⟩ 1, ?_, ?_⟩
  · simp [convert, run_underlying htu, run_underlying heu, markStringish, hsh]
  · have h1 : Ctx (w.freeze ⟨b, cs.length, none⟩ 1) (own b (.cells cs.toArray T (cs.length, cs.length + 1)) :: O) L := by
      refine h.own_set _ _ ?_ ?_ ⟨?_, ?_⟩
      · simp [World.freeze, Array.getElem?_modify, hg]
      · intro k hk
        simp [World.freeze, Array.getElem?_modify, Ne.symm hk]
      · simp [World.freeze]
      · simp [World.freeze]
    have h2 := h1.keep
    refine (h2.add (φ := arr (some ⟨b, 0, none⟩) cs) fun Γ _ hL => ?_).weak fun φ hφ => ?_
    · refine .inr ⟨_, cs.toArray, T, _, rfl, rfl, hL _ (List.mem_cons_self ..), fun k v hk => ?_⟩
      simpa using hk
    · simp only [List.mem_cons] at hφ ⊢
      rcases hφ with rfl | hφ
      · exact .inl rfl
      · exact .inr (.inr hφ)
theorem RunV.markConv {t : TypeId} (e : TypeId) {b n c : Nat} {T : TypeId} {cs : List Value} (h : Ctx w (cel b T cs :: O) L) (ht : tk P t = .slice e) (he : tk P e = .int .u8)
    (k : ∀ w', Ctx w' O (arr (some ⟨b, 0, none⟩) cs :: L) → K (.slice (some ⟨b, 0, none⟩) n c) w') : RunV P (convert t t (.slice (some ⟨b, 0, none⟩) n c)) w K := by
  obtain ⟨w', hr, hc⟩ := run_markConv (P := P) (n := n) (c := c) h ht he
  exact .of_ok hr (k w' hc)

/-! ### Slices of slices of bytes -/
def hdr (h : Option Addr × Nat) (l : List UInt8) : Value := .slice h.1 l.length h.2
/-- the heads hs stand for the rows of bytes ls -/
def rowsF (hs : List (Option Addr × Nat)) (ls : List (List UInt8)) : Fact := allF (fun (i : Nat × (Option Addr × Nat) × List UInt8) => hs[i.1]? = some i.2.1 ∧ ls[i.1]? = some i.2.2) fun i => byt i.2.1.1 i.2.2
/-- at a lie the rows ls, for ever -/
def rows (a : Option Addr) (ls : List (List UInt8)) : Fact := exF fun hs : List (Option Addr × Nat) => andF (truth (hs.length = ls.length)) (andF (arr a (List.zipWith hdr hs ls)) (rowsF hs ls))
theorem hdr_one (h : Option Addr × Nat) (l : List UInt8) : (hdr h l).oneCell' = true := rfl
theorem Ctx.open_rows {ls : List (List UInt8)} (h : Ctx w O L) (hm : rows a ls ∈ L) : ∃ hs : List (Option Addr × Nat), hs.length = ls.length ∧ Ctx w O (arr a (List.zipWith hdr hs ls) :: rowsF hs ls :: L) := by
  obtain ⟨hs, h1⟩ := (h.pull hm).ex
  obtain ⟨h2, h3⟩ := h1.and.true
  exact ⟨hs, h2, h3.and⟩
theorem Ctx.shut_rows {ls : List (List UInt8)} {hs : List (Option Addr × Nat)} (h : Ctx w O L) (hl : hs.length = ls.length) (ha : arr a (List.zipWith hdr hs ls) ∈ L) (hr : rowsF hs ls ∈ L) : Ctx w O (rows a ls :: L) :=
  h.add fun Γ _ hL => ⟨hs, hl, hL _ ha, hL _ hr⟩
theorem Ctx.rowsF_get {hs : List (Option Addr × Nat)} {ls : List (List UInt8)} {i : Nat} {g : Option Addr × Nat} {l : List UInt8} (h : Ctx w O L) (hm : rowsF hs ls ∈ L) (h1 : hs[i]? = some g) (h2 : ls[i]? = some l) : Ctx w O (byt g.1 l :: L) :=
  h.add fun Γ _ hL => hL _ hm (i, g, l) ⟨h1, h2⟩
theorem Ctx.rowsF_nil (h : Ctx w O L) : Ctx w O (rowsF [] [] :: L) := h.add fun Γ _ _ i hi => by simp at hi
theorem Ctx.rowsF_snoc {hs : List (Option Addr × Nat)} {ls : List (List UInt8)} {g : Option Addr × Nat} {l : List UInt8} (h : Ctx w O L) (hl : hs.length = ls.length) (hm : rowsF hs ls ∈ L) (hb : byt g.1 l ∈ L) : Ctx w O (rowsF (hs ++ [g]) (ls ++ [l]) :: L) :=
  h.add fun Γ _ hL ⟨i, g', l'⟩ ⟨h1, h2⟩ => by
    simp only at h1 h2
    by_cases hi : i < hs.length
    · rw [List.getElem?_append_left hi] at h1
      rw [List.getElem?_append_left (by omega)] at h2
      exact hL _ hm (i, g', l') ⟨h1, h2⟩
    · rw [List.getElem?_append_right (by omega)] at h1
      rw [List.getElem?_append_right (by omega)] at h2
      have e : i - hs.length = 0 := by
        rcases Nat.eq_zero_or_pos (i - hs.length) with e | e
        · exact e
        · rw [List.getElem?_eq_none (by simp; omega)] at h1; cases h1
      rw [e] at h1
      rw [show i - ls.length = 0 by omega] at h2
      simp at h1 h2
      subst h1; subst h2
      exact hL _ hb
theorem zip_hdr_snoc {hs : List (Option Addr × Nat)} {ls : List (List UInt8)} (hl : hs.length = ls.length) (g : Option Addr × Nat) (l : List UInt8) : List.zipWith hdr (hs ++ [g]) (ls ++ [l]) = List.zipWith hdr hs ls ++ [hdr g l] := by
  rw [List.zipWith_append hl]; rfl
theorem zip_hdr_get {hs : List (Option Addr × Nat)} {ls : List (List UInt8)} (hl : hs.length = ls.length) {i : Nat} (hi : i < ls.length) : (List.zipWith hdr hs ls)[i]? = some (hdr (hs[i]'(by omega)) ls[i]) := by
  simp [hl, hi]

/-! ### The end of a function with marks; results in cells -/
theorem ResP.mark {fn : Func} {n d : Nat} {ds : List Nat} {loc : List Value} {R : Value → World → Prop} (h : Ctx w (own d (.deferred (some [])) :: O) L) (k : ∀ w', Ctx w' O L → ResP P fn n R ds loc w') : ResP P fn n R (d :: ds) loc w :=
  ⟨_, run_takeDeferred h.own_get, k _ ((putObj_own (.deferred none) h).drop)⟩
/-- two results that lie in cells -/
theorem ResP.cells2 {fn : Func} {n : Nat} {loc : List Value} {R : Value → World → Prop} {t u : Tmp} {T U : TypeId} {a b : Option Addr} {x y : Value} (hr : fn.results = #[.cell t T, .cell u U]) (hn : t < n ∧ u < n)
    (ha : loc.getD t undef = .pointer a) (hb : loc.getD u undef = .pointer b) (h1 : Rd w a [x]) (h2 : Rd w b [y]) (hT : (tis (tk P T) && !tagg (tk P T)) = true) (hU : (tis (tk P U) && !tagg (tk P U)) = true)
    (hR : R (.tuple #[x, y]) w) : ResP P fn n R [] loc w := by
  refine ResP.run (v := .tuple #[x, y]) (fun tmps ht => ?_) hR
  obtain ⟨p, rfl, _⟩ := h1.cells (by simp)
  obtain ⟨q, rfl, _⟩ := h2.cells (by simp)
  have e1 := run_load1 (P := P) (k := 0) (v := x) h1 rfl hT
  have e2 := run_load1 (P := P) (k := 0) (v := y) h2 rfl hU
  rw [sh_zero] at e1 e2
  have e3 := ht t hn.1
  have e4 := ht u hn.2
  rw [ha] at e3
  rw [hb] at e4
  rw [Array.getD_eq_getD_getElem?] at e3 e4
  simp [Instr.loadAt, Instr.sureAddr] at e1 e2
  simp [results, asAddr, hr, e3, e4, e1, e2]
end
end Go.E
