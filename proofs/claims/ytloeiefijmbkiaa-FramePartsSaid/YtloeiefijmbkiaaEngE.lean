/-
  THE ENGINE, PART E: the memory operations, by a context. Over any program. No condition.
-/
import Derived.Test.YtloeiefijmbkiaaEngV
set_option linter.unusedSimpArgs false
set_option linter.unusedVariables false
set_option linter.unusedSectionVars false
namespace Go.E

/-! ### Rows of cells that can be read -/
/-- at a (and on) lie the values vs -/
def Rd (w : World) (a : Option Addr) (vs : List Value) : Prop :=
  vs = [] ∨ ∃ p, a = some p ∧ p.spot = none ∧ ∀ k v, vs[k]? = some v → w.cell? (p.add k) = some v
/-- the same, for ever -/
def arr (a : Option Addr) (vs : List Value) : Fact where
  holds Γ := vs = [] ∨ ∃ p c T fr, a = some p ∧ p.spot = none ∧ Γ p.block = some (.cells c T fr) ∧ ∀ k v, vs[k]? = some v → c[p.off + k]? = some v
  mono := fun _ _ hl h => h.imp id fun ⟨p, c, T, fr, h1, h2, h3, h4⟩ => ⟨p, c, T, fr, h1, h2, hl.1 _ _ h3, h4⟩

/-- a block of cells, owned -/
def cel (b : Nat) (T : TypeId) (cs : List Value) : Res := own b (.cells cs.toArray T)

theorem add_plain {p : Addr} (h : p.spot = none) (k : Nat) : p.add k = ⟨p.block, p.off + k, none⟩ := by
  unfold Addr.add
  by_cases hk : k = 0
  · subst hk; cases p; simp_all
  · simp [hk]

section
variable {P : Program} {w : World} {O : List Res} {L : List Fact} {a : Option Addr} {vs : List Value}

theorem Rd.cells (h : Rd w a vs) (hn : vs ≠ []) : ∃ p, a = some p ∧ p.spot = none ∧ ∀ k v, vs[k]? = some v → w.cell? (p.add k) = some v := h.resolve_left hn
theorem Rd.some (h : Rd w a vs) (hn : 0 < vs.length) : a.isSome = true := by
  obtain ⟨p, rfl, _⟩ := h.cells (by intro e; simp [e] at hn)
  rfl
theorem Rd.drop (h : Rd w a vs) (k : Nat) : Rd w (sh a k) (vs.drop k) := by
  rcases h with rfl | ⟨p, rfl, h1, h2⟩
  · exact .inl (by simp)
  · refine .inr ⟨p.add k, rfl, by rw [add_plain h1], fun j v hj => ?_⟩
    rw [List.getElem?_drop] at hj
    rw [Addr_add_add]
    exact h2 _ _ hj
theorem Rd.take (h : Rd w a vs) (k : Nat) : Rd w a (vs.take k) := by
  rcases h with rfl | ⟨p, rfl, h1, h2⟩
  · exact .inl (by simp)
  · refine .inr ⟨p, rfl, h1, fun j v hj => ?_⟩
    rw [List.getElem?_take] at hj
    split at hj
    · exact h2 _ _ hj
    · cases hj

theorem Ctx.rd (h : Ctx w O L) (hm : arr a vs ∈ L) : Rd w a vs := by
  obtain ⟨Γ, h1, h2⟩ := h.fact hm
  rcases h2 with rfl | ⟨p, c, T, fr, rfl, h3, h4, h5⟩
  · exact .inl rfl
  · refine .inr ⟨p, rfl, h3, fun k v hk => ?_⟩
    rw [add_plain h3]
    simp only [World.cell?, h1.1 _ _ h4, Option.isSome_none, Bool.false_eq_true, if_false]
    exact h5 k v hk
theorem Ctx.rd_own {b : Nat} {T : TypeId} {cs : List Value} (h : Ctx w (cel b T cs :: O) L) : Rd w (some ⟨b, 0, none⟩) cs := by
  refine .inr ⟨_, rfl, rfl, fun k v hk => ?_⟩
  have := h.own_get
  rw [add_plain rfl]
  simp only [World.cell?, this, Option.isSome_none, Bool.false_eq_true, if_false, Nat.zero_add]
  simpa using hk

/-- a piece of a row -/
theorem Ctx.piece (h : Ctx w O L) (hm : arr a vs ∈ L) (k n : Nat) : Ctx w O (arr (sh a k) ((vs.drop k).take n) :: L) := by
  refine h.add fun Γ _ hL => ?_
  rcases hL _ hm with rfl | ⟨p, c, T, fr, rfl, h3, h4, h5⟩
  · exact .inl (by simp)
  · refine .inr ⟨p.add k, c, T, fr, rfl, by rw [add_plain h3], by rw [add_plain h3]; exact h4, fun j v hj => ?_⟩
    rw [add_plain h3]
    rw [List.getElem?_take] at hj
    split at hj
    · rw [List.getElem?_drop] at hj
      simpa [Nat.add_assoc] using h5 _ _ hj
    · cases hj

/-! ### Loads -/
theorem run_isAgg {t : TypeId} (ht : tis (tk P t) = true) (w : World) : (isAgg t).run P w = .ok (tagg (tk P t)) w := by
  simp only [isAgg, Sem.run_bind, run_underlying_tk ht]
  generalize tk P t = d at *
  cases d <;> rfl

theorem run_load1 {t : TypeId} {k : Nat} {v : Value} (h : Rd w a vs) (hk : vs[k]? = some v) (ht : (tis (tk P t) && !tagg (tk P t)) = true) :
    (Instr.loadAt t (.pointer (sh a k))).run P w = .ok v w := by
  simp only [Bool.and_eq_true, Bool.not_eq_true'] at ht
  obtain ⟨p, rfl, h1, h2⟩ := h.cells (by intro e; simp [e] at hk)
  have hc := h2 k v hk
  simp only [Instr.loadAt, sh, Option.map_some, Instr.sureAddr, loadVar, Sem.run_bind, Sem.run_pure, Result.andThen_ok, run_isAgg ht.1, ht.2, Bool.false_eq_true, if_false]
  simp [load, Sem.run, hc]

theorem run_loadn {t : TypeId} {k : Nat} (h : Rd w a vs) (n : Nat) (hn : tsz P t = n) (h0 : 0 < n) (hk : k + n ≤ vs.length) (ht : (tis (tk P t) && tagg (tk P t)) = true) :
    (Instr.loadAt t (.pointer (sh a k))).run P w = .ok (.agg ((vs.drop k).take n).toArray) w := by
  simp only [Bool.and_eq_true] at ht
  obtain ⟨p, rfl, h1, h2⟩ := h.cells (by intro e; simp [e] at hk; omega)
  obtain ⟨i, hi, hs, _⟩ := info_of_tsz (P := P) (t := t) (by omega)
  have hl : ((vs.drop k).take n).length = n := by simp; omega
  have hc := run_loadCells_list (P := P) w (p.add k) ((vs.drop k).take n) (fun j v hj => by
    rw [List.getElem?_take] at hj
    split at hj
    · rw [List.getElem?_drop] at hj
      rw [Addr_add_add]; exact h2 _ _ hj
    · cases hj)
  rw [hl] at hc
  simp only [Instr.loadAt, sh, Option.map_some, Instr.sureAddr, loadVar, Sem.run_bind, Sem.run_pure, Result.andThen_ok, run_isAgg ht.1, ht.2, if_true, sizeOf, typeInfo, run_program, hi, hs, hn, hc]

/-! ### Stores into what is owned -/
/-- the row cs with vs written at k -/
def wr (cs : List Value) (k : Nat) (vs : List Value) : List Value := cs.take k ++ vs ++ cs.drop (k + vs.length)

theorem run_store {t : TypeId} {b k : Nat} {T : TypeId} {cs : List Value} {v : Value} (h : Ctx w (cel b T cs :: O) L) (hs : tsz P t = v.cells.size) (h0 : 0 < v.cells.size) (hk : k + v.cells.size ≤ cs.length)
    (h1 : ∀ u ∈ v.cells.toList, u.oneCell' = true) :
    ∃ w', (do Instr.storeAt t (.pointer (sh (some ⟨b, 0, none⟩) k)) v; pure undef : Sem Value).run P w = .ok undef w' ∧ Ctx w' (cel b T (wr cs k v.cells.toList) :: O) L := by
  obtain ⟨i, hi, hsz, _⟩ := info_of_tsz (P := P) (t := t) (by omega)
  have hg : w.heap[b]? = some (.cells cs.toArray T (0, 0)) := h.own_get
  have hst := run_storeCells_at P b k T v.cells.toList 0 cs.toArray w hg (by simp; omega) h1
  refine ⟨_, ?_, h.own_set _ _ (setRow_heap w b cs.toArray _ T _ hg) (fun k' hk' => setRow_other w b k' _ hk') ⟨rfl, rfl⟩⟩
  simp only [Instr.storeAt, sh, Option.map_some, Instr.sureAddr, storeVar, Sem.run_bind, Sem.run_pure, Result.andThen_ok, sizeOf, typeInfo, run_program, hi, hsz, hs, ne_eq, not_true_eq_false, if_false,
    add_plain (p := ⟨b, 0, none⟩) rfl, Nat.zero_add, hst, Nat.add_zero, wr]

/-! ### New blocks -/
theorem run_box {t : TypeId} {v : Value} (h : Ctx w O L) : ∃ b w', (Instr.box t v).run P w = .ok (.pointer (some ⟨b, 0, none⟩)) w' ∧ Ctx w' (cel b t v.cells.toList :: O) L :=
  ⟨w.heap.size, w.alloc (.cells v.cells t), by simp [Instr.box, newVar, newRow], by simpa [cel] using h.alloc (.cells v.cells t)⟩

theorem Ctx.keep_cel {b : Nat} {T : TypeId} {cs : List Value} (h : Ctx w (cel b T cs :: O) L) : Ctx w O (arr (some ⟨b, 0, none⟩) cs :: L) := by
  refine h.publish fun c Γ hr _ hc _ => ?_
  cases hr
  refine .inr ⟨_, cs.toArray, T, (0, 0), rfl, rfl, hc (b, _) (by simp), fun k v hk => ?_⟩
  simpa using hk

theorem run_alloc {t : TypeId} {z : Value} (h : Ctx w O L) (hz : tzr P t = some z) : ∃ b w', (Instr.alloc t true (.tuple #[])).run P w = .ok (.pointer (some ⟨b, 0, none⟩)) w' ∧ Ctx w' (cel b t z.cells.toList :: O) L := by
  unfold tzr at hz
  cases hi : P.info? t with
  | none => rw [hi] at hz; cases hz
  | some i =>
    rw [hi] at hz
    have hz' : i.zero = some z := hz
    exact ⟨w.heap.size, w.alloc (.cells z.cells t), by simp [Instr.alloc, zeroValue, typeInfo, hi, hz', newVar, newRow], by simpa [cel] using h.alloc (.cells z.cells t)⟩

/-- a slice's literal: the cells of its elements -/
def fillOf (z : List Value) (size len : Nat) (parts : List (Nat × Value)) : Option (List Value) :=
  (Instr.fill (fun i => some (i * size, size)) ((Array.range (len * size)).map (z.toArray[· % z.length]!)) parts).map (·.toList)
theorem run_buildSlice {t e : TypeId} {z : Value} {len : Nat} {parts : List (Nat × Value)} {cs : List Value} (h : Ctx w O L) (ht : tk P t = .slice e) (hz : tzr P e = some z) (size : Nat) (hs : tsz P e = size) (h0 : 0 < size)
    (hl : len * size ≤ 16777216) (hc : fillOf (if len * size = 0 then [] else z.cells.toList) size len parts = some cs) :
    ∃ b w', (Instr.buildSlice t len parts.toArray).run P w = .ok (.slice (some ⟨b, 0, none⟩) len len) w' ∧ Ctx w' (cel b e cs :: O) L := by
  obtain ⟨i, hi, hsz, _, hzr⟩ := info_of_tsz (P := P) (t := e) (by omega)
  unfold fillOf at hc
  cases hf : Instr.fill (fun i => some (i * size, size)) ((Array.range (len * size)).map ((if len * size = 0 then [] else z.cells.toList).toArray[· % (if len * size = 0 then [] else z.cells.toList).length]!)) parts with
  | none => rw [hf] at hc; cases hc
  | some cells =>
    rw [hf] at hc
    cases hc
    refine ⟨w.heap.size, w.alloc (.cells cells e), ?_, by simpa [cel] using h.alloc (.cells cells e)⟩
    have hbig : ¬ len * size > 16777216 := by omega
    have hz' : i.zero = some z := by rw [hzr, hz]
    by_cases hn : len * size = 0
    · rw [if_pos hn] at hf
      simp only [Instr.buildSlice, Sem.run_bind, tis_of ht rfl, Result.andThen_ok, sizeOf, typeInfo, run_program, hi, hsz, hs, Sem.run_pure, show (2 : Nat) ^ 24 = 16777216 from rfl, if_neg hbig, if_pos hn]
      simp only [Array.size_empty] at hf ⊢
      simp at hf
      simp [hf, newRow]
    · rw [if_neg hn] at hf
      simp only [Instr.buildSlice, Sem.run_bind, tis_of ht rfl, Result.andThen_ok, sizeOf, typeInfo, run_program, hi, hsz, hs, Sem.run_pure, show (2 : Nat) ^ 24 = 16777216 from rfl, if_neg hbig, if_neg hn, zeroValue, hz']
      simp only [Array.toArray_toList, Array.length_toList] at hf
      simp [hf, newRow]

/-! ### A slice that the call makes, and appends to -/
/-- v, owned: nil, or at the head of a block of its own; its cells -/
def buf (T : TypeId) (size : Nat) (a : Option Addr) (n c : Nat) (xs : List Value) : Res := fun ch =>
  xs.length = n * size ∧
  ((a = none ∧ n = 0 ∧ c = 0 ∧ ch = []) ∨
   ∃ g cur, a = some ⟨g, 0, none⟩ ∧ ch = [(g, .cells cur T (0, 0))] ∧ n ≤ c ∧ c ≤ maxLen ∧ cur.size = c * size ∧ cur.toList.take (n * size) = xs)

theorem Ctx.buf_nil (h : Ctx w O L) (T : TypeId) (size : Nat) : Ctx w (buf T size none 0 0 [] :: O) L := by
  obtain ⟨Γ, cs, h1, h2, h3, h4, h5⟩ := h
  refine ⟨Γ, [] :: cs, h1, ⟨⟨by simp, .inl ⟨rfl, rfl, rfl, rfl⟩⟩, h2⟩, by simpa using h3, by simpa using h4, h5⟩

theorem Ctx.buf_cel {b : Nat} {T : TypeId} {cs : List Value} (h : Ctx w (cel b T cs :: O) L) (size n : Nat) (hn : cs.length = n * size) (hm : n ≤ maxLen) : Ctx w (buf T size (some ⟨b, 0, none⟩) n n cs :: O) L := by
  refine h.turn (w' := w) ⟨rfl, rfl⟩ fun c hc hp hd => ?_
  cases hc
  exact ⟨_, ⟨hn, .inr ⟨b, _, rfl, rfl, Nat.le_refl _, hm, by simp [hn], by simp [← hn]⟩⟩, hp, hd, fun x hx => .inl hx, fun _ _ _ => rfl⟩

theorem Ctx.keep_buf {T : TypeId} {size : Nat} {n c : Nat} {xs : List Value} (h : Ctx w (buf T size a n c xs :: O) L) : Ctx w O (arr a xs :: L) := by
  refine h.publish fun ch Γ hr _ hc _ => ?_
  obtain ⟨hl, ⟨rfl, rfl, rfl, rfl⟩ | ⟨g, cur, rfl, rfl, h1, h2, h3, h4⟩⟩ := hr
  · exact .inl (List.eq_nil_of_length_eq_zero (by simpa using hl))
  · refine .inr ⟨_, cur, T, (0, 0), rfl, rfl, hc (g, _) (by simp), fun k v hk => ?_⟩
    rw [← h4, List.getElem?_take] at hk
    split at hk
    · simpa using hk
    · cases hk

theorem Ctx.rd_buf {T : TypeId} {size : Nat} {n c : Nat} {xs : List Value} (h : Ctx w (buf T size a n c xs :: O) L) : Rd w a xs := h.keep_buf.rd (List.mem_cons_self ..)

theorem grownBy_turn {w' : World} {r r' : Res} (h : Ctx w (r :: O) L) (row : Option Nat) (hg : w.grownBy w' row)
    (ht : ∀ c, r c → (∀ p ∈ c, w.heap[p.1]? = some p.2) → (∀ k, row = some k → k ∈ c.map (·.1)) ∧ ∃ c', r' c' ∧ (∀ p ∈ c', w'.heap[p.1]? = some p.2) ∧ (c'.map (·.1)).Nodup ∧ (∀ b ∈ c'.map (·.1), b ∈ c.map (·.1) ∨ w.heap.size ≤ b)) :
    Ctx w' (r' :: O) L := by
  refine h.turn ⟨hg.os, hg.output⟩ fun c hc hp _ => ?_
  obtain ⟨hrow, c', h1, h2, h3, h4⟩ := ht c hc hp
  exact ⟨c', h1, h2, h3, h4, fun b hb hn => hg.block b hb fun e => hn (hrow b e.symm)⟩

/-- append, from a row that can be read -/
theorem run_append {t ty : TypeId} {T : TypeId} {size : Nat} {n c : Nat} {xs : List Value} {e : Option Addr} {m d : Nat} {ys : List Value} {z : Value}
    (h : Ctx w (buf T size a n c xs :: O) L) (ht : tk P t = .slice T) (hs : tsz P T = size) (h0 : 0 < size) (hz : tzr P T = some z) (hzs : z.cells.size = size) (hr : Rd w e ys) (hl : ys.length = m * size)
    (h1 : ∀ u ∈ ys, u.oneCell' = true) (hb : (n + m) * tby P T ≤ 140737488355328) (hm : n + m ≤ maxLen) :
    ∃ a' c' w', (Builtin.append_ #[t, t] ty #[.slice a n c, .slice e m d]).run P w = .ok (.slice a' (n + m) c') w' ∧ Ctx w' (buf T size a' (n + m) c' (xs ++ ys) :: O) L := by
  have hp : ∃ ch, buf T size a n c xs ch ∧ (∀ p ∈ ch, w.heap[p.1]? = some p.2) := by
    obtain ⟨Γ, cs, g1, g2, g3, g4, g5⟩ := h
    obtain ⟨ch, cs', rfl, hr, _⟩ := g2.cons_inv
    exact ⟨ch, hr, fun p hp => (g3 p (by simp only [List.flatten_cons, List.mem_append]; exact .inl hp)).1⟩
  obtain ⟨ch, hbuf, hch⟩ := hp
  have htu : P.underlying t = some (.slice T) := by rw [← ht]; exact underlying_some (by rw [ht]; rfl)
  obtain ⟨i, hi, hsz, hby, hzr⟩ := info_of_tsz (P := P) (t := T) (by omega)
  by_cases hm0 : m = 0
  · subst hm0
    have hys : ys = [] := List.eq_nil_of_length_eq_zero (by simpa using hl)
    subst hys
    have hnc : n ≤ c := by
      obtain ⟨_, ⟨rfl, rfl, rfl, rfl⟩ | ⟨g, cur, rfl, rfl, g1, _⟩⟩ := hbuf
      · exact Nat.le_refl _
      · exact g1
    refine ⟨a, c, w, ?_, by simpa using h⟩
    have hf : (Builtin.firstCells size 0 (.slice e 0 d)).run P w = .ok #[] w := by
      cases e <;> simp [Builtin.firstCells, loadCells, loadCellsFrom]
    cases a with
    | none => simp [Builtin.append_, run_underlying htu, sizeOf, typeInfo, hi, hsz, hs, Builtin.lenOf, hnc, hf]
    | some a => simp [Builtin.append_, run_underlying htu, sizeOf, typeInfo, hi, hsz, hs, Builtin.lenOf, hnc, hf, storeCells]
  · obtain ⟨q, rfl, hq1, hq2⟩ := hr.cells (by intro e; have : 0 < m * size := Nat.mul_pos (by omega) h0; rw [← hl, e] at this; simp at this)
    have hown : w.ownsRow 0 T size (.slice a n c) n xs := by
      obtain ⟨hl', ⟨rfl, rfl, rfl, rfl⟩ | ⟨g, cur, rfl, rfl, g1, g2, g3, g4⟩⟩ := hbuf
      · exact ⟨hl', .inl ⟨rfl, rfl⟩⟩
      · exact ⟨hl', .inr ⟨g, c, cur, rfl, Nat.zero_le _, hch (g, _) (by simp), g1, g2, g3, g4⟩⟩
    obtain ⟨v', w', hrun, hown', hgr, hnil⟩ := run_append_own (P := P) w 0 t ty T i z size (tby P T) htu hi (by rw [hzr, hz]) (by rw [hsz, hs]) hby hzs h0 (.slice a n c) n xs hown q m d ys hl hq2 h1 hm hb (Nat.zero_le _)
    have hv : ∃ g cap cur, v' = .slice (some ⟨g, 0, none⟩) (n + m) cap ∧ w'.heap[g]? = some (.cells cur T (0, 0)) ∧ n + m ≤ cap ∧ cap ≤ maxLen ∧ cur.size = cap * size ∧ cur.toList.take ((n + m) * size) = xs ++ ys := by
      rcases hown'.2 with ⟨e1, _⟩ | ⟨g, cap, cur, e1, _, e2, e3, e4, e5, e6⟩
      · exact absurd (hnil.1 e1).2 hm0
      · exact ⟨g, cap, cur, e1, e2, e3, e4, e5, e6⟩
    obtain ⟨g', cap, cur', rfl, e2, e3, e4, e5, e6⟩ := hv
    refine ⟨some ⟨g', 0, none⟩, cap, w', hrun, ?_⟩
    -- the new block is the old one, or new
    have hblk : a = some ⟨g', 0, none⟩ ∨ w.heap.size ≤ g' := by
      by_cases hroom : n + m ≤ c ∧ a.isSome = true
      · obtain ⟨_, ⟨rfl, rfl, rfl, rfl⟩ | ⟨g, cur, rfl, rfl, g1, g2, g3, g4⟩⟩ := hbuf
        · simp at hroom
        · have hfit : n * i.size + ys.length ≤ cur.size := by rw [hl, g3, hsz, hs, ← Nat.add_mul]; exact Nat.mul_le_mul_right _ hroom.1
          have := run_append_room (P := P) w t ty T i htu hi g n c cur (hch (g, _) (by simp)) q m d ys (by rw [hl, hsz, hs]) hq2 h1 hroom.1 hfit
          rw [this] at hrun
          cases hrun
          exact .inl rfl
      · obtain ⟨hl', ⟨rfl, rfl, rfl, rfl⟩ | ⟨g, cur, rfl, rfl, g1, g2, g3, g4⟩⟩ := hbuf
        · have := run_append_nil (P := P) w t ty T i z htu hi (by rw [hzr, hz]) q m d ys (by rw [hl, hsz, hs]) hq2 (by omega) (by simp only [maxLen] at hm; omega) (by rw [hby]; exact Nat.le_trans (by simpa using hb) (by decide))
          simp only [Nat.zero_add] at hrun
          rw [this] at hrun
          cases hrun
          exact .inr (Nat.le_refl _)
        · have hroom' : ¬ n + m ≤ c := by simpa using hroom
          have := run_append_grow (P := P) w t ty T i z htu hi (by rw [hzr, hz]) ⟨g, 0, none⟩ n c xs (by rw [hl', hsz, hs]) (hown.cells (g := g) rfl) q m d ys (by rw [hl, hsz, hs]) hq2 (by omega) (by simp only [maxLen] at hm; omega) (by rw [hby]; exact growslice_fits (by omega) hb)
          rw [this] at hrun
          cases hrun
          exact .inr (Nat.le_refl _)
    refine grownBy_turn h _ hgr fun c1 hc1 hp1 => ?_
    obtain ⟨hl', ⟨rfl, rfl, rfl, rfl⟩ | ⟨g, cur, rfl, rfl, g1, g2, g3, g4⟩⟩ := hc1
    · refine ⟨fun k hk => by simp [Value.ownBlock] at hk, [(g', .cells cur' T (0, 0))], ⟨by rw [List.length_append, hl', hl, Nat.add_mul], .inr ⟨g', cur', rfl, rfl, e3, e4, e5, e6⟩⟩, by simpa using e2, by simp, fun b hb' => ?_⟩
      simp at hb'
      subst hb'
      exact .inr (hblk.resolve_left (by simp))
    · refine ⟨fun k hk => by simp [Value.ownBlock] at hk; simp [hk], [(g', .cells cur' T (0, 0))], ⟨by rw [List.length_append, hl', hl, Nat.add_mul], .inr ⟨g', cur', rfl, rfl, e3, e4, e5, e6⟩⟩, by simpa using e2, by simp, fun b hb' => ?_⟩
      simp at hb'
      subst hb'
      rcases hblk with hblk | hblk
      · cases hblk; exact .inl (by simp)
      · exact .inr hblk
end
end Go.E
