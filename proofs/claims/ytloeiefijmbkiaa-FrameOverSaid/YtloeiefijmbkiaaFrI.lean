/-
  The frame seat: both framers by one machine; plain laws of the machine. No condition but those in each theorem.
-/
import Derived.Test.YtloeiefijmbkiaaFrH
set_option linter.unusedSimpArgs false
set_option linter.unusedVariables false
set_option linter.unusedSectionVars false
namespace Go.Proofs.Ytloeiefijmbkiaa
open Go.E

/-- all bytes that count, behind one more feed -/
def stepB (all l : List UInt8) : List UInt8 := if (feed [] all).2.2 then all else all ++ l
/-- the lines of one more feed -/
def newL (all l : List UInt8) : List (List UInt8) := if (feed [] all).2.2 then [] else (feed (feed [] all).2.1 l).1
theorem step_feed (all l : List UInt8) : (feed [] (stepB all l)).1 = (feed [] all).1 ++ newL all l := by
  unfold stepB newL
  split
  · simp
  · rename_i ho; rw [feed_append, if_neg ho]
theorem step_feed2 (all l : List UInt8) (ho : (feed [] all).2.2 = false) : (feed [] (stepB all l)).2 = (feed (feed [] all).2.1 l).2 := by
  unfold stepB
  rw [if_neg (by simp [ho]), feed_append, if_neg (by simp [ho])]
theorem step_le (all l : List UInt8) : (stepB all l).length ≤ all.length + l.length := by
  unfold stepB
  split <;> simp

/-- a framer that was fed these bytes -/
def frA (f : Nat) (all : List UInt8) : Res := fr f (feed [] all).2.1 (feed [] all).2.2
def rfA (f : Nat) (all : List UInt8) : Res := rf f all (feed [] all).2.2
/-- what a feed answers -/
def fedV (all l : List UInt8) (la : Option Addr) (lc : Nat) : Value := .tuple #[.slice la (newL all l).length lc, .int .i64 (if (feed [] (stepB all l)).2.2 then 6 else 0)]

theorem rows_nil {w : World} {O : List Res} {L : List Fact} (h : Ctx w O L) : Ctx w O (rows none [] :: L) := by
  have h1 := (h.rowsF_nil).add (φ := arr none (List.zipWith hdr [] [])) fun _ _ _ => .inl rfl
  exact (h1.shut_rows (hs := []) (ls := []) rfl mem0 mem1).weak fun φ hφ => by simp only [List.mem_cons] at hφ ⊢; rcases hφ with rfl | hφ <;> simp [*]

theorem feedA_ok {w : World} {O : List Res} {L : List Fact} {f c : Nat} {all l : List UInt8} {a : Option Addr} (h : Ctx w (frA f all :: O) L) (ha : Rdb O L a (l.map bv)) (hc : l.length ≤ c) (hm : l.length ≤ 2^38) :
    Ret Try.prog 11 #[.pointer (some ⟨f, 0, none⟩), .slice a l.length c] w fun v w' => ∃ la lc, v = fedV all l la lc ∧ (newL all l).length ≤ lc ∧ Ctx w' (frA f (stepB all l) :: O) (rows la (newL all l) :: L) := by
  by_cases ho : (feed [] all).2.2 = true
  · have e1 : stepB all l = all := if_pos ho
    have e2 : newL all l = [] := if_pos ho
    unfold fedV
    rw [e1, e2, ho]
    unfold frA at h ⊢
    rw [ho] at h ⊢
    refine (feed_over h).mono ?_
    rintro v w' ⟨rfl, h1⟩
    exact ⟨none, 0, rfl, Nat.le_refl _, rows_nil h1⟩
  · have ho : (feed [] all).2.2 = false := by simpa using ho
    have e2 : newL all l = (feed (feed [] all).2.1 l).1 := if_neg (by simp [ho])
    unfold fedV
    unfold frA at h ⊢
    rw [e2, step_feed2 all l ho]
    rw [ho] at h
    exact feed_ok h (feed_held_le all [] (by simp)) ha hc hm

theorem rfeedA_ok {w : World} {O : List Res} {L : List Fact} {f c : Nat} {all l : List UInt8} {a : Option Addr} (h : Ctx w (rfA f all :: O) L) (ha : Rdb O L a (l.map bv)) (hm : all.length + l.length ≤ 2^40) :
    Ret Try.prog 12 #[.pointer (some ⟨f, 0, none⟩), .slice a l.length c] w fun v w' => ∃ la lc, v = fedV all l la lc ∧ (newL all l).length ≤ lc ∧ Ctx w' (rfA f (stepB all l) :: O) (rows la (newL all l) :: L) := by
  by_cases ho : (feed [] all).2.2 = true
  · have e1 : stepB all l = all := if_pos ho
    have e2 : newL all l = [] := if_pos ho
    unfold fedV
    rw [e1, e2, ho]
    unfold rfA at h ⊢
    rw [ho] at h ⊢
    refine (rfeed_over h).mono ?_
    rintro v w' ⟨rfl, h1⟩
    exact ⟨none, 0, rfl, Nat.le_refl _, rows_nil h1⟩
  · have ho : (feed [] all).2.2 = false := by simpa using ho
    have e1 : stepB all l = all ++ l := if_neg (by simp [ho])
    have e2 : newL all l = (feed (feed [] all).2.1 l).1 := if_neg (by simp [ho])
    unfold fedV
    unfold rfA at h ⊢
    rw [e2, step_feed2 all l ho, e1]
    rw [ho] at h
    exact rfeed_ok h ho ha hm

/-- each line is no longer than what came -/
theorem feed_line_le : ∀ (l h : List UInt8), ∀ x ∈ (feed h l).1, x.length ≤ h.length + l.length
  | [], h, x, hx => by simp [feed] at hx
  | c :: r, h, x, hx => by
    rw [feed] at hx
    split at hx
    · simp only [List.mem_cons] at hx
      rcases hx with rfl | hx
      · simp
      · have := feed_line_le r [] x hx; simp at this ⊢; omega
    · split at hx
      · simp at hx
      · have := feed_line_le r _ x hx; simp at this ⊢; omega

/-! ### Rows, one behind the other -/
theorem Ctx.rowsF_append {w : World} {O : List Res} {L : List Fact} {hs hs' : List (Option Addr × Nat)} {ls ls' : List (List UInt8)} (h : Ctx w O L) (hl : hs.length = ls.length) (hm : rowsF hs ls ∈ L) (hm' : rowsF hs' ls' ∈ L) :
    Ctx w O (rowsF (hs ++ hs') (ls ++ ls') :: L) :=
  h.add fun Γ _ hL ⟨i, g, l⟩ ⟨h1, h2⟩ => by
    simp only at h1 h2
    by_cases hi : i < hs.length
    · rw [List.getElem?_append_left hi] at h1
      rw [List.getElem?_append_left (by omega)] at h2
      exact hL _ hm (i, g, l) ⟨h1, h2⟩
    · rw [List.getElem?_append_right (by omega)] at h1
      rw [List.getElem?_append_right (by omega)] at h2
      exact hL _ hm' (i - hs.length, g, l) ⟨h1, by rw [hl]; exact h2⟩
/-- append of rows to rows -/
theorem RunV.appendRows {w : World} {O : List Res} {L : List Fact} {K : Value → World → Prop} {gs : List (Option Addr × Nat)} {ls ls' : List (List UInt8)} {a la : Option Addr} {c lc : Nat}
    (h : Ctx w (buf 27 1 a ls.length c (List.zipWith hdr gs ls) :: O) L) (hg : gs.length = ls.length) (hm : rowsF gs ls ∈ L) (hm' : rows la ls' ∈ L) (hb : ls.length + ls'.length ≤ 2^40)
    (k : ∀ gs' a' c' w', gs'.length = (ls ++ ls').length → Ctx w' (buf 27 1 a' (ls ++ ls').length c' (List.zipWith hdr gs' (ls ++ ls')) :: O) (rowsF gs' (ls ++ ls') :: L) → K (.slice a' (ls ++ ls').length c') w') :
    RunV Try.prog (Builtin.append_ #[30, 30] 30 #[.slice a ls.length c, .slice la ls'.length lc]) w K := by
  obtain ⟨gs', hg', h1⟩ := h.open_rows hm'
  refine RunV.append (.slice none 0 0) h1 (h1.rd mem0) (by simp [hg']) ?_ (by kernel_rfl) (by kernel_rfl) (by decide) (by kernel_rfl) rfl ?_ ?_ fun a2 c2 w2 h2 => ?_
  · intro u hu
    obtain ⟨i, hi, rfl⟩ := List.getElem_of_mem hu
    rw [List.getElem_zipWith]
    rfl
  · rw [show tby Try.prog 27 = 24 from (by kernel_rfl)]; omega
  · simp only [maxLen]; omega
  rw [← List.zipWith_append hg, ← List.length_append] at h2
  rw [← List.length_append]
  refine k (gs ++ gs') a2 c2 w2 (by simp [hg, hg']) ((Ctx.rowsF_append h2 hg (.tail _ (.tail _ hm)) mem1).weak fun φ hφ => ?_)
  simp only [List.mem_cons] at hφ ⊢
  rcases hφ with rfl | hφ
  · exact .inl rfl
  · exact .inr (.inr (.inr hφ))
end Go.Proofs.Ytloeiefijmbkiaa
