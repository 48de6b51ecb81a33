/-
  The frame seat: the document's framer. No condition but those in each theorem.
-/
import Derived.Test.YtloeiefijmbkiaaFrF
set_option linter.unusedSimpArgs false
set_option linter.unusedVariables false
set_option linter.unusedSectionVars false
namespace Go.Proofs.Ytloeiefijmbkiaa
open Go.E

theorem feed_append : ∀ (l m h : List UInt8), feed h (l ++ m) = if (feed h l).2.2 then feed h l else ((feed h l).1 ++ (feed (feed h l).2.1 m).1, (feed (feed h l).2.1 m).2)
  | [], m, h => by simp [feed]
  | c :: r, m, h => by
    rw [List.cons_append, feed, feed]
    split
    · rw [feed_append r m []]
      by_cases ho : (feed [] r).2.2 = true
      · simp [ho]
      · simp [ho]
    · split
      · simp
      · exact feed_append r m (h ++ [c])
theorem feed_over_nil : ∀ (l h : List UInt8), (feed h l).2.2 = true → (feed h l).2.1 = []
  | [], h, ho => by simp [feed] at ho
  | c :: r, h, ho => by
    rw [feed] at ho ⊢
    split
    · rename_i hc; rw [if_pos hc] at ho; exact feed_over_nil r [] ho
    · rename_i hc
      rw [if_neg hc] at ho
      split
      · rfl
      · rename_i hn
        rw [if_neg hn] at ho
        exact feed_over_nil r _ ho
theorem feed_held_le : ∀ (l h : List UInt8), h.length ≤ 65536 → (feed h l).2.1.length ≤ 65536
  | [], h, hh => hh
  | c :: r, h, hh => by
    rw [feed]
    split
    · exact feed_held_le r [] (by simp)
    · split
      · simp
      · exact feed_held_le r _ (by simp; omega)
theorem feed_held_len : ∀ (l h : List UInt8), (feed h l).2.1.length ≤ h.length + l.length
  | [], h => by simp [feed]
  | c :: r, h => by
    rw [feed]
    split
    · have := feed_held_len r []; simp at this ⊢; omega
    · split
      · simp
      · have := feed_held_len r (h ++ [c]); simp at this ⊢; omega

theorem Ctx.rows_drop {w : World} {O : List Res} {L : List Fact} {a : Option Addr} {ls : List (List UInt8)} {k c : Nat} (h : Ctx w O L) (hm : rows a ls ∈ L) (hc : ls.length ≤ c) : Ctx w O (rows (sa a k c 1) (ls.drop k) :: L) := by
  obtain ⟨gs, hg, h1⟩ := h.open_rows hm
  have hz : List.zipWith hdr (gs.drop k) (ls.drop k) = (List.zipWith hdr gs ls).drop k := by rw [List.drop_zipWith]
  have h2 : Ctx w O (rowsF (gs.drop k) (ls.drop k) :: arr a (List.zipWith hdr gs ls) :: rowsF gs ls :: L) := h1.add fun Γ _ hL ⟨i, g, l⟩ ⟨e1, e2⟩ => by
    simp only [List.getElem?_drop] at e1 e2
    exact hL _ mem1 (k + i, g, l) ⟨e1, e2⟩
  have h3 : Ctx w O (arr (sa a k c 1) (List.zipWith hdr (gs.drop k) (ls.drop k)) :: rowsF (gs.drop k) (ls.drop k) :: arr a (List.zipWith hdr gs ls) :: rowsF gs ls :: L) := by
    rw [hz]
    unfold E.sa
    split
    · rename_i hck
      subst hck
      rw [List.drop_of_length_le (by simp; omega)]
      exact h2.add fun _ _ _ => .inl rfl
    · have := h2.piece (mem1) k ((List.zipWith hdr gs ls).length - k)
      rw [Nat.mul_one, ← List.length_drop, List.take_length] at *
      exact this
  refine (h3.shut_rows (by simp [hg]) mem0 mem1).weak fun φ hφ => ?_
  simp only [List.mem_cons] at hφ ⊢
  rcases hφ with rfl | hφ
  · exact .inl rfl
  · exact .inr (.inr (.inr (.inr (.inr hφ))))

/-- the document's framer: all bytes, whether it is over -/
def rf (f : Nat) (all : List UInt8) (over : Bool) : Res := exR fun (p : Option Addr × Nat) =>
  sepR (cel f 29 [.slice p.1 all.length p.2, .bool over]) (buf 5 1 p.1 all.length p.2 (all.map bv))
theorem rf_open {w : World} {O : List Res} {L : List Fact} {f : Nat} {all : List UInt8} {over : Bool} (h : Ctx w (rf f all over :: O) L) : ∃ a c, Ctx w (cel f 29 [.slice a all.length c, .bool over] :: buf 5 1 a all.length c (all.map bv) :: O) L := by
  obtain ⟨⟨a, c⟩, h⟩ := h.exr
  exact ⟨a, c, h.sep⟩
theorem rf_shut {w : World} {O : List Res} {L : List Fact} {f : Nat} {all : List UInt8} {over : Bool} {a : Option Addr} {c : Nat} (h : Ctx w (cel f 29 [.slice a all.length c, .bool over] :: buf 5 1 a all.length c (all.map bv) :: O) L) : Ctx w (rf f all over :: O) L :=
  Ctx.mkr (F := fun (p : Option Addr × Nat) => sepR (cel f 29 [.slice p.1 all.length p.2, .bool over]) (buf 5 1 p.1 all.length p.2 (all.map bv))) (a, c) h.join

theorem rheld_ok {w : World} {O : List Res} {L : List Fact} {f : Nat} {all : List UInt8} {over : Bool} (h : Ctx w (rf f all over :: O) L) (hm : all.length ≤ 2^40) :
    Ret Try.prog 14 #[.pointer (some ⟨f, 0, none⟩)] w fun v w' => v = .int .i64 (feed [] all).2.1.length ∧ Ctx w' (rf f all over :: O) L := by
  obtain ⟨a, c, h1⟩ := rf_open h
  refine Ret.enter 6 Try.func14 rfl ⟨by simp, by simp [Try.ntmps14]⟩ (by kernel_rfl) ?_
  (simp -dsimp only [vc, Try.ty, Try.en, ↓reduceIte, Nat.reduceLT, Nat.reduceEqDiff, Nat.reduceSub, Nat.reduceAdd, Nat.reduceMul, Int.natCast_one, Int.natCast_zero, Int.reduceEq, Int.reduceLT, Int.reduceLE, Int.reduceAdd, Int.reduceSub, decide_false, decide_true, Int.reduceToNat, sh_zero, Bool.not_true, Bool.not_false, Option.isNone_some, Option.isNone_none, Option.isSome_some, Option.isSome_none, Try.ntmps14]; try with_reducible intro (base : Nat → Value))
  refine RunV.load0 h1.rd_own rfl (by kernel_rfl) ?_
  (simp -dsimp only [vc, Try.ty, Try.en, ↓reduceIte, Nat.reduceLT, Nat.reduceEqDiff, Nat.reduceSub, Nat.reduceAdd, Nat.reduceMul, Int.natCast_one, Int.natCast_zero, Int.reduceEq, Int.reduceLT, Int.reduceLE, Int.reduceAdd, Int.reduceSub, decide_false, decide_true, Int.reduceToNat, sh_zero, Bool.not_true, Bool.not_false, Option.isNone_some, Option.isNone_none, Option.isSome_some, Option.isSome_none]; try with_reducible intro (base : Nat → Value))
  refine (lines_ok h1 (Rdb.buf.cons _) (buf_le h1.swap) hm).mono ?_
  rintro v w2 ⟨la, lc, ra, rc, rfl, hl, h2⟩
  (simp -dsimp only [vc, Try.ty, Try.en, ↓reduceIte, Nat.reduceLT, Nat.reduceEqDiff, Nat.reduceSub, Nat.reduceAdd, Nat.reduceMul, Int.natCast_one, Int.natCast_zero, Int.reduceEq, Int.reduceLT, Int.reduceLE, Int.reduceAdd, Int.reduceSub, decide_false, decide_true, Int.reduceToNat, sh_zero, Bool.not_true, Bool.not_false, Option.isNone_some, Option.isNone_none, Option.isSome_some, Option.isSome_none]; try with_reducible intro (base : Nat → Value))
  exact ResP.one rfl (by decide) ⟨rfl, rf_shut h2.tailF⟩

theorem rfeed_over {w : World} {O : List Res} {L : List Fact} {f : Nat} {all : List UInt8} {v : Value} (h : Ctx w (rf f all true :: O) L) :
    Ret Try.prog 12 #[.pointer (some ⟨f, 0, none⟩), v] w fun r w' => r = .tuple #[.slice none 0 0, .int .i64 6] ∧ Ctx w' (rf f all true :: O) L := by
  obtain ⟨a, c, h1⟩ := rf_open h
  refine Ret.enter 12 Try.func12 rfl ⟨by simp, by simp [Try.ntmps12]⟩ (by kernel_rfl) ?_
  (simp -dsimp only [vc, Try.ty, Try.en, ↓reduceIte, Nat.reduceLT, Nat.reduceEqDiff, Nat.reduceSub, Nat.reduceAdd, Nat.reduceMul, Int.natCast_one, Int.natCast_zero, Int.reduceEq, Int.reduceLT, Int.reduceLE, Int.reduceAdd, Int.reduceSub, decide_false, decide_true, Int.reduceToNat, sh_zero, Bool.not_true, Bool.not_false, Option.isNone_some, Option.isNone_none, Option.isSome_some, Option.isSome_none, Try.ntmps12]; try with_reducible intro (base : Nat → Value))
  refine RunV.load1 h1.rd_own rfl (by kernel_rfl) ?_
  (simp -dsimp only [vc, Try.ty, Try.en, ↓reduceIte, Nat.reduceLT, Nat.reduceEqDiff, Nat.reduceSub, Nat.reduceAdd, Nat.reduceMul, Int.natCast_one, Int.natCast_zero, Int.reduceEq, Int.reduceLT, Int.reduceLE, Int.reduceAdd, Int.reduceSub, decide_false, decide_true, Int.reduceToNat, sh_zero, Bool.not_true, Bool.not_false, Option.isNone_some, Option.isNone_none, Option.isSome_some, Option.isSome_none]; try with_reducible intro (base : Nat → Value))
  exact ResP.two rfl (by decide) ⟨rfl, h⟩

theorem rfeed_ok {w : World} {O : List Res} {L : List Fact} {f : Nat} {all l : List UInt8} {a : Option Addr} {c : Nat} (h : Ctx w (rf f all false :: O) L) (ho : (feed [] all).2.2 = false) (ha : Rdb O L a (l.map bv)) (hm : all.length + l.length ≤ 2^40) :
    Ret Try.prog 12 #[.pointer (some ⟨f, 0, none⟩), .slice a l.length c] w fun v w' => ∃ la lc, v = .tuple #[.slice la (feed (feed [] all).2.1 l).1.length lc, .int .i64 (if (feed (feed [] all).2.1 l).2.2 then 6 else 0)] ∧ (feed (feed [] all).2.1 l).1.length ≤ lc ∧
      Ctx w' (rf f (all ++ l) (feed (feed [] all).2.1 l).2.2 :: O) (rows la (feed (feed [] all).2.1 l).1 :: L) := by
  obtain ⟨aa, ac, h1⟩ := rf_open h
  refine Ret.enter 12 Try.func12 rfl ⟨by simp, by simp [Try.ntmps12]⟩ (by kernel_rfl) ?_
  (simp -dsimp only [vc, Try.ty, Try.en, ↓reduceIte, Nat.reduceLT, Nat.reduceEqDiff, Nat.reduceSub, Nat.reduceAdd, Nat.reduceMul, Int.natCast_one, Int.natCast_zero, Int.reduceEq, Int.reduceLT, Int.reduceLE, Int.reduceAdd, Int.reduceSub, decide_false, decide_true, Int.reduceToNat, sh_zero, Bool.not_true, Bool.not_false, Option.isNone_some, Option.isNone_none, Option.isSome_some, Option.isSome_none, Try.ntmps12]; try with_reducible intro (base : Nat → Value))
  refine RunV.load1 h1.rd_own rfl (by kernel_rfl) ?_
  (simp -dsimp only [vc, Try.ty, Try.en, ↓reduceIte, Nat.reduceLT, Nat.reduceEqDiff, Nat.reduceSub, Nat.reduceAdd, Nat.reduceMul, Int.natCast_one, Int.natCast_zero, Int.reduceEq, Int.reduceLT, Int.reduceLE, Int.reduceAdd, Int.reduceSub, decide_false, decide_true, Int.reduceToNat, sh_zero, Bool.not_true, Bool.not_false, Option.isNone_some, Option.isNone_none, Option.isSome_some, Option.isSome_none]; try with_reducible intro (base : Nat → Value))
  refine RunV.load0 h1.rd_own rfl (by kernel_rfl) ?_
  (simp -dsimp only [vc, Try.ty, Try.en, ↓reduceIte, Nat.reduceLT, Nat.reduceEqDiff, Nat.reduceSub, Nat.reduceAdd, Nat.reduceMul, Int.natCast_one, Int.natCast_zero, Int.reduceEq, Int.reduceLT, Int.reduceLE, Int.reduceAdd, Int.reduceSub, decide_false, decide_true, Int.reduceToNat, sh_zero, Bool.not_true, Bool.not_false, Option.isNone_some, Option.isNone_none, Option.isSome_some, Option.isSome_none]; try with_reducible intro (base : Nat → Value))
  refine (lines_ok h1 (Rdb.buf.cons _) (buf_le h1.swap) (by omega)).mono ?_
  rintro v w2 ⟨la, lc, ra, rc, rfl, hl, h2⟩
  (simp -dsimp only [vc, Try.ty, Try.en, ↓reduceIte, Nat.reduceLT, Nat.reduceEqDiff, Nat.reduceSub, Nat.reduceAdd, Nat.reduceMul, Int.natCast_one, Int.natCast_zero, Int.reduceEq, Int.reduceLT, Int.reduceLE, Int.reduceAdd, Int.reduceSub, decide_false, decide_true, Int.reduceToNat, sh_zero, Bool.not_true, Bool.not_false, Option.isNone_some, Option.isNone_none, Option.isSome_some, Option.isSome_none]; try with_reducible intro (base : Nat → Value))
  refine RunV.lit 5 (.int .u8 0) 1 (len := 0) (parts := []) [] h2 (by kernel_rfl) (by kernel_rfl) (by kernel_rfl) (by decide) (by decide) (by kernel_rfl) fun s w3 h3 => ?_
  (simp -dsimp only [vc, Try.ty, Try.en, ↓reduceIte, Nat.reduceLT, Nat.reduceEqDiff, Nat.reduceSub, Nat.reduceAdd, Nat.reduceMul, Int.natCast_one, Int.natCast_zero, Int.reduceEq, Int.reduceLT, Int.reduceLE, Int.reduceAdd, Int.reduceSub, decide_false, decide_true, Int.reduceToNat, sh_zero, Bool.not_true, Bool.not_false, Option.isNone_some, Option.isNone_none, Option.isSome_some, Option.isSome_none]; try with_reducible intro (base : Nat → Value))
  refine RunV.load0 (h3.ord [1]).rd_own rfl (by kernel_rfl) ?_
  (simp -dsimp only [vc, Try.ty, Try.en, ↓reduceIte, Nat.reduceLT, Nat.reduceEqDiff, Nat.reduceSub, Nat.reduceAdd, Nat.reduceMul, Int.natCast_one, Int.natCast_zero, Int.reduceEq, Int.reduceLT, Int.reduceLE, Int.reduceAdd, Int.reduceSub, decide_false, decide_true, Int.reduceToNat, sh_zero, Bool.not_true, Bool.not_false, Option.isNone_some, Option.isNone_none, Option.isSome_some, Option.isSome_none]; try with_reducible intro (base : Nat → Value))
  refine RunV.append (.int .u8 0) (h3.buf_cel 1 0 rfl (by decide)) (((h3.ord [2]).rd_buf)) (by simp) (bvs_one _) (by kernel_rfl) (by kernel_rfl) (by decide) (by kernel_rfl) rfl ?_ ?_ fun a4 c4 w4 h4 => ?_
  · rw [show tby Try.prog 5 = 1 from (by kernel_rfl)]; omega
  · simp only [maxLen]; omega
  (simp -dsimp only [vc, Try.ty, Try.en, ↓reduceIte, Nat.reduceLT, Nat.reduceEqDiff, Nat.reduceSub, Nat.reduceAdd, Nat.reduceMul, Int.natCast_one, Int.natCast_zero, Int.reduceEq, Int.reduceLT, Int.reduceLE, Int.reduceAdd, Int.reduceSub, decide_false, decide_true, Int.reduceToNat, sh_zero, Bool.not_true, Bool.not_false, Option.isNone_some, Option.isNone_none, Option.isSome_some, Option.isSome_none]; try with_reducible intro (base : Nat → Value))
  rw [Nat.zero_add, List.nil_append] at h4
  refine RunV.append (.int .u8 0) h4 (((ha.append [_, _, _]).more fun φ hφ => by simp [hφ]).rd h4) (by simp) (bvs_one _) (by kernel_rfl) (by kernel_rfl) (by decide) (by kernel_rfl) rfl ?_ ?_ fun a5 c5 w5 h5 => ?_
  · rw [show tby Try.prog 5 = 1 from (by kernel_rfl)]; omega
  · simp only [maxLen]; omega
  rw [← List.length_append, ← List.map_append] at h5
  rw [← List.length_append]
  (simp -dsimp only [vc, Try.ty, Try.en, ↓reduceIte, Nat.reduceLT, Nat.reduceEqDiff, Nat.reduceSub, Nat.reduceAdd, Nat.reduceMul, Int.natCast_one, Int.natCast_zero, Int.reduceEq, Int.reduceLT, Int.reduceLE, Int.reduceAdd, Int.reduceSub, decide_false, decide_true, Int.reduceToNat, sh_zero, Bool.not_true, Bool.not_false, Option.isNone_some, Option.isNone_none, Option.isSome_some, Option.isSome_none]; try with_reducible intro (base : Nat → Value))
  refine RunV.st0 (h5.ord [1]) (by kernel_rfl) rfl rfl (by simp) fun w6 h6 => ?_
  (simp -dsimp only [vc, Try.ty, Try.en, ↓reduceIte, Nat.reduceLT, Nat.reduceEqDiff, Nat.reduceSub, Nat.reduceAdd, Nat.reduceMul, Int.natCast_one, Int.natCast_zero, Int.reduceEq, Int.reduceLT, Int.reduceLE, Int.reduceAdd, Int.reduceSub, decide_false, decide_true, Int.reduceToNat, sh_zero, Bool.not_true, Bool.not_false, Option.isNone_some, Option.isNone_none, Option.isSome_some, Option.isSome_none]; try with_reducible intro (base : Nat → Value))
  refine RunV.load0 h6.rd_own rfl (by kernel_rfl) ?_
  (simp -dsimp only [vc, Try.ty, Try.en, ↓reduceIte, Nat.reduceLT, Nat.reduceEqDiff, Nat.reduceSub, Nat.reduceAdd, Nat.reduceMul, Int.natCast_one, Int.natCast_zero, Int.reduceEq, Int.reduceLT, Int.reduceLE, Int.reduceAdd, Int.reduceSub, decide_false, decide_true, Int.reduceToNat, sh_zero, Bool.not_true, Bool.not_false, Option.isNone_some, Option.isNone_none, Option.isSome_some, Option.isSome_none]; try with_reducible intro (base : Nat → Value))
  have h6 : Ctx w6 (cel f 29 [.slice a5 (all ++ l).length c5, .bool false] :: buf 5 1 a5 (all ++ l).length c5 ((all ++ l).map bv) :: O) (rows la (feed [] all).1 :: L) := h6.del 2
  refine (lines_ok h6 (Rdb.buf.cons _) (buf_le h6.swap) (by simp; omega)).mono ?_
  rintro v w7 ⟨lb, lbc, rb, rbc, rfl, hlb, h7⟩
  (simp -dsimp only [vc, Try.ty, Try.en, ↓reduceIte, Nat.reduceLT, Nat.reduceEqDiff, Nat.reduceSub, Nat.reduceAdd, Nat.reduceMul, Int.natCast_one, Int.natCast_zero, Int.reduceEq, Int.reduceLT, Int.reduceLE, Int.reduceAdd, Int.reduceSub, decide_false, decide_true, Int.reduceToNat, sh_zero, Bool.not_true, Bool.not_false, Option.isNone_some, Option.isNone_none, Option.isSome_some, Option.isSome_none]; try with_reducible intro (base : Nat → Value))
  refine RunV.st h7 (by kernel_rfl) rfl rfl (by simp) fun w8 h8 => ?_
  have hap := feed_append all l []
  rw [if_neg (by rw [ho]; simp)] at hap
  generalize hfa : feed [] all = fa at *
  generalize hfl : feed fa.2.1 l = fl at *
  rw [hap] at h8 hlb ⊢
  simp only at h8 hlb ⊢
  have h9 : Ctx w8 (rf f (all ++ l) fl.2.2 :: O) (rows (sa lb fa.1.length lbc 1) fl.1 :: L) := by
    have := (Ctx.rows_drop (k := fa.1.length) (c := lbc) (rf_shut h8) mem0 hlb)
    rw [List.drop_left] at this
    refine this.weak fun φ hφ => ?_
    simp only [List.mem_cons] at hφ ⊢
    rcases hφ with rfl | hφ
    · exact .inl rfl
    · exact .inr (.inr (.inr hφ))
  have hs : ∀ (h : Nat), h = (fa.1 ++ fl.1).length → h - fa.1.length = fl.1.length := by rintro h rfl; simp
  have hlb' : fa.1.length + fl.1.length ≤ lbc := by simpa using hlb
  cases hov : fl.2.2 with
  | true =>
    rw [hov] at h9
    (simp -dsimp only [vc, Try.ty, Try.en, ↓reduceIte, Nat.reduceLT, Nat.reduceEqDiff, Nat.reduceSub, Nat.reduceAdd, Nat.reduceMul, Int.natCast_one, Int.natCast_zero, Int.reduceEq, Int.reduceLT, Int.reduceLE, Int.reduceAdd, Int.reduceSub, decide_false, decide_true, Int.reduceToNat, sh_zero, Bool.not_true, Bool.not_false, Option.isNone_some, Option.isNone_none, Option.isSome_some, Option.isSome_none]; try with_reducible intro (base : Nat → Value))
    refine RunV.slice 27 1 fa.1.length (fa.1 ++ fl.1).length _ none .i64 .i64 (by kernel_rfl) (by kernel_rfl) (by decide) (by simp) hlb (.inl rfl) (.inr ⟨rfl, rfl⟩) ?_
    rw [hs _ rfl]
    (simp -dsimp only [vc, Try.ty, Try.en, ↓reduceIte, Nat.reduceLT, Nat.reduceEqDiff, Nat.reduceSub, Nat.reduceAdd, Nat.reduceMul, Int.natCast_one, Int.natCast_zero, Int.reduceEq, Int.reduceLT, Int.reduceLE, Int.reduceAdd, Int.reduceSub, decide_false, decide_true, Int.reduceToNat, sh_zero, Bool.not_true, Bool.not_false, Option.isNone_some, Option.isNone_none, Option.isSome_some, Option.isSome_none]; try with_reducible intro (base : Nat → Value))
    exact ResP.two rfl (by decide) ⟨_, _, rfl, by omega, h9⟩
  | false =>
    rw [hov] at h9
    (simp -dsimp only [vc, Try.ty, Try.en, ↓reduceIte, Nat.reduceLT, Nat.reduceEqDiff, Nat.reduceSub, Nat.reduceAdd, Nat.reduceMul, Int.natCast_one, Int.natCast_zero, Int.reduceEq, Int.reduceLT, Int.reduceLE, Int.reduceAdd, Int.reduceSub, decide_false, decide_true, Int.reduceToNat, sh_zero, Bool.not_true, Bool.not_false, Option.isNone_some, Option.isNone_none, Option.isSome_some, Option.isSome_none]; try with_reducible intro (base : Nat → Value))
    refine RunV.slice 27 1 fa.1.length (fa.1 ++ fl.1).length _ none .i64 .i64 (by kernel_rfl) (by kernel_rfl) (by decide) (by simp) hlb (.inl rfl) (.inr ⟨rfl, rfl⟩) ?_
    rw [hs _ rfl]
    (simp -dsimp only [vc, Try.ty, Try.en, ↓reduceIte, Nat.reduceLT, Nat.reduceEqDiff, Nat.reduceSub, Nat.reduceAdd, Nat.reduceMul, Int.natCast_one, Int.natCast_zero, Int.reduceEq, Int.reduceLT, Int.reduceLE, Int.reduceAdd, Int.reduceSub, decide_false, decide_true, Int.reduceToNat, sh_zero, Bool.not_true, Bool.not_false, Option.isNone_some, Option.isNone_none, Option.isSome_some, Option.isSome_none]; try with_reducible intro (base : Nat → Value))
    exact ResP.two rfl (by decide) ⟨_, _, rfl, by omega, h9⟩
end Go.Proofs.Ytloeiefijmbkiaa
