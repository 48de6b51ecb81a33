/-
  The frame seat: the document's Lines. No condition but those in each theorem.
-/
import Derived.Test.YtloeiefijmbkiaaFrB
set_option linter.unusedSimpArgs false
set_option linter.unusedVariables false
set_option linter.unusedSectionVars false
namespace Go.Proofs.Ytloeiefijmbkiaa
open Go.E

/-- the machine: what is held, bytes that come; the lines, what is held then, whether it is over -/
def feed : List UInt8 → List UInt8 → List (List UInt8) × List UInt8 × Bool
  | h, [] => ([], h, false)
  | h, c :: r => if c = 10 then (h :: (feed [] r).1, (feed [] r).2) else if h.length = 65536 then ([], [], true) else feed (h ++ [c]) r

theorem feed_lines_le : ∀ (l h : List UInt8), (feed h l).1.length ≤ l.length
  | [], _ => Nat.le_refl _
  | c :: r, h => by
    rw [feed]
    split
    · have := feed_lines_le r []; simp; omega
    · split
      · simp
      · have := feed_lines_le r (h ++ [c]); simp; omega

theorem buf_le {w : World} {O : List Res} {L : List Fact} {T : TypeId} {size n c : Nat} {a : Option Addr} {xs : List Value} (h : Ctx w (buf T size a n c xs :: O) L) : n ≤ c := by
  obtain ⟨Γ, cs, g1, g2, g3, g4, g5⟩ := h
  obtain ⟨ch, cs', rfl, hr, _⟩ := g2.cons_inv
  obtain ⟨_, ⟨_, rfl, rfl, _⟩ | ⟨g, cur, _, _, h1, _⟩⟩ := hr
  · exact Nat.le_refl _
  · exact h1

theorem rdb_piece {O : List Res} {L : List Fact} {a : Option Addr} {c : Nat} {l : List UInt8} (h : Rdb O L a (l.map bv)) (hc : l.length ≤ c) {f i : Nat} (hfi : f ≤ i) : Rdb O L (sa a f c 1) (((l.take i).drop f).map bv) := by
  have := h.sa (l := f) (c := c) (sz := 1) (by simpa using hc) (i - f)
  rwa [Nat.mul_one, ← List.map_drop, ← List.map_take, ← List.drop_take] at this
theorem bvs_one (l : List UInt8) : ∀ u ∈ l.map bv, u.oneCell' = true := by
  intro u hu
  obtain ⟨b, _, rfl⟩ := List.mem_map.1 hu
  rfl
theorem hdr_eq {p : Option Addr} {n c : Nat} {l : List UInt8} (hn : n = l.length) : Value.slice p n c = hdr (p, c) l := by subst hn; rfl

theorem lines_ok {w : World} {O : List Res} {L : List Fact} {a : Option Addr} {c : Nat} {l : List UInt8} (h : Ctx w O L) (ha : Rdb O L a (l.map bv)) (hc : l.length ≤ c) (hm : l.length ≤ 2^40) :
    Ret Try.prog 20 #[.slice a l.length c] w fun v w' => ∃ la lc ra rc, v = .tuple #[.slice la (feed [] l).1.length lc, .slice ra (feed [] l).2.1.length rc, .bool (feed [] l).2.2] ∧ (feed [] l).1.length ≤ lc ∧
      Ctx w' O (rows la (feed [] l).1 :: L) := by
  refine Ret.enter 7 Try.func20 rfl ⟨by simp, by simp [Try.ntmps20]⟩ (by kernel_rfl) ?_
  (simp -dsimp only [vc, Try.ty, Try.en, ↓reduceIte, Nat.reduceLT, Nat.reduceEqDiff, Nat.reduceSub, Nat.reduceAdd, Nat.reduceMul, Int.natCast_one, Int.natCast_zero, Int.reduceEq, Int.reduceLT, Int.reduceLE, Int.reduceAdd, Int.reduceSub, decide_false, decide_true, Int.reduceToNat, sh_zero, Bool.not_true, Bool.not_false, Option.isNone_some, Option.isNone_none, Option.isSome_some, Option.isSome_none, Try.ntmps20]; try with_reducible intro (base : Nat → Value))
  refine SemV.loop (fun loc w => ∃ (i f : Nat) (ls : List (List UInt8)) (gs : List (Option Addr × Nat)) (la : Option Addr) (lc : Nat), f ≤ i ∧ i ≤ l.length ∧ feed [] l = (ls ++ (feed ((l.take i).drop f) (l.drop i)).1, (feed ((l.take i).drop f) (l.drop i)).2) ∧
      ls.length ≤ i ∧ gs.length = ls.length ∧ loc = [.slice a l.length c, undef, .slice la ls.length lc, .slice none 0 0, .bool false, .int .i64 f, .int .i64 i] ∧
      Ctx w (buf 27 1 la ls.length lc (List.zipWith hdr gs ls) :: O) (rowsF gs ls :: L))
    (fun loc _ => l.length - num (loc.getD 6 undef)) (by kernel_rfl) ⟨0, 0, [], [], none, 0, by omega, by omega, by simp, by simp, rfl, rfl, h.rowsF_nil.buf_nil _ _⟩ ?_
  rintro loc w ⟨i, f, ls, gs, la, lc, hfi, hi, hfd, hli, hg, rfl, h⟩
  (simp -dsimp only [vc, Try.ty, Try.en, ↓reduceIte, Nat.reduceLT, Nat.reduceEqDiff, Nat.reduceSub, Nat.reduceAdd, Nat.reduceMul, Int.natCast_one, Int.natCast_zero, Int.reduceEq, Int.reduceLT, Int.reduceLE, Int.reduceAdd, Int.reduceSub, decide_false, decide_true, Int.reduceToNat, sh_zero, Bool.not_true, Bool.not_false, Option.isNone_some, Option.isNone_none, Option.isSome_some, Option.isSome_none]; try with_reducible intro (base : Nat → Value))
  refine CondP.split (fun hlt => ?_) (fun hlt => ?_)
  · have hlt : i < l.length := by simpa using hlt
    (simp -dsimp only [vc, Try.ty, Try.en, ↓reduceIte, Nat.reduceLT, Nat.reduceEqDiff, Nat.reduceSub, Nat.reduceAdd, Nat.reduceMul, Int.natCast_one, Int.natCast_zero, Int.reduceEq, Int.reduceLT, Int.reduceLE, Int.reduceAdd, Int.reduceSub, decide_false, decide_true, Int.reduceToNat, sh_zero, Bool.not_true, Bool.not_false, Option.isNone_some, Option.isNone_none, Option.isSome_some, Option.isSome_none]; try with_reducible intro (base : Nat → Value))
    have hr := ((ha.cons (buf 27 1 la ls.length lc (List.zipWith hdr gs ls))).more (L' := rowsF gs ls :: L) fun φ hφ => by simp [hφ])
    refine ⟨⟨by omega, by omega, (hr.rd h).some (by simp; omega)⟩, ?_⟩
    refine RunV.load1 (hr.rd h) (bv_lt hlt) (by kernel_rfl) ?_
    (simp -dsimp only [vc, Try.ty, Try.en, ↓reduceIte, Nat.reduceLT, Nat.reduceEqDiff, Nat.reduceSub, Nat.reduceAdd, Nat.reduceMul, Int.natCast_one, Int.natCast_zero, Int.reduceEq, Int.reduceLT, Int.reduceLE, Int.reduceAdd, Int.reduceSub, decide_false, decide_true, Int.reduceToNat, sh_zero, Bool.not_true, Bool.not_false, Option.isNone_some, Option.isNone_none, Option.isSome_some, Option.isSome_none, bv]; try with_reducible intro (base : Nat → Value))
    have hdrop : l.drop i = l[i] :: l.drop (i + 1) := List.drop_eq_getElem_cons hlt
    have htake : l.take (i + 1) = l.take i ++ [l[i]] := List.take_succ_eq_append_getElem hlt
    have hhl : ((l.take i).drop f).length = i - f := by simp; omega
    refine CondP.split (fun hnl => ?_) (fun hnl => ?_)
    · have hnl : l[i] = 10 := bv_inj (by simpa using hnl)
      (simp -dsimp only [vc, Try.ty, Try.en, ↓reduceIte, Nat.reduceLT, Nat.reduceEqDiff, Nat.reduceSub, Nat.reduceAdd, Nat.reduceMul, Int.natCast_one, Int.natCast_zero, Int.reduceEq, Int.reduceLT, Int.reduceLE, Int.reduceAdd, Int.reduceSub, decide_false, decide_true, Int.reduceToNat, sh_zero, Bool.not_true, Bool.not_false, Option.isNone_some, Option.isNone_none, Option.isSome_some, Option.isSome_none]; try with_reducible intro (base : Nat → Value))
      refine RunV.lit 5 (.int .u8 0) 1 (len := 0) (parts := []) [] h (by kernel_rfl) (by kernel_rfl) (by kernel_rfl) (by decide) (by decide) (by kernel_rfl) fun s w1 h1 => ?_
      (simp -dsimp only [vc, Try.ty, Try.en, ↓reduceIte, Nat.reduceLT, Nat.reduceEqDiff, Nat.reduceSub, Nat.reduceAdd, Nat.reduceMul, Int.natCast_one, Int.natCast_zero, Int.reduceEq, Int.reduceLT, Int.reduceLE, Int.reduceAdd, Int.reduceSub, decide_false, decide_true, Int.reduceToNat, sh_zero, Bool.not_true, Bool.not_false, Option.isNone_some, Option.isNone_none, Option.isSome_some, Option.isSome_none]; try with_reducible intro (base : Nat → Value))
      refine RunV.slice 5 1 f i _ _ .i64 .i64 (by kernel_rfl) (by kernel_rfl) (by decide) hfi (by omega) (.inl rfl) (.inl rfl) ?_
      (simp -dsimp only [vc, Try.ty, Try.en, ↓reduceIte, Nat.reduceLT, Nat.reduceEqDiff, Nat.reduceSub, Nat.reduceAdd, Nat.reduceMul, Int.natCast_one, Int.natCast_zero, Int.reduceEq, Int.reduceLT, Int.reduceLE, Int.reduceAdd, Int.reduceSub, decide_false, decide_true, Int.reduceToNat, sh_zero, Bool.not_true, Bool.not_false, Option.isNone_some, Option.isNone_none, Option.isSome_some, Option.isSome_none]; try with_reducible intro (base : Nat → Value))
      refine RunV.append (.int .u8 0) (h1.buf_cel 1 0 rfl (by decide)) (((rdb_piece ha hc hfi).append [_, _] |>.more fun φ hφ => by simp [hφ]).rd (h1.buf_cel 1 0 rfl (by decide))) (by simpa using hhl) (bvs_one _) (by kernel_rfl) (by kernel_rfl) (by decide) (by kernel_rfl) rfl ?_ ?_ fun a2 c2 w2 h2 => ?_
      · rw [show tby Try.prog 5 = 1 from (by kernel_rfl)]; omega
      · simp only [maxLen]; omega
      (simp -dsimp only [vc, Try.ty, Try.en, ↓reduceIte, Nat.reduceLT, Nat.reduceEqDiff, Nat.reduceSub, Nat.reduceAdd, Nat.reduceMul, Int.natCast_one, Int.natCast_zero, Int.reduceEq, Int.reduceLT, Int.reduceLE, Int.reduceAdd, Int.reduceSub, decide_false, decide_true, Int.reduceToNat, sh_zero, Bool.not_true, Bool.not_false, Option.isNone_some, Option.isNone_none, Option.isSome_some, Option.isSome_none]; try with_reducible intro (base : Nat → Value))
      have h2 := h2.keep_buf
      refine RunV.lit1 27 (.slice none 0 0) h2 (by kernel_rfl) (by kernel_rfl) (by kernel_rfl) rfl rfl fun s w3 h3 => ?_
      (simp -dsimp only [vc, Try.ty, Try.en, ↓reduceIte, Nat.reduceLT, Nat.reduceEqDiff, Nat.reduceSub, Nat.reduceAdd, Nat.reduceMul, Int.natCast_one, Int.natCast_zero, Int.reduceEq, Int.reduceLT, Int.reduceLE, Int.reduceAdd, Int.reduceSub, decide_false, decide_true, Int.reduceToNat, sh_zero, Bool.not_true, Bool.not_false, Option.isNone_some, Option.isNone_none, Option.isSome_some, Option.isSome_none]; try with_reducible intro (base : Nat → Value))
      have h3 := h3.keep_cel
      refine RunV.append (.slice none 0 0) h3 (h3.rd mem0) (by simp) (by simp [Value.oneCell']) (by kernel_rfl) (by kernel_rfl) (by decide) (by kernel_rfl) rfl ?_ ?_ fun a4 c4 w4 h4 => ?_
      · rw [show tby Try.prog 27 = 24 from (by kernel_rfl)]; omega
      · simp only [maxLen]; omega
      (simp -dsimp only [vc, Try.ty, Try.en, ↓reduceIte, Nat.reduceLT, Nat.reduceEqDiff, Nat.reduceSub, Nat.reduceAdd, Nat.reduceMul, Int.natCast_one, Int.natCast_zero, Int.reduceEq, Int.reduceLT, Int.reduceLE, Int.reduceAdd, Int.reduceSub, decide_false, decide_true, Int.reduceToNat, sh_zero, Bool.not_true, Bool.not_false, Option.isNone_some, Option.isNone_none, Option.isSome_some, Option.isSome_none]; try with_reducible intro (base : Nat → Value))
      rw [IntWalk.i64_in _ (by omega)]
      refine ⟨⟨i + 1, i + 1, ls ++ [(l.take i).drop f], gs ++ [(a2, c2)], a4, c4, by omega, by omega, ?_, by simp; omega, by simp [hg], ?_, ?_⟩, ?_⟩
      · rw [hfd, hdrop, feed, if_pos hnl]
        simp
      · simp
      · rw [zip_hdr_snoc hg]
        rw [hdr_eq (p := a2) (n := i - f) hhl.symm] at h4
        simp only [List.length_append, List.length_singleton]
        refine (h4.rowsF_snoc (g := (a2, c2)) (l := (l.take i).drop f) hg mem2 ?_).weak ?_
        · simp [byt]
        · intro φ hφ
          simp at hφ ⊢
          rcases hφ with hφ | hφ <;> simp [hφ]
      · simp [num]; omega
    · have hnl : l[i] ≠ 10 := by
        intro e
        simp [e] at hnl
      (simp -dsimp only [vc, Try.ty, Try.en, ↓reduceIte, Nat.reduceLT, Nat.reduceEqDiff, Nat.reduceSub, Nat.reduceAdd, Nat.reduceMul, Int.natCast_one, Int.natCast_zero, Int.reduceEq, Int.reduceLT, Int.reduceLE, Int.reduceAdd, Int.reduceSub, decide_false, decide_true, Int.reduceToNat, sh_zero, Bool.not_true, Bool.not_false, Option.isNone_some, Option.isNone_none, Option.isSome_some, Option.isSome_none]; try with_reducible intro (base : Nat → Value))
      refine CondP.split (fun hov => ?_) (fun hov => ?_)
      · rw [IntWalk.i64_in _ (by omega)] at hov
        have hov : i - f = 65536 := by simp at hov; omega
        (simp -dsimp only [vc, Try.ty, Try.en, ↓reduceIte, Nat.reduceLT, Nat.reduceEqDiff, Nat.reduceSub, Nat.reduceAdd, Nat.reduceMul, Int.natCast_one, Int.natCast_zero, Int.reduceEq, Int.reduceLT, Int.reduceLE, Int.reduceAdd, Int.reduceSub, decide_false, decide_true, Int.reduceToNat, sh_zero, Bool.not_true, Bool.not_false, Option.isNone_some, Option.isNone_none, Option.isSome_some, Option.isSome_none]; try with_reducible intro (base : Nat → Value))
        have hf : feed [] l = (ls, [], true) := by
          rw [hfd, hdrop, feed, if_neg hnl, if_pos (by omega)]
          simp
        rw [hf]
        refine ResP.three rfl (by decide) ⟨la, lc, none, 0, rfl, buf_le h, ?_⟩
        exact (h.keep_buf.shut_rows hg mem0 mem1).weak fun φ hφ => by simp at hφ ⊢; rcases hφ with hφ | hφ <;> simp [hφ]
      · rw [IntWalk.i64_in _ (by omega)] at hov
        have hov : i - f ≠ 65536 := by simp at hov; omega
        (simp -dsimp only [vc, Try.ty, Try.en, ↓reduceIte, Nat.reduceLT, Nat.reduceEqDiff, Nat.reduceSub, Nat.reduceAdd, Nat.reduceMul, Int.natCast_one, Int.natCast_zero, Int.reduceEq, Int.reduceLT, Int.reduceLE, Int.reduceAdd, Int.reduceSub, decide_false, decide_true, Int.reduceToNat, sh_zero, Bool.not_true, Bool.not_false, Option.isNone_some, Option.isNone_none, Option.isSome_some, Option.isSome_none]; try with_reducible intro (base : Nat → Value))
        refine ⟨⟨i + 1, f, ls, gs, la, lc, by omega, by omega, ?_, by omega, hg, by rw [IntWalk.i64_in _ (by omega)]; rfl, h⟩, ?_⟩
        · rw [hfd, hdrop, feed, if_neg hnl, if_neg (by omega), htake, List.drop_append_of_le_length (by simp; omega)]
        · rw [IntWalk.i64_in _ (by omega)]
          simp [num]; omega
  · have hge : i = l.length := by simp at hlt; omega
    subst hge
    have hf : feed [] l = (ls, l.drop f, false) := by
      rw [hfd, List.drop_of_length_le (Nat.le_refl _), List.take_of_length_le (Nat.le_refl _)]
      simp [feed]
    rw [hf]
    (simp -dsimp only [vc, Try.ty, Try.en, ↓reduceIte, Nat.reduceLT, Nat.reduceEqDiff, Nat.reduceSub, Nat.reduceAdd, Nat.reduceMul, Int.natCast_one, Int.natCast_zero, Int.reduceEq, Int.reduceLT, Int.reduceLE, Int.reduceAdd, Int.reduceSub, decide_false, decide_true, Int.reduceToNat, sh_zero, Bool.not_true, Bool.not_false, Option.isNone_some, Option.isNone_none, Option.isSome_some, Option.isSome_none]; try with_reducible intro (base : Nat → Value))
    refine RunV.lit 5 (.int .u8 0) 1 (len := 0) (parts := []) [] h (by kernel_rfl) (by kernel_rfl) (by kernel_rfl) (by decide) (by decide) (by kernel_rfl) fun s w1 h1 => ?_
    (simp -dsimp only [vc, Try.ty, Try.en, ↓reduceIte, Nat.reduceLT, Nat.reduceEqDiff, Nat.reduceSub, Nat.reduceAdd, Nat.reduceMul, Int.natCast_one, Int.natCast_zero, Int.reduceEq, Int.reduceLT, Int.reduceLE, Int.reduceAdd, Int.reduceSub, decide_false, decide_true, Int.reduceToNat, sh_zero, Bool.not_true, Bool.not_false, Option.isNone_some, Option.isNone_none, Option.isSome_some, Option.isSome_none]; try with_reducible intro (base : Nat → Value))
    refine RunV.slice 5 1 f l.length _ _ .i64 .i64 (by kernel_rfl) (by kernel_rfl) (by decide) hfi hc (.inl rfl) (.inr ⟨rfl, rfl⟩) ?_
    (simp -dsimp only [vc, Try.ty, Try.en, ↓reduceIte, Nat.reduceLT, Nat.reduceEqDiff, Nat.reduceSub, Nat.reduceAdd, Nat.reduceMul, Int.natCast_one, Int.natCast_zero, Int.reduceEq, Int.reduceLT, Int.reduceLE, Int.reduceAdd, Int.reduceSub, decide_false, decide_true, Int.reduceToNat, sh_zero, Bool.not_true, Bool.not_false, Option.isNone_some, Option.isNone_none, Option.isSome_some, Option.isSome_none]; try with_reducible intro (base : Nat → Value))
    have hp := rdb_piece ha hc hfi
    rw [List.take_of_length_le (Nat.le_refl _)] at hp
    refine RunV.append (.int .u8 0) (h1.buf_cel 1 0 rfl (by decide)) ((hp.append [_, _] |>.more fun φ hφ => by simp [hφ]).rd (h1.buf_cel 1 0 rfl (by decide))) (by simp) (bvs_one _) (by kernel_rfl) (by kernel_rfl) (by decide) (by kernel_rfl) rfl ?_ ?_ fun a2 c2 w2 h2 => ?_
    · rw [show tby Try.prog 5 = 1 from (by kernel_rfl)]; omega
    · simp only [maxLen]; omega
    (simp -dsimp only [vc, Try.ty, Try.en, ↓reduceIte, Nat.reduceLT, Nat.reduceEqDiff, Nat.reduceSub, Nat.reduceAdd, Nat.reduceMul, Int.natCast_one, Int.natCast_zero, Int.reduceEq, Int.reduceLT, Int.reduceLE, Int.reduceAdd, Int.reduceSub, decide_false, decide_true, Int.reduceToNat, sh_zero, Bool.not_true, Bool.not_false, Option.isNone_some, Option.isNone_none, Option.isSome_some, Option.isSome_none]; try with_reducible intro (base : Nat → Value))
    refine ResP.three rfl (by decide) ⟨la, lc, a2, c2, by simp, buf_le h, ?_⟩
    exact (h2.drop.keep_buf.shut_rows hg mem0 mem1).weak fun φ hφ => by simp at hφ ⊢; rcases hφ with hφ | hφ <;> simp [hφ]
end Go.Proofs.Ytloeiefijmbkiaa
