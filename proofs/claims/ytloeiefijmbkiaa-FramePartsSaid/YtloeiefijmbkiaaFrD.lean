/-
  The frame seat: slices.Grow of nil, slices.Concat. No condition but those in each theorem.
-/
import Derived.Test.YtloeiefijmbkiaaFrC
set_option linter.unusedSimpArgs false
set_option linter.unusedVariables false
set_option linter.unusedSectionVars false
namespace Go.Proofs.Ytloeiefijmbkiaa
open Go.E

theorem grow_ok {w : World} {O : List Res} {L : List Fact} {n : Nat} (h : Ctx w O L) (hn : n ≤ 2^42) :
    Ret Try.prog 23 #[.slice none 0 0, .int .i64 n] w fun v w' => ∃ b d, v = .slice b 0 d ∧ Ctx w' (buf 5 1 b 0 d [] :: O) L := by
  refine Ret.enter 27 Try.func23 rfl ⟨by simp, by simp [Try.ntmps23]⟩ (by kernel_rfl) ?_
  (simp -dsimp only [vc, Try.ty, Try.en, ↓reduceIte, Nat.reduceLT, Nat.reduceEqDiff, Nat.reduceSub, Nat.reduceAdd, Nat.reduceMul, Int.natCast_one, Int.natCast_zero, Int.reduceEq, Int.reduceLT, Int.reduceLE, Int.reduceAdd, Int.reduceSub, decide_false, decide_true, Int.reduceToNat, sh_zero, Bool.not_true, Bool.not_false, Option.isNone_some, Option.isNone_none, Option.isSome_some, Option.isSome_none, Try.ntmps23]; try with_reducible intro (base : Nat → Value))
  refine CondP.split (fun hl => ?_) (fun hl => ?_)
  · simp at hl; omega
  (simp -dsimp only [vc, Try.ty, Try.en, ↓reduceIte, Nat.reduceLT, Nat.reduceEqDiff, Nat.reduceSub, Nat.reduceAdd, Nat.reduceMul, Int.natCast_one, Int.natCast_zero, Int.reduceEq, Int.reduceLT, Int.reduceLE, Int.reduceAdd, Int.reduceSub, decide_false, decide_true, Int.reduceToNat, sh_zero, Bool.not_true, Bool.not_false, Option.isNone_some, Option.isNone_none, Option.isSome_some, Option.isSome_none]; try with_reducible intro (base : Nat → Value))
  refine RunV.cap (T := 5) (by kernel_rfl) ?_
  (simp -dsimp only [vc, Try.ty, Try.en, ↓reduceIte, Nat.reduceLT, Nat.reduceEqDiff, Nat.reduceSub, Nat.reduceAdd, Nat.reduceMul, Int.natCast_one, Int.natCast_zero, Int.reduceEq, Int.reduceLT, Int.reduceLE, Int.reduceAdd, Int.reduceSub, decide_false, decide_true, Int.reduceToNat, sh_zero, Bool.not_true, Bool.not_false, Option.isNone_some, Option.isNone_none, Option.isSome_some, Option.isSome_none]; try with_reducible intro (base : Nat → Value))
  rw [show IntKind.i64.wrap 0 = 0 from rfl, IntWalk.i64_in _ (by omega)]
  refine CondP.split (fun hl => ?_) (fun hl => ?_)
  · have hl : 0 < n := by simp at hl; omega
    (simp -dsimp only [vc, Try.ty, Try.en, ↓reduceIte, Nat.reduceLT, Nat.reduceEqDiff, Nat.reduceSub, Nat.reduceAdd, Nat.reduceMul, Int.natCast_one, Int.natCast_zero, Int.reduceEq, Int.reduceLT, Int.reduceLE, Int.reduceAdd, Int.reduceSub, decide_false, decide_true, Int.reduceToNat, sh_zero, Bool.not_true, Bool.not_false, Option.isNone_some, Option.isNone_none, Option.isSome_some, Option.isSome_none]; try with_reducible intro (base : Nat → Value))
    refine RunV.cap (T := 5) (by kernel_rfl) ?_
    (simp -dsimp only [vc, Try.ty, Try.en, ↓reduceIte, Nat.reduceLT, Nat.reduceEqDiff, Nat.reduceSub, Nat.reduceAdd, Nat.reduceMul, Int.natCast_one, Int.natCast_zero, Int.reduceEq, Int.reduceLT, Int.reduceLE, Int.reduceAdd, Int.reduceSub, decide_false, decide_true, Int.reduceToNat, sh_zero, Bool.not_true, Bool.not_false, Option.isNone_some, Option.isNone_none, Option.isSome_some, Option.isSome_none]; try with_reducible intro (base : Nat → Value))
    refine RunV.slice 5 1 0 0 _ _ .i64 .i64 (by kernel_rfl) (by kernel_rfl) (by decide) (by decide) (by decide) (.inr ⟨rfl, rfl⟩) (.inl rfl) ?_
    (simp -dsimp only [vc, Try.ty, Try.en, ↓reduceIte, Nat.reduceLT, Nat.reduceEqDiff, Nat.reduceSub, Nat.reduceAdd, Nat.reduceMul, Int.natCast_one, Int.natCast_zero, Int.reduceEq, Int.reduceLT, Int.reduceLE, Int.reduceAdd, Int.reduceSub, decide_false, decide_true, Int.reduceToNat, sh_zero, Bool.not_true, Bool.not_false, Option.isNone_some, Option.isNone_none, Option.isSome_some, Option.isSome_none]; try with_reducible intro (base : Nat → Value))
    rw [sa_zero]
    refine RunV.appendMake (T := 5) (kn := .i64) (.int .u8 0) h (by kernel_rfl) (by kernel_rfl) (by kernel_rfl) (by kernel_rfl) rfl hl ?_ ?_ fun b d w1 h1 => ?_
    · simp only [maxLen]; omega
    · simp [show tby Try.prog 5 = 1 from (by kernel_rfl)]; omega
    (simp -dsimp only [vc, Try.ty, Try.en, ↓reduceIte, Nat.reduceLT, Nat.reduceEqDiff, Nat.reduceSub, Nat.reduceAdd, Nat.reduceMul, Int.natCast_one, Int.natCast_zero, Int.reduceEq, Int.reduceLT, Int.reduceLE, Int.reduceAdd, Int.reduceSub, decide_false, decide_true, Int.reduceToNat, sh_zero, Bool.not_true, Bool.not_false, Option.isNone_some, Option.isNone_none, Option.isSome_some, Option.isSome_none]; try with_reducible intro (base : Nat → Value))
    refine RunV.slice 5 1 0 0 _ _ .i64 .i64 (by kernel_rfl) (by kernel_rfl) (by decide) (by decide) (Nat.zero_le _) (.inr ⟨rfl, rfl⟩) (.inl rfl) ?_
    (simp -dsimp only [vc, Try.ty, Try.en, ↓reduceIte, Nat.reduceLT, Nat.reduceEqDiff, Nat.reduceSub, Nat.reduceAdd, Nat.reduceMul, Int.natCast_one, Int.natCast_zero, Int.reduceEq, Int.reduceLT, Int.reduceLE, Int.reduceAdd, Int.reduceSub, decide_false, decide_true, Int.reduceToNat, sh_zero, Bool.not_true, Bool.not_false, Option.isNone_some, Option.isNone_none, Option.isSome_some, Option.isSome_none]; try with_reducible intro (base : Nat → Value))
    exact ResP.one rfl (by decide) ⟨b, d, by simp [sa_zero], h1⟩
  · have hl : n = 0 := by simp at hl; omega
    subst hl
    (simp -dsimp only [vc, Try.ty, Try.en, ↓reduceIte, Nat.reduceLT, Nat.reduceEqDiff, Nat.reduceSub, Nat.reduceAdd, Nat.reduceMul, Int.natCast_one, Int.natCast_zero, Int.reduceEq, Int.reduceLT, Int.reduceLE, Int.reduceAdd, Int.reduceSub, decide_false, decide_true, Int.reduceToNat, sh_zero, Bool.not_true, Bool.not_false, Option.isNone_some, Option.isNone_none, Option.isSome_some, Option.isSome_none]; try with_reducible intro (base : Nat → Value))
    exact ResP.one rfl (by decide) ⟨none, 0, rfl, h.buf_nil _ _⟩

theorem concat_ok {w : World} {O : List Res} {L : List Fact} {a : Option Addr} {c : Nat} {gs : List (Option Addr × Nat)} {ls : List (List UInt8)} (h : Ctx w O L) (hg : gs.length = ls.length) (ha : Rdb O L a (List.zipWith hdr gs ls))
    (hp : ∀ (i : Nat) (g : Option Addr × Nat) (l : List UInt8), gs[i]? = some g → ls[i]? = some l → Rdb O L g.1 (l.map bv)) (hn : ls.length ≤ 2^40) (hm : ls.flatten.length ≤ 2^40) :
    Ret Try.prog 19 #[.slice a ls.length c] w fun v w' => ∃ b d, v = .slice b ls.flatten.length d ∧ Ctx w' (buf 5 1 b ls.flatten.length d (ls.flatten.map bv) :: O) L := by
  refine Ret.enter 28 Try.func19 rfl ⟨by simp, by simp [Try.ntmps19]⟩ (by kernel_rfl) ?_
  (simp -dsimp only [vc, Try.ty, Try.en, ↓reduceIte, Nat.reduceLT, Nat.reduceEqDiff, Nat.reduceSub, Nat.reduceAdd, Nat.reduceMul, Int.natCast_one, Int.natCast_zero, Int.reduceEq, Int.reduceLT, Int.reduceLE, Int.reduceAdd, Int.reduceSub, decide_false, decide_true, Int.reduceToNat, sh_zero, Bool.not_true, Bool.not_false, Option.isNone_some, Option.isNone_none, Option.isSome_some, Option.isSome_none, Try.ntmps19]; try with_reducible intro (base : Nat → Value))
  have htl : ∀ i, i ≤ ls.length → (ls.take i).flatten.length ≤ ls.flatten.length := by
    intro i _
    conv => rhs; rw [← List.take_append_drop i ls]
    simp only [List.flatten_append, List.length_append]
    omega
  refine SemV.loop (fun loc w => ∃ (i : Nat) (v5 v12 v13 v14 v15 v16 v17 v18 v19 v20 v22 : Value), i ≤ ls.length ∧ Ctx w O L ∧ loc = [.slice a ls.length c, undef, .slice none 0 0, .int .i64 (ls.take i).flatten.length, undef, v5, undef, undef, undef, .slice a ls.length c, .int .i64 ls.length, .int .i64 i, v12, v13, v14, v15, v16, v17, v18, v19, v20, undef, v22, undef, undef, undef, undef, undef])
    (fun loc _ => ls.length - num (loc.getD 11 undef)) (by kernel_rfl) ⟨0, _, _, _, _, _, _, _, _, _, _, _, by omega, h, rfl⟩ ?_
  · rintro loc w ⟨i, v5, v12, v13, v14, v15, v16, v17, v18, v19, v20, v22, hi, h, rfl⟩
    (simp -dsimp only [vc, Try.ty, Try.en, ↓reduceIte, Nat.reduceLT, Nat.reduceEqDiff, Nat.reduceSub, Nat.reduceAdd, Nat.reduceMul, Int.natCast_one, Int.natCast_zero, Int.reduceEq, Int.reduceLT, Int.reduceLE, Int.reduceAdd, Int.reduceSub, decide_false, decide_true, Int.reduceToNat, sh_zero, Bool.not_true, Bool.not_false, Option.isNone_some, Option.isNone_none, Option.isSome_some, Option.isSome_none]; try with_reducible intro (base : Nat → Value))
    refine CondP.split (fun hlt => ?_) (fun hlt => ?_)
    · have hlt : i < ls.length := by simpa using hlt
      (simp -dsimp only [vc, Try.ty, Try.en, ↓reduceIte, Nat.reduceLT, Nat.reduceEqDiff, Nat.reduceSub, Nat.reduceAdd, Nat.reduceMul, Int.natCast_one, Int.natCast_zero, Int.reduceEq, Int.reduceLT, Int.reduceLE, Int.reduceAdd, Int.reduceSub, decide_false, decide_true, Int.reduceToNat, sh_zero, Bool.not_true, Bool.not_false, Option.isNone_some, Option.isNone_none, Option.isSome_some, Option.isSome_none]; try with_reducible intro (base : Nat → Value))
      refine ⟨⟨by omega, by omega, (ha.rd h).some (by simp; omega)⟩, ?_⟩
      refine RunV.load1 (ha.rd h) (zip_hdr_get hg hlt) (by kernel_rfl) ?_
      (simp -dsimp only [vc, Try.ty, Try.en, ↓reduceIte, Nat.reduceLT, Nat.reduceEqDiff, Nat.reduceSub, Nat.reduceAdd, Nat.reduceMul, Int.natCast_one, Int.natCast_zero, Int.reduceEq, Int.reduceLT, Int.reduceLE, Int.reduceAdd, Int.reduceSub, decide_false, decide_true, Int.reduceToNat, sh_zero, Bool.not_true, Bool.not_false, Option.isNone_some, Option.isNone_none, Option.isSome_some, Option.isSome_none, hdr]; try with_reducible intro (base : Nat → Value))
      have hs : (ls.take (i + 1)).flatten.length = (ls.take i).flatten.length + ls[i].length := by
        rw [List.take_succ_eq_append_getElem hlt]; simp only [List.flatten_append, List.length_append, List.flatten_cons, List.flatten_nil, List.append_nil]
      have := htl (i + 1) hlt
      rw [IntWalk.i64_in _ (by omega)]
      refine CondP.split (fun hneg => ?_) (fun hneg => ?_)
      · simp at hneg; omega
      (simp -dsimp only [vc, Try.ty, Try.en, ↓reduceIte, Nat.reduceLT, Nat.reduceEqDiff, Nat.reduceSub, Nat.reduceAdd, Nat.reduceMul, Int.natCast_one, Int.natCast_zero, Int.reduceEq, Int.reduceLT, Int.reduceLE, Int.reduceAdd, Int.reduceSub, decide_false, decide_true, Int.reduceToNat, sh_zero, Bool.not_true, Bool.not_false, Option.isNone_some, Option.isNone_none, Option.isSome_some, Option.isSome_none]; try with_reducible intro (base : Nat → Value))
      rw [IntWalk.i64_in _ (by omega)]
      refine ⟨⟨i + 1, _, _, _, _, _, _, _, _, _, _, _, hlt, h, by rw [hs]; rfl⟩, ?_⟩
      · simp [num]; omega
    · have hge : i = ls.length := by simp at hlt; omega
      subst hge
      rw [List.take_of_length_le (Nat.le_refl _)]
      (simp -dsimp only [vc, Try.ty, Try.en, ↓reduceIte, Nat.reduceLT, Nat.reduceEqDiff, Nat.reduceSub, Nat.reduceAdd, Nat.reduceMul, Int.natCast_one, Int.natCast_zero, Int.reduceEq, Int.reduceLT, Int.reduceLE, Int.reduceAdd, Int.reduceSub, decide_false, decide_true, Int.reduceToNat, sh_zero, Bool.not_true, Bool.not_false, Option.isNone_some, Option.isNone_none, Option.isSome_some, Option.isSome_none]; try with_reducible intro (base : Nat → Value))
      refine (grow_ok h (by omega)).mono ?_
      rintro v w1 ⟨b, d, rfl, h1⟩
      (simp -dsimp only [vc, Try.ty, Try.en, ↓reduceIte, Nat.reduceLT, Nat.reduceEqDiff, Nat.reduceSub, Nat.reduceAdd, Nat.reduceMul, Int.natCast_one, Int.natCast_zero, Int.reduceEq, Int.reduceLT, Int.reduceLE, Int.reduceAdd, Int.reduceSub, decide_false, decide_true, Int.reduceToNat, sh_zero, Bool.not_true, Bool.not_false, Option.isNone_some, Option.isNone_none, Option.isSome_some, Option.isSome_none]; try with_reducible intro (base : Nat → Value))
      refine SemV.loop (fun loc w => ∃ (i : Nat) (b : Option Addr) (d : Nat) (v5 v8 v9 v10 v11 v12 v13 v14 v15 v16 v17 v18 v19 v20 v21 v22 v23 v24 : Value), i ≤ ls.length ∧ Ctx w (buf 5 1 b (ls.take i).flatten.length d ((ls.take i).flatten.map bv) :: O) L ∧ loc = [.slice a ls.length c, undef, .slice none 0 0, .int .i64 ls.flatten.length, undef, v5, .slice b (ls.take i).flatten.length d, undef, v8, v9, v10, v11, v12, v13, v14, v15, v16, v17, v18, v19, v20, v21, v22, v23, v24, .slice a ls.length c, .int .i64 ls.length, .int .i64 i])
        (fun loc _ => ls.length - num (loc.getD 27 undef)) (by kernel_rfl) ⟨0, b, d, _, _, _, _, _, _, _, _, _, _, _, _, _, _, _, _, _, _, by omega, by simpa using h1, rfl⟩ ?_
      rintro loc w ⟨i, b, d, v5, v8, v9, v10, v11, v12, v13, v14, v15, v16, v17, v18, v19, v20, v21, v22, v23, v24, hi, h, rfl⟩
      (simp -dsimp only [vc, Try.ty, Try.en, ↓reduceIte, Nat.reduceLT, Nat.reduceEqDiff, Nat.reduceSub, Nat.reduceAdd, Nat.reduceMul, Int.natCast_one, Int.natCast_zero, Int.reduceEq, Int.reduceLT, Int.reduceLE, Int.reduceAdd, Int.reduceSub, decide_false, decide_true, Int.reduceToNat, sh_zero, Bool.not_true, Bool.not_false, Option.isNone_some, Option.isNone_none, Option.isSome_some, Option.isSome_none]; try with_reducible intro (base : Nat → Value))
      refine CondP.split (fun hlt => ?_) (fun hlt => ?_)
      · have hlt : i < ls.length := by simpa using hlt
        have hs : (ls.take (i + 1)).flatten = (ls.take i).flatten ++ ls[i] := by
          rw [List.take_succ_eq_append_getElem hlt]; simp only [List.flatten_append, List.flatten_cons, List.flatten_nil, List.append_nil]
        have hsl := congrArg List.length hs
        rw [List.length_append] at hsl
        have := htl (i + 1) hlt
        (simp -dsimp only [vc, Try.ty, Try.en, ↓reduceIte, Nat.reduceLT, Nat.reduceEqDiff, Nat.reduceSub, Nat.reduceAdd, Nat.reduceMul, Int.natCast_one, Int.natCast_zero, Int.reduceEq, Int.reduceLT, Int.reduceLE, Int.reduceAdd, Int.reduceSub, decide_false, decide_true, Int.reduceToNat, sh_zero, Bool.not_true, Bool.not_false, Option.isNone_some, Option.isNone_none, Option.isSome_some, Option.isSome_none]; try with_reducible intro (base : Nat → Value))
        refine ⟨⟨by omega, by omega, ((ha.cons _).rd h).some (by simp; omega)⟩, ?_⟩
        refine RunV.load1 ((ha.cons _).rd h) (zip_hdr_get hg hlt) (by kernel_rfl) ?_
        (simp -dsimp only [vc, Try.ty, Try.en, ↓reduceIte, Nat.reduceLT, Nat.reduceEqDiff, Nat.reduceSub, Nat.reduceAdd, Nat.reduceMul, Int.natCast_one, Int.natCast_zero, Int.reduceEq, Int.reduceLT, Int.reduceLE, Int.reduceAdd, Int.reduceSub, decide_false, decide_true, Int.reduceToNat, sh_zero, Bool.not_true, Bool.not_false, Option.isNone_some, Option.isNone_none, Option.isSome_some, Option.isSome_none, hdr]; try with_reducible intro (base : Nat → Value))
        refine RunV.append (.int .u8 0) h (((hp i _ _ (List.getElem?_eq_getElem (by omega)) (List.getElem?_eq_getElem hlt)).cons _).rd h) (by simp) (bvs_one _) (by kernel_rfl) (by kernel_rfl) (by decide) (by kernel_rfl) rfl ?_ ?_ fun b2 d2 w2 h2 => ?_
        · rw [show tby Try.prog 5 = 1 from (by kernel_rfl)]; omega
        · simp only [maxLen]; omega
        (simp -dsimp only [vc, Try.ty, Try.en, ↓reduceIte, Nat.reduceLT, Nat.reduceEqDiff, Nat.reduceSub, Nat.reduceAdd, Nat.reduceMul, Int.natCast_one, Int.natCast_zero, Int.reduceEq, Int.reduceLT, Int.reduceLE, Int.reduceAdd, Int.reduceSub, decide_false, decide_true, Int.reduceToNat, sh_zero, Bool.not_true, Bool.not_false, Option.isNone_some, Option.isNone_none, Option.isSome_some, Option.isSome_none]; try with_reducible intro (base : Nat → Value))
        rw [IntWalk.i64_in _ (by omega)]
        refine ⟨⟨i + 1, b2, d2, _, _, _, _, _, _, _, _, _, _, _, _, _, _, _, _, _, _, hlt, ?_, by rw [hsl]; rfl⟩, ?_⟩
        · rw [hs, List.map_append, List.length_append]; exact h2
        · simp [num]; omega
      · have hge : i = ls.length := by simp at hlt; omega
        subst hge
        rw [List.take_of_length_le (Nat.le_refl _)] at *
        (simp -dsimp only [vc, Try.ty, Try.en, ↓reduceIte, Nat.reduceLT, Nat.reduceEqDiff, Nat.reduceSub, Nat.reduceAdd, Nat.reduceMul, Int.natCast_one, Int.natCast_zero, Int.reduceEq, Int.reduceLT, Int.reduceLE, Int.reduceAdd, Int.reduceSub, decide_false, decide_true, Int.reduceToNat, sh_zero, Bool.not_true, Bool.not_false, Option.isNone_some, Option.isNone_none, Option.isSome_some, Option.isSome_none]; try with_reducible intro (base : Nat → Value))
        exact ResP.one rfl (by decide) ⟨b, d, rfl, h⟩
end Go.Proofs.Ytloeiefijmbkiaa
