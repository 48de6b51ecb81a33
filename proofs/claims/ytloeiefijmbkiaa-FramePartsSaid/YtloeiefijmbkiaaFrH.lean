/-
  The frame seat: the anchor, a part's bytes. No condition but those in each theorem.
-/
import Derived.Test.YtloeiefijmbkiaaFrG
import Derived.Test.YtloeiefijmbkiaaFrA
import Derived.Test.YtloeiefijmbkiaaEngI
set_option linter.unusedSimpArgs false
set_option linter.unusedVariables false
set_option linter.unusedSectionVars false
namespace Go.Proofs.Ytloeiefijmbkiaa
open Go.E

theorem works_ok {w : World} {O : List Res} {L : List Fact} (h : Ctx w O L) : Ret Try.prog 7 #[] w fun v w' => v = .bool true ∧ Ctx w' O L := by
  refine Ret.enter 6 Try.func7 rfl ⟨by simp, by simp [Try.ntmps7]⟩ (by kernel_rfl) ?_
  (simp -dsimp only [vc, Try.ty, Try.en, ↓reduceIte, Nat.reduceLT, Nat.reduceEqDiff, Nat.reduceSub, Nat.reduceAdd, Nat.reduceMul, Int.natCast_one, Int.natCast_zero, Int.reduceEq, Int.reduceLT, Int.reduceLE, Int.reduceAdd, Int.reduceSub, decide_false, decide_true, Int.reduceToNat, sh_zero, Bool.not_true, Bool.not_false, Option.isNone_some, Option.isNone_none, Option.isSome_some, Option.isSome_none, Try.ntmps7]; try with_reducible intro (base : Nat → Value))
  refine (new_ok h).mono ?_
  rintro v w1 ⟨f, rfl, h1⟩
  (simp -dsimp only [vc, Try.ty, Try.en, ↓reduceIte, Nat.reduceLT, Nat.reduceEqDiff, Nat.reduceSub, Nat.reduceAdd, Nat.reduceMul, Int.natCast_one, Int.natCast_zero, Int.reduceEq, Int.reduceLT, Int.reduceLE, Int.reduceAdd, Int.reduceSub, decide_false, decide_true, Int.reduceToNat, sh_zero, Bool.not_true, Bool.not_false, Option.isNone_some, Option.isNone_none, Option.isSome_some, Option.isSome_none]; try with_reducible intro (base : Nat → Value))
  refine RunV.lit 5 (.int .u8 0) 1 (len := 2) [.int .u8 97, .int .u8 98] h1 (by kernel_rfl) (by kernel_rfl) (by kernel_rfl) (by decide) (by decide) (by kernel_rfl) fun s w2 h2 => ?_
  (simp -dsimp only [vc, Try.ty, Try.en, ↓reduceIte, Nat.reduceLT, Nat.reduceEqDiff, Nat.reduceSub, Nat.reduceAdd, Nat.reduceMul, Int.natCast_one, Int.natCast_zero, Int.reduceEq, Int.reduceLT, Int.reduceLE, Int.reduceAdd, Int.reduceSub, decide_false, decide_true, Int.reduceToNat, sh_zero, Bool.not_true, Bool.not_false, Option.isNone_some, Option.isNone_none, Option.isSome_some, Option.isSome_none]; try with_reducible intro (base : Nat → Value))
  refine RunV.markConv 5 h2 (by kernel_rfl) (by kernel_rfl) fun w3 h3 => ?_
  (simp -dsimp only [vc, Try.ty, Try.en, ↓reduceIte, Nat.reduceLT, Nat.reduceEqDiff, Nat.reduceSub, Nat.reduceAdd, Nat.reduceMul, Int.natCast_one, Int.natCast_zero, Int.reduceEq, Int.reduceLT, Int.reduceLE, Int.reduceAdd, Int.reduceSub, decide_false, decide_true, Int.reduceToNat, sh_zero, Bool.not_true, Bool.not_false, Option.isNone_some, Option.isNone_none, Option.isSome_some, Option.isSome_none]; try with_reducible intro (base : Nat → Value))
  refine (feed_ok (l := [97, 98]) h3 (by simp) (Rdb.of_arr mem0) (Nat.le_refl 2) (by simp)).mono ?_
  rintro v w4 ⟨la, lc, rfl, hl, h4⟩
  rw [show feed [] [97, 98] = ([], [97, 98], false) from (by kernel_rfl)] at h4 ⊢
  simp only [Bool.false_eq_true, if_false, List.length_nil] at h4 ⊢
  (simp -dsimp only [vc, Try.ty, Try.en, ↓reduceIte, Nat.reduceLT, Nat.reduceEqDiff, Nat.reduceSub, Nat.reduceAdd, Nat.reduceMul, Int.natCast_one, Int.natCast_zero, Int.reduceEq, Int.reduceLT, Int.reduceLE, Int.reduceAdd, Int.reduceSub, decide_false, decide_true, Int.reduceToNat, sh_zero, Bool.not_true, Bool.not_false, Option.isNone_some, Option.isNone_none, Option.isSome_some, Option.isSome_none]; try with_reducible intro (base : Nat → Value))
  refine RunV.lit 5 (.int .u8 0) 1 (len := 4) [.int .u8 99, .int .u8 10, .int .u8 10, .int .u8 100] h4 (by kernel_rfl) (by kernel_rfl) (by kernel_rfl) (by decide) (by decide) (by kernel_rfl) fun s5 w5 h5 => ?_
  (simp -dsimp only [vc, Try.ty, Try.en, ↓reduceIte, Nat.reduceLT, Nat.reduceEqDiff, Nat.reduceSub, Nat.reduceAdd, Nat.reduceMul, Int.natCast_one, Int.natCast_zero, Int.reduceEq, Int.reduceLT, Int.reduceLE, Int.reduceAdd, Int.reduceSub, decide_false, decide_true, Int.reduceToNat, sh_zero, Bool.not_true, Bool.not_false, Option.isNone_some, Option.isNone_none, Option.isSome_some, Option.isSome_none]; try with_reducible intro (base : Nat → Value))
  refine RunV.markConv 5 h5 (by kernel_rfl) (by kernel_rfl) fun w6 h6 => ?_
  (simp -dsimp only [vc, Try.ty, Try.en, ↓reduceIte, Nat.reduceLT, Nat.reduceEqDiff, Nat.reduceSub, Nat.reduceAdd, Nat.reduceMul, Int.natCast_one, Int.natCast_zero, Int.reduceEq, Int.reduceLT, Int.reduceLE, Int.reduceAdd, Int.reduceSub, decide_false, decide_true, Int.reduceToNat, sh_zero, Bool.not_true, Bool.not_false, Option.isNone_some, Option.isNone_none, Option.isSome_some, Option.isSome_none]; try with_reducible intro (base : Nat → Value))
  refine (feed_ok (l := [99, 10, 10, 100]) h6 (by simp) (Rdb.of_arr mem0) (Nat.le_refl 4) (by simp)).mono ?_
  rintro v w7 ⟨lb, lbc, rfl, hlb, h7⟩
  rw [show feed [97, 98] [99, 10, 10, 100] = ([[97, 98, 99], []], [100], false) from (by kernel_rfl)] at h7 ⊢
  simp only [Bool.false_eq_true, if_false, List.length_nil, List.length_cons, Nat.zero_add, Nat.reduceAdd] at h7 ⊢
  (simp -dsimp only [vc, Try.ty, Try.en, ↓reduceIte, Nat.reduceLT, Nat.reduceEqDiff, Nat.reduceSub, Nat.reduceAdd, Nat.reduceMul, Int.natCast_one, Int.natCast_zero, Int.reduceEq, Int.reduceLT, Int.reduceLE, Int.reduceAdd, Int.reduceSub, decide_false, decide_true, Int.reduceToNat, sh_zero, Bool.not_true, Bool.not_false, Option.isNone_some, Option.isNone_none, Option.isSome_some, Option.isSome_none]; try with_reducible intro (base : Nat → Value))
  refine RunV.lit 5 (.int .u8 0) 1 (len := 3) [.int .u8 97, .int .u8 98, .int .u8 99] h7 (by kernel_rfl) (by kernel_rfl) (by kernel_rfl) (by decide) (by decide) (by kernel_rfl) fun s8 w8 h8 => ?_
  (simp -dsimp only [vc, Try.ty, Try.en, ↓reduceIte, Nat.reduceLT, Nat.reduceEqDiff, Nat.reduceSub, Nat.reduceAdd, Nat.reduceMul, Int.natCast_one, Int.natCast_zero, Int.reduceEq, Int.reduceLT, Int.reduceLE, Int.reduceAdd, Int.reduceSub, decide_false, decide_true, Int.reduceToNat, sh_zero, Bool.not_true, Bool.not_false, Option.isNone_some, Option.isNone_none, Option.isSome_some, Option.isSome_none]; try with_reducible intro (base : Nat → Value))
  refine RunV.markConv 5 h8 (by kernel_rfl) (by kernel_rfl) fun w9 h9 => ?_
  (simp -dsimp only [vc, Try.ty, Try.en, ↓reduceIte, Nat.reduceLT, Nat.reduceEqDiff, Nat.reduceSub, Nat.reduceAdd, Nat.reduceMul, Int.natCast_one, Int.natCast_zero, Int.reduceEq, Int.reduceLT, Int.reduceLE, Int.reduceAdd, Int.reduceSub, decide_false, decide_true, Int.reduceToNat, sh_zero, Bool.not_true, Bool.not_false, Option.isNone_some, Option.isNone_none, Option.isSome_some, Option.isSome_none]; try with_reducible intro (base : Nat → Value))
  refine RunV.lit 27 (.slice none 0 0) 1 (len := 2) [.slice (some ⟨s8, 0, none⟩) 3 3, .slice none 0 0] h9 (by kernel_rfl) (by kernel_rfl) (by kernel_rfl) (by decide) (by decide) (by kernel_rfl) fun s10 w10 h10 => ?_
  (simp -dsimp only [vc, Try.ty, Try.en, ↓reduceIte, Nat.reduceLT, Nat.reduceEqDiff, Nat.reduceSub, Nat.reduceAdd, Nat.reduceMul, Int.natCast_one, Int.natCast_zero, Int.reduceEq, Int.reduceLT, Int.reduceLE, Int.reduceAdd, Int.reduceSub, decide_false, decide_true, Int.reduceToNat, sh_zero, Bool.not_true, Bool.not_false, Option.isNone_some, Option.isNone_none, Option.isSome_some, Option.isSome_none]; try with_reducible intro (base : Nat → Value))
  have h11 : Ctx w10 (fr f [100] false :: O) (rows (some ⟨s10, 0, none⟩) [[97, 98, 99], []] :: rows lb [[97, 98, 99], []] :: L) := by
    have h12 := h10.keep_cel
    have h13 := ((h12.rowsF_nil.add (φ := byt none []) fun _ _ _ => .inl rfl).add (φ := byt (some ⟨s8, 0, none⟩) [97, 98, 99]) fun Γ _ hL => hL (arr (some ⟨s8, 0, none⟩) [.int .u8 97, .int .u8 98, .int .u8 99]) mem3)
    have h14 := (h13.rowsF_snoc (hs := []) (ls := []) (g := (some ⟨s8, 0, none⟩, 3)) (l := [97, 98, 99]) rfl mem2 mem0).rowsF_snoc (hs := [(some ⟨s8, 0, none⟩, 3)]) (ls := [[97, 98, 99]]) (g := (none, 0)) (l := []) rfl mem0 mem2
    refine (h14.shut_rows (a := some ⟨s10, 0, none⟩) (ls := [[97, 98, 99], []]) (hs := [(some ⟨s8, 0, none⟩, 3), (none, 0)]) rfl ?_ mem0).weak ?_
    · exact .tail _ (.tail _ (.tail _ (.tail _ (.tail _ (.head _)))))
    · intro φ hφ
      simp only [List.mem_cons] at hφ ⊢
      rcases hφ with rfl | rfl | hφ <;> simp [*]
  refine (sames_ok h11 mem1 mem0 (by simp) (by simp)).mono ?_
  rintro v w11 ⟨rfl, h15⟩
  (simp -dsimp only [vc, Try.ty, Try.en, ↓reduceIte, Nat.reduceLT, Nat.reduceEqDiff, Nat.reduceSub, Nat.reduceAdd, Nat.reduceMul, Int.natCast_one, Int.natCast_zero, Int.reduceEq, Int.reduceLT, Int.reduceLE, Int.reduceAdd, Int.reduceSub, decide_false, decide_true, Int.reduceToNat, sh_zero, Bool.not_true, Bool.not_false, Option.isNone_some, Option.isNone_none, Option.isSome_some, Option.isSome_none]; try with_reducible intro (base : Nat → Value))
  refine (held_ok h15).mono ?_
  rintro v w12 ⟨rfl, h16⟩
  rw [show ([100] : List UInt8).length = 1 from rfl]
  (simp -dsimp only [vc, Try.ty, Try.en, ↓reduceIte, Nat.reduceLT, Nat.reduceEqDiff, Nat.reduceSub, Nat.reduceAdd, Nat.reduceMul, Int.natCast_one, Int.natCast_zero, Int.reduceEq, Int.reduceLT, Int.reduceLE, Int.reduceAdd, Int.reduceSub, decide_false, decide_true, Int.reduceToNat, sh_zero, Bool.not_true, Bool.not_false, Option.isNone_some, Option.isNone_none, Option.isSome_some, Option.isSome_none]; try with_reducible intro (base : Nat → Value))
  refine (over_ok h16).mono ?_
  rintro v w13 ⟨rfl, h17⟩
  (simp -dsimp only [vc, Try.ty, Try.en, ↓reduceIte, Nat.reduceLT, Nat.reduceEqDiff, Nat.reduceSub, Nat.reduceAdd, Nat.reduceMul, Int.natCast_one, Int.natCast_zero, Int.reduceEq, Int.reduceLT, Int.reduceLE, Int.reduceAdd, Int.reduceSub, decide_false, decide_true, Int.reduceToNat, sh_zero, Bool.not_true, Bool.not_false, Option.isNone_some, Option.isNone_none, Option.isSome_some, Option.isSome_none]; try with_reducible intro (base : Nat → Value))
  exact ResP.one rfl (by decide) ⟨rfl, h17.drop.tailF.tailF⟩

theorem bytes_ok {w : World} {O : List Res} {L : List Fact} {a : Option Addr} {c most : Nat} {l : List UInt8} {tm : Int} (h : Ctx w O L) (ha : Rdb O L a (l.map bv)) (hl : l.length ≤ 2^48) (ht : 0 ≤ tm ∧ tm ≤ 65535) (hm : most ≤ 2^40) :
    Ret Try.prog 9 #[.agg #[.slice a l.length c, .int .u16 tm], .int .i64 most] w fun v w' => ∃ (out : List UInt8) (b : Option Addr) (d : Nat), v = .slice b out.length d ∧ out.length ≤ most ∧ Ctx w' (buf 5 1 b out.length d (out.map bv) :: O) L := by
  refine Ret.enter 7 Try.func9 rfl ⟨by simp, by simp [Try.ntmps9]⟩ (by kernel_rfl) ?_
  (simp -dsimp only [vc, Try.ty, Try.en, ↓reduceIte, Nat.reduceLT, Nat.reduceEqDiff, Nat.reduceSub, Nat.reduceAdd, Nat.reduceMul, Int.natCast_one, Int.natCast_zero, Int.reduceEq, Int.reduceLT, Int.reduceLE, Int.reduceAdd, Int.reduceSub, decide_false, decide_true, Int.reduceToNat, sh_zero, Bool.not_true, Bool.not_false, Option.isNone_some, Option.isNone_none, Option.isSome_some, Option.isSome_none, Try.ntmps9]; try with_reducible intro (base : Nat → Value))
  refine RunV.boxK h fun q w1 h1 => ?_
  (simp -dsimp only [vc, Try.ty, Try.en, ↓reduceIte, Nat.reduceLT, Nat.reduceEqDiff, Nat.reduceSub, Nat.reduceAdd, Nat.reduceMul, Int.natCast_one, Int.natCast_zero, Int.reduceEq, Int.reduceLT, Int.reduceLE, Int.reduceAdd, Int.reduceSub, decide_false, decide_true, Int.reduceToNat, sh_zero, Bool.not_true, Bool.not_false, Option.isNone_some, Option.isNone_none, Option.isSome_some, Option.isSome_none]; try with_reducible intro (base : Nat → Value))
  refine SemV.loop (fun loc w => ∃ (i : Nat) (out : List UInt8) (b : Option Addr) (d : Nat), i ≤ 65536 ∧ out.length ≤ most ∧ loc = [.agg #[.slice a l.length c, .int .u16 tm], .int .i64 most, .pointer (some q), undef, .slice none 0 0, .slice b out.length d, .int .i64 i] ∧
      Ctx w (buf 5 1 b out.length d (out.map bv) :: O) (arr (some q) [.slice a l.length c, .int .u16 tm] :: L))
    (fun loc _ => 65536 - num (loc.getD 6 undef)) (by kernel_rfl) ⟨0, [], none, 0, by omega, by simp, rfl, h1.buf_nil _ _⟩ ?_
  rintro loc w ⟨i, out, b, d, hi, ho, rfl, h⟩
  (simp -dsimp only [vc, Try.ty, Try.en, ↓reduceIte, Nat.reduceLT, Nat.reduceEqDiff, Nat.reduceSub, Nat.reduceAdd, Nat.reduceMul, Int.natCast_one, Int.natCast_zero, Int.reduceEq, Int.reduceLT, Int.reduceLE, Int.reduceAdd, Int.reduceSub, decide_false, decide_true, Int.reduceToNat, sh_zero, Bool.not_true, Bool.not_false, Option.isNone_some, Option.isNone_none, Option.isSome_some, Option.isSome_none]; try with_reducible intro (base : Nat → Value))
  refine RunV.load1 (h.rd mem0) rfl (by kernel_rfl) ?_
  (simp -dsimp only [vc, Try.ty, Try.en, ↓reduceIte, Nat.reduceLT, Nat.reduceEqDiff, Nat.reduceSub, Nat.reduceAdd, Nat.reduceMul, Int.natCast_one, Int.natCast_zero, Int.reduceEq, Int.reduceLT, Int.reduceLE, Int.reduceAdd, Int.reduceSub, decide_false, decide_true, Int.reduceToNat, sh_zero, Bool.not_true, Bool.not_false, Option.isNone_some, Option.isNone_none, Option.isSome_some, Option.isSome_none]; try with_reducible intro (base : Nat → Value))
  rw [IntWalk.i64_in _ (by omega)]
  generalize hd : decide ((i : Int) ≤ tm) = dd
  cases dd with
  | false =>
    (simp -dsimp only [vc, Try.ty, Try.en, ↓reduceIte, Nat.reduceLT, Nat.reduceEqDiff, Nat.reduceSub, Nat.reduceAdd, Nat.reduceMul, Int.natCast_one, Int.natCast_zero, Int.reduceEq, Int.reduceLT, Int.reduceLE, Int.reduceAdd, Int.reduceSub, decide_false, decide_true, Int.reduceToNat, sh_zero, Bool.not_true, Bool.not_false, Option.isNone_some, Option.isNone_none, Option.isSome_some, Option.isSome_none]; try with_reducible intro (base : Nat → Value))
    exact ResP.one rfl (by decide) ⟨out, b, d, rfl, ho, h.tailF⟩
  | true =>
    have hd : (i : Int) ≤ tm := by simpa using hd
    (simp -dsimp only [vc, Try.ty, Try.en, ↓reduceIte, Nat.reduceLT, Nat.reduceEqDiff, Nat.reduceSub, Nat.reduceAdd, Nat.reduceMul, Int.natCast_one, Int.natCast_zero, Int.reduceEq, Int.reduceLT, Int.reduceLE, Int.reduceAdd, Int.reduceSub, decide_false, decide_true, Int.reduceToNat, sh_zero, Bool.not_true, Bool.not_false, Option.isNone_some, Option.isNone_none, Option.isSome_some, Option.isSome_none]; try with_reducible intro (base : Nat → Value))
    refine RunV.load0 (h.rd mem0) rfl (by kernel_rfl) ?_
    (simp -dsimp only [vc, Try.ty, Try.en, ↓reduceIte, Nat.reduceLT, Nat.reduceEqDiff, Nat.reduceSub, Nat.reduceAdd, Nat.reduceMul, Int.natCast_one, Int.natCast_zero, Int.reduceEq, Int.reduceLT, Int.reduceLE, Int.reduceAdd, Int.reduceSub, decide_false, decide_true, Int.reduceToNat, sh_zero, Bool.not_true, Bool.not_false, Option.isNone_some, Option.isNone_none, Option.isSome_some, Option.isSome_none]; try with_reducible intro (base : Nat → Value))
    generalize hd2 : decide ((0 : Int) < (l.length : Int)) = d2
    cases d2 with
    | false =>
      (simp -dsimp only [vc, Try.ty, Try.en, ↓reduceIte, Nat.reduceLT, Nat.reduceEqDiff, Nat.reduceSub, Nat.reduceAdd, Nat.reduceMul, Int.natCast_one, Int.natCast_zero, Int.reduceEq, Int.reduceLT, Int.reduceLE, Int.reduceAdd, Int.reduceSub, decide_false, decide_true, Int.reduceToNat, sh_zero, Bool.not_true, Bool.not_false, Option.isNone_some, Option.isNone_none, Option.isSome_some, Option.isSome_none]; try with_reducible intro (base : Nat → Value))
      exact ResP.one rfl (by decide) ⟨out, b, d, rfl, ho, h.tailF⟩
    | true =>
      (simp -dsimp only [vc, Try.ty, Try.en, ↓reduceIte, Nat.reduceLT, Nat.reduceEqDiff, Nat.reduceSub, Nat.reduceAdd, Nat.reduceMul, Int.natCast_one, Int.natCast_zero, Int.reduceEq, Int.reduceLT, Int.reduceLE, Int.reduceAdd, Int.reduceSub, decide_false, decide_true, Int.reduceToNat, sh_zero, Bool.not_true, Bool.not_false, Option.isNone_some, Option.isNone_none, Option.isSome_some, Option.isSome_none]; try with_reducible intro (base : Nat → Value))
      refine RunV.load0 (h.rd mem0) rfl (by kernel_rfl) ?_
      (simp -dsimp only [vc, Try.ty, Try.en, ↓reduceIte, Nat.reduceLT, Nat.reduceEqDiff, Nat.reduceSub, Nat.reduceAdd, Nat.reduceMul, Int.natCast_one, Int.natCast_zero, Int.reduceEq, Int.reduceLT, Int.reduceLE, Int.reduceAdd, Int.reduceSub, decide_false, decide_true, Int.reduceToNat, sh_zero, Bool.not_true, Bool.not_false, Option.isNone_some, Option.isNone_none, Option.isSome_some, Option.isSome_none]; try with_reducible intro (base : Nat → Value))
      rw [IntWalk.i64_in _ (by omega)]
      refine CondP.split (fun hle => ?_) (fun hle => ?_)
      · have hle : out.length + l.length ≤ most := by simp at hle; omega
        (simp -dsimp only [vc, Try.ty, Try.en, ↓reduceIte, Nat.reduceLT, Nat.reduceEqDiff, Nat.reduceSub, Nat.reduceAdd, Nat.reduceMul, Int.natCast_one, Int.natCast_zero, Int.reduceEq, Int.reduceLT, Int.reduceLE, Int.reduceAdd, Int.reduceSub, decide_false, decide_true, Int.reduceToNat, sh_zero, Bool.not_true, Bool.not_false, Option.isNone_some, Option.isNone_none, Option.isSome_some, Option.isSome_none]; try with_reducible intro (base : Nat → Value))
        refine RunV.load0 (h.rd mem0) rfl (by kernel_rfl) ?_
        (simp -dsimp only [vc, Try.ty, Try.en, ↓reduceIte, Nat.reduceLT, Nat.reduceEqDiff, Nat.reduceSub, Nat.reduceAdd, Nat.reduceMul, Int.natCast_one, Int.natCast_zero, Int.reduceEq, Int.reduceLT, Int.reduceLE, Int.reduceAdd, Int.reduceSub, decide_false, decide_true, Int.reduceToNat, sh_zero, Bool.not_true, Bool.not_false, Option.isNone_some, Option.isNone_none, Option.isSome_some, Option.isSome_none]; try with_reducible intro (base : Nat → Value))
        refine RunV.append (.int .u8 0) h (((ha.cons _).more fun φ hφ => by simp [hφ]).rd h) (by simp) (bvs_one _) (by kernel_rfl) (by kernel_rfl) (by decide) (by kernel_rfl) rfl ?_ ?_ fun a5 c5 w5 h5 => ?_
        · rw [show tby Try.prog 5 = 1 from (by kernel_rfl)]; omega
        · simp only [maxLen]; omega
        rw [← List.length_append, ← List.map_append] at h5
        rw [← List.length_append]
        (simp -dsimp only [vc, Try.ty, Try.en, ↓reduceIte, Nat.reduceLT, Nat.reduceEqDiff, Nat.reduceSub, Nat.reduceAdd, Nat.reduceMul, Int.natCast_one, Int.natCast_zero, Int.reduceEq, Int.reduceLT, Int.reduceLE, Int.reduceAdd, Int.reduceSub, decide_false, decide_true, Int.reduceToNat, sh_zero, Bool.not_true, Bool.not_false, Option.isNone_some, Option.isNone_none, Option.isSome_some, Option.isSome_none]; try with_reducible intro (base : Nat → Value))
        rw [IntWalk.i64_in _ (by omega)]
        refine ⟨⟨i + 1, out ++ l, a5, c5, by omega, by simp; omega, rfl, h5⟩, ?_⟩
        simp [num]; omega
      · (simp -dsimp only [vc, Try.ty, Try.en, ↓reduceIte, Nat.reduceLT, Nat.reduceEqDiff, Nat.reduceSub, Nat.reduceAdd, Nat.reduceMul, Int.natCast_one, Int.natCast_zero, Int.reduceEq, Int.reduceLT, Int.reduceLE, Int.reduceAdd, Int.reduceSub, decide_false, decide_true, Int.reduceToNat, sh_zero, Bool.not_true, Bool.not_false, Option.isNone_some, Option.isNone_none, Option.isSome_some, Option.isSome_none]; try with_reducible intro (base : Nat → Value))
        exact ResP.one rfl (by decide) ⟨out, b, d, rfl, ho, h.tailF⟩
end Go.Proofs.Ytloeiefijmbkiaa
