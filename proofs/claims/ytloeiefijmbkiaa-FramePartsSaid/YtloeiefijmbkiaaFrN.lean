/-
  'scantlinglaw05.FrameParts' returns true whatever comes, and leaves what came as it was. No condition.
-/
import Derived.Test.YtloeiefijmbkiaaRows
import Derived.Test.YtloeiefijmbkiaaFrM
set_option linter.unusedSimpArgs false
set_option linter.unusedVariables false
set_option linter.unusedSectionVars false
namespace Go.Proofs.Ytloeiefijmbkiaa.partsf
open Go.ChangeShapes Go.WideShapes Go.ChangeAt Go.RowKit Go.E Go.Proofs.Ytloeiefijmbkiaa.overf

theorem feed_clean : ∀ (l h : List UInt8), 10 ∉ h → ∀ x ∈ (feed h l).1, 10 ∉ x
  | [], h, _, x, hx => by simp [feed] at hx
  | c :: r, h, hn, x, hx => by
    rw [feed] at hx
    split at hx
    · simp only [List.mem_cons] at hx
      rcases hx with rfl | hx
      · exact hn
      · exact feed_clean r [] (by simp) x hx
    · split at hx
      · simp at hx
      · rename_i hc _
        refine feed_clean r _ (fun hm => ?_) x hx
        rcases List.mem_append.1 hm with hm | hm
        · exact hn hm
        · exact hc (List.mem_singleton.1 hm).symm
def joined (ls : List (List UInt8)) : List UInt8 := ls.flatMap (· ++ [10])
theorem feed_join : ∀ (l h : List UInt8), (feed h l).2.2 = false → joined (feed h l).1 ++ (feed h l).2.1 = h ++ l
  | [], h, _ => by simp [feed, joined]
  | c :: r, h, ho => by
    rw [feed] at ho ⊢
    split
    · rename_i hc
      rw [if_pos hc] at ho
      have := feed_join r [] ho
      simp only [joined, List.flatMap_cons, List.append_assoc] at this ⊢
      rw [this, hc]
      simp
    · rename_i hc
      rw [if_neg hc] at ho
      split
      · rename_i hn
        rw [if_pos hn] at ho
        cases ho
      · rename_i hn
        rw [if_neg hn] at ho
        rw [feed_join r _ ho]
        simp
theorem joined_take {ls : List (List UInt8)} {i : Nat} (hi : i < ls.length) : joined (ls.take (i + 1)) = joined (ls.take i) ++ (ls[i] ++ [10]) := by
  rw [List.take_succ_eq_append_getElem hi]
  simp only [joined, List.flatMap_append, List.flatMap_cons, List.flatMap_nil, List.append_nil]

def wv (n : Nat) : Value := .int .u16 n

theorem walk {w : World} {O : List Res} {L : List Fact} {b ac : Option Addr} {cb cc : Nat} {lb : List UInt8} {cuts : List Nat} (h : Ctx w O L) (hb : Rdb O L b (lb.map bv)) (hc : Rdb O L ac (cuts.map wv)) (hcb : lb.length ≤ cb)
    (hcu : ∀ n ∈ cuts, n ≤ 65535) :
    Ret Try.prog 4 #[.slice b lb.length cb, .slice ac cuts.length cc] w fun v w' => v = .bool true ∧ ∃ L', Ctx w' O L' ∧ ∀ φ ∈ L, φ ∈ L' := by
  refine Ret.enter 18 Try.func4 rfl ⟨by simp, by simp [Try.ntmps4]⟩ (by kernel_rfl) ?_
  (simp -dsimp only [vc, Try.ty, Try.en, ↓reduceIte, Nat.reduceLT, Nat.reduceEqDiff, Nat.reduceSub, Nat.reduceAdd, Nat.reduceMul, Int.natCast_one, Int.natCast_zero, Int.reduceEq, Int.reduceLT, Int.reduceLE, Int.reduceAdd, Int.reduceSub, decide_false, decide_true, Int.reduceToNat, sh_zero, Bool.not_true, Bool.not_false, Option.isNone_some, Option.isNone_none, Option.isSome_some, Option.isSome_none, Try.ntmps4]; try with_reducible intro (base : Nat → Value))
  generalize hd : decide ((16384 : Int) < (lb.length : Int)) = d
  cases d with
  | true =>
    (simp -dsimp only [vc, Try.ty, Try.en, ↓reduceIte, Nat.reduceLT, Nat.reduceEqDiff, Nat.reduceSub, Nat.reduceAdd, Nat.reduceMul, Int.natCast_one, Int.natCast_zero, Int.reduceEq, Int.reduceLT, Int.reduceLE, Int.reduceAdd, Int.reduceSub, decide_false, decide_true, Int.reduceToNat, sh_zero, Bool.not_true, Bool.not_false, Option.isNone_some, Option.isNone_none, Option.isSome_some, Option.isSome_none]; try with_reducible intro (base : Nat → Value))
    refine (works_ok h).mono ?_
    rintro v w1 ⟨rfl, h1⟩
    (simp -dsimp only [vc, Try.ty, Try.en, ↓reduceIte, Nat.reduceLT, Nat.reduceEqDiff, Nat.reduceSub, Nat.reduceAdd, Nat.reduceMul, Int.natCast_one, Int.natCast_zero, Int.reduceEq, Int.reduceLT, Int.reduceLE, Int.reduceAdd, Int.reduceSub, decide_false, decide_true, Int.reduceToNat, sh_zero, Bool.not_true, Bool.not_false, Option.isNone_some, Option.isNone_none, Option.isSome_some, Option.isSome_none]; try with_reducible intro (base : Nat → Value))
    exact ResP.one rfl (by decide) ⟨rfl, L, h1, fun _ hφ => hφ⟩
  | false =>
    have hlb : lb.length ≤ 16384 := by simp at hd; omega
    (simp -dsimp only [vc, Try.ty, Try.en, ↓reduceIte, Nat.reduceLT, Nat.reduceEqDiff, Nat.reduceSub, Nat.reduceAdd, Nat.reduceMul, Int.natCast_one, Int.natCast_zero, Int.reduceEq, Int.reduceLT, Int.reduceLE, Int.reduceAdd, Int.reduceSub, decide_false, decide_true, Int.reduceToNat, sh_zero, Bool.not_true, Bool.not_false, Option.isNone_some, Option.isNone_none, Option.isSome_some, Option.isSome_none]; try with_reducible intro (base : Nat → Value))
    refine CondP.split (fun hd2 => ?_) (fun hd2 => ?_)
    · (simp -dsimp only [vc, Try.ty, Try.en, ↓reduceIte, Nat.reduceLT, Nat.reduceEqDiff, Nat.reduceSub, Nat.reduceAdd, Nat.reduceMul, Int.natCast_one, Int.natCast_zero, Int.reduceEq, Int.reduceLT, Int.reduceLE, Int.reduceAdd, Int.reduceSub, decide_false, decide_true, Int.reduceToNat, sh_zero, Bool.not_true, Bool.not_false, Option.isNone_some, Option.isNone_none, Option.isSome_some, Option.isSome_none]; try with_reducible intro (base : Nat → Value))
      refine (works_ok h).mono ?_
      rintro v w1 ⟨rfl, h1⟩
      (simp -dsimp only [vc, Try.ty, Try.en, ↓reduceIte, Nat.reduceLT, Nat.reduceEqDiff, Nat.reduceSub, Nat.reduceAdd, Nat.reduceMul, Int.natCast_one, Int.natCast_zero, Int.reduceEq, Int.reduceLT, Int.reduceLE, Int.reduceAdd, Int.reduceSub, decide_false, decide_true, Int.reduceToNat, sh_zero, Bool.not_true, Bool.not_false, Option.isNone_some, Option.isNone_none, Option.isSome_some, Option.isSome_none]; try with_reducible intro (base : Nat → Value))
      exact ResP.one rfl (by decide) ⟨rfl, L, h1, fun _ hφ => hφ⟩
    have hlc : cuts.length ≤ 200 := by simp at hd2; omega
    (simp -dsimp only [vc, Try.ty, Try.en, ↓reduceIte, Nat.reduceLT, Nat.reduceEqDiff, Nat.reduceSub, Nat.reduceAdd, Nat.reduceMul, Int.natCast_one, Int.natCast_zero, Int.reduceEq, Int.reduceLT, Int.reduceLE, Int.reduceAdd, Int.reduceSub, decide_false, decide_true, Int.reduceToNat, sh_zero, Bool.not_true, Bool.not_false, Option.isNone_some, Option.isNone_none, Option.isSome_some, Option.isSome_none]; try with_reducible intro (base : Nat → Value))
    refine (new_ok h).mono ?_
    rintro v w1 ⟨f, rfl, h1⟩
    (simp -dsimp only [vc, Try.ty, Try.en, ↓reduceIte, Nat.reduceLT, Nat.reduceEqDiff, Nat.reduceSub, Nat.reduceAdd, Nat.reduceMul, Int.natCast_one, Int.natCast_zero, Int.reduceEq, Int.reduceLT, Int.reduceLE, Int.reduceAdd, Int.reduceSub, decide_false, decide_true, Int.reduceToNat, sh_zero, Bool.not_true, Bool.not_false, Option.isNone_some, Option.isNone_none, Option.isSome_some, Option.isSome_none]; try with_reducible intro (base : Nat → Value))
    refine (new_ok h1).mono ?_
    rintro v w2 ⟨g, rfl, h2⟩
    (simp -dsimp only [vc, Try.ty, Try.en, ↓reduceIte, Nat.reduceLT, Nat.reduceEqDiff, Nat.reduceSub, Nat.reduceAdd, Nat.reduceMul, Int.natCast_one, Int.natCast_zero, Int.reduceEq, Int.reduceLT, Int.reduceLE, Int.reduceAdd, Int.reduceSub, decide_false, decide_true, Int.reduceToNat, sh_zero, Bool.not_true, Bool.not_false, Option.isNone_some, Option.isNone_none, Option.isSome_some, Option.isSome_none]; try with_reducible intro (base : Nat → Value))
    refine (copied_ok h2 ((hb.cons _).cons _) (by omega)).mono ?_
    rintro v w3 ⟨b3, c3, rfl, h3⟩
    (simp -dsimp only [vc, Try.ty, Try.en, ↓reduceIte, Nat.reduceLT, Nat.reduceEqDiff, Nat.reduceSub, Nat.reduceAdd, Nat.reduceMul, Int.natCast_one, Int.natCast_zero, Int.reduceEq, Int.reduceLT, Int.reduceLE, Int.reduceAdd, Int.reduceSub, decide_false, decide_true, Int.reduceToNat, sh_zero, Bool.not_true, Bool.not_false, Option.isNone_some, Option.isNone_none, Option.isSome_some, Option.isSome_none]; try with_reducible intro (base : Nat → Value))
    have h00 : (feed [] []).2.2 = false := rfl
    have hsb : stepB [] lb = lb := step_not lb h00
    have hnb : newL [] lb = (feed [] lb).1 := new_not lb h00
    have hno0 : (feed [] lb).2.2 = false := feed_short lb [] (by simp; omega)
    have hf4 := feedA_ok (all := []) (Ctx.ord [2] h3) Rdb.buf (buf_le h3) (by omega)
    rw [hsb, hnb] at hf4
    refine hf4.mono ?_
    rintro v w4 ⟨la1, lc1, rfl, hlc1, h4⟩
    (simp -dsimp only [vc, Try.ty, Try.en, ↓reduceIte, Nat.reduceLT, Nat.reduceEqDiff, Nat.reduceSub, Nat.reduceAdd, Nat.reduceMul, Int.natCast_one, Int.natCast_zero, Int.reduceEq, Int.reduceLT, Int.reduceLE, Int.reduceAdd, Int.reduceSub, decide_false, decide_true, Int.reduceToNat, sh_zero, Bool.not_true, Bool.not_false, Option.isNone_some, Option.isNone_none, Option.isSome_some, Option.isSome_none, fedV, hsb, hnb, hno0, Bool.false_eq_true]; try with_reducible intro (base : Nat → Value))
    refine SemV.loop (fun loc w => ∃ (i at' : Nat) (gs : List (Option Addr × Nat)) (a9 : Option Addr) (c9 : Nat) (v12 v13 v14 v15 v16 v17 : Value), i ≤ cuts.length + 1 ∧ at' ≤ lb.length ∧ (i = cuts.length + 1 → at' = lb.length) ∧ gs.length = (feed [] (lb.take at')).1.length ∧
        loc = [.slice b lb.length cb, .slice ac cuts.length cc, undef, undef, .bool false, .pointer (some ⟨f, 0, none⟩), .pointer (some ⟨g, 0, none⟩), .slice la1 (feed [] lb).1.length lc1, .int .i64 0, .slice a9 (feed [] (lb.take at')).1.length c9, .int .i64 at', .int .i64 i, v12, v13, v14, v15, v16, v17] ∧
        Ctx w (buf 27 1 a9 (feed [] (lb.take at')).1.length c9 (List.zipWith hdr gs (feed [] (lb.take at')).1) :: frA f lb :: frA g (lb.take at') :: O) (rowsF gs (feed [] (lb.take at')).1 :: rows la1 (feed [] lb).1 :: L))
      (fun loc _ => cuts.length + 1 - num (loc.getD 11 undef)) (by kernel_rfl) ?_ ?_
    · refine ⟨0, 0, [], none, 0, _, _, _, _, _, _, by omega, by omega, by omega, by simp [feed], rfl, ?_⟩
      exact Ctx.rowsF_nil ((h4.del 1).buf_nil 27 1)
    rintro loc w6 ⟨i, at', gs, a9, c9, v12, v13, v14, v15, v16, v17, hi, hat, hend, hg, rfl, h⟩
    (simp -dsimp only [vc, Try.ty, Try.en, ↓reduceIte, Nat.reduceLT, Nat.reduceEqDiff, Nat.reduceSub, Nat.reduceAdd, Nat.reduceMul, Int.natCast_one, Int.natCast_zero, Int.reduceEq, Int.reduceLT, Int.reduceLE, Int.reduceAdd, Int.reduceSub, decide_false, decide_true, Int.reduceToNat, sh_zero, Bool.not_true, Bool.not_false, Option.isNone_some, Option.isNone_none, Option.isSome_some, Option.isSome_none]; try with_reducible intro (base : Nat → Value))
    refine CondP.split (fun hlt => ?_) (fun hlt => ?_)
    · have hlt : i ≤ cuts.length := by simp at hlt; omega
      (simp -dsimp only [vc, Try.ty, Try.en, ↓reduceIte, Nat.reduceLT, Nat.reduceEqDiff, Nat.reduceSub, Nat.reduceAdd, Nat.reduceMul, Int.natCast_one, Int.natCast_zero, Int.reduceEq, Int.reduceLT, Int.reduceLE, Int.reduceAdd, Int.reduceSub, decide_false, decide_true, Int.reduceToNat, sh_zero, Bool.not_true, Bool.not_false, Option.isNone_some, Option.isNone_none, Option.isSome_some, Option.isSome_none]; try with_reducible intro (base : Nat → Value))
      refine CondP.split (fun hlt2 => ?_) (fun hlt2 => ?_)
      · have hlt2 : i < cuts.length := by simpa using hlt2
        (simp -dsimp only [vc, Try.ty, Try.en, ↓reduceIte, Nat.reduceLT, Nat.reduceEqDiff, Nat.reduceSub, Nat.reduceAdd, Nat.reduceMul, Int.natCast_one, Int.natCast_zero, Int.reduceEq, Int.reduceLT, Int.reduceLE, Int.reduceAdd, Int.reduceSub, decide_false, decide_true, Int.reduceToNat, sh_zero, Bool.not_true, Bool.not_false, Option.isNone_some, Option.isNone_none, Option.isSome_some, Option.isSome_none]; try with_reducible intro (base : Nat → Value))
        have hcr := ((hc.append [buf 27 1 a9 (feed [] (lb.take at')).1.length c9 (List.zipWith hdr gs (feed [] (lb.take at')).1), frA f lb, frA g (lb.take at')]).more (L' := rowsF gs (feed [] (lb.take at')).1 :: rows la1 (feed [] lb).1 :: L) fun φ hφ => by simp [hφ])
        refine ⟨⟨by omega, by omega, (hcr.rd h).some (by simp; omega)⟩, ?_⟩
        refine RunV.load1 (v := wv cuts[i]) (hcr.rd h) (by simp [hlt2]) (by kernel_rfl) ?_
        (simp -dsimp only [vc, Try.ty, Try.en, ↓reduceIte, Nat.reduceLT, Nat.reduceEqDiff, Nat.reduceSub, Nat.reduceAdd, Nat.reduceMul, Int.natCast_one, Int.natCast_zero, Int.reduceEq, Int.reduceLT, Int.reduceLE, Int.reduceAdd, Int.reduceSub, decide_false, decide_true, Int.reduceToNat, sh_zero, Bool.not_true, Bool.not_false, Option.isNone_some, Option.isNone_none, Option.isSome_some, Option.isSome_none, wv]; try with_reducible intro (base : Nat → Value))
        have hcu1 := hcu cuts[i] (List.getElem_mem _)
        rw [show IntKind.i64.wrap (cuts[i] : Int) = (cuts[i] : Int) from IntWalk.i64_in _ (by omega)]
        rw [show ((cuts[i] : Int).tmod 100) = ((cuts[i] % 100 : Nat) : Int) from (Int.ofNat_tmod cuts[i] 100).symm]
        rw [IntWalk.i64_in _ (by omega)]
        refine ⟨by decide, RunV.min ?_⟩
        obtain ⟨to', hto, ht1, ht2⟩ : ∃ to' : Nat, (to' : Int) = (if (at' : Int) + ((cuts[i] % 100 : Nat) : Int) < (lb.length : Int) then (at' : Int) + ((cuts[i] % 100 : Nat) : Int) else (lb.length : Int)) ∧ at' ≤ to' ∧ to' ≤ lb.length := by
          split
          · exact ⟨at' + cuts[i] % 100, by omega, by omega, by omega⟩
          · exact ⟨lb.length, rfl, hat, Nat.le_refl _⟩
        have hto3 : i + 1 = cuts.length + 1 → to' = lb.length := by omega
        rw [← hto]
        (simp -dsimp only [vc, Try.ty, Try.en, ↓reduceIte, Nat.reduceLT, Nat.reduceEqDiff, Nat.reduceSub, Nat.reduceAdd, Nat.reduceMul, Int.natCast_one, Int.natCast_zero, Int.reduceEq, Int.reduceLT, Int.reduceLE, Int.reduceAdd, Int.reduceSub, decide_false, decide_true, Int.reduceToNat, sh_zero, Bool.not_true, Bool.not_false, Option.isNone_some, Option.isNone_none, Option.isSome_some, Option.isSome_none]; try with_reducible intro (base : Nat → Value))
        refine RunV.slice 5 1 at' to' _ _ .i64 .i64 (by kernel_rfl) (by kernel_rfl) (by decide) ht1 (by omega) (.inl rfl) (.inl rfl) ?_
        (simp -dsimp only [vc, Try.ty, Try.en, ↓reduceIte, Nat.reduceLT, Nat.reduceEqDiff, Nat.reduceSub, Nat.reduceAdd, Nat.reduceMul, Int.natCast_one, Int.natCast_zero, Int.reduceEq, Int.reduceLT, Int.reduceLE, Int.reduceAdd, Int.reduceSub, decide_false, decide_true, Int.reduceToNat, sh_zero, Bool.not_true, Bool.not_false, Option.isNone_some, Option.isNone_none, Option.isSome_some, Option.isSome_none]; try with_reducible intro (base : Nat → Value))
        have hlen : ((lb.take to').drop at').length = to' - at' := by simp; omega
        have hcp := copied_ok (c := cb - at') h (rdb_piece (((hb.append [_, _, _]).more (L' := rowsF gs (feed [] (lb.take at')).1 :: rows la1 (feed [] lb).1 :: L) fun φ hφ => by simp [hφ])) hcb ht1) (by rw [hlen]; omega)
        rw [hlen] at hcp
        refine hcp.mono ?_
        rintro v w7 ⟨b7, c7, rfl, h7⟩
        (simp -dsimp only [vc, Try.ty, Try.en, ↓reduceIte, Nat.reduceLT, Nat.reduceEqDiff, Nat.reduceSub, Nat.reduceAdd, Nat.reduceMul, Int.natCast_one, Int.natCast_zero, Int.reduceEq, Int.reduceLT, Int.reduceLE, Int.reduceAdd, Int.reduceSub, decide_false, decide_true, Int.reduceToNat, sh_zero, Bool.not_true, Bool.not_false, Option.isNone_some, Option.isNone_none, Option.isSome_some, Option.isSome_none]; try with_reducible intro (base : Nat → Value))
        have hno : (feed [] (lb.take at')).2.2 = false := feed_short _ _ (by simp; omega)
        have hst : stepB (lb.take at') ((lb.take to').drop at') = lb.take to' := by
          rw [step_not _ hno]
          have := List.take_append_drop at' (lb.take to')
          rwa [List.take_take, Nat.min_eq_left ht1] at this
        have hsf := step_feed (lb.take at') ((lb.take to').drop at')
        rw [hst] at hsf
        have hno2 : (feed [] (lb.take to')).2.2 = false := feed_short _ _ (by simp; omega)
        have hfd := feedA_ok (c := c7) (all := lb.take at') (l := (lb.take to').drop at') (Ctx.ord [3] h7) Rdb.buf (by rw [hlen]; exact buf_le h7) (by rw [hlen]; omega)
        rw [hlen, hst] at hfd
        refine hfd.mono ?_
        rintro v w8 ⟨l8, c8, rfl, hl8, h8⟩
        (simp -dsimp only [vc, Try.ty, Try.en, ↓reduceIte, Nat.reduceLT, Nat.reduceEqDiff, Nat.reduceSub, Nat.reduceAdd, Nat.reduceMul, Int.natCast_one, Int.natCast_zero, Int.reduceEq, Int.reduceLT, Int.reduceLE, Int.reduceAdd, Int.reduceSub, decide_false, decide_true, Int.reduceToNat, sh_zero, Bool.not_true, Bool.not_false, Option.isNone_some, Option.isNone_none, Option.isSome_some, Option.isSome_none, fedV, hst, hno2, Bool.false_eq_true]; try with_reducible intro (base : Nat → Value))
        have hfl := feed_lines_le (lb.take to') []
        rw [hsf, List.length_append, List.length_take] at hfl
        refine RunV.appendRows (Ctx.ord [1] (h8.del 1)) hg mem1 mem0 (by omega) fun gs9 a9 c9 w9 hg9 h9 => ?_
        (simp -dsimp only [vc, Try.ty, Try.en, ↓reduceIte, Nat.reduceLT, Nat.reduceEqDiff, Nat.reduceSub, Nat.reduceAdd, Nat.reduceMul, Int.natCast_one, Int.natCast_zero, Int.reduceEq, Int.reduceLT, Int.reduceLE, Int.reduceAdd, Int.reduceSub, decide_false, decide_true, Int.reduceToNat, sh_zero, Bool.not_true, Bool.not_false, Option.isNone_some, Option.isNone_none, Option.isSome_some, Option.isSome_none]; try with_reducible intro (base : Nat → Value))
        rw [IntWalk.i64_in _ (by omega)]
        rw [← hsf] at hg9 h9 ⊢
        refine ⟨⟨i + 1, to', gs9, a9, c9, _, _, _, _, _, _, by omega, by omega, hto3, hg9, rfl, ?_⟩, ?_⟩
        · refine (Ctx.ord [0, 1] h9).weak fun φ hφ => ?_
          simp only [List.mem_cons] at hφ ⊢
          rcases hφ with rfl | rfl | hφ
          · exact .inl rfl
          · exact .inr (.inr (.inr (.inl rfl)))
          · simp [hφ]
        · simp [num]; omega
      · have hlt2 : i = cuts.length := by simp at hlt2; omega
        obtain ⟨to', hto, ht1, ht2⟩ : ∃ to' : Nat, to' = lb.length ∧ at' ≤ to' ∧ to' ≤ lb.length := ⟨_, rfl, hat, Nat.le_refl _⟩
        have hto3 : i + 1 = cuts.length + 1 → to' = lb.length := fun _ => hto
        have hto2 : ((lb.length : Nat) : Int) = ((to' : Nat) : Int) := by rw [hto]
        rw [hto2]
        (simp -dsimp only [vc, Try.ty, Try.en, ↓reduceIte, Nat.reduceLT, Nat.reduceEqDiff, Nat.reduceSub, Nat.reduceAdd, Nat.reduceMul, Int.natCast_one, Int.natCast_zero, Int.reduceEq, Int.reduceLT, Int.reduceLE, Int.reduceAdd, Int.reduceSub, decide_false, decide_true, Int.reduceToNat, sh_zero, Bool.not_true, Bool.not_false, Option.isNone_some, Option.isNone_none, Option.isSome_some, Option.isSome_none]; try with_reducible intro (base : Nat → Value))
        refine RunV.slice 5 1 at' to' _ _ .i64 .i64 (by kernel_rfl) (by kernel_rfl) (by decide) ht1 (by omega) (.inl rfl) (.inl rfl) ?_
        (simp -dsimp only [vc, Try.ty, Try.en, ↓reduceIte, Nat.reduceLT, Nat.reduceEqDiff, Nat.reduceSub, Nat.reduceAdd, Nat.reduceMul, Int.natCast_one, Int.natCast_zero, Int.reduceEq, Int.reduceLT, Int.reduceLE, Int.reduceAdd, Int.reduceSub, decide_false, decide_true, Int.reduceToNat, sh_zero, Bool.not_true, Bool.not_false, Option.isNone_some, Option.isNone_none, Option.isSome_some, Option.isSome_none]; try with_reducible intro (base : Nat → Value))
        have hlen : ((lb.take to').drop at').length = to' - at' := by simp; omega
        have hcp := copied_ok (c := cb - at') h (rdb_piece (((hb.append [_, _, _]).more (L' := rowsF gs (feed [] (lb.take at')).1 :: rows la1 (feed [] lb).1 :: L) fun φ hφ => by simp [hφ])) hcb ht1) (by rw [hlen]; omega)
        rw [hlen] at hcp
        refine hcp.mono ?_
        rintro v w7 ⟨b7, c7, rfl, h7⟩
        (simp -dsimp only [vc, Try.ty, Try.en, ↓reduceIte, Nat.reduceLT, Nat.reduceEqDiff, Nat.reduceSub, Nat.reduceAdd, Nat.reduceMul, Int.natCast_one, Int.natCast_zero, Int.reduceEq, Int.reduceLT, Int.reduceLE, Int.reduceAdd, Int.reduceSub, decide_false, decide_true, Int.reduceToNat, sh_zero, Bool.not_true, Bool.not_false, Option.isNone_some, Option.isNone_none, Option.isSome_some, Option.isSome_none]; try with_reducible intro (base : Nat → Value))
        have hno : (feed [] (lb.take at')).2.2 = false := feed_short _ _ (by simp; omega)
        have hst : stepB (lb.take at') ((lb.take to').drop at') = lb.take to' := by
          rw [step_not _ hno]
          have := List.take_append_drop at' (lb.take to')
          rwa [List.take_take, Nat.min_eq_left ht1] at this
        have hsf := step_feed (lb.take at') ((lb.take to').drop at')
        rw [hst] at hsf
        have hno2 : (feed [] (lb.take to')).2.2 = false := feed_short _ _ (by simp; omega)
        have hfd := feedA_ok (c := c7) (all := lb.take at') (l := (lb.take to').drop at') (Ctx.ord [3] h7) Rdb.buf (by rw [hlen]; exact buf_le h7) (by rw [hlen]; omega)
        rw [hlen, hst] at hfd
        refine hfd.mono ?_
        rintro v w8 ⟨l8, c8, rfl, hl8, h8⟩
        (simp -dsimp only [vc, Try.ty, Try.en, ↓reduceIte, Nat.reduceLT, Nat.reduceEqDiff, Nat.reduceSub, Nat.reduceAdd, Nat.reduceMul, Int.natCast_one, Int.natCast_zero, Int.reduceEq, Int.reduceLT, Int.reduceLE, Int.reduceAdd, Int.reduceSub, decide_false, decide_true, Int.reduceToNat, sh_zero, Bool.not_true, Bool.not_false, Option.isNone_some, Option.isNone_none, Option.isSome_some, Option.isSome_none, fedV, hst, hno2, Bool.false_eq_true]; try with_reducible intro (base : Nat → Value))
        have hfl := feed_lines_le (lb.take to') []
        rw [hsf, List.length_append, List.length_take] at hfl
        refine RunV.appendRows (Ctx.ord [1] (h8.del 1)) hg mem1 mem0 (by omega) fun gs9 a9 c9 w9 hg9 h9 => ?_
        (simp -dsimp only [vc, Try.ty, Try.en, ↓reduceIte, Nat.reduceLT, Nat.reduceEqDiff, Nat.reduceSub, Nat.reduceAdd, Nat.reduceMul, Int.natCast_one, Int.natCast_zero, Int.reduceEq, Int.reduceLT, Int.reduceLE, Int.reduceAdd, Int.reduceSub, decide_false, decide_true, Int.reduceToNat, sh_zero, Bool.not_true, Bool.not_false, Option.isNone_some, Option.isNone_none, Option.isSome_some, Option.isSome_none]; try with_reducible intro (base : Nat → Value))
        rw [IntWalk.i64_in _ (by omega)]
        rw [← hsf] at hg9 h9 ⊢
        refine ⟨⟨i + 1, to', gs9, a9, c9, _, _, _, _, _, _, by omega, by omega, hto3, hg9, rfl, ?_⟩, ?_⟩
        · refine (Ctx.ord [0, 1] h9).weak fun φ hφ => ?_
          simp only [List.mem_cons] at hφ ⊢
          rcases hφ with rfl | rfl | hφ
          · exact .inl rfl
          · exact .inr (.inr (.inr (.inl rfl)))
          · simp [hφ]
        · simp [num]; omega
    · have hge : i = cuts.length + 1 := by simp at hlt; omega
      obtain rfl := hend hge
      rw [List.take_length] at hg h ⊢
      (simp -dsimp only [vc, Try.ty, Try.en, ↓reduceIte, Nat.reduceLT, Nat.reduceEqDiff, Nat.reduceSub, Nat.reduceAdd, Nat.reduceMul, Int.natCast_one, Int.natCast_zero, Int.reduceEq, Int.reduceLT, Int.reduceLE, Int.reduceAdd, Int.reduceSub, decide_false, decide_true, Int.reduceToNat, sh_zero, Bool.not_true, Bool.not_false, Option.isNone_some, Option.isNone_none, Option.isSome_some, Option.isSome_none, eq_self]; try with_reducible intro (base : Nat → Value))
      have h7 := h.keep_buf.shut_rows hg mem0 mem1
      refine (sames_ok h7 (.tail _ (.tail _ (.tail _ (.head _)))) mem0 ?_ fun l hl => ?_).mono ?_
      · have := feed_lines_le lb []
        omega
      · have := feed_line_le lb [] l hl
        simp at this
        omega
      rintro v w8 ⟨rfl, h8⟩
      (simp -dsimp only [vc, Try.ty, Try.en, ↓reduceIte, Nat.reduceLT, Nat.reduceEqDiff, Nat.reduceSub, Nat.reduceAdd, Nat.reduceMul, Int.natCast_one, Int.natCast_zero, Int.reduceEq, Int.reduceLT, Int.reduceLE, Int.reduceAdd, Int.reduceSub, decide_false, decide_true, Int.reduceToNat, sh_zero, Bool.not_true, Bool.not_false, Option.isNone_some, Option.isNone_none, Option.isSome_some, Option.isSome_none, eq_self]; try with_reducible intro (base : Nat → Value))
      refine (held_ok h8).mono ?_
      rintro v w9 ⟨rfl, h9⟩
      (simp -dsimp only [vc, Try.ty, Try.en, ↓reduceIte, Nat.reduceLT, Nat.reduceEqDiff, Nat.reduceSub, Nat.reduceAdd, Nat.reduceMul, Int.natCast_one, Int.natCast_zero, Int.reduceEq, Int.reduceLT, Int.reduceLE, Int.reduceAdd, Int.reduceSub, decide_false, decide_true, Int.reduceToNat, sh_zero, Bool.not_true, Bool.not_false, Option.isNone_some, Option.isNone_none, Option.isSome_some, Option.isSome_none, eq_self]; try with_reducible intro (base : Nat → Value))
      refine (held_ok h9.swap).mono ?_
      rintro v w10 ⟨rfl, h10⟩
      (simp -dsimp only [vc, Try.ty, Try.en, ↓reduceIte, Nat.reduceLT, Nat.reduceEqDiff, Nat.reduceSub, Nat.reduceAdd, Nat.reduceMul, Int.natCast_one, Int.natCast_zero, Int.reduceEq, Int.reduceLT, Int.reduceLE, Int.reduceAdd, Int.reduceSub, decide_false, decide_true, Int.reduceToNat, sh_zero, Bool.not_true, Bool.not_false, Option.isNone_some, Option.isNone_none, Option.isSome_some, Option.isSome_none, eq_self]; try with_reducible intro (base : Nat → Value))
      refine (over_ok h10.swap).mono ?_
      rintro v w11 ⟨rfl, h11⟩
      (simp -dsimp only [vc, Try.ty, Try.en, ↓reduceIte, Nat.reduceLT, Nat.reduceEqDiff, Nat.reduceSub, Nat.reduceAdd, Nat.reduceMul, Int.natCast_one, Int.natCast_zero, Int.reduceEq, Int.reduceLT, Int.reduceLE, Int.reduceAdd, Int.reduceSub, decide_false, decide_true, Int.reduceToNat, sh_zero, Bool.not_true, Bool.not_false, Option.isNone_some, Option.isNone_none, Option.isSome_some, Option.isSome_none, hno0]; try with_reducible intro (base : Nat → Value))
      refine (over_ok h11.swap).mono ?_
      rintro v w12 ⟨rfl, h12⟩
      (simp -dsimp only [vc, Try.ty, Try.en, ↓reduceIte, Nat.reduceLT, Nat.reduceEqDiff, Nat.reduceSub, Nat.reduceAdd, Nat.reduceMul, Int.natCast_one, Int.natCast_zero, Int.reduceEq, Int.reduceLT, Int.reduceLE, Int.reduceAdd, Int.reduceSub, decide_false, decide_true, Int.reduceToNat, sh_zero, Bool.not_true, Bool.not_false, Option.isNone_some, Option.isNone_none, Option.isSome_some, Option.isSome_none, hno0]; try with_reducible intro (base : Nat → Value))
      obtain ⟨gl, hgl, h13⟩ := h12.drop.open_rows (.tail _ (.tail _ (.tail _ (.head _))))
      obtain ⟨LL, hLa, hLr, hLL, h14⟩ : ∃ LL, arr la1 (List.zipWith hdr gl (feed [] lb).1) ∈ LL ∧ rowsF gl (feed [] lb).1 ∈ LL ∧ (∀ φ ∈ L, φ ∈ LL) ∧ Ctx w12 (frA f lb :: O) LL := ⟨_, mem0, mem1, fun φ hφ => by simp [hφ], h13⟩
      have hjn := feed_join lb [] hno0
      rw [List.nil_append] at hjn
      have hjl := congrArg List.length hjn
      rw [List.length_append] at hjl
      have hcl := feed_clean lb [] (by simp)
      have hll := feed_lines_le lb []
      have hline := feed_line_le lb []
      generalize hls : (feed [] lb).1 = ls at hLa hLr hjn hjl hcl hll hline hgl hlc1 ⊢
      have hjt : ∀ i, (joined (ls.take i)).length ≤ (joined ls).length := by
        intro i
        conv => rhs; rw [← List.take_append_drop i ls]
        simp only [joined, List.flatMap_append, List.length_append]
        omega
      refine SemV.loop (fun loc w => ∃ (k : Nat) (a15 : Option Addr) (c15 : Nat) (v12 v13 v14 v17 : Value), k ≤ ls.length ∧
          loc = [.slice b lb.length cb, .slice ac cuts.length cc, undef, undef, .bool false, .pointer (some ⟨f, 0, none⟩), .pointer (some ⟨g, 0, none⟩), .slice la1 ls.length lc1, .int .i64 0, .slice a9 ls.length c9, .int .i64 lb.length, .int .i64 i, v12, v13, v14, .slice a15 (joined (ls.take k)).length c15, .int .i64 k, v17] ∧
          Ctx w (buf 5 1 a15 (joined (ls.take k)).length c15 ((joined (ls.take k)).map bv) :: frA f lb :: O) LL)
        (fun loc _ => ls.length - num (loc.getD 16 undef)) (by kernel_rfl) ⟨0, none, 0, _, _, _, _, by omega, rfl, h14.buf_nil _ _⟩ ?_
      rintro loc w15 ⟨k, a15, c15, v12, v13, v14, v17, hk, rfl, h15⟩
      (simp -dsimp only [vc, Try.ty, Try.en, ↓reduceIte, Nat.reduceLT, Nat.reduceEqDiff, Nat.reduceSub, Nat.reduceAdd, Nat.reduceMul, Int.natCast_one, Int.natCast_zero, Int.reduceEq, Int.reduceLT, Int.reduceLE, Int.reduceAdd, Int.reduceSub, decide_false, decide_true, Int.reduceToNat, sh_zero, Bool.not_true, Bool.not_false, Option.isNone_some, Option.isNone_none, Option.isSome_some, Option.isSome_none]; try with_reducible intro (base : Nat → Value))
      refine CondP.split (fun hlt => ?_) (fun hlt => ?_)
      · have hlt : k < ls.length := by simpa using hlt
        (simp -dsimp only [vc, Try.ty, Try.en, ↓reduceIte, Nat.reduceLT, Nat.reduceEqDiff, Nat.reduceSub, Nat.reduceAdd, Nat.reduceMul, Int.natCast_one, Int.natCast_zero, Int.reduceEq, Int.reduceLT, Int.reduceLE, Int.reduceAdd, Int.reduceSub, decide_false, decide_true, Int.reduceToNat, sh_zero, Bool.not_true, Bool.not_false, Option.isNone_some, Option.isNone_none, Option.isSome_some, Option.isSome_none]; try with_reducible intro (base : Nat → Value))
        have hzk := zip_hdr_get hgl hlt
        have hlk := hline ls[k] (List.getElem_mem _)
        simp only [List.length_nil, Nat.zero_add] at hlk
        have hby := fun {w : World} {O : List Res} (h : Ctx w O LL) => h.rowsF_get (i := k) hLr (List.getElem?_eq_getElem (by omega)) (List.getElem?_eq_getElem hlt)
        refine SemV.loop (fun loc w => ∃ (m : Nat), m ≤ ls[k].length ∧
            loc = [.slice b lb.length cb, .slice ac cuts.length cc, undef, undef, .bool false, .pointer (some ⟨f, 0, none⟩), .pointer (some ⟨g, 0, none⟩), .slice la1 ls.length lc1, .int .i64 0, .slice a9 ls.length c9, .int .i64 lb.length, .int .i64 i, v12, v13, v14, .slice a15 (joined (ls.take k)).length c15, .int .i64 k, .int .i64 m] ∧
            Ctx w (buf 5 1 a15 (joined (ls.take k)).length c15 ((joined (ls.take k)).map bv) :: frA f lb :: O) LL)
          (fun loc _ => ls[k].length - num (loc.getD 17 undef)) (by kernel_rfl) ⟨0, by omega, rfl, h15⟩ ?_
        rintro loc w16 ⟨m, hm, rfl, h16⟩
        (simp -dsimp only [vc, Try.ty, Try.en, ↓reduceIte, Nat.reduceLT, Nat.reduceEqDiff, Nat.reduceSub, Nat.reduceAdd, Nat.reduceMul, Int.natCast_one, Int.natCast_zero, Int.reduceEq, Int.reduceLT, Int.reduceLE, Int.reduceAdd, Int.reduceSub, decide_false, decide_true, Int.reduceToNat, sh_zero, Bool.not_true, Bool.not_false, Option.isNone_some, Option.isNone_none, Option.isSome_some, Option.isSome_none]; try with_reducible intro (base : Nat → Value))
        refine ⟨⟨by omega, by omega, (h16.rd hLa).some (by simp; omega)⟩, ?_⟩
        refine RunV.load1 (h16.rd hLa) hzk (by kernel_rfl) ?_
        (simp -dsimp only [vc, Try.ty, Try.en, ↓reduceIte, Nat.reduceLT, Nat.reduceEqDiff, Nat.reduceSub, Nat.reduceAdd, Nat.reduceMul, Int.natCast_one, Int.natCast_zero, Int.reduceEq, Int.reduceLT, Int.reduceLE, Int.reduceAdd, Int.reduceSub, decide_false, decide_true, Int.reduceToNat, sh_zero, Bool.not_true, Bool.not_false, Option.isNone_some, Option.isNone_none, Option.isSome_some, Option.isSome_none, hdr]; try with_reducible intro (base : Nat → Value))
        refine CondP.split (fun hml => ?_) (fun hml => ?_)
        · have hml : m < ls[k].length := by simpa using hml
          (simp -dsimp only [vc, Try.ty, Try.en, ↓reduceIte, Nat.reduceLT, Nat.reduceEqDiff, Nat.reduceSub, Nat.reduceAdd, Nat.reduceMul, Int.natCast_one, Int.natCast_zero, Int.reduceEq, Int.reduceLT, Int.reduceLE, Int.reduceAdd, Int.reduceSub, decide_false, decide_true, Int.reduceToNat, sh_zero, Bool.not_true, Bool.not_false, Option.isNone_some, Option.isNone_none, Option.isSome_some, Option.isSome_none]; try with_reducible intro (base : Nat → Value))
          refine ⟨⟨by omega, by omega, (h16.rd hLa).some (by simp; omega)⟩, ?_⟩
          refine RunV.load1 (h16.rd hLa) hzk (by kernel_rfl) ?_
          (simp -dsimp only [vc, Try.ty, Try.en, ↓reduceIte, Nat.reduceLT, Nat.reduceEqDiff, Nat.reduceSub, Nat.reduceAdd, Nat.reduceMul, Int.natCast_one, Int.natCast_zero, Int.reduceEq, Int.reduceLT, Int.reduceLE, Int.reduceAdd, Int.reduceSub, decide_false, decide_true, Int.reduceToNat, sh_zero, Bool.not_true, Bool.not_false, Option.isNone_some, Option.isNone_none, Option.isSome_some, Option.isSome_none, hdr]; try with_reducible intro (base : Nat → Value))
          have h17 := hby h16
          refine ⟨⟨by omega, by omega, (h17.rd mem0).some (by simp; omega)⟩, ?_⟩
          refine RunV.load1 (h17.rd mem0) (bv_lt hml) (by kernel_rfl) ?_
          (simp -dsimp only [vc, Try.ty, Try.en, ↓reduceIte, Nat.reduceLT, Nat.reduceEqDiff, Nat.reduceSub, Nat.reduceAdd, Nat.reduceMul, Int.natCast_one, Int.natCast_zero, Int.reduceEq, Int.reduceLT, Int.reduceLE, Int.reduceAdd, Int.reduceSub, decide_false, decide_true, Int.reduceToNat, sh_zero, Bool.not_true, Bool.not_false, Option.isNone_some, Option.isNone_none, Option.isSome_some, Option.isSome_none, bv]; try with_reducible intro (base : Nat → Value))
          refine CondP.split (fun h10 => ?_) (fun h10 => ?_)
          · have h10 := of_decide_eq_true h10
            exact absurd (List.getElem_mem hml) (by rw [bv_inj (c := 10) h10]; exact hcl _ (List.getElem_mem _))
          (simp -dsimp only [vc, Try.ty, Try.en, ↓reduceIte, Nat.reduceLT, Nat.reduceEqDiff, Nat.reduceSub, Nat.reduceAdd, Nat.reduceMul, Int.natCast_one, Int.natCast_zero, Int.reduceEq, Int.reduceLT, Int.reduceLE, Int.reduceAdd, Int.reduceSub, decide_false, decide_true, Int.reduceToNat, sh_zero, Bool.not_true, Bool.not_false, Option.isNone_some, Option.isNone_none, Option.isSome_some, Option.isSome_none]; try with_reducible intro (base : Nat → Value))
          rw [IntWalk.i64_in _ (by omega)]
          refine ⟨⟨m + 1, hml, rfl, h16⟩, ?_⟩
          simp [num]; omega
        · (simp -dsimp only [vc, Try.ty, Try.en, ↓reduceIte, Nat.reduceLT, Nat.reduceEqDiff, Nat.reduceSub, Nat.reduceAdd, Nat.reduceMul, Int.natCast_one, Int.natCast_zero, Int.reduceEq, Int.reduceLT, Int.reduceLE, Int.reduceAdd, Int.reduceSub, decide_false, decide_true, Int.reduceToNat, sh_zero, Bool.not_true, Bool.not_false, Option.isNone_some, Option.isNone_none, Option.isSome_some, Option.isSome_none]; try with_reducible intro (base : Nat → Value))
          refine ⟨⟨by omega, by omega, (h16.rd hLa).some (by simp; omega)⟩, ?_⟩
          refine RunV.load1 (h16.rd hLa) hzk (by kernel_rfl) ?_
          (simp -dsimp only [vc, Try.ty, Try.en, ↓reduceIte, Nat.reduceLT, Nat.reduceEqDiff, Nat.reduceSub, Nat.reduceAdd, Nat.reduceMul, Int.natCast_one, Int.natCast_zero, Int.reduceEq, Int.reduceLT, Int.reduceLE, Int.reduceAdd, Int.reduceSub, decide_false, decide_true, Int.reduceToNat, sh_zero, Bool.not_true, Bool.not_false, Option.isNone_some, Option.isNone_none, Option.isSome_some, Option.isSome_none, hdr]; try with_reducible intro (base : Nat → Value))
          have h17 := hby h16
          have hj1 := hjt (k + 1)
          rw [joined_take hlt, List.length_append, List.length_append, List.length_singleton] at hj1
          refine RunV.append (.int .u8 0) h17 (h17.rd mem0) (by simp) (bvs_one _) (by kernel_rfl) (by kernel_rfl) (by decide) (by kernel_rfl) rfl ?_ ?_ fun a18 c18 w18 h18 => ?_
          · rw [show tby Try.prog 5 = 1 from (by kernel_rfl)]; omega
          · simp only [maxLen]; omega
          (simp -dsimp only [vc, Try.ty, Try.en, ↓reduceIte, Nat.reduceLT, Nat.reduceEqDiff, Nat.reduceSub, Nat.reduceAdd, Nat.reduceMul, Int.natCast_one, Int.natCast_zero, Int.reduceEq, Int.reduceLT, Int.reduceLE, Int.reduceAdd, Int.reduceSub, decide_false, decide_true, Int.reduceToNat, sh_zero, Bool.not_true, Bool.not_false, Option.isNone_some, Option.isNone_none, Option.isSome_some, Option.isSome_none]; try with_reducible intro (base : Nat → Value))
          refine RunV.lit1 5 (.int .u8 0) h18 (by kernel_rfl) (by kernel_rfl) (by kernel_rfl) rfl rfl fun s19 w19 h19 => ?_
          (simp -dsimp only [vc, Try.ty, Try.en, ↓reduceIte, Nat.reduceLT, Nat.reduceEqDiff, Nat.reduceSub, Nat.reduceAdd, Nat.reduceMul, Int.natCast_one, Int.natCast_zero, Int.reduceEq, Int.reduceLT, Int.reduceLE, Int.reduceAdd, Int.reduceSub, decide_false, decide_true, Int.reduceToNat, sh_zero, Bool.not_true, Bool.not_false, Option.isNone_some, Option.isNone_none, Option.isSome_some, Option.isSome_none]; try with_reducible intro (base : Nat → Value))
          refine RunV.append (.int .u8 0) h19.swap h19.rd_own (by simp) (by simp [Value.oneCell']) (by kernel_rfl) (by kernel_rfl) (by decide) (by kernel_rfl) rfl ?_ ?_ fun a20 c20 w20 h20 => ?_
          · rw [show tby Try.prog 5 = 1 from (by kernel_rfl)]; omega
          · simp only [maxLen]; omega
          (simp -dsimp only [vc, Try.ty, Try.en, ↓reduceIte, Nat.reduceLT, Nat.reduceEqDiff, Nat.reduceSub, Nat.reduceAdd, Nat.reduceMul, Int.natCast_one, Int.natCast_zero, Int.reduceEq, Int.reduceLT, Int.reduceLE, Int.reduceAdd, Int.reduceSub, decide_false, decide_true, Int.reduceToNat, sh_zero, Bool.not_true, Bool.not_false, Option.isNone_some, Option.isNone_none, Option.isSome_some, Option.isSome_none]; try with_reducible intro (base : Nat → Value))
          rw [IntWalk.i64_in _ (by omega)]
          have ej : (joined (ls.take k)).map bv ++ ls[k].map bv ++ [Value.int .u8 10] = (joined (ls.take (k + 1))).map bv := by
            rw [joined_take hlt, List.map_append, List.map_append, List.append_assoc]
            rfl
          have el : (joined (ls.take k)).length + ls[k].length + 1 = (joined (ls.take (k + 1))).length := by
            rw [joined_take hlt]; simp; omega
          rw [ej, el] at h20
          rw [el]
          refine ⟨⟨k + 1, a20, c20, _, _, _, _, hlt, rfl, (h20.del 1).tailF⟩, ?_⟩
          simp [num]; omega
      · have hge : k = ls.length := by simp at hlt; omega
        subst hge
        rw [List.take_length] at h15 ⊢
        (simp -dsimp only [vc, Try.ty, Try.en, ↓reduceIte, Nat.reduceLT, Nat.reduceEqDiff, Nat.reduceSub, Nat.reduceAdd, Nat.reduceMul, Int.natCast_one, Int.natCast_zero, Int.reduceEq, Int.reduceLT, Int.reduceLE, Int.reduceAdd, Int.reduceSub, decide_false, decide_true, Int.reduceToNat, sh_zero, Bool.not_true, Bool.not_false, Option.isNone_some, Option.isNone_none, Option.isSome_some, Option.isSome_none]; try with_reducible intro (base : Nat → Value))
        refine (held_ok (Ctx.ord [1] h15)).mono ?_
        rintro v w16 ⟨rfl, h16⟩
        (simp -dsimp only [vc, Try.ty, Try.en, ↓reduceIte, Nat.reduceLT, Nat.reduceEqDiff, Nat.reduceSub, Nat.reduceAdd, Nat.reduceMul, Int.natCast_one, Int.natCast_zero, Int.reduceEq, Int.reduceLT, Int.reduceLE, Int.reduceAdd, Int.reduceSub, decide_false, decide_true, Int.reduceToNat, sh_zero, Bool.not_true, Bool.not_false, Option.isNone_some, Option.isNone_none, Option.isSome_some, Option.isSome_none]; try with_reducible intro (base : Nat → Value))
        rw [show IntKind.i64.wrap (((joined ls).length : Int) + ((feed [] lb).2.1.length : Int)) = (lb.length : Int) by rw [IntWalk.i64_in _ (by omega)]; omega]
        (simp -dsimp only [vc, Try.ty, Try.en, ↓reduceIte, Nat.reduceLT, Nat.reduceEqDiff, Nat.reduceSub, Nat.reduceAdd, Nat.reduceMul, Int.natCast_one, Int.natCast_zero, Int.reduceEq, Int.reduceLT, Int.reduceLE, Int.reduceAdd, Int.reduceSub, decide_false, decide_true, Int.reduceToNat, sh_zero, Bool.not_true, Bool.not_false, Option.isNone_some, Option.isNone_none, Option.isSome_some, Option.isSome_none, eq_self]; try with_reducible intro (base : Nat → Value))
        refine RunV.slice 5 1 0 (joined ls).length none _ .i64 .i64 (by kernel_rfl) (by kernel_rfl) (by decide) (by omega) (by omega) (.inr ⟨rfl, rfl⟩) (.inl rfl) ?_
        rw [sa_zero, Nat.sub_zero, Nat.sub_zero]
        (simp -dsimp only [vc, Try.ty, Try.en, ↓reduceIte, Nat.reduceLT, Nat.reduceEqDiff, Nat.reduceSub, Nat.reduceAdd, Nat.reduceMul, Int.natCast_one, Int.natCast_zero, Int.reduceEq, Int.reduceLT, Int.reduceLE, Int.reduceAdd, Int.reduceSub, decide_false, decide_true, Int.reduceToNat, sh_zero, Bool.not_true, Bool.not_false, Option.isNone_some, Option.isNone_none, Option.isSome_some, Option.isSome_none]; try with_reducible intro (base : Nat → Value))
        have hbt : Rdb O L b ((joined ls).map bv) := by
          have := hb.take (joined ls).length
          rwa [← List.map_take, ← hjn, List.take_left] at this
        refine (same_ok h16 (Rdb.buf.cons _) (((hbt.cons _).cons _).more hLL) (by omega)).mono ?_
        rintro v w17 ⟨rfl, h17⟩
        (simp -dsimp only [vc, Try.ty, Try.en, ↓reduceIte, Nat.reduceLT, Nat.reduceEqDiff, Nat.reduceSub, Nat.reduceAdd, Nat.reduceMul, Int.natCast_one, Int.natCast_zero, Int.reduceEq, Int.reduceLT, Int.reduceLE, Int.reduceAdd, Int.reduceSub, decide_false, decide_true, Int.reduceToNat, sh_zero, Bool.not_true, Bool.not_false, Option.isNone_some, Option.isNone_none, Option.isSome_some, Option.isSome_none, eq_self]; try with_reducible intro (base : Nat → Value))
        refine (works_ok h17).mono ?_
        rintro v w18 ⟨rfl, h18⟩
        (simp -dsimp only [vc, Try.ty, Try.en, ↓reduceIte, Nat.reduceLT, Nat.reduceEqDiff, Nat.reduceSub, Nat.reduceAdd, Nat.reduceMul, Int.natCast_one, Int.natCast_zero, Int.reduceEq, Int.reduceLT, Int.reduceLE, Int.reduceAdd, Int.reduceSub, decide_false, decide_true, Int.reduceToNat, sh_zero, Bool.not_true, Bool.not_false, Option.isNone_some, Option.isNone_none, Option.isSome_some, Option.isSome_none, eq_self]; try with_reducible intro (base : Nat → Value))
        exact ResP.one rfl (by decide) ⟨rfl, LL, h18.drop.drop, hLL⟩

theorem u16_list : ∀ (zs : List Int), (∀ n ∈ zs, (Lit.int .u16 n).wf = true) → ∃ l : List Nat, l.length = zs.length ∧ l.map wv = zs.map (Value.int .u16) ∧ ∀ n ∈ l, n ≤ 65535
  | [], _ => ⟨[], rfl, rfl, by simp⟩
  | z :: zs, h => by
    obtain ⟨l, h1, h2, h3⟩ := u16_list zs fun n hn => h n (by simp [hn])
    have hz : 0 ≤ z ∧ z ≤ 65535 := by simpa [Lit.wf, IntKind.min, IntKind.max, IntKind.signed, IntKind.bits] using h z (by simp)
    refine ⟨z.toNat :: l, by simp [h1], ?_, ?_⟩
    · simp only [List.map_cons, h2, wv]
      congr 2
      omega
    · intro n hn
      rcases List.mem_cons.1 hn with rfl | hn
      · omega
      · exact h3 n hn

theorem arg_words {H : Type} {enc : TypeId × Value → H} {W : World} {b0 base : Nat} {r : Reach} {sp : Nat → Bool} {held : Bool} {v : Value} {d : DataW H} {p : List MemPlace}
    (hv : Value.okWide Try.prog W r b0 42 v) (h : DataW.Trod enc Try.prog W base sp held 42 v d p) : ∃ (a : Option Addr) (c : Nat) (l : List Nat), v = .slice a l.length c ∧ Rd W a (l.map wv) ∧ ∀ n ∈ l, n ≤ 65535 := by
  obtain ⟨a0, n0, c0, rfl⟩ := okWide_slice Try.underlying42 hv
  obtain ⟨fuel, h⟩ := h
  rcases open_ints Try.underlying42 Try.underlying31 (by kernel_rfl) h with ⟨h1, _⟩ | ⟨a, len, cap, zs, h1, _, hl, hm, hz, _, hcell, hwf⟩
  · have e : Value.slice a0 n0 c0 = .slice none 0 0 := by simpa [Value.cells] using h1
    cases e
    exact ⟨none, 0, [], rfl, .inl rfl, by simp⟩
  · have e : Value.slice a0 n0 c0 = .slice (some a) len cap := by simpa [Value.cells] using h1
    cases e
    have hzl : n0 ≤ zs.length := by rw [hz]; split <;> omega
    obtain ⟨l, h1, h2, h3⟩ := u16_list (zs.take n0) fun n hn => hwf n (List.mem_of_mem_take hn)
    have h1' : l.length = n0 := by rw [h1, List.length_take]; omega
    subst h1'
    refine ⟨some a, c0, l, rfl, ?_, h3⟩
    by_cases hl0 : l = []
    · exact .inl (by simp [hl0])
    · refine .inr ⟨a, rfl, spot_none (hcell 0 (by have : 0 < l.length := List.length_pos_iff.2 hl0; omega)), fun k v hk => ?_⟩
      rw [h2] at hk
      have hk' : k < l.length := by
        have := (List.getElem?_eq_some_iff.1 hk).1
        simp at this
        omega
      have := hcell k (by omega)
      rw [List.getElem?_map, List.getElem?_take, if_pos hk', List.getElem?_eq_getElem (by omega)] at hk
      have he : v = Value.int .u16 (zs[k]'(by omega)) := by simpa using hk.symm
      subst he
      simpa [List.getD, List.getElem?_eq_getElem (show k < zs.length by omega)] using this

theorem own : ownKnob Try.prog.godebug = none := by kernel_rfl
theorem laidOut : laidOutB Try.prog = true := by kernel_rfl

theorem contract (H : Type) (enc : TypeId × Value → H) (W : World) (base : Nat) (args : Array Value) (ds gs : List (DataW H)) (before : List MemPlace)
    (hval : ∀ (j : Nat) t v, Try.f4.params[j]? = some t → args[j]? = some v → Value.okWide Try.prog W .any base t v)
    (hW : DataW.Whole enc Try.prog Try.f4.params.toList Rows.framePartsSpec.vars false W args.toList ds gs before) :
    Calls Try.prog 4 args W fun e W' => ∃ v, e = .returned v ∧ Rows.framePartsSpec.post enc Try.prog Try.f4 false true false false W args v W' := by
  have hW' := hW
  obtain ⟨p, q, hA, hV, rfl, hfz, hnd⟩ := hW
  rw [Try.params4] at hA hval
  obtain ⟨v0, vs0, d0, ds0, p0, q0, hargs, rfl, rfl, h0, r0⟩ := trodAll_cons hA
  obtain ⟨v1, vs1, d1, ds1, p1, q1, rfl, rfl, rfl, h1, r1⟩ := trodAll_cons r0
  obtain ⟨rfl, rfl, rfl⟩ := trodAll_nil r1
  obtain rfl : args = #[v0, v1] := by cases args; simp_all
  obtain ⟨rfl, rfl⟩ := trodVars_none hV
  obtain ⟨a, ca, la, rfl, hca, _, hra, _⟩ := arg_bytes Try.underlying27 Try.underlying5 (by kernel_rfl) (hval 0 _ v0 rfl rfl) h0
  obtain ⟨b, cb, lb, rfl, hrb, hlb⟩ := arg_words (hval 1 _ v1 rfl rfl) h1
  refine law_calls 4 laidOut (by kernel_rfl) (by kernel_rfl) Try.underlying4 rfl rfl hW' ?_
  have hc := ((Ctx.begin W).arr_of mem0 hra).arr_of mem1 hrb
  refine (walk hc (.of_arr mem1) (.of_arr mem0) hca hlb).mono ?_
  rintro v w' ⟨rfl, L', h2, hL⟩
  exact ⟨rfl, _, _, h2, hL _ mem2⟩

set_option maxRecDepth 100000 in
theorem lifted (os : Os) (started : os.Started) (H : Type) (enc : TypeId × Value → H) :
    ReturnsInHanded {} Try.checked os 4 .any (Rows.framePartsSpec.pre6 enc Try.prog Try.f4 Rows.framePartsRow.domain false) (Rows.framePartsSpec.post enc Try.prog Try.f4 false true false false) := by
  refine returnsInHanded_of_change (C := Try.checked) (s := Rows.framePartsSpec) own started (by kernel_rfl) Try.func4
    (ChangeSpec.witness6 (enc := enc) (C := Try.checked) (s := Rows.framePartsSpec) false ⟨#[], #[.slice none 0 0, .slice none 0 0], []⟩ 8 (by kernel_rfl) (by kernel_rfl) (by kernel_rfl) (by kernel_rfl)) ?_
  intro W base args ds gs before hval hW _ _
  exact contract H enc W base args ds gs before hval hW

theorem proved : Rows.FramePartsSaid :=
  OpenClaim.holds_of_wide 4 Try.f4 rfl rfl rfl rfl rfl rfl rfl ⟨rfl, rfl, rfl, rfl, rfl⟩ rfl rfl rfl rfl rfl (by kernel_rfl) Try.func4 (by kernel_rfl)
    (of_decide_eq_true (by kernel_rfl)) (by unfold Func.isWrapper; first | (rw [if_pos (by decide +kernel)]; kernel_rfl) | (rw [if_neg (by decide +kernel)]; exact ⟨rfl, rfl⟩))
    (fun os started H enc _ => lifted os started H enc)
end Go.Proofs.Ytloeiefijmbkiaa.partsf
