/-
  The frame seat: FramePlays. No condition but those in each theorem.
-/
import Derived.Test.YtloeiefijmbkiaaFrI
set_option linter.unusedSimpArgs false
set_option linter.unusedVariables false
set_option linter.unusedSectionVars false
namespace Go.Proofs.Ytloeiefijmbkiaa
open Go.E

structure PartZ where
  a : Option Addr
  c : Nat
  b : List UInt8
  t : Int
def pcl (p : PartZ) : List Value := [.slice p.a p.b.length p.c, .int .u16 p.t]
theorem pcl_at : ∀ (ps : List PartZ) (i : Nat) (h : i < ps.length), ((ps.flatMap pcl).drop (i * 2)).take 2 = pcl ps[i]
  | p :: ps, 0, _ => by simp [pcl]
  | p :: ps, i + 1, h => by
    rw [List.flatMap_cons, List.drop_append, show (i + 1) * 2 = i * 2 + 2 by omega]
    have e : List.drop (i * 2 + 2) (pcl p) = [] := List.drop_of_length_le (by simp [pcl])
    rw [e, List.nil_append, show i * 2 + 2 - (pcl p).length = i * 2 by simp [pcl]]
    exact pcl_at ps i (by simpa using h)
theorem pcl_len : ∀ (ps : List PartZ), (ps.flatMap pcl).length = ps.length * 2
  | [] => rfl
  | p :: ps => by rw [List.flatMap_cons, List.length_append, pcl_len ps]; simp [pcl]; omega

theorem plays_ok {w : World} {O : List Res} {L : List Fact} {pa : Option Addr} {pc : Nat} {ps : List PartZ} (h : Ctx w O L) (ha : Rdb O L pa (ps.flatMap pcl)) (hn : ps.length ≤ 2^48)
    (hp : ∀ p ∈ ps, Rdb O L p.a (p.b.map bv) ∧ p.b.length ≤ 2^48 ∧ 0 ≤ p.t ∧ p.t ≤ 65535) :
    Ret Try.prog 3 #[.slice pa ps.length pc] w fun v w' => v = .bool true ∧ Ctx w' O L := by
  refine Ret.enter 16 Try.func3 rfl ⟨by simp, by simp [Try.ntmps3]⟩ (by kernel_rfl) ?_
  (simp -dsimp only [vc, Try.ty, Try.en, ↓reduceIte, Nat.reduceLT, Nat.reduceEqDiff, Nat.reduceSub, Nat.reduceAdd, Nat.reduceMul, Int.natCast_one, Int.natCast_zero, Int.reduceEq, Int.reduceLT, Int.reduceLE, Int.reduceAdd, Int.reduceSub, decide_false, decide_true, Int.reduceToNat, sh_zero, Bool.not_true, Bool.not_false, Option.isNone_some, Option.isNone_none, Option.isSome_some, Option.isSome_none, Try.ntmps3]; try with_reducible intro (base : Nat → Value))
  refine CondP.split (fun hl => ?_) (fun hl => ?_)
  · (simp -dsimp only [vc, Try.ty, Try.en, ↓reduceIte, Nat.reduceLT, Nat.reduceEqDiff, Nat.reduceSub, Nat.reduceAdd, Nat.reduceMul, Int.natCast_one, Int.natCast_zero, Int.reduceEq, Int.reduceLT, Int.reduceLE, Int.reduceAdd, Int.reduceSub, decide_false, decide_true, Int.reduceToNat, sh_zero, Bool.not_true, Bool.not_false, Option.isNone_some, Option.isNone_none, Option.isSome_some, Option.isSome_none]; try with_reducible intro (base : Nat → Value))
    refine (works_ok h).mono ?_
    rintro v w1 ⟨rfl, h1⟩
    (simp -dsimp only [vc, Try.ty, Try.en, ↓reduceIte, Nat.reduceLT, Nat.reduceEqDiff, Nat.reduceSub, Nat.reduceAdd, Nat.reduceMul, Int.natCast_one, Int.natCast_zero, Int.reduceEq, Int.reduceLT, Int.reduceLE, Int.reduceAdd, Int.reduceSub, decide_false, decide_true, Int.reduceToNat, sh_zero, Bool.not_true, Bool.not_false, Option.isNone_some, Option.isNone_none, Option.isSome_some, Option.isSome_none]; try with_reducible intro (base : Nat → Value))
    exact ResP.one rfl (by decide) ⟨rfl, h1⟩
  have hl : ps.length ≤ 40 := by simp at hl; omega
  (simp -dsimp only [vc, Try.ty, Try.en, ↓reduceIte, Nat.reduceLT, Nat.reduceEqDiff, Nat.reduceSub, Nat.reduceAdd, Nat.reduceMul, Int.natCast_one, Int.natCast_zero, Int.reduceEq, Int.reduceLT, Int.reduceLE, Int.reduceAdd, Int.reduceSub, decide_false, decide_true, Int.reduceToNat, sh_zero, Bool.not_true, Bool.not_false, Option.isNone_some, Option.isNone_none, Option.isSome_some, Option.isSome_none]; try with_reducible intro (base : Nat → Value))
  refine (new_ok h).mono ?_
  rintro v w1 ⟨f, rfl, h1⟩
  (simp -dsimp only [vc, Try.ty, Try.en, ↓reduceIte, Nat.reduceLT, Nat.reduceEqDiff, Nat.reduceSub, Nat.reduceAdd, Nat.reduceMul, Int.natCast_one, Int.natCast_zero, Int.reduceEq, Int.reduceLT, Int.reduceLE, Int.reduceAdd, Int.reduceSub, decide_false, decide_true, Int.reduceToNat, sh_zero, Bool.not_true, Bool.not_false, Option.isNone_some, Option.isNone_none, Option.isSome_some, Option.isSome_none]; try with_reducible intro (base : Nat → Value))
  refine RunV.build #[.slice none 0 0, .bool false] (by kernel_rfl) ?_
  (simp -dsimp only [vc, Try.ty, Try.en, ↓reduceIte, Nat.reduceLT, Nat.reduceEqDiff, Nat.reduceSub, Nat.reduceAdd, Nat.reduceMul, Int.natCast_one, Int.natCast_zero, Int.reduceEq, Int.reduceLT, Int.reduceLE, Int.reduceAdd, Int.reduceSub, decide_false, decide_true, Int.reduceToNat, sh_zero, Bool.not_true, Bool.not_false, Option.isNone_some, Option.isNone_none, Option.isSome_some, Option.isSome_none]; try with_reducible intro (base : Nat → Value))
  refine RunV.box h1 fun r w2 h2 => ?_
  have h3 : Ctx w2 (rfA r [] :: frA f [] :: O) L := rf_shut (f := r) (all := []) (over := false) (a := none) (c := 0) (Ctx.ord [1, 0] (h2.buf_nil 5 1))
  (simp -dsimp only [vc, Try.ty, Try.en, ↓reduceIte, Nat.reduceLT, Nat.reduceEqDiff, Nat.reduceSub, Nat.reduceAdd, Nat.reduceMul, Int.natCast_one, Int.natCast_zero, Int.reduceEq, Int.reduceLT, Int.reduceLE, Int.reduceAdd, Int.reduceSub, decide_false, decide_true, Int.reduceToNat, sh_zero, Bool.not_true, Bool.not_false, Option.isNone_some, Option.isNone_none, Option.isSome_some, Option.isSome_none]; try with_reducible intro (base : Nat → Value))
  refine SemV.loop (fun loc w => ∃ (i left : Nat) (all : List UInt8) (gs1 gs2 : List (Option Addr × Nat)) (a6 a7 : Option Addr) (c6 c7 : Nat) (v9 v10 v11 v12 v13 v14 v15 : Value), i ≤ ps.length ∧ all.length + left ≤ 200000 ∧ gs1.length = (feed [] all).1.length ∧ gs2.length = (feed [] all).1.length ∧
      loc = [.slice pa ps.length pc, undef, .bool false, .pointer (some ⟨f, 0, none⟩), .pointer (some ⟨r, 0, none⟩), .int .i64 left, .slice a6 (feed [] all).1.length c6, .slice a7 (feed [] all).1.length c7, .int .i64 i, v9, v10, v11, v12, v13, v14, v15] ∧
      Ctx w (buf 27 1 a6 (feed [] all).1.length c6 (List.zipWith hdr gs1 (feed [] all).1) :: buf 27 1 a7 (feed [] all).1.length c7 (List.zipWith hdr gs2 (feed [] all).1) :: frA f all :: rfA r all :: O) (rowsF gs1 (feed [] all).1 :: rowsF gs2 (feed [] all).1 :: L))
    (fun loc _ => ps.length - num (loc.getD 8 undef)) (by kernel_rfl) ?_ ?_
  · refine ⟨0, 200000, [], [], [], none, none, 0, 0, _, _, _, _, _, _, _, by omega, by simp, rfl, rfl, rfl, ?_⟩
    have := ((h3.swap.buf_nil 27 1).buf_nil 27 1)
    exact Ctx.rowsF_nil (Ctx.rowsF_nil this)
  rintro loc w ⟨i, left, all, gs1, gs2, a6, a7, c6, c7, v9, v10, v11, v12, v13, v14, v15, hi, hall, hg1, hg2, rfl, h⟩
  have hfl := feed_lines_le all []
  (simp -dsimp only [vc, Try.ty, Try.en, ↓reduceIte, Nat.reduceLT, Nat.reduceEqDiff, Nat.reduceSub, Nat.reduceAdd, Nat.reduceMul, Int.natCast_one, Int.natCast_zero, Int.reduceEq, Int.reduceLT, Int.reduceLE, Int.reduceAdd, Int.reduceSub, decide_false, decide_true, Int.reduceToNat, sh_zero, Bool.not_true, Bool.not_false, Option.isNone_some, Option.isNone_none, Option.isSome_some, Option.isSome_none]; try with_reducible intro (base : Nat → Value))
  refine CondP.split (fun hlt => ?_) (fun hlt => ?_)
  · have hlt : i < ps.length := by simpa using hlt
    (simp -dsimp only [vc, Try.ty, Try.en, ↓reduceIte, Nat.reduceLT, Nat.reduceEqDiff, Nat.reduceSub, Nat.reduceAdd, Nat.reduceMul, Int.natCast_one, Int.natCast_zero, Int.reduceEq, Int.reduceLT, Int.reduceLE, Int.reduceAdd, Int.reduceSub, decide_false, decide_true, Int.reduceToNat, sh_zero, Bool.not_true, Bool.not_false, Option.isNone_some, Option.isNone_none, Option.isSome_some, Option.isSome_none]; try with_reducible intro (base : Nat → Value))
    have har := (ha.append [buf 27 1 a6 (feed [] all).1.length c6 (List.zipWith hdr gs1 (feed [] all).1), buf 27 1 a7 (feed [] all).1.length c7 (List.zipWith hdr gs2 (feed [] all).1), frA f all, rfA r all]).more (L' := rowsF gs1 (feed [] all).1 :: rowsF gs2 (feed [] all).1 :: L) fun φ hφ => by simp [hφ]
    refine ⟨⟨by omega, by omega, (har.rd h).some (by rw [pcl_len]; omega)⟩, ?_⟩
    refine RunV.loadn 2 _ (har.rd h) (by kernel_rfl) (by decide) (by rw [pcl_len]; omega) (pcl_at ps i hlt) (by kernel_rfl) ?_
    obtain ⟨hpr, hpl, hpt⟩ := hp ps[i] (List.getElem_mem _)
    (simp -dsimp only [vc, Try.ty, Try.en, ↓reduceIte, Nat.reduceLT, Nat.reduceEqDiff, Nat.reduceSub, Nat.reduceAdd, Nat.reduceMul, Int.natCast_one, Int.natCast_zero, Int.reduceEq, Int.reduceLT, Int.reduceLE, Int.reduceAdd, Int.reduceSub, decide_false, decide_true, Int.reduceToNat, sh_zero, Bool.not_true, Bool.not_false, Option.isNone_some, Option.isNone_none, Option.isSome_some, Option.isSome_none, pcl]; try with_reducible intro (base : Nat → Value))
    refine (bytes_ok h ((hpr.append [_, _, _, _]).more fun φ hφ => by simp [hφ]) hpl hpt (by omega)).mono ?_
    rintro v w4 ⟨out, b9, c9, rfl, hout, h4⟩
    (simp -dsimp only [vc, Try.ty, Try.en, ↓reduceIte, Nat.reduceLT, Nat.reduceEqDiff, Nat.reduceSub, Nat.reduceAdd, Nat.reduceMul, Int.natCast_one, Int.natCast_zero, Int.reduceEq, Int.reduceLT, Int.reduceLE, Int.reduceAdd, Int.reduceSub, decide_false, decide_true, Int.reduceToNat, sh_zero, Bool.not_true, Bool.not_false, Option.isNone_some, Option.isNone_none, Option.isSome_some, Option.isSome_none]; try with_reducible intro (base : Nat → Value))
    rw [IntWalk.i64_in _ (by omega), show (left : Int) - (out.length : Int) = ((left - out.length : Nat) : Int) by omega]
    refine (copied_ok h4 Rdb.buf (by omega)).mono ?_
    rintro v w5 ⟨b10, c10, rfl, h5⟩
    (simp -dsimp only [vc, Try.ty, Try.en, ↓reduceIte, Nat.reduceLT, Nat.reduceEqDiff, Nat.reduceSub, Nat.reduceAdd, Nat.reduceMul, Int.natCast_one, Int.natCast_zero, Int.reduceEq, Int.reduceLT, Int.reduceLE, Int.reduceAdd, Int.reduceSub, decide_false, decide_true, Int.reduceToNat, sh_zero, Bool.not_true, Bool.not_false, Option.isNone_some, Option.isNone_none, Option.isSome_some, Option.isSome_none]; try with_reducible intro (base : Nat → Value))
    refine (feedA_ok (h5.ord [4]) Rdb.buf (buf_le h5) (by omega)).mono ?_
    rintro v w6 ⟨la, lac, rfl, hlac, h6⟩
    (simp -dsimp only [vc, Try.ty, Try.en, ↓reduceIte, Nat.reduceLT, Nat.reduceEqDiff, Nat.reduceSub, Nat.reduceAdd, Nat.reduceMul, Int.natCast_one, Int.natCast_zero, Int.reduceEq, Int.reduceLT, Int.reduceLE, Int.reduceAdd, Int.reduceSub, decide_false, decide_true, Int.reduceToNat, sh_zero, Bool.not_true, Bool.not_false, Option.isNone_some, Option.isNone_none, Option.isSome_some, Option.isSome_none, fedV]; try with_reducible intro (base : Nat → Value))
    refine (rfeedA_ok (h6.ord [5]) (Rdb.buf.cons _ |>.cons _) (by omega)).mono ?_
    rintro v w7 ⟨lb, lbc, rfl, hlbc, h7⟩
    (simp -dsimp only [vc, Try.ty, Try.en, ↓reduceIte, Nat.reduceLT, Nat.reduceEqDiff, Nat.reduceSub, Nat.reduceAdd, Nat.reduceMul, Int.natCast_one, Int.natCast_zero, Int.reduceEq, Int.reduceLT, Int.reduceLE, Int.reduceAdd, Int.reduceSub, decide_false, decide_true, Int.reduceToNat, sh_zero, Bool.not_true, Bool.not_false, Option.isNone_some, Option.isNone_none, Option.isSome_some, Option.isSome_none, fedV]; try with_reducible intro (base : Nat → Value))
    have h8 := Ctx.ord [2, 2, 2, 1] (h7.del 3)
    refine SemV.loop (fun loc w => ∃ (k : Nat) (xs : List Value), k ≤ out.length ∧ xs.length = out.length ∧ (∀ v ∈ xs, ∃ z, v = .int .u8 z) ∧
        loc = [.slice pa ps.length pc, undef, .bool false, .pointer (some ⟨f, 0, none⟩), .pointer (some ⟨r, 0, none⟩), .int .i64 (left - out.length : Nat), .slice a6 (feed [] all).1.length c6, .slice a7 (feed [] all).1.length c7, .int .i64 i, .slice b9 out.length c9, .slice b10 out.length c10,
          .slice la (newL all out).length lac, .int .i64 (if (feed [] (stepB all out)).2.2 then 6 else 0), .slice lb (newL all out).length lbc, .int .i64 (if (feed [] (stepB all out)).2.2 then 6 else 0), .int .i64 k] ∧
        Ctx w (buf 5 1 b10 out.length c10 xs :: buf 27 1 a6 (feed [] all).1.length c6 (List.zipWith hdr gs1 (feed [] all).1) :: buf 27 1 a7 (feed [] all).1.length c7 (List.zipWith hdr gs2 (feed [] all).1) :: frA f (stepB all out) :: rfA r (stepB all out) :: O)
          (rows lb (newL all out) :: rows la (newL all out) :: rowsF gs1 (feed [] all).1 :: rowsF gs2 (feed [] all).1 :: L))
      (fun loc _ => out.length - num (loc.getD 15 undef)) (by kernel_rfl) ⟨0, out.map bv, by omega, by simp, ?_, rfl, h8⟩ ?_
    · intro v hv
      obtain ⟨x, _, rfl⟩ := List.mem_map.1 hv
      exact ⟨_, rfl⟩
    rintro loc w8 ⟨k, xs, hk, hxl, hxs, rfl, h9⟩
    (simp -dsimp only [vc, Try.ty, Try.en, ↓reduceIte, Nat.reduceLT, Nat.reduceEqDiff, Nat.reduceSub, Nat.reduceAdd, Nat.reduceMul, Int.natCast_one, Int.natCast_zero, Int.reduceEq, Int.reduceLT, Int.reduceLE, Int.reduceAdd, Int.reduceSub, decide_false, decide_true, Int.reduceToNat, sh_zero, Bool.not_true, Bool.not_false, Option.isNone_some, Option.isNone_none, Option.isSome_some, Option.isSome_none]; try with_reducible intro (base : Nat → Value))
    refine CondP.split (fun hkl => ?_) (fun hkl => ?_)
    · have hkl : k < out.length := by simpa using hkl
      (simp -dsimp only [vc, Try.ty, Try.en, ↓reduceIte, Nat.reduceLT, Nat.reduceEqDiff, Nat.reduceSub, Nat.reduceAdd, Nat.reduceMul, Int.natCast_one, Int.natCast_zero, Int.reduceEq, Int.reduceLT, Int.reduceLE, Int.reduceAdd, Int.reduceSub, decide_false, decide_true, Int.reduceToNat, sh_zero, Bool.not_true, Bool.not_false, Option.isNone_some, Option.isNone_none, Option.isSome_some, Option.isSome_none]; try with_reducible intro (base : Nat → Value))
      refine ⟨⟨by omega, by omega, h9.rd_buf.some (by omega)⟩, ?_⟩
      obtain ⟨z, hz⟩ := hxs xs[k] (List.getElem_mem _)
      refine RunV.load1 h9.rd_buf (show xs[k]? = some (.int .u8 z) by rw [← hz]; simp) (by kernel_rfl) ?_
      (simp -dsimp only [vc, Try.ty, Try.en, ↓reduceIte, Nat.reduceLT, Nat.reduceEqDiff, Nat.reduceSub, Nat.reduceAdd, Nat.reduceMul, Int.natCast_one, Int.natCast_zero, Int.reduceEq, Int.reduceLT, Int.reduceLE, Int.reduceAdd, Int.reduceSub, decide_false, decide_true, Int.reduceToNat, sh_zero, Bool.not_true, Bool.not_false, Option.isNone_some, Option.isNone_none, Option.isSome_some, Option.isSome_none]; try with_reducible intro (base : Nat → Value))
      refine ⟨⟨by omega, by omega, h9.rd_buf.some (by omega)⟩, ?_⟩
      refine RunV.stBuf h9 (by kernel_rfl) rfl rfl hkl fun w9 h10 => ?_
      (simp -dsimp only [vc, Try.ty, Try.en, ↓reduceIte, Nat.reduceLT, Nat.reduceEqDiff, Nat.reduceSub, Nat.reduceAdd, Nat.reduceMul, Int.natCast_one, Int.natCast_zero, Int.reduceEq, Int.reduceLT, Int.reduceLE, Int.reduceAdd, Int.reduceSub, decide_false, decide_true, Int.reduceToNat, sh_zero, Bool.not_true, Bool.not_false, Option.isNone_some, Option.isNone_none, Option.isSome_some, Option.isSome_none]; try with_reducible intro (base : Nat → Value))
      rw [IntWalk.i64_in _ (by omega)]
      refine ⟨⟨k + 1, _, by omega, by simpa using hxl, ?_, rfl, h10⟩, ?_⟩
      · intro v hv
        rcases List.mem_or_eq_of_mem_set hv with hv | rfl
        · exact hxs v hv
        · exact ⟨_, rfl⟩
      · simp [num]; omega
    · (simp -dsimp only [vc, Try.ty, Try.en, ↓reduceIte, Nat.reduceLT, Nat.reduceEqDiff, Nat.reduceSub, Nat.reduceAdd, Nat.reduceMul, Int.natCast_one, Int.natCast_zero, Int.reduceEq, Int.reduceLT, Int.reduceLE, Int.reduceAdd, Int.reduceSub, decide_false, decide_true, Int.reduceToNat, sh_zero, Bool.not_true, Bool.not_false, Option.isNone_some, Option.isNone_none, Option.isSome_some, Option.isSome_none]; try with_reducible intro (base : Nat → Value))
      have hsf := step_feed all out
      have hsl := step_le all out
      have hfs := feed_lines_le (stepB all out) []
      rw [hsf, List.length_append] at hfs
      refine RunV.appendRows (h9.del 0) hg1 mem2 mem1 (by omega) fun gs3 a8 c8 w9 hg3 h10 => ?_
      (simp -dsimp only [vc, Try.ty, Try.en, ↓reduceIte, Nat.reduceLT, Nat.reduceEqDiff, Nat.reduceSub, Nat.reduceAdd, Nat.reduceMul, Int.natCast_one, Int.natCast_zero, Int.reduceEq, Int.reduceLT, Int.reduceLE, Int.reduceAdd, Int.reduceSub, decide_false, decide_true, Int.reduceToNat, sh_zero, Bool.not_true, Bool.not_false, Option.isNone_some, Option.isNone_none, Option.isSome_some, Option.isSome_none]; try with_reducible intro (base : Nat → Value))
      refine RunV.appendRows (h10.ord [1]) hg2 (.tail _ (.tail _ (.tail _ (.tail _ (.head _))))) mem1 (by omega) fun gs4 a9 c9 w10 hg4 h11 => ?_
      (simp -dsimp only [vc, Try.ty, Try.en, ↓reduceIte, Nat.reduceLT, Nat.reduceEqDiff, Nat.reduceSub, Nat.reduceAdd, Nat.reduceMul, Int.natCast_one, Int.natCast_zero, Int.reduceEq, Int.reduceLT, Int.reduceLE, Int.reduceAdd, Int.reduceSub, decide_false, decide_true, Int.reduceToNat, sh_zero, Bool.not_true, Bool.not_false, Option.isNone_some, Option.isNone_none, Option.isSome_some, Option.isSome_none]; try with_reducible intro (base : Nat → Value))
      refine SemV.draw (fun w => ∃ O', Ctx w (rfA r (stepB all out) :: O') L) [(0, true), (1, true), (2, true), (3, true), (4, true), (5, true), (6, true), (7, true), (8, true), (9, true), (10, true), (11, true), (13, true), (12, false), (14, false), (15, true), (16, true), (17, true), (18, true), (20, true), (21, true), (22, true), (23, true), (19, false), (24, true), (25, true)] Try.mixed (by kernel_rfl) (fun w' e => ⟨_, ((h11.ord [3]).weak fun φ hφ => by simp [hφ]).same e⟩) ?_
      intro base w11 e
      have h11 := h11.same e
      (simp -dsimp only [vc, Try.ty, Try.en, ↓reduceIte, Nat.reduceLT, Nat.reduceEqDiff, Nat.reduceSub, Nat.reduceAdd, Nat.reduceMul, Int.natCast_one, Int.natCast_zero, Int.reduceEq, Int.reduceLT, Int.reduceLE, Int.reduceAdd, Int.reduceSub, decide_false, decide_true, Int.reduceToNat, sh_zero, Bool.not_true, Bool.not_false, Option.isNone_some, Option.isNone_none, Option.isSome_some, Option.isSome_none, eq_self]; try with_reducible intro (base : Nat → Value))
      refine (held_ok (h11.ord [2])).mono ?_
      rintro v w12 ⟨rfl, h12⟩
      refine ⟨⟨_, (h12.ord [3]).weak fun φ hφ => by simp [hφ]⟩, ?_⟩
      (simp -dsimp only [vc, Try.ty, Try.en, ↓reduceIte, Nat.reduceLT, Nat.reduceEqDiff, Nat.reduceSub, Nat.reduceAdd, Nat.reduceMul, Int.natCast_one, Int.natCast_zero, Int.reduceEq, Int.reduceLT, Int.reduceLE, Int.reduceAdd, Int.reduceSub, decide_false, decide_true, Int.reduceToNat, sh_zero, Bool.not_true, Bool.not_false, Option.isNone_some, Option.isNone_none, Option.isSome_some, Option.isSome_none, eq_self]; try with_reducible intro (base : Nat → Value))
      refine (rheld_ok (h12.ord [3]) (by omega)).mono ?_
      rintro v w13 ⟨rfl, h13⟩
      refine ⟨⟨_, h13.weak fun φ hφ => by simp [hφ]⟩, ?_⟩
      (simp -dsimp only [vc, Try.ty, Try.en, ↓reduceIte, Nat.reduceLT, Nat.reduceEqDiff, Nat.reduceSub, Nat.reduceAdd, Nat.reduceMul, Int.natCast_one, Int.natCast_zero, Int.reduceEq, Int.reduceLT, Int.reduceLE, Int.reduceAdd, Int.reduceSub, decide_false, decide_true, Int.reduceToNat, sh_zero, Bool.not_true, Bool.not_false, Option.isNone_some, Option.isNone_none, Option.isSome_some, Option.isSome_none, eq_self]; try with_reducible intro (base : Nat → Value))
      refine FloatP.load0 (a := sh (some ⟨r, 0, none⟩) 1) (vs := [.bool (feed [] (stepB all out)).2.2]) (fun w ⟨_, h⟩ => ?_) rfl (by kernel_rfl) ?_
      · obtain ⟨_, _, h⟩ := rf_open h
        exact h.rd_own.drop 1
      (simp -dsimp only [vc, Try.ty, Try.en, ↓reduceIte, Nat.reduceLT, Nat.reduceEqDiff, Nat.reduceSub, Nat.reduceAdd, Nat.reduceMul, Int.natCast_one, Int.natCast_zero, Int.reduceEq, Int.reduceLT, Int.reduceLE, Int.reduceAdd, Int.reduceSub, decide_false, decide_true, Int.reduceToNat, sh_zero, Bool.not_true, Bool.not_false, Option.isNone_some, Option.isNone_none, Option.isSome_some, Option.isSome_none, eq_self]; try with_reducible intro (base : Nat → Value))
      refine (over_ok (h13.ord [1])).mono ?_
      rintro v w14 ⟨rfl, h14⟩
      refine ⟨⟨_, (h14.ord [1]).weak fun φ hφ => by simp [hφ]⟩, ?_⟩
      (simp -dsimp only [vc, Try.ty, Try.en, ↓reduceIte, Nat.reduceLT, Nat.reduceEqDiff, Nat.reduceSub, Nat.reduceAdd, Nat.reduceMul, Int.natCast_one, Int.natCast_zero, Int.reduceEq, Int.reduceLT, Int.reduceLE, Int.reduceAdd, Int.reduceSub, decide_false, decide_true, Int.reduceToNat, sh_zero, Bool.not_true, Bool.not_false, Option.isNone_some, Option.isNone_none, Option.isSome_some, Option.isSome_none, eq_self, beq_self_eq_true]; try with_reducible intro (base : Nat → Value))
      rw [IntWalk.i64_in _ (by omega)]
      rw [← hsf] at hg3 hg4 h14 ⊢
      refine ⟨⟨i + 1, left - out.length, stepB all out, gs3, gs4, a8, a9, c8, c9, _, _, _, _, _, _, _, hlt, by omega, hg3, hg4, rfl, ?_⟩, ?_⟩
      · refine (Ctx.ord [3, 2] h14).weak fun φ hφ => ?_
        simp only [List.mem_cons] at hφ ⊢
        rcases hφ with rfl | rfl | hφ
        · exact .inr (.inl rfl)
        · exact .inl rfl
        · simp [hφ]
      · simp [num]; omega
  · have hge : i = ps.length := by simp at hlt; omega
    (simp -dsimp only [vc, Try.ty, Try.en, ↓reduceIte, Nat.reduceLT, Nat.reduceEqDiff, Nat.reduceSub, Nat.reduceAdd, Nat.reduceMul, Int.natCast_one, Int.natCast_zero, Int.reduceEq, Int.reduceLT, Int.reduceLE, Int.reduceAdd, Int.reduceSub, decide_false, decide_true, Int.reduceToNat, sh_zero, Bool.not_true, Bool.not_false, Option.isNone_some, Option.isNone_none, Option.isSome_some, Option.isSome_none]; try with_reducible intro (base : Nat → Value))
    have h5 := ((h.keep_buf.keep_buf).shut_rows hg1 mem1 mem2).shut_rows (a := a7) hg2 mem1 (.tail _ (.tail _ (.tail _ (.tail _ (.head _)))))
    refine (sames_ok h5 mem1 mem0 (by omega) fun l hl => ?_).mono ?_
    · have := feed_line_le all [] l hl
      simp at this
      omega
    rintro v w6 ⟨rfl, h6⟩
    (simp -dsimp only [vc, Try.ty, Try.en, ↓reduceIte, Nat.reduceLT, Nat.reduceEqDiff, Nat.reduceSub, Nat.reduceAdd, Nat.reduceMul, Int.natCast_one, Int.natCast_zero, Int.reduceEq, Int.reduceLT, Int.reduceLE, Int.reduceAdd, Int.reduceSub, decide_false, decide_true, Int.reduceToNat, sh_zero, Bool.not_true, Bool.not_false, Option.isNone_some, Option.isNone_none, Option.isSome_some, Option.isSome_none, eq_self]; try with_reducible intro (base : Nat → Value))
    refine (works_ok h6).mono ?_
    rintro v w7 ⟨rfl, h7⟩
    (simp -dsimp only [vc, Try.ty, Try.en, ↓reduceIte, Nat.reduceLT, Nat.reduceEqDiff, Nat.reduceSub, Nat.reduceAdd, Nat.reduceMul, Int.natCast_one, Int.natCast_zero, Int.reduceEq, Int.reduceLT, Int.reduceLE, Int.reduceAdd, Int.reduceSub, decide_false, decide_true, Int.reduceToNat, sh_zero, Bool.not_true, Bool.not_false, Option.isNone_some, Option.isNone_none, Option.isSome_some, Option.isSome_none]; try with_reducible intro (base : Nat → Value))
    exact ResP.one rfl (by decide) ⟨rfl, h7.drop.drop.weak fun φ hφ => by simp [hφ]⟩
end Go.Proofs.Ytloeiefijmbkiaa
