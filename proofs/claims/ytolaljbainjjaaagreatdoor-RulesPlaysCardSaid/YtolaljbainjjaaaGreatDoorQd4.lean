/-
  Part 4 of the proof: no statement of its own. No condition but those in each theorem.
-/
import Derived.Test.YtolaljbainjjaaaGreatDoorQd3
set_option linter.unusedSimpArgs false
set_option linter.unusedVariables false
set_option linter.unusedSectionVars false
set_option maxRecDepth 8000
set_option maxHeartbeats 4000000
namespace Go.Proofs.YtolaljbainjjaaaGreatDoor
open Go.E Go.Proofs.YtolaljbainjjaaaGreatDoor.Tryz Go.Proofs.Tryz
theorem hN_tb (l : List UInt8) (i : Nat) : (hN l).testBit i = match l[i / 8]? with | none => false | some b => b.toNat.testBit (i % 8) := by
 have h := hN_bit l i
 rw [Nat.testBit_eq_decide_div_mod_eq]
 unfold bitN at h
 rw [h]
 cases l[i / 8]? with
 | none => rfl
 | some b => simp only; rw [Nat.testBit_eq_decide_div_mod_eq]
theorem take_at {h : List UInt8} {i j : Nat} {b : UInt8} (hb : h[i]? = some b) : (h.take (i + 1))[j]? = if j = i then some b else (h.take i)[j]? := by
 rw [List.getElem?_take, List.getElem?_take]
 by_cases h1 : j = i
 . subst h1; rw [if_pos (by omega), if_pos rfl, hb]
 . rw [if_neg h1]
   by_cases h2 : j < i
   . rw [if_pos (by omega), if_pos h2]
   . rw [if_neg (by omega), if_neg h2]
theorem b8_high (b : UInt8) {k : Nat} (h : 8 <= k) : b.toNat.testBit k = false :=
 Nat.testBit_lt_two_pow (Nat.lt_of_lt_of_le b.toNat_lt (Nat.pow_le_pow_right (by decide) h))
theorem hN_step {h : List UInt8} {i : Nat} {b : UInt8} (hb : h[i]? = some b) (hi : i < 32) : (Bg (hN (h.take i))).set (i / 8) (.p (.int .u64 ((limb (hN (h.take i)) (i / 8) ||| u64_shl b.toUInt64 (8 * (i % 8))).toNat : Int))) = Bg (hN (h.take (i + 1))) := by
 refine Bg_set (by omega) ?_ fun j hj hn => ?_
 . refine limb_ext fun t ht => ?_
   rw [UInt64.toNat_or, Nat.testBit_or, limb_bit, shl_bit _ (by omega), decide_eq_true ht, Bool.true_and, Bool.true_and, hN_tb, hN_tb, take_at hb, UInt8.toNat_toUInt64]
   have e8 : (64 * (i / 8) + t) % 8 = t % 8 := by omega
   rw [e8]
   by_cases h1 : (64 * (i / 8) + t) / 8 = i
   . rw [if_pos h1, h1, decide_eq_true (show 8 * (i % 8) <= t by omega), Bool.true_and, show t - 8 * (i % 8) = t % 8 by omega]
     have : (h.take i)[i]? = none := by rw [List.getElem?_eq_none]; simp; omega
     rw [this]; simp
   . rw [if_neg h1]
     by_cases h2 : 8 * (i % 8) <= t
     . rw [b8_high b (show 8 <= t - 8 * (i % 8) by omega)]; simp
     . rw [decide_eq_false h2]; simp
 . refine UInt64.toNat_inj.1 ?_
   refine Nat.eq_of_testBit_eq fun t => ?_
   rw [limb_bit, limb_bit, hN_tb, hN_tb, take_at hb]
   by_cases ht : t < 64
   . rw [if_neg (by omega)]
   . rw [decide_eq_false ht, Bool.false_and, Bool.false_and]
theorem pofhash_ok {T : Tbl} {h : List UInt8} (hh : h.length = 32) : CallA prog G 63 [.ag (h.map by8)] T fun v T' es => v = .ag (Bg (hN h)) /\ T' = T /\ es = [] := by
 refine CallA.wfs fun wf => ?_
 have wt := wf.t
 have ez : [oQ, oQ, oQ, oQ] = Bg 0 := rfl
 have t8 : (∀ a : Nat, (a : Int).tmod 8 = ((a % 8 : Nat) : Int)) /\ (∀ a : Nat, (a : Int).tdiv 8 = ((a / 8 : Nat) : Int)) := ⟨fun _ => rfl, fun _ => rfl⟩
 refine CallA.eV 8 func63 ntmps63 results63 ?_
 simp -dsimp +decide only [vy, vz, vze, vr, ty, en, ↓reduceIte, Nat.reduceSub, Nat.reduceAdd, Nat.reduceMul, Nat.reduceLT, Int.reduceAdd, Int.reduceSub, Int.reduceToNat, ci]
 simp -dsimp +decide (disch := omega) only [vy, vz, vze, vr, ty, en, ↓reduceIte, Nat.reduceSub, Nat.reduceAdd, Nat.reduceMul, Nat.reduceLT, Int.reduceAdd, Int.reduceSub, Int.reduceToNat, ci, vi, getO_i, vt, vbg, ez, vh, hh]
 refine SemA.loopE (fun i : Nat => [(2, .ptr (T.length + 1) 0), (3, .ptr (T.length + 2) 0), (6, .ag (h.map by8)), (7, wint (i : Int))]) (fun i => T ++ [.cells 25 (h.map by8), .cells 51 (Bg 0), .cells 51 (Bg (hN (h.take i)))]) (fun i => i <= 32) (fun i => 32 - i) 0 [] 0 (fun _ : Unit => [(2, .ptr (T.length + 1) 0), (3, .ptr (T.length + 2) 0)]) (fun _ => T ++ [.cells 25 (h.map by8), .cells 51 (Bg 0), .cells 51 (Bg (hN h))]) (fun _ => True) (by simp) (by (simp -dsimp +decide (disch := omega) only [vy, vz, vze, vr, ty, en, ↓reduceIte, Nat.reduceSub, Nat.reduceAdd, Nat.reduceMul, Nat.reduceLT, Int.reduceAdd, Int.reduceSub, Int.reduceToNat, ci, vi, getO_i, vh, hh, List.drop_zero]); first | rfl | done) rfl (by simp) ?_ ?_
 . rintro i g hi
   refine SemA.o ?_
   simp -dsimp +decide (disch := omega) only [vy, vz, vze, vr, ty, en, ↓reduceIte, Nat.reduceSub, Nat.reduceAdd, Nat.reduceMul, Nat.reduceLT, Int.reduceAdd, Int.reduceSub, Int.reduceToNat, ci, vi, getO_i]
   refine CondP.dec (fun h1 => ?_) (fun h1 => ?_)
   . have hi4 : i < 32 := by omega
     have g2 := fun a b l => gn2 T a b (.cells 51 (Bg (hN (h.take i)))) l
     obtain ⟨b, hb⟩ : ∃ b, h[i]? = some b := ⟨h[i]'(by omega), by simp⟩
     have hbg : (h.map by8)[i]? = some (by8 b) := by rw [List.getElem?_map, hb]; rfl
     have hgw := Bg_get (hN (h.take i)) (j := i / 8) (by omega)
     have hst := hN_step hb hi4
     have hmul : (8 : Int) * ((i % 8 : Nat) : Int) = ((8 * (i % 8) : Nat) : Int) := by omega
     have hcn : (UInt64.ofInt ((8 * (i % 8) : Nat) : Int)).toNat = 8 * (i % 8) := ofInt_lt (by omega)
     simp -dsimp +decide (disch := omega) only [vy, vz, vze, vr, ty, en, ↓reduceIte, Nat.reduceSub, Nat.reduceAdd, Nat.reduceMul, Nat.reduceLT, Int.reduceAdd, Int.reduceSub, Int.reduceToNat, ci, vi, getO_i, vt, vbg, g2, hbg, hb, t8]
     refine ⟨⟨by omega, by omega⟩, ?_⟩
     refine SemA.draw (fun i => true) [(0, true), (1, true), (2, true), (3, true), (4, true), (5, true), (6, true), (7, true), (8, true), (9, true), (10, true), (11, true), (12, false)] mixed (by kernel_rfl) ?_
     simp -dsimp +decide (disch := omega) only [vy, vz, vze, vr, ty, en, ↓reduceIte, Nat.reduceSub, Nat.reduceAdd, Nat.reduceMul, Nat.reduceLT, Int.reduceAdd, Int.reduceSub, Int.reduceToNat, ci, vi, getO_i, vt, vbg, g2, hbg, hgw, hb, t8, hmul, hcn, Bg_len, hst, kallT]
     exact ⟨⟨by omega, by omega⟩, by omega, ⟨by omega, by omega⟩, by omega, i + 1, ⟨by omega, by omega⟩, rfl, rfl⟩
   . have e : i = 32 := by omega
     subst e
     simp -dsimp +decide (disch := omega) only [vy, vz, vze, vr, ty, en, ↓reduceIte, Nat.reduceSub, Nat.reduceAdd, Nat.reduceMul, Nat.reduceLT, Int.reduceAdd, Int.reduceSub, Int.reduceToNat, ci, vi, getO_i, vt, vbg]
     rw [List.take_of_length_le (by omega)]
     exact ⟨(), rfl⟩
 . rintro _ g tmp -
   simp -dsimp +decide (disch := omega) only [vy, vz, vze, vr, ty, en, ↓reduceIte, Nat.reduceSub, Nat.reduceAdd, Nat.reduceMul, Nat.reduceLT, Int.reduceAdd, Int.reduceSub, Int.reduceToNat, ci, vi, getO_i, vt, vbg, vres]
   exact Vw.cut ⟨by rw [AV.wo, AV.woL_eq, Bg_wo], rfl, rfl⟩
theorem pof03_ok {T : Tbl} {b : UInt32} : CallA prog G 21 [w32 b] T fun v T' es => v = ofV (ofT b.toNat) /\ T' = T /\ es = [] := by
 refine CallA.wfs fun wf => ?_
 have wt := wf.t
 have hb := b.toNat_lt
 refine CallA.eV 28 func21 ntmps21 results21 ?_
 simp -dsimp +decide only [vy, vz, vze, vr, ty, en, ↓reduceIte, Nat.reduceSub, Nat.reduceAdd, Nat.reduceMul, Nat.reduceLT, Int.reduceAdd, Int.reduceSub, Int.reduceToNat, ci]
 have ez : [oQ, oQ, oQ, oQ] = Bg 0 := rfl
 have z256 : 0 < 2 ^ 256 := by decide
 obtain ⟨s, hs⟩ : ∃ s, s = b.toNat / 2 ^ 24 := ⟨_, rfl⟩
 obtain ⟨m, hm2⟩ : ∃ m, m = b.toNat % 2 ^ 23 := ⟨_, rfl⟩
 have hm : m < 2 ^ 23 := by rw [hm2]; exact Nat.mod_lt _ (by decide)
 have hs8 : s < 256 := by omega
 have e2 : (u32_shr b 24).toNat = s := by rw [u32_hi, hs]
 have e1 : (b &&& UInt32.ofInt 8388607).toUInt64.toNat = m := by rw [UInt32.toNat_toUInt64, u32_lo, hm2]
 have e3 := u32_sign b
 have hof : ofT b.toNat = if tgt b.toNat = 0 ∨ 2 ^ 256 <= tgt b.toNat ∨ b.toNat / 2 ^ 23 % 2 = 1 then none else some (tgt b.toNat) := rfl
 have htg : tgt b.toNat = if s < 3 then m / 2 ^ (8 * (3 - s)) else m * 2 ^ (8 * (s - 3)) := by rw [hs, hm2]; rfl
 have hmx : m < 2 ^ 256 := by omega
 simp -dsimp +decide (disch := omega) only [vy, vz, vze, vr, ty, en, ↓reduceIte, Nat.reduceSub, Nat.reduceAdd, Nat.reduceMul, Nat.reduceLT, Int.reduceAdd, Int.reduceSub, Int.reduceToNat, ci, vi, getO_i, vt, ez, vbg, e2]
 refine pof_ok.det' ?_
 rw [e1]
 simp -dsimp +decide (disch := omega) only [vy, vz, vze, vr, ty, en, ↓reduceIte, Nat.reduceSub, Nat.reduceAdd, Nat.reduceMul, Nat.reduceLT, Int.reduceAdd, Int.reduceSub, Int.reduceToNat, ci, vi, getO_i, vt, ez, vbg]
 rw [e2]
 have fin : ∀ (t : Nat), t < 2 ^ 256 -> tgt b.toNat = t -> ofT b.toNat = if t = 0 ∨ ¬ (b &&& UInt32.ofInt 8388608).toNat = 0 then none else some t := by
  intro t ht h
  rw [hof, h]
  have hiff : (t = 0 ∨ 2 ^ 256 <= t ∨ b.toNat / 2 ^ 23 % 2 = 1) ↔ (t = 0 ∨ ¬ (b &&& UInt32.ofInt 8388608).toNat = 0) := by
   rw [e3]
   constructor
   . rintro (h | h | h)
     . exact .inl h
     . omega
     . exact .inr (by omega)
   . rintro (h | h)
     . exact .inl h
     . exact .inr (.inr (by omega))
  by_cases hc : t = 0 ∨ 2 ^ 256 <= t ∨ b.toNat / 2 ^ 23 % 2 = 1
  . rw [if_pos hc, if_pos (hiff.1 hc)]
  . rw [if_neg hc, if_neg (mt hiff.2 hc)]
 by_cases h3 : ((s : Int) < 3)
 . have hp : (8 : Int) * (3 - (s : Int)) = ((8 * (3 - s) : Nat) : Int) := by omega
   rw [if_pos (by omega)] at htg
   have htx : m / 2 ^ (8 * (3 - s)) < 2 ^ 256 := Nat.lt_of_le_of_lt (Nat.div_le_self _ _) hmx
   have hF := fin _ htx htg
   have i3 := eq_true h3
   simp -dsimp +decide (disch := omega) only [vy, vz, vze, vr, ty, en, ↓reduceIte, Nat.reduceSub, Nat.reduceAdd, Nat.reduceMul, Nat.reduceLT, Int.reduceAdd, Int.reduceSub, Int.reduceToNat, ci, vi, getO_i, vt, ez, vbg, i3, hp]
   refine (pdown_ok hmx (by omega)).det' ?_
   revert hF htx
   generalize m / 2 ^ (8 * (3 - s)) = t
   intro htx hF
   have g2 := fun a b l => gn2 T a b (.cells 51 (Bg t)) l
   rw [hF]
   by_cases hsg : (b &&& UInt32.ofInt 8388608).toNat = 0
   . have hsI : (((b &&& UInt32.ofInt 8388608).toNat : Int) = 0) = True := eq_true (by omega)
     by_cases t0 : t = 0
     . rw [if_pos (.inl t0)]
       have t0' : (t = 0) = True := eq_true t0
       simp -dsimp +decide (disch := omega) only [vy, vz, vze, vr, ty, en, ↓reduceIte, Nat.reduceSub, Nat.reduceAdd, Nat.reduceMul, Nat.reduceLT, Int.reduceAdd, Int.reduceSub, Int.reduceToNat, ci, vi, getO_i, vt, ez, vbg, g2, eqB htx z256, hsI, t0', bb2, vres, vone]
       exact Vw.cut ⟨by rw [AV.wo, AV.woL_eq]; simp only [ofV, List.map_cons, List.map_nil, AV.wo, AV.woL_eq, Bg_wo], rfl, rfl⟩
     . rw [if_neg (by rw [not_or]; exact ⟨t0, fun h => h hsg⟩)]
       have t0' : (t = 0) = False := eq_false t0
       simp -dsimp +decide (disch := omega) only [vy, vz, vze, vr, ty, en, ↓reduceIte, Nat.reduceSub, Nat.reduceAdd, Nat.reduceMul, Nat.reduceLT, Int.reduceAdd, Int.reduceSub, Int.reduceToNat, ci, vi, getO_i, vt, ez, vbg, g2, eqB htx z256, hsI, t0', bb2, vres, vone]
       exact Vw.cut ⟨by rw [AV.wo, AV.woL_eq]; simp only [ofV, List.map_cons, List.map_nil, AV.wo, AV.woL_eq, Bg_wo], rfl, rfl⟩
   . have hsI : (((b &&& UInt32.ofInt 8388608).toNat : Int) = 0) = False := eq_false (by omega)
     rw [if_pos (.inr hsg)]
     simp -dsimp +decide (disch := omega) only [vy, vz, vze, vr, ty, en, ↓reduceIte, Nat.reduceSub, Nat.reduceAdd, Nat.reduceMul, Nat.reduceLT, Int.reduceAdd, Int.reduceSub, Int.reduceToNat, ci, vi, getO_i, vt, ez, vbg, g2, eqB htx z256, hsI, bb2, vres, vone]
     exact Vw.cut ⟨by rw [AV.wo, AV.woL_eq]; simp only [ofV, List.map_cons, List.map_nil, AV.wo, AV.woL_eq, Bg_wo], rfl, rfl⟩
 . have i3 := eq_false h3
   have hp : (8 : Int) * ((s : Int) - 3) = ((8 * (s - 3) : Nat) : Int) := by omega
   have hk : 8 * (s - 3) <= 2024 := by omega
   rw [if_neg (by omega)] at htg
   generalize 8 * (s - 3) = k at hp hk htg
   simp -dsimp +decide (disch := omega) only [vy, vz, vze, vr, ty, en, ↓reduceIte, Nat.reduceSub, Nat.reduceAdd, Nat.reduceMul, Nat.reduceLT, Int.reduceAdd, Int.reduceSub, Int.reduceToNat, ci, vi, getO_i, vt, ez, vbg, i3, hp]
   refine (pup_ok (n := k) hmx (by omega)).det' ?_
   obtain ⟨t, ht⟩ : ∃ t, t = m * 2 ^ k % 2 ^ 256 := ⟨_, rfl⟩
   have htx : t < 2 ^ 256 := by rw [ht]; exact Nat.mod_lt _ (by decide)
   have g2 := fun a b l => gn2 T a b (.cells 51 (Bg t)) l
   have g1 := fun a l => gn1 T a (.cells 51 (Bg m)) l
   rw [<- ht]
   have hdx : t / 2 ^ k < 2 ^ 256 := Nat.lt_of_le_of_lt (Nat.div_le_self _ _) htx
   simp -dsimp +decide (disch := omega) only [vy, vz, vze, vr, ty, en, ↓reduceIte, Nat.reduceSub, Nat.reduceAdd, Nat.reduceMul, Nat.reduceLT, Int.reduceAdd, Int.reduceSub, Int.reduceToNat, ci, vi, getO_i, vt, ez, vbg]
   refine SemA.draw (fun i => true) [(0, true), (1, true), (2, true), (3, true), (5, true), (4, false), (6, true)] mixed (by kernel_rfl) ?_
   simp -dsimp +decide (disch := omega) only [vy, vz, vze, vr, ty, en, ↓reduceIte, Nat.reduceSub, Nat.reduceAdd, Nat.reduceMul, Nat.reduceLT, Int.reduceAdd, Int.reduceSub, Int.reduceToNat, ci, vi, getO_i, vt, ez, vbg, g1, g2, hp, kallT]
   refine (pdown_ok (n := k) htx (by omega)).det' ?_
   by_cases hd : t / 2 ^ k = m
   . have htm : t = m * 2 ^ k := by
      have h1 : m * 2 ^ k <= t := by rw [<- hd]; exact Nat.div_mul_le_self _ _
      rw [ht, Nat.mod_eq_of_lt (by omega)]
     have hF := fin t htx (by rw [htg, htm])
     have i4 := eq_true hd
     rw [hF]
     by_cases hsg : (b &&& UInt32.ofInt 8388608).toNat = 0
     . have hsI : (((b &&& UInt32.ofInt 8388608).toNat : Int) = 0) = True := eq_true (by omega)
       by_cases t0 : t = 0
       . rw [if_pos (.inl t0)]
         have t0' : (t = 0) = True := eq_true t0
         simp -dsimp +decide (disch := omega) only [vy, vz, vze, vr, ty, en, ↓reduceIte, Nat.reduceSub, Nat.reduceAdd, Nat.reduceMul, Nat.reduceLT, Int.reduceAdd, Int.reduceSub, Int.reduceToNat, ci, vi, getO_i, vt, ez, vbg, g1, g2, hp, kallT, neB hdx hmx, eqB htx z256, i4, hsI, t0', bb2, vres, vone]
         exact Vw.cut ⟨by rw [AV.wo, AV.woL_eq]; simp only [ofV, List.map_cons, List.map_nil, AV.wo, AV.woL_eq, Bg_wo], rfl, rfl⟩
       . rw [if_neg (by rw [not_or]; exact ⟨t0, fun h => h hsg⟩)]
         have t0' : (t = 0) = False := eq_false t0
         simp -dsimp +decide (disch := omega) only [vy, vz, vze, vr, ty, en, ↓reduceIte, Nat.reduceSub, Nat.reduceAdd, Nat.reduceMul, Nat.reduceLT, Int.reduceAdd, Int.reduceSub, Int.reduceToNat, ci, vi, getO_i, vt, ez, vbg, g1, g2, hp, kallT, neB hdx hmx, eqB htx z256, i4, hsI, t0', bb2, vres, vone]
         exact Vw.cut ⟨by rw [AV.wo, AV.woL_eq]; simp only [ofV, List.map_cons, List.map_nil, AV.wo, AV.woL_eq, Bg_wo], rfl, rfl⟩
     . have hsI : (((b &&& UInt32.ofInt 8388608).toNat : Int) = 0) = False := eq_false (by omega)
       rw [if_pos (.inr hsg)]
       simp -dsimp +decide (disch := omega) only [vy, vz, vze, vr, ty, en, ↓reduceIte, Nat.reduceSub, Nat.reduceAdd, Nat.reduceMul, Nat.reduceLT, Int.reduceAdd, Int.reduceSub, Int.reduceToNat, ci, vi, getO_i, vt, ez, vbg, g1, g2, hp, kallT, neB hdx hmx, eqB htx z256, i4, hsI, bb2, vres, vone]
       exact Vw.cut ⟨by rw [AV.wo, AV.woL_eq]; simp only [ofV, List.map_cons, List.map_nil, AV.wo, AV.woL_eq, Bg_wo], rfl, rfl⟩
   . have hF : ofT b.toNat = none := by
      rw [hof, htg]
      refine if_pos (.inr (.inl ?_))
      refine Classical.byContradiction fun h => hd ?_
      rw [ht, Nat.mod_eq_of_lt (by omega), Nat.mul_div_cancel _ (Nat.two_pow_pos k)]
     have i4 := eq_false hd
     rw [hF]
     unfold ofV
     simp -dsimp +decide (disch := omega) only [vy, vz, vze, vr, ty, en, ↓reduceIte, Nat.reduceSub, Nat.reduceAdd, Nat.reduceMul, Nat.reduceLT, Int.reduceAdd, Int.reduceSub, Int.reduceToNat, ci, vi, getO_i, vt, ez, vbg, g1, g2, hp, kallT, neB hdx hmx, i4, bb2, vres, vone]
     exact Vw.cut ⟨by rw [AV.wo, AV.woL_eq]; simp only [ofV, List.map_cons, List.map_nil, AV.wo, AV.woL_eq, Bg_wo], rfl, rfl⟩
theorem cmpN_eq (t : Nat) : cmpN t = if 2 ^ 23 <= cmpP t then ((blen t + 7) / 8 + 1) * 2 ^ 24 + cmpP t / 2 ^ 8 else (blen t + 7) / 8 * 2 ^ 24 + cmpP t := by
 by_cases h : t = 0
 . subst h; rfl
 . rw [cmpN, if_neg h]
theorem limb_shr8 {p : Nat} (hp : p < 2 ^ 24) : u64_shr (limb p 0) 8 = limb (p / 2 ^ 8) 0 := by
 apply UInt64.toNat_inj.1
 rw [shr64 _ (by decide), limb0_nat (by omega), limb0_nat (by omega)]
theorem pcompact_ok {T : Tbl} {t : Nat} (ht : t < 2 ^ 256) : CallA prog G 22 [.ag (Bg t)] T fun v T' es => v = w32 (UInt32.ofNat (cmpN t)) /\ T' = T /\ es = [] := by
 refine CallA.wfs fun wf => ?_
 have wt := wf.t
 refine CallA.eV 16 func22 ntmps22 results22 ?_
 simp -dsimp +decide only [vy, vz, vze, vr, ty, en, ↓reduceIte, Nat.reduceSub, Nat.reduceAdd, Nat.reduceMul, Nat.reduceLT, Int.reduceAdd, Int.reduceSub, Int.reduceToNat, ci]
 rw [cmpN_eq]
 have hP := cmpP_lt t
 have hbl := blen_le ht
 have hcp : cmpP t = if (blen t + 7) / 8 < 3 then t * 2 ^ (8 * (3 - (blen t + 7) / 8)) else t / 2 ^ (8 * ((blen t + 7) / 8 - 3)) := rfl
 have g0 := fun l => gn0 T (.cells 51 (Bg t)) l
 simp -dsimp +decide (disch := omega) only [vy, vz, vze, vr, ty, en, ↓reduceIte, Nat.reduceSub, Nat.reduceAdd, Nat.reduceMul, Nat.reduceLT, Int.reduceAdd, Int.reduceSub, Int.reduceToNat, ci, vi, getO_i, vt, vbg, g0]
 refine (pbits_ok ht).det' ?_
 have hq : ((blen t : Int) + 7).tdiv 8 = (((blen t + 7) / 8 : Nat) : Int) := by
  rw [Int.tdiv_eq_ediv_of_nonneg (by omega)]; omega
 obtain ⟨n, hn⟩ : ∃ n, n = (blen t + 7) / 8 := ⟨_, rfl⟩
 rw [<- hn] at hq hcp ⊢
 have hn32 : n <= 32 := by omega
 simp -dsimp +decide (disch := omega) only [vy, vz, vze, vr, ty, en, ↓reduceIte, Nat.reduceSub, Nat.reduceAdd, Nat.reduceMul, Nat.reduceLT, Int.reduceAdd, Int.reduceSub, Int.reduceToNat, ci, vi, getO_i, vt, vbg, hq, g0]
 have hPx : cmpP t < 2 ^ 256 := by omega
 have hl0 := limb0_nat (p := cmpP t) (by omega)
 have hl8 := limb_shr8 hP
 by_cases h3 : ((3 : Int) <= (n : Int))
 . have i3 := eq_true h3
   have hp : (8 : Int) * ((n : Int) - 3) = ((8 * (n - 3) : Nat) : Int) := by omega
   rw [if_neg (show ¬ n < 3 by omega)] at hcp
   simp -dsimp +decide (disch := omega) only [vy, vz, vze, vr, ty, en, ↓reduceIte, Nat.reduceSub, Nat.reduceAdd, Nat.reduceMul, Nat.reduceLT, Int.reduceAdd, Int.reduceSub, Int.reduceToNat, ci, vi, getO_i, vt, vbg, i3, hp, g0]
   refine (pdown_ok ht (by omega)).det' ?_
   rw [<- hcp]
   have hg := Bg_get (cmpP t) (j := 0) (by omega)
   revert hP hg hPx hl0 hl8
   generalize cmpP t = p
   intro hP hPx hl0 hl8 hg
   simp -dsimp +decide (disch := omega) only [vy, vz, vze, vr, ty, en, ↓reduceIte, Nat.reduceSub, Nat.reduceAdd, Nat.reduceMul, Nat.reduceLT, Int.reduceAdd, Int.reduceSub, Int.reduceToNat, ci, vi, getO_i, vt, vbg, hg, g0]
   refine CondP.dec (fun h => ?_) (fun h => ?_)
   . rw [if_pos (by omega)]
     simp -dsimp +decide (disch := omega) only [vy, vz, vze, vr, ty, en, ↓reduceIte, Nat.reduceSub, Nat.reduceAdd, Nat.reduceMul, Nat.reduceLT, Int.reduceAdd, Int.reduceSub, Int.reduceToNat, ci, vi, getO_i, vt, vbg, hg, hl8]
     rw [show UInt32.ofInt (n : Int) + UInt32.ofInt 1 = UInt32.ofInt ((n + 1 : Nat) : Int) by rw [<- UInt32.ofInt_add]; rfl, compact_or (by omega) (by omega)]
     exact Vw.cut ⟨rfl, rfl, rfl⟩
   . rw [if_neg (by omega)]
     simp -dsimp +decide (disch := omega) only [vy, vz, vze, vr, ty, en, ↓reduceIte, Nat.reduceSub, Nat.reduceAdd, Nat.reduceMul, Nat.reduceLT, Int.reduceAdd, Int.reduceSub, Int.reduceToNat, ci, vi, getO_i, vt, vbg, hg]
     rw [compact_or (by omega) hP]
     exact Vw.cut ⟨rfl, rfl, rfl⟩
 . have i3 := eq_false h3
   have hp : (8 : Int) * (3 - (n : Int)) = ((8 * (3 - n) : Nat) : Int) := by omega
   rw [if_pos (show n < 3 by omega)] at hcp
   have hg := Bg_get t (j := 0) (by omega)
   have hcn : (UInt64.ofInt ((8 * (3 - n) : Nat) : Int)).toNat = 8 * (3 - n) := ofInt_lt (by omega)
   have hsh : u64_shl (limb t 0) (8 * (3 - n)) = limb (cmpP t) 0 := by
    have := up_limb (x := t) (n := 8 * (3 - n)) (k := 0) (s := 8 * (3 - n)) (i := 0) (by omega) (by omega) (by omega) (by omega)
    rw [if_neg (by omega), UInt64.or_zero, <- hcp, Nat.mod_eq_of_lt hPx] at this
    exact this.symm
   revert hP hPx hl0 hl8 hsh
   generalize cmpP t = p
   intro hP hPx hl0 hl8 hsh
   simp -dsimp +decide (disch := omega) only [vy, vz, vze, vr, ty, en, ↓reduceIte, Nat.reduceSub, Nat.reduceAdd, Nat.reduceMul, Nat.reduceLT, Int.reduceAdd, Int.reduceSub, Int.reduceToNat, ci, vi, getO_i, vt, vbg, i3, hp, g0, hg, hcn, hsh, Bg_len]
   refine ⟨by omega, ?_⟩
   refine CondP.dec (fun h => ?_) (fun h => ?_)
   . rw [if_pos (by omega)]
     simp -dsimp +decide (disch := omega) only [vy, vz, vze, vr, ty, en, ↓reduceIte, Nat.reduceSub, Nat.reduceAdd, Nat.reduceMul, Nat.reduceLT, Int.reduceAdd, Int.reduceSub, Int.reduceToNat, ci, vi, getO_i, vt, vbg, hl8]
     rw [show UInt32.ofInt (n : Int) + UInt32.ofInt 1 = UInt32.ofInt ((n + 1 : Nat) : Int) by rw [<- UInt32.ofInt_add]; rfl, compact_or (by omega) (by omega)]
     exact Vw.cut ⟨rfl, rfl, rfl⟩
   . rw [if_neg (by omega)]
     simp -dsimp +decide (disch := omega) only [vy, vz, vze, vr, ty, en, ↓reduceIte, Nat.reduceSub, Nat.reduceAdd, Nat.reduceMul, Nat.reduceLT, Int.reduceAdd, Int.reduceSub, Int.reduceToNat, ci, vi, getO_i, vt, vbg]
     rw [compact_or (by omega) hP]
     exact Vw.cut ⟨rfl, rfl, rfl⟩
theorem pmeets_ok {T : Tbl} {h : List UInt8} {t : Nat} (hh : h.length = 32) (ht : t < 2 ^ 256) : CallA prog G 34 [.ag (h.map by8), .ag (Bg t)] T fun v T' es => v = .p (.bool (decide (t ≠ 0 /\ hN h <= t))) /\ T' = T /\ es = [] := by
 refine CallA.wfs fun wf => ?_
 have wt := wf.t
 have z256 : 0 < 2 ^ 256 := by decide
 have hx : hN h < 2 ^ 256 := by have := hN_lt h; rwa [hh] at this
 have g0 := fun l => gn0 T (.cells 25 (h.map by8)) l
 have g1 := fun a l => gn1 T a (.cells 51 (Bg t)) l
 have ez : [oQ, oQ, oQ, oQ] = Bg 0 := rfl
 refine CallA.eV 5 func34 ntmps34 results34 ?_
 simp -dsimp +decide only [vy, vz, vze, vr, ty, en, ↓reduceIte, Nat.reduceSub, Nat.reduceAdd, Nat.reduceMul, Nat.reduceLT, Int.reduceAdd, Int.reduceSub, Int.reduceToNat, ci]
 refine SemA.draw (fun _ => true) [(0, true), (1, false), (2, true), (3, true), (4, true), (5, true), (6, false), (7, false), (8, true), (9, true), (10, true)] mixed (by kernel_rfl) ?_
 by_cases t0 : t = 0
 . have t0' : (t = 0) = True := eq_true t0
   rw [show decide (t ≠ 0 /\ hN h <= t) = false by simp [t0]]
   simp -dsimp +decide (disch := omega) only [vy, vz, vze, vr, ty, en, ↓reduceIte, Nat.reduceSub, Nat.reduceAdd, Nat.reduceMul, Nat.reduceLT, Int.reduceAdd, Int.reduceSub, Int.reduceToNat, ci, vi, getO_i, vt, ez, vbg, vh, hh, neB ht z256, t0', g0, g1]
   exact Vw.cut ⟨rfl, rfl, rfl⟩
 . have t0' : (t = 0) = False := eq_false t0
   simp -dsimp +decide (disch := omega) only [vy, vz, vze, vr, ty, en, ↓reduceIte, Nat.reduceSub, Nat.reduceAdd, Nat.reduceMul, Nat.reduceLT, Int.reduceAdd, Int.reduceSub, Int.reduceToNat, ci, vi, getO_i, vt, ez, vbg, vh, hh, List.drop_zero, neB ht z256, t0', g0, g1]
   refine (pofhash_ok hh).det' ?_
   simp -dsimp +decide (disch := omega) only [vy, vz, vze, vr, ty, en, ↓reduceIte, Nat.reduceSub, Nat.reduceAdd, Nat.reduceMul, Nat.reduceLT, Int.reduceAdd, Int.reduceSub, Int.reduceToNat, ci, vi, getO_i, vt, ez, vbg, vh, hh, List.drop_zero, g0, g1]
   refine (pless_ok ht hx).det' ?_
   rw [show decide (t ≠ 0 /\ hN h <= t) = !decide (t < hN h) by rw [<- decide_not, decide_eq_decide]; omega]
   simp -dsimp +decide (disch := omega) only [vy, vz, vze, vr, ty, en, ↓reduceIte, Nat.reduceSub, Nat.reduceAdd, Nat.reduceMul, Nat.reduceLT, Int.reduceAdd, Int.reduceSub, Int.reduceToNat, ci, vi, getO_i, vt, ez, vbg, vh, hh, List.drop_zero, g0, g1]
   exact Vw.cut ⟨rfl, rfl, rfl⟩
def lfh : List Lf := List.replicate 32 (.i .u8)
theorem kth : KT prog 25 lfh := ⟨(by kernel_rfl), (by kernel_rfl), (by kernel_rfl), (by kernel_rfl), Nat.le_of_ble_eq_true (by kernel_rfl), (by kernel_rfl)⟩
abbrev v8 (l : List UInt8) : List Value := l.map fun b => .int .u8 (b.toNat : Int)
theorem by8_p (l : List UInt8) : l.map by8 = (v8 l).map .p := by rw [v8, List.map_map]; rfl
theorem fith {l : List UInt8} (h : l.length = 32) : FitL lfh (v8 l) := by
 have := FitL.u8 l
 rwa [h] at this
theorem v8_inj {l m : List UInt8} : v8 l = v8 m ↔ l = m :=
 ⟨fun h => (List.map_inj_right (f := fun b : UInt8 => Value.int .u8 (b.toNat : Int)) (fun x y e => by simp at e; exact UInt8.toNat_inj.1 (by omega))).1 h, fun h => by rw [h]⟩
open Classical in
theorem eqh {l m : List UInt8} (hl : l.length = 32) (hm : m.length = 32) (xo yo : Operand) (K : AV -> Prop) : binA prog .eql 25 (.ag (l.map by8)) (.ag (m.map by8)) xo yo K = K (.p (.bool (decide (l = m)))) := by
 rw [by8_p, by8_p, KT.eqA kth (fith hl) (fith hm)]
 congr 3
 rw [Bool.eq_iff_iff, decide_eq_true_iff, decide_eq_true_iff]; exact v8_inj
open Classical in
theorem neh {l m : List UInt8} (hl : l.length = 32) (hm : m.length = 32) (xo yo : Operand) (K : AV -> Prop) : binA prog .neq 25 (.ag (l.map by8)) (.ag (m.map by8)) xo yo K = K (.p (.bool (!decide (l = m)))) := by
 rw [by8_p, by8_p, KT.neA kth (fith hl) (fith hm)]
 congr 4
 rw [Bool.eq_iff_iff, decide_eq_true_iff, decide_eq_true_iff]; exact v8_inj
theorem Sl.fld {T : Tbl} {sz n : Nat} {a : AV} {cs : List AV} {K : AV -> Prop} (h : Sl T sz a cs n) (hn : 0 < n) (j k : Nat) : fldA (some k) (a.pl j) K = K (a.pl (j + k)) := by
 obtain ⟨hl, rfl | ⟨i, off, o, ds, rfl, g1, g2, g3, g4⟩ | ⟨rfl, rfl⟩⟩ := h
 . rfl
 . simp only [AV.pl, fldA, Nat.add_assoc]
 . omega
theorem flat_cell {α : Type} {f : α -> List AV} {sz : Nat} {xs : List α} (h : ∀ x ∈ xs, (f x).length = sz) {i j : Nat} {x : α} (hx : xs[i]? = some x) (hj : j < sz) : (xs.flatMap f)[i * sz + j]? = (f x)[j]? := by
 rw [<- List.getElem?_drop, <- List.getElem?_take_of_lt hj, flat_at h hx]
def atN : Nat -> Nat
 | 0 => 0
 | 1 => 68
 | 2 => 72
 | _ => 76
def offN : Nat -> Nat
 | 0 => 0
 | 1 => 65
 | 2 => 66
 | _ => 67
def Hdr.num (h : Hdr) : Nat -> UInt32
 | 0 => h.v
 | 1 => h.time
 | 2 => h.bits
 | _ => h.nonce
def numsA (i : Nat) : List AV := [wint 0, .ptr i 0, wint 68, .ptr i 65, wint 72, .ptr i 66, wint 76, .ptr i 67]
theorem hnums_ok {T : Tbl} {i : Nat} (hi : i < T.length) : CallA prog G 69 [.ptr i 0] T fun v T' es => v = .ag (numsA i) /\ T' = T /\ es = [] := by
 refine CallA.wfs fun wf => ?_
 have wt := wf.t
 refine CallA.eV 3 func69 ntmps69 results69 ?_
 simp -dsimp +decide only [vt2, vy, vz, vze, vy, vz, vze, vr, ty, en, ↓reduceIte, Nat.reduceSub, Nat.reduceAdd, Nat.reduceMul, Nat.reduceLT, Int.reduceAdd, Int.reduceSub, Int.reduceToNat, ci]
 refine SemA.draw (fun i => true) [(0, true), (1, true), (2, true), (3, true), (4, true), (5, true), (6, true), (7, true), (8, true), (9, true), (10, true), (11, true), (12, true), (13, true), (14, true), (15, true), (16, true), (17, false)] mixed (by kernel_rfl) ?_
 simp -dsimp +decide (disch := omega) only [vt2, vy, vz, vze, vy, vz, vze, vr, ty, en, ↓reduceIte, Nat.reduceSub, Nat.reduceAdd, Nat.reduceMul, Nat.reduceLT, Int.reduceAdd, Int.reduceSub, Int.reduceToNat, ci, vi, getO_i, vt, kallT]
 show getO (some (numsA i)) _
 simp -dsimp +decide (disch := omega) only [vt2, vy, vz, vze, vy, vz, vze, vr, ty, en, ↓reduceIte, Nat.reduceSub, Nat.reduceAdd, Nat.reduceMul, Nat.reduceLT, Int.reduceAdd, Int.reduceSub, Int.reduceToNat, ci, vi, getO_i, vt, kallT]
 have hd : decide (T.length <= i) = false := decide_eq_false (by omega)
 refine ⟨⟨rfl, Nat.succ_pos _, Nat.le_refl _, rfl⟩, Nat.le_refl 8, Vw.cut ⟨?_, rfl, rfl⟩⟩
 show AV.wo _ (AV.ag (numsA i)) = _
 rw [AV.wo, AV.woL_eq]
 simp [numsA, AV.wo, hd]
 exact ⟨rfl, rfl, rfl, rfl⟩
def lowb (n : UInt32) (i : Nat) : UInt8 := (u32_shr n (8 * i)).toUInt8
def put4 (b : List UInt8) (a : Nat) (n : UInt32) : Nat -> List UInt8
 | 0 => b
 | i + 1 => (put4 b a n i).set (a + i) (lowb n i)
theorem put4_len (b : List UInt8) (a : Nat) (n : UInt32) : ∀ i, (put4 b a n i).length = b.length
 | 0 => rfl
 | i + 1 => by rw [put4, List.length_set, put4_len b a n i]
def bufP (h : Hdr) : Nat -> List UInt8
 | 0 => List.replicate 80 0
 | k + 1 => put4 (bufP h k) (atN k) (h.num k) 4
theorem bufP_len (h : Hdr) : ∀ k, (bufP h k).length = 80
 | 0 => List.length_replicate
 | k + 1 => by rw [bufP, put4_len, bufP_len h k]
theorem nums_at (i : Nat) {k : Nat} (h : k < 4) : List.take 2 (List.drop (k * 2) (numsA i)) = [wint (atN k), .ptr i (offN k)] := by
 match k, h with
 | 0, _ => rfl
 | 1, _ => rfl
 | 2, _ => rfl
 | 3, _ => rfl
theorem at_le {k : Nat} (h : k < 4) : atN k <= 76 := by
 match k, h with
 | 0, _ => decide
 | 1, _ => decide
 | 2, _ => decide
 | 3, _ => decide
theorem Hdr.off {h : Hdr} (ok : h.Ok) {k : Nat} (hk : k < 4) : h.cs[offN k]? = some (w32 (h.num k)) := by
 have hr := Hdr.rules ok
 match k, hk with
 | 0, _ => exact hr.2.1
 | 1, _ => exact hr.2.2.2.2.1
 | 2, _ => exact hr.2.2.2.2.2.1
 | 3, _ => exact hr.2.2.2.2.2.2.1
theorem shr0 (n : UInt32) : u32_shr n 0 = n := by
 apply UInt32.toNat_inj.1
 rw [u32_shr, if_pos (by decide), UInt32.toNat_shiftRight]
 show n.toNat >>> 0 = _
 rfl
theorem lw4_low (n : UInt32) : lw4 n = [lowb n 0, lowb n 1, lowb n 2, lowb n 3] := by
 rw [lw4, lowb, lowb, lowb, lowb, Nat.mul_zero, shr0]
theorem bufP_end (h : Hdr) : bufP h 4 = lw4 h.v ++ (List.replicate 64 0 ++ (lw4 h.time ++ (lw4 h.bits ++ lw4 h.nonce))) := by
 rw [lw4_low, lw4_low, lw4_low, lw4_low]
 simp only [bufP, put4, Hdr.num, atN]
 generalize lowb h.v 0 = a0
 generalize lowb h.v 1 = a1
 generalize lowb h.v 2 = a2
 generalize lowb h.v 3 = a3
 generalize lowb h.time 0 = b0
 generalize lowb h.time 1 = b1
 generalize lowb h.time 2 = b2
 generalize lowb h.time 3 = b3
 generalize lowb h.bits 0 = c0
 generalize lowb h.bits 1 = c1
 generalize lowb h.bits 2 = c2
 generalize lowb h.bits 3 = c3
 generalize lowb h.nonce 0 = d0
 generalize lowb h.nonce 1 = d1
 generalize lowb h.nonce 2 = d2
 generalize lowb h.nonce 3 = d3
 rfl
theorem wrA_by8 {L m : List UInt8} {off : Nat} (h : off + m.length <= L.length) : wrA (L.map by8) off (m.map by8) = (L.take off ++ m ++ L.drop (off + m.length)).map by8 := by
 rw [wrA_eq (by rw [List.length_map, List.length_map]; exact h), List.length_map, List.map_append, List.map_append, List.map_take, List.map_drop]
theorem pput_ok {T : Tbl} {h : Hdr} (ok : h.Ok) : CallA prog G 49 [.ag h.cs] T fun v T' es => v = .vs (h.bytes.map by8) 80 /\ T' = T /\ es = [] := by
 refine CallA.wfs fun wf => ?_
 have wt := wf.t
 have wp := wf.p
 have hr := Hdr.rules ok
 have hlc := Hdr.cs_len ok
 refine CallA.eV 13 func49 ntmps49 results49 ?_
 simp -dsimp +decide only [vt2, vy, vz, vze, vy, vz, vze, vr, ty, en, ↓reduceIte, Nat.reduceSub, Nat.reduceAdd, Nat.reduceMul, Nat.reduceLT, Int.reduceAdd, Int.reduceSub, Int.reduceToNat, ci]
 refine (hnums_ok (i := T.length) (by simp)).det' ?_
 simp -dsimp +decide (disch := omega) only [vt2, vy, vz, vze, vy, vz, vze, vr, ty, en, ↓reduceIte, Nat.reduceSub, Nat.reduceAdd, Nat.reduceMul, Nat.reduceLT, Int.reduceAdd, Int.reduceSub, Int.reduceToNat, ci, vi, getO_i, vt, hr]
 have hz : (List.replicate 80 [oB]).flatten = (bufP h 0).map by8 := by
  rw [bufP, List.map_replicate]; simp; rfl
 rw [hz]
 refine SemA.loopK (T.length + 2) (fun k : Nat => [(1, .ptr T.length 0), (3, .sl (T.length + 1) 0 80), (8, .ag (numsA T.length)), (9, wint (k : Int))]) (fun k => T ++ [.cells 27 h.cs, .buf 5 1 ((bufP h k).map by8)]) (fun k => k <= 4) (fun k => 4 - k) 0 [] 0 (fun _ : Unit => [(1, .ptr T.length 0), (3, .sl (T.length + 1) 0 80)]) (fun _ => T ++ [.cells 27 h.cs, .buf 5 1 ((bufP h 4).map by8)]) (fun _ => True) (by omega) (by simp) (by (simp -dsimp +decide (disch := omega) only [vt2, vy, vz, vze, vy, vz, vze, vr, ty, en, ↓reduceIte, Nat.reduceSub, Nat.reduceAdd, Nat.reduceMul, Nat.reduceLT, Int.reduceAdd, Int.reduceSub, Int.reduceToNat, ci, vi, getO_i]); first | rfl | exact ⟨rfl, rfl, rfl, rfl⟩ | done) rfl (by simp) ?_ ?_
 . rintro k g hk
   refine SemA.o ?_
   simp -dsimp +decide (disch := omega) only [vt2, vy, vz, vze, vy, vz, vze, vr, ty, en, ↓reduceIte, Nat.reduceSub, Nat.reduceAdd, Nat.reduceMul, Nat.reduceLT, Int.reduceAdd, Int.reduceSub, Int.reduceToNat, ci, vi, getO_i, vt]
   refine CondP.dec (fun hc => ?_) (fun hc => ?_)
   . have hk4 : k < 4 := by omega
     have hna := nums_at T.length hk4
     have hat := at_le hk4
     have hof := Hdr.off ok hk4
     obtain ⟨B, hB⟩ : ∃ B, B = bufP h k := ⟨_, rfl⟩
     have hBl : B.length = 80 := by rw [hB, bufP_len]
     have hnx : bufP h (k + 1) = put4 B (atN k) (h.num k) 4 := by rw [bufP, hB]
     rw [<- hB]
     simp -dsimp +decide (disch := omega) only [vt2, vy, vz, vze, vy, vz, vze, vr, ty, en, ↓reduceIte, Nat.reduceSub, Nat.reduceAdd, Nat.reduceMul, Nat.reduceLT, Int.reduceAdd, Int.reduceSub, Int.reduceToNat, ci, vi, getO_i, vt, hna]
     refine ⟨⟨by omega, by omega⟩, by show k * 2 + 2 <= 8; omega, ?_⟩
     refine SemA.loopE (fun i : Nat => [(1, .ptr T.length 0), (3, .sl (T.length + 1) 0 80), (5, .ptr (T.length + 2) 0), (8, .ag (numsA T.length)), (9, wint (k : Int)), (12, wint (i : Int))]) (fun i => T ++ [.cells 27 h.cs, .buf 5 1 ((put4 B (atN k) (h.num k) i).map by8), .cells 91 [wint (atN k), .ptr T.length (offN k)]]) (fun i => i <= 4) (fun i => 4 - i) 0 [] 2 (fun _ : Unit => [(1, .ptr T.length 0), (3, .sl (T.length + 1) 0 80), (8, .ag (numsA T.length)), (9, wint (k : Int))]) (fun _ => T ++ [.cells 27 h.cs, .buf 5 1 ((put4 B (atN k) (h.num k) 4).map by8), .cells 91 [wint (atN k), .ptr T.length (offN k)]]) (fun _ => True) (by simp) (by (simp -dsimp +decide (disch := omega) only [vt2, vy, vz, vze, vy, vz, vze, vr, ty, en, ↓reduceIte, Nat.reduceSub, Nat.reduceAdd, Nat.reduceMul, Nat.reduceLT, Int.reduceAdd, Int.reduceSub, Int.reduceToNat, ci, vi, getO_i]); first | rfl | exact ⟨rfl, rfl, rfl, rfl, rfl, rfl⟩ | done) rfl (by simp) ?_ ?_
     . rintro i g hi
       refine SemA.o ?_
       simp -dsimp +decide (disch := omega) only [vt2, vy, vz, vze, vy, vz, vze, vr, ty, en, ↓reduceIte, Nat.reduceSub, Nat.reduceAdd, Nat.reduceMul, Nat.reduceLT, Int.reduceAdd, Int.reduceSub, Int.reduceToNat, ci, vi, getO_i, vt]
       refine CondP.dec (fun hc2 => ?_) (fun hc2 => ?_)
       . obtain ⟨C, hC⟩ : ∃ C, C = put4 B (atN k) (h.num k) i := ⟨_, rfl⟩
         have hCl : C.length = 80 := by rw [hC, put4_len, hBl]
         have hnx2 : put4 B (atN k) (h.num k) (i + 1) = C.set (atN k + i) (lowb (h.num k) i) := by rw [put4, hC]
         rw [<- hC]
         have g0 := fun l => gn0 T (.cells 27 h.cs) l
         have g2 := fun a b l => gn2 T a b (.cells 91 [wint (atN k), .ptr T.length (offN k)]) l
         have hsum : ((atN k : Nat) : Int) + (i : Int) = ((atN k + i : Nat) : Int) := by omega
         have hmul : (8 : Int) * (i : Int) = ((8 * i : Nat) : Int) := by omega
         have hcn : (UInt64.ofInt ((8 * i : Nat) : Int)).toNat = 8 * i := ofInt_lt (by omega)
         have hlb : (u32_shr (h.num k) (8 * i)).toUInt8 = lowb (h.num k) i := rfl
         simp -dsimp +decide (disch := omega) only [vt2, vy, vz, vze, vy, vz, vze, vr, ty, en, ↓reduceIte, Nat.reduceSub, Nat.reduceAdd, Nat.reduceMul, Nat.reduceLT, Int.reduceAdd, Int.reduceSub, Int.reduceToNat, ci, vi, getO_i, vt]
         refine SemA.draw (fun i => true) [(0, true), (1, true), (2, true), (3, true), (4, true), (5, true), (6, true), (7, true), (8, true), (9, true), (10, true), (11, true), (12, true), (13, true), (14, false)] mixed (by kernel_rfl) ?_
         simp -dsimp +decide (disch := omega) only [vt2, vy, vz, vze, vy, vz, vze, vr, ty, en, ↓reduceIte, Nat.reduceSub, Nat.reduceAdd, Nat.reduceMul, Nat.reduceLT, Int.reduceAdd, Int.reduceSub, Int.reduceToNat, ci, vi, getO_i, vt, g0, g2, hof, hsum, hmul, hcn, hlb, kallT, List.length_map, hCl]
         have hCne : List.map by8 C ≠ [] := fun e => by have := congrArg List.length e; rw [List.length_map, hCl] at this; cases this
         exact ⟨by omega, ⟨by omega, by omega, hCne⟩, by omega, i + 1, ⟨by omega, by omega⟩, rfl, by rw [hnx2]⟩
       . have e : i = 4 := by omega
         subst e
         simp -dsimp +decide (disch := omega) only [vt2, vy, vz, vze, vy, vz, vze, vr, ty, en, ↓reduceIte, Nat.reduceSub, Nat.reduceAdd, Nat.reduceMul, Nat.reduceLT, Int.reduceAdd, Int.reduceSub, Int.reduceToNat, ci, vi, getO_i, vt, wt]
         first | exact ⟨(), trivial⟩ | exact ⟨(), rfl⟩ | exact ⟨(), rfl, rfl⟩
     . rintro _ g tmp -
       have hnw : List.map (AV.wo fun x => decide (T.length + 2 <= x)) (numsA T.length) = numsA T.length := by
        simp [numsA, AV.wo]
        exact ⟨rfl, rfl, rfl, rfl⟩
       simp -dsimp +decide (disch := omega) only [vt2, vy, vz, vze, vy, vz, vze, vr, ty, en, ↓reduceIte, Nat.reduceSub, Nat.reduceAdd, Nat.reduceMul, Nat.reduceLT, Int.reduceAdd, Int.reduceSub, Int.reduceToNat, ci, vi, getO_i, vt, wt, hr]
       exact ⟨k + 1, ⟨by omega, by omega⟩, ⟨by rw [hnw], rfl⟩, by rw [hnx]⟩
   . have e : k = 4 := by omega
     subst e
     simp -dsimp +decide (disch := omega) only [vt2, vy, vz, vze, vy, vz, vze, vr, ty, en, ↓reduceIte, Nat.reduceSub, Nat.reduceAdd, Nat.reduceMul, Nat.reduceLT, Int.reduceAdd, Int.reduceSub, Int.reduceToNat, ci, vi, getO_i, vt, wt, hr]
     first | exact ⟨(), trivial⟩ | exact ⟨(), rfl⟩ | exact ⟨(), rfl, rfl⟩
 . rintro _ g tmp -
   have hbl := bufP_len h 4
   have g0 := fun l => gn0 T (.cells 27 h.cs) l
   have ht1 : List.take 32 h.prev = h.prev := List.take_of_length_le (Nat.le_of_eq ok.p)
   have ht2 : List.take 32 h.root = h.root := List.take_of_length_le (Nat.le_of_eq ok.r)
   have m1 : min 32 76 = 32 := rfl
   have m2 : min 32 44 = 32 := rfl
   have hcp1 := wrA_by8 (L := bufP h 4) (off := 4) (m := h.prev) (by rw [ok.p, hbl]; decide)
   rw [ok.p] at hcp1
   obtain ⟨R, hR⟩ : ∃ R, R = lw4 h.time ++ (lw4 h.bits ++ lw4 h.nonce) := ⟨_, rfl⟩
   have hW1 : List.take 4 (bufP h 4) ++ h.prev ++ List.drop (4 + 32) (bufP h 4) = lw4 h.v ++ (h.prev ++ (List.replicate 32 0 ++ R)) := by
    rw [bufP_end, List.append_assoc, hR]; rfl
   rw [hW1] at hcp1
   obtain ⟨W, hW⟩ : ∃ W, W = lw4 h.v ++ (h.prev ++ (List.replicate 32 0 ++ R)) := ⟨_, rfl⟩
   have hWl : W.length = 80 := by rw [hW, hR]; simp [lw4, ok.p]
   rw [<- hW] at hcp1
   have hcp2 := wrA_by8 (L := W) (off := 36) (m := h.root) (by rw [ok.r, hWl]; decide)
   rw [ok.r] at hcp2
   have hW2 : List.take 36 W ++ h.root ++ List.drop (36 + 32) W = h.bytes := by
    have e1 : W = (lw4 h.v ++ h.prev) ++ (List.replicate 32 0 ++ R) := by rw [hW, List.append_assoc]
    have e2 : W = ((lw4 h.v ++ h.prev) ++ List.replicate 32 0) ++ R := by rw [hW]; simp only [List.append_assoc]
    have t1 : List.take 36 W = lw4 h.v ++ h.prev := by rw [e1, List.take_left' (by simp [lw4, ok.p])]
    have t2 : List.drop (36 + 32) W = R := by rw [e2, List.drop_left' (by simp [lw4, ok.p])]
    rw [t1, t2, hR, Hdr.bytes]; simp only [List.append_assoc]
   rw [hW2] at hcp2
   refine SemA.draw (fun i => true) [(0, true), (1, true), (2, true), (3, true), (4, false)] mixed (by kernel_rfl) ?_
   simp -dsimp +decide (disch := omega) only [vt2, vy, vz, vze, vy, vz, vze, vr, ty, en, ↓reduceIte, Nat.reduceSub, Nat.reduceAdd, Nat.reduceMul, Nat.reduceLT, Int.reduceAdd, Int.reduceSub, Int.reduceToNat, ci, vi, getO_i, vt, g0, kallT, List.length_map, hbl, hr, vh, ok.p, ok.r, m1, m2, hcp1, ht1]
   refine SemA.draw (fun i => true) [(0, true), (1, true), (2, true), (3, true), (4, false)] mixed (by kernel_rfl) ?_
   simp -dsimp +decide (disch := omega) only [vt2, vy, vz, vze, vy, vz, vze, vr, ty, en, ↓reduceIte, Nat.reduceSub, Nat.reduceAdd, Nat.reduceMul, Nat.reduceLT, Int.reduceAdd, Int.reduceSub, Int.reduceToNat, ci, vi, getO_i, vt, g0, kallT, List.length_map, hbl, hWl, hr, vh, ok.p, ok.r, m1, m2, hcp2, ht2]
   refine Vw.pub (T.length + 1) (o := .buf 5 1 (h.bytes.map by8)) (gn1 T _ _ _) rfl (clean8 _) ?_
   simp -dsimp +decide only [vt2, vy, vz, vze, vy, vz, vze, vr, ty, en, ↓reduceIte, Nat.reduceSub, Nat.reduceAdd, Nat.reduceMul, Nat.reduceLT, Int.reduceAdd, Int.reduceSub, Int.reduceToNat, ci, vt, wp]
   exact Vw.cut ⟨rfl, rfl, rfl⟩
theorem pid_ok {T : Tbl} {h : Hdr} (ok : h.Ok) : CallA prog G 23 [.ag h.cs] T fun v T' es => v = .ag (h.id.map by8) /\ T' = T /\ es = [] := by
 refine CallA.wfs fun wf => ?_
 have wt := wf.t
 have hr := Hdr.rules ok
 have hl := Hdr.bytes_len ok
 have hi := h.id_len
 have hb : ∀ T', Bs T' (.vs (h.bytes.map by8) 80) h.bytes := fun T' => hl ▸ Sl.vs _ _ (by simp)
 refine CallA.eV 3 func23 ntmps23 results23 ?_
 simp -dsimp +decide only [vt2, vy, vz, vze, vy, vz, vze, vr, ty, en, ↓reduceIte, Nat.reduceSub, Nat.reduceAdd, Nat.reduceMul, Nat.reduceLT, Int.reduceAdd, Int.reduceSub, Int.reduceToNat, ci]
 simp -dsimp +decide (disch := omega) only [vt2, vy, vz, vze, vy, vz, vze, vr, ty, en, ↓reduceIte, Nat.reduceSub, Nat.reduceAdd, Nat.reduceMul, Nat.reduceLT, Int.reduceAdd, Int.reduceSub, Int.reduceToNat, ci, vi, getO_i, vt, hr, ez32]
 refine (pput_ok ok).det' ?_
 simp -dsimp +decide (disch := omega) only [vt2, vy, vz, vze, vy, vz, vze, vr, ty, en, ↓reduceIte, Nat.reduceSub, Nat.reduceAdd, Nat.reduceMul, Nat.reduceLT, Int.reduceAdd, Int.reduceSub, Int.reduceToNat, ci, vi, getO_i, vt, hr, ez32]
 refine (twice_ok (hb _)).det' ?_
 rw [show twice h.bytes = h.id from rfl]
 simp -dsimp +decide (disch := omega) only [vt2, vy, vz, vze, vy, vz, vze, vr, ty, en, ↓reduceIte, Nat.reduceSub, Nat.reduceAdd, Nat.reduceMul, Nat.reduceLT, Int.reduceAdd, Int.reduceSub, Int.reduceToNat, ci, vi, getO_i, vt, hr, vh, hi, vres, List.drop_zero]
 exact Vw.cut ⟨by rw [AV.wo, AV.woL_eq, wb8], rfl, rfl⟩
theorem muldiv (x n m : Nat) (h : 0 < m) : x * n / m = x / m * n + x % m * n / m := by
 have e : x * n = m * (x / m * n) + x % m * n := by
  conv => lhs; rw [<- Nat.div_add_mod x m]
  rw [Nat.add_mul, Nat.mul_assoc]
 rw [e, Nat.mul_add_div h]
theorem ofNat_zero {k : Nat} (h : k < 2 ^ 64) : ((UInt64.ofNat k).toNat : Int) = (k : Int) := by rw [UInt64.toNat_ofNat', Nat.mod_eq_of_lt h]
theorem part13_ok {T : Tbl} {x most : Nat} {n m : UInt64} (hx : x < 2 ^ 256) (hmost : most < 2 ^ 256) (hm : 0 < m.toNat) :
 CallA prog G 28 [.ag (Bg x), w64 n, w64 m, .ag (Bg most)] T fun v T' es => v = .ag (Bg (min (x * n.toNat / m.toNat) most)) /\ T' = T /\ es = [] := by
 refine CallA.wfs fun wf => ?_
 have wt := wf.t
 have ez : [oQ, oQ, oQ, oQ] = Bg 0 := rfl
 have em : [AV.p (Value.int IntKind.u64 ↑m.toNat), oQ, oQ, oQ] = Bg m.toNat := (bg_small m).symm
 have hml := m.toNat_lt
 have hnl := n.toNat_lt
 have hmx : m.toNat < 2 ^ 256 := by omega
 have hq : x / m.toNat < 2 ^ 256 := Nat.lt_of_le_of_lt (Nat.div_le_self _ _) hx
 have hrm : x % m.toNat < m.toNat := Nat.mod_lt _ hm
 have hr : x % m.toNat < 2 ^ 256 := by omega
 have hsum := muldiv x n.toNat m.toNat hm
 refine CallA.eV 22 func28 ntmps28 results28 ?_
 simp -dsimp +decide only [vr, ty, en, ↓reduceIte, Nat.reduceSub, Nat.reduceAdd, Nat.reduceMul, Nat.reduceLT, Int.reduceAdd, Int.reduceSub, Int.reduceToNat, ci]
 simp -dsimp +decide (disch := omega) only [vr, ty, en, ↓reduceIte, Nat.reduceSub, Nat.reduceAdd, Nat.reduceMul, Nat.reduceLT, Int.reduceAdd, Int.reduceSub, Int.reduceToNat, ci, vi, getO_i, vt, ez, em, vbg]
 refine (div02_ok hx hmx hm).det' ?_
 revert hq hrm hr hsum
 generalize x / m.toNat = q
 generalize x % m.toNat = r
 intro hq hrm hr hsum
 simp -dsimp +decide (disch := omega) only [vr, ty, en, ↓reduceIte, Nat.reduceSub, Nat.reduceAdd, Nat.reduceMul, Nat.reduceLT, Int.reduceAdd, Int.reduceSub, Int.reduceToNat, ci, vi, getO_i, vt, ez, em, vbg]
 refine (mul02_ok hq).det' ?_
 have hqo : q * n.toNat / 2 ^ 256 < 2 ^ 64 := by
  rw [Nat.div_lt_iff_lt_mul (by decide)]
  calc q * n.toNat <= 2 ^ 256 * n.toNat := Nat.mul_le_mul_right _ (by omega)
   _ < 2 ^ 64 * 2 ^ 256 := by rw [Nat.mul_comm]; exact Nat.mul_lt_mul_of_pos_right hnl (by decide)
 simp -dsimp +decide (disch := omega) only [vr, ty, en, ↓reduceIte, Nat.reduceSub, Nat.reduceAdd, Nat.reduceMul, Nat.reduceLT, Int.reduceAdd, Int.reduceSub, Int.reduceToNat, ci, vi, getO_i, vt, ez, em, vbg, ofNat_zero hqo]
 refine CondP.ndec (fun h => ?_) (fun h => ?_)
 . have hbig : 2 ^ 256 <= q * n.toNat := by
    have h1 : 1 <= q * n.toNat / 2 ^ 256 := by omega
    rw [Nat.le_div_iff_mul_le (by decide)] at h1
    omega
   rw [hsum, Nat.min_eq_right (Nat.le_trans (Nat.le_of_lt hmost) (Nat.le_trans hbig (Nat.le_add_right _ _)))]
   simp -dsimp +decide (disch := omega) only [vr, ty, en, ↓reduceIte, Nat.reduceSub, Nat.reduceAdd, Nat.reduceMul, Nat.reduceLT, Int.reduceAdd, Int.reduceSub, Int.reduceToNat, ci, vi, getO_i, vt, ez, vbg, vres]
   exact Vw.cut ⟨by rw [AV.wo, AV.woL_eq, Bg_wo], rfl, rfl⟩
 . have hsm : q * n.toNat < 2 ^ 256 := by
    have h1 : q * n.toNat / 2 ^ 256 = 0 := by omega
    rw [Nat.div_eq_zero_iff] at h1
    omega
   rw [Nat.mod_eq_of_lt hsm]
   simp -dsimp +decide (disch := omega) only [vr, ty, en, ↓reduceIte, Nat.reduceSub, Nat.reduceAdd, Nat.reduceMul, Nat.reduceLT, Int.reduceAdd, Int.reduceSub, Int.reduceToNat, ci, vi, getO_i, vt, ez, vbg]
   refine (mul02_ok hr).det' ?_
   have hrn : r * n.toNat < 2 ^ 128 := by
    calc r * n.toNat <= 2 ^ 64 * n.toNat := Nat.mul_le_mul_right _ (by omega)
     _ < 2 ^ 64 * 2 ^ 64 := Nat.mul_lt_mul_of_pos_left hnl (by decide)
     _ = 2 ^ 128 := by decide
   rw [Nat.mod_eq_of_lt (a := r * n.toNat) (b := 2 ^ 256) (by omega)]
   simp -dsimp +decide (disch := omega) only [vr, ty, en, ↓reduceIte, Nat.reduceSub, Nat.reduceAdd, Nat.reduceMul, Nat.reduceLT, Int.reduceAdd, Int.reduceSub, Int.reduceToNat, ci, vi, getO_i, vt, ez, vbg]
   refine (div02_ok (by omega) hmx hm).det' ?_
   have hc : r * n.toNat / m.toNat < 2 ^ 256 := Nat.lt_of_le_of_lt (Nat.div_le_self _ _) (by omega)
   revert hc hsum hsm
   generalize r * n.toNat / m.toNat = c
   generalize q * n.toNat = a
   intro hsum hsm hc
   rw [hsum]
   simp -dsimp +decide (disch := omega) only [vr, ty, en, ↓reduceIte, Nat.reduceSub, Nat.reduceAdd, Nat.reduceMul, Nat.reduceLT, Int.reduceAdd, Int.reduceSub, Int.reduceToNat, ci, vi, getO_i, vt, ez, vbg]
   refine (add02_ok hsm hc).det' ?_
   by_cases hov : 2 ^ 256 <= a + c
   . rw [show decide (2 ^ 256 <= a + c) = true from decide_eq_true hov, Nat.min_eq_right (by omega)]
     simp -dsimp +decide (disch := omega) only [vr, ty, en, ↓reduceIte, Nat.reduceSub, Nat.reduceAdd, Nat.reduceMul, Nat.reduceLT, Int.reduceAdd, Int.reduceSub, Int.reduceToNat, ci, vi, getO_i, vt, ez, vbg, vres]
     exact Vw.cut ⟨by rw [AV.wo, AV.woL_eq, Bg_wo], rfl, rfl⟩
   . rw [show decide (2 ^ 256 <= a + c) = false from decide_eq_false hov, Nat.mod_eq_of_lt (by omega)]
     simp -dsimp +decide (disch := omega) only [vr, ty, en, ↓reduceIte, Nat.reduceSub, Nat.reduceAdd, Nat.reduceMul, Nat.reduceLT, Int.reduceAdd, Int.reduceSub, Int.reduceToNat, ci, vi, getO_i, vt, ez, vbg, vres]
     refine (less02_ok hmost (by omega)).det' ?_
     by_cases hl : most < a + c
     . rw [show decide (most < a + c) = true from decide_eq_true hl, Nat.min_eq_right (by omega)]
       simp -dsimp +decide (disch := omega) only [vr, ty, en, ↓reduceIte, Nat.reduceSub, Nat.reduceAdd, Nat.reduceMul, Nat.reduceLT, Int.reduceAdd, Int.reduceSub, Int.reduceToNat, ci, vi, getO_i, vt, ez, vbg, vres]
       exact Vw.cut ⟨by rw [AV.wo, AV.woL_eq, Bg_wo], rfl, rfl⟩
     . rw [show decide (most < a + c) = false from decide_eq_false hl, Nat.min_eq_left (by omega)]
       simp -dsimp +decide (disch := omega) only [vr, ty, en, ↓reduceIte, Nat.reduceSub, Nat.reduceAdd, Nat.reduceMul, Nat.reduceLT, Int.reduceAdd, Int.reduceSub, Int.reduceToNat, ci, vi, getO_i, vt, ez, vbg, vres]
       exact Vw.cut ⟨by rw [AV.wo, AV.woL_eq, Bg_wo], rfl, rfl⟩
structure Pt where
 h : Int
 id : List UInt8
abbrev Pt.cs (x : Pt) : List AV := wint x.h :: x.id.map by8
structure Par where
 limit : UInt32
 interval : Int
 spacing : UInt32
 pa : AV
 pts : List Pt
 first : Hdr
def Par.cs (p : Par) : List AV := w32 p.limit :: wint p.interval :: w32 p.spacing :: p.pa :: p.first.cs
structure Par.Ok (p : Par) : Prop where
 f : p.first.Ok
 a : ∀ T, Es T 33 Pt.cs p.pa p.pts
 l : p.pts.length <= 1099511627776
 i : -9223372036854775808 <= p.interval /\ p.interval <= 9223372036854775807
 wo : ∀ q, p.pa.wo q = p.pa
 pub : ∀ i cs, p.pa.pub i cs = p.pa
 one : AV.one p.pa = true
 h : ∀ x ∈ p.pts, -9223372036854775808 <= x.h /\ x.h <= 9223372036854775807
theorem Par.Ok.id {p : Par} (ok : p.Ok) : ∀ x ∈ p.pts, x.id.length = 32 := fun x hx => by
 have := (ok.a []).wd x hx; simpa using this
theorem Par.rules {p : Par} (ok : p.Ok) : p.cs.length = 72 /\ p.cs[0]? = some (w32 p.limit) /\ p.cs[1]? = some (wint p.interval) /\ p.cs[2]? = some (w32 p.spacing) /\ p.cs[3]? = some p.pa /\ List.take 68 (List.drop 4 p.cs) = p.first.cs /\ p.cs[69]? = some (w32 p.first.time) /\ p.cs[70]? = some (w32 p.first.bits) /\
 List.take 72 (List.drop 0 p.cs) = p.cs /\ List.take 72 p.cs = p.cs /\ (∀ q, p.cs.map (AV.wo q) = p.cs) /\ (∀ i cs, p.cs.map (AV.pub i cs) = p.cs) /\ ones p.cs = true := by
 have hr := Hdr.rules ok.f
 have hl : p.cs.length = 72 := by simp [Par.cs, hr.1]
 have hd : List.drop 4 p.cs = p.first.cs := rfl
 have hg : ∀ k, p.cs[4 + k]? = p.first.cs[k]? := fun k => by rw [<- List.getElem?_drop, hd]
 refine ⟨hl, rfl, rfl, rfl, rfl, by rw [hd]; exact hr.2.2.2.2.2.2.2.2.1, by rw [show 69 = 4 + 65 from rfl, hg]; exact hr.2.2.2.2.1, by rw [show 70 = 4 + 66 from rfl, hg]; exact hr.2.2.2.2.2.1, by rw [List.drop_zero, List.take_of_length_le (by omega)], List.take_of_length_le (by omega), fun q => ?_, fun i cs => ?_, ?_⟩
 . simp only [Par.cs, List.map_cons, hr.2.2.2.2.2.2.2.2.2.1, ok.wo]
   simp only [w32, wint, AV.wo]
 . simp only [Par.cs, List.map_cons, hr.2.2.2.2.2.2.2.2.2.2.1, ok.pub]
   simp only [w32, wint, AV.pub]
 . have h1 : AV.one (w32 p.limit) = true := rfl
   have h2 : AV.one (wint p.interval) = true := rfl
   have h3 : AV.one (w32 p.spacing) = true := rfl
   have h4 : List.all p.first.cs AV.one = true := hr.2.2.2.2.2.2.2.2.2.2.2
   rw [ones, Par.cs, List.all_cons, List.all_cons, List.all_cons, List.all_cons, h1, h2, h3, ok.one, h4]; rfl
def z33 : List AV := wint 0 :: z32
theorem ez33 : [oI, oB, oB, oB, oB, oB, oB, oB, oB, oB, oB, oB, oB, oB, oB, oB, oB, oB, oB, oB, oB, oB, oB, oB, oB, oB, oB, oB, oB, oB, oB, oB, oB] = z33 := rfl
theorem Pt.rules {x : Pt} (h : x.id.length = 32) : (wrA z33 0 (wint x.h :: x.id.map by8) = wint x.h :: x.id.map by8) /\ (z33.length = 33) /\ ((wint x.h :: x.id.map by8).length = 33) /\ List.take 32 (List.drop 1 (wint x.h :: x.id.map by8)) = x.id.map by8 /\ ones (wint x.h :: x.id.map by8) = true := by
 have h2 : (wint x.h :: x.id.map by8).length = 33 := by simp [h]
 refine ⟨wrA_all (by rw [h2]; rfl), rfl, h2, ?_, ?_⟩
 . rw [show (1 : Nat) = 0 + 1 from rfl, List.drop_succ_cons, List.drop_zero, List.take_of_length_le (by simp [h])]
 . have := vh.2.2.2.2.2 x.id
   rw [ones] at this ⊢
   rw [List.all_cons, show AV.one (wint x.h) = true from rfl, Bool.true_and]; exact this
def ptOK (f : List UInt8) (pts : List Pt) (k : Nat) : Prop := ∀ x, pts[k]? = some x -> 0 <= x.h /\ (∀ y, 0 < k -> pts[k - 1]? = some y -> y.h < x.h) /\ (x.h = 0 -> x.id = f)
open Classical in
noncomputable def mayP (p : Par) : Bool := decide (∀ k, k < p.pts.length -> ptOK p.first.id p.pts k)
noncomputable def mayB (p : Par) : Bool := match ofT p.limit.toNat with
 | none => false
 | some t => decide (UInt32.ofNat (cmpN t) = p.limit) && decide (2 <= p.interval) && decide (p.interval <= 2016) && decide (1 <= p.spacing.toNat) && decide (p.spacing.toNat <= 3600) && decide (p.first.bits = p.limit) && mayP p
theorem ofT_lt {b t : Nat} (h : ofT b = some t) : t < 2 ^ 256 /\ t ≠ 0 := by
 unfold ofT at h
 split at h
 . cases h
 . rename_i hn
   cases h
   omega
theorem may13_ok {T : Tbl} {p : Par} (ok : p.Ok) : CallA prog G 8 [.ag p.cs] T fun v T' es => v = .p (.bool (mayB p)) /\ T' = T /\ es = [] := by
 refine CallA.wfs fun wf => ?_
 have wt := wf.t
 have hr := Par.rules ok
 have g0 := fun l => gn0 T (.cells 29 p.cs) l
 have ez : [oQ, oQ, oQ, oQ] = Bg 0 := rfl
 refine CallA.eV 7 func8 ntmps8 results8 ?_
 simp -dsimp +decide only [vt2, vy, vz, vze, vr, ty, en, ↓reduceIte, Nat.reduceSub, Nat.reduceAdd, Nat.reduceMul, Nat.reduceLT, Int.reduceAdd, Int.reduceSub, Int.reduceToNat, ci]
 simp -dsimp +decide (disch := omega) only [vt2, vy, vz, vze, vr, ty, en, ↓reduceIte, Nat.reduceSub, Nat.reduceAdd, Nat.reduceMul, Nat.reduceLT, Int.reduceAdd, Int.reduceSub, Int.reduceToNat, ci, vi, getO_i, vt, hr, ez, vbg]
 refine of03_ok.det' ?_
 cases ho : ofT p.limit.toNat with
 | none =>
   rw [show mayB p = false by rw [mayB, ho]]
   unfold ofV
   simp -dsimp +decide (disch := omega) only [vt2, vy, vz, vze, vr, ty, en, ↓reduceIte, Nat.reduceSub, Nat.reduceAdd, Nat.reduceMul, Nat.reduceLT, Int.reduceAdd, Int.reduceSub, Int.reduceToNat, ci, vi, getO_i, vt, hr, ez, vbg]
   refine SemA.draw (fun i => true) [(0, true), (1, true), (2, true), (3, true), (5, true), (6, true), (4, false), (7, true), (8, true), (9, true), (10, true), (11, true), (12, true), (13, true), (14, true), (15, true), (16, true), (17, true), (18, true), (19, true), (20, true), (21, true), (22, true), (23, true), (24, true), (25, true), (26, true), (27, true), (28, true), (29, true), (30, true), (31, true), (32, true), (33, true), (34, true), (35, true), (36, true)] mixed (by kernel_rfl) ?_
   simp -dsimp +decide (disch := omega) only [vt2, vy, vz, vze, vr, ty, en, ↓reduceIte, Nat.reduceSub, Nat.reduceAdd, Nat.reduceMul, Nat.reduceLT, Int.reduceAdd, Int.reduceSub, Int.reduceToNat, ci, vi, getO_i, vt, hr, ez, vbg, g0, bb2]
   exact Vw.cut ⟨rfl, rfl, rfl⟩
 | some t =>
   obtain ⟨htx, ht0⟩ := ofT_lt ho
   rw [show mayB p = (decide (UInt32.ofNat (cmpN t) = p.limit) && decide (2 <= p.interval) && decide (p.interval <= 2016) && decide (1 <= p.spacing.toNat) && decide (p.spacing.toNat <= 3600) && decide (p.first.bits = p.limit) && mayP p) by rw [mayB, ho]]
   unfold ofV
   simp -dsimp +decide (disch := omega) only [vt2, vy, vz, vze, vr, ty, en, ↓reduceIte, Nat.reduceSub, Nat.reduceAdd, Nat.reduceMul, Nat.reduceLT, Int.reduceAdd, Int.reduceSub, Int.reduceToNat, ci, vi, getO_i, vt, hr, ez, vbg]
   have g1 := fun a l => gn1 T a (.cells 51 (Bg t)) l
   refine SemA.draw (fun i => true) [(0, true), (1, true), (2, true), (3, true), (5, true), (6, true), (4, false), (7, true), (8, true), (9, true), (10, true), (11, true), (12, true), (13, true), (14, true), (15, true), (16, true), (17, true), (18, true), (19, true), (20, true), (21, true), (22, true), (23, true), (24, true), (25, true), (26, true), (27, true), (28, true), (29, true), (30, true), (31, true), (32, true), (33, true), (34, true), (35, true), (36, true)] mixed (by kernel_rfl) ?_
   simp -dsimp +decide (disch := omega) only [vt2, vy, vz, vze, vr, ty, en, ↓reduceIte, Nat.reduceSub, Nat.reduceAdd, Nat.reduceMul, Nat.reduceLT, Int.reduceAdd, Int.reduceSub, Int.reduceToNat, ci, vi, getO_i, vt, hr, ez, vbg, g0, g1, bb2]
   refine (compact03_ok htx).det' ?_
   simp -dsimp +decide (disch := omega) only [vt2, vy, vz, vze, vr, ty, en, ↓reduceIte, Nat.reduceSub, Nat.reduceAdd, Nat.reduceMul, Nat.reduceLT, Int.reduceAdd, Int.reduceSub, Int.reduceToNat, ci, vi, getO_i, vt, hr, ez, vbg, g0, g1, bb2]
   by_cases c1 : UInt32.ofNat (cmpN t) = p.limit
   rotate_left
   . have ic1 : (((UInt32.ofNat (cmpN t)).toNat : Int) = (p.limit.toNat : Int)) = False := eq_false fun e => c1 (UInt32.toNat_inj.1 (by omega))
     rw [show decide (UInt32.ofNat (cmpN t) = p.limit) = false from decide_eq_false c1]
     simp -dsimp +decide (disch := omega) only [vt2, vy, vz, vze, vr, ty, en, ↓reduceIte, Nat.reduceSub, Nat.reduceAdd, Nat.reduceMul, Nat.reduceLT, Int.reduceAdd, Int.reduceSub, Int.reduceToNat, ci, vi, getO_i, vt, hr, ez, vbg, g0, g1, bb2, ic1, Bool.and_false, Bool.false_and]
     exact Vw.cut ⟨rfl, rfl, rfl⟩
   have ic1 : (((UInt32.ofNat (cmpN t)).toNat : Int) = (p.limit.toNat : Int)) = True := eq_true (by rw [c1])
   rw [show decide (UInt32.ofNat (cmpN t) = p.limit) = true from decide_eq_true c1]
   by_cases c2 : 2 <= p.interval
   rotate_left
   . have ic2 : (p.interval < 2) = True := eq_true (by omega)
     rw [show decide (2 <= p.interval) = false from decide_eq_false c2]
     simp -dsimp +decide (disch := omega) only [vt2, vy, vz, vze, vr, ty, en, ↓reduceIte, Nat.reduceSub, Nat.reduceAdd, Nat.reduceMul, Nat.reduceLT, Int.reduceAdd, Int.reduceSub, Int.reduceToNat, ci, vi, getO_i, vt, hr, ez, vbg, g0, g1, bb2, ic1, ic2, Bool.and_false, Bool.false_and]
     exact Vw.cut ⟨rfl, rfl, rfl⟩
   have ic2 : (p.interval < 2) = False := eq_false (by omega)
   rw [show decide (2 <= p.interval) = true from decide_eq_true c2]
   by_cases c3 : p.interval <= 2016
   rotate_left
   . have ic3 : (2016 < p.interval) = True := eq_true (by omega)
     rw [show decide (p.interval <= 2016) = false from decide_eq_false c3]
     simp -dsimp +decide (disch := omega) only [vt2, vy, vz, vze, vr, ty, en, ↓reduceIte, Nat.reduceSub, Nat.reduceAdd, Nat.reduceMul, Nat.reduceLT, Int.reduceAdd, Int.reduceSub, Int.reduceToNat, ci, vi, getO_i, vt, hr, ez, vbg, g0, g1, bb2, ic1, ic2, ic3, Bool.and_false, Bool.false_and]
     exact Vw.cut ⟨rfl, rfl, rfl⟩
   have ic3 : (2016 < p.interval) = False := eq_false (by omega)
   rw [show decide (p.interval <= 2016) = true from decide_eq_true c3]
   by_cases c4 : 1 <= p.spacing.toNat
   rotate_left
   . have ic4 : ((p.spacing.toNat : Int) < 1) = True := eq_true (by omega)
     rw [show decide (1 <= p.spacing.toNat) = false from decide_eq_false c4]
     simp -dsimp +decide (disch := omega) only [vt2, vy, vz, vze, vr, ty, en, ↓reduceIte, Nat.reduceSub, Nat.reduceAdd, Nat.reduceMul, Nat.reduceLT, Int.reduceAdd, Int.reduceSub, Int.reduceToNat, ci, vi, getO_i, vt, hr, ez, vbg, g0, g1, bb2, ic1, ic2, ic3, ic4, Bool.and_false, Bool.false_and]
     exact Vw.cut ⟨rfl, rfl, rfl⟩
   have ic4 : ((p.spacing.toNat : Int) < 1) = False := eq_false (by omega)
   rw [show decide (1 <= p.spacing.toNat) = true from decide_eq_true c4]
   by_cases c5 : p.spacing.toNat <= 3600
   rotate_left
   . have ic5 : ((3600 : Int) < (p.spacing.toNat : Int)) = True := eq_true (by omega)
     rw [show decide (p.spacing.toNat <= 3600) = false from decide_eq_false c5]
     simp -dsimp +decide (disch := omega) only [vt2, vy, vz, vze, vr, ty, en, ↓reduceIte, Nat.reduceSub, Nat.reduceAdd, Nat.reduceMul, Nat.reduceLT, Int.reduceAdd, Int.reduceSub, Int.reduceToNat, ci, vi, getO_i, vt, hr, ez, vbg, g0, g1, bb2, ic1, ic2, ic3, ic4, ic5, Bool.and_false, Bool.false_and]
     exact Vw.cut ⟨rfl, rfl, rfl⟩
   have ic5 : ((3600 : Int) < (p.spacing.toNat : Int)) = False := eq_false (by omega)
   rw [show decide (p.spacing.toNat <= 3600) = true from decide_eq_true c5]
   by_cases c6 : p.first.bits = p.limit
   rotate_left
   . have ic6 : ((p.first.bits.toNat : Int) = (p.limit.toNat : Int)) = False := eq_false fun e => c6 (UInt32.toNat_inj.1 (by omega))
     rw [show decide (p.first.bits = p.limit) = false from decide_eq_false c6]
     simp -dsimp +decide (disch := omega) only [vt2, vy, vz, vze, vr, ty, en, ↓reduceIte, Nat.reduceSub, Nat.reduceAdd, Nat.reduceMul, Nat.reduceLT, Int.reduceAdd, Int.reduceSub, Int.reduceToNat, ci, vi, getO_i, vt, hr, ez, vbg, g0, g1, bb2, ic1, ic2, ic3, ic4, ic5, ic6, Bool.and_false, Bool.false_and]
     exact Vw.cut ⟨rfl, rfl, rfl⟩
   have ic6 : ((p.first.bits.toNat : Int) = (p.limit.toNat : Int)) = True := eq_true (by rw [c6])
   rw [show decide (p.first.bits = p.limit) = true from decide_eq_true c6]
   simp -dsimp +decide (disch := omega) only [vt2, vy, vz, vze, vr, ty, en, ↓reduceIte, Nat.reduceSub, Nat.reduceAdd, Nat.reduceMul, Nat.reduceLT, Int.reduceAdd, Int.reduceSub, Int.reduceToNat, ci, vi, getO_i, vt, hr, ez, vbg, g0, g1, bb2, ic1, ic2, ic3, ic4, ic5, ic6, Bool.true_and, Bool.and_true]
   have hpl := ok.l
   have hb := ok.a T
   have hsr := Sl.rules hb.sl (by decide)
   have hld := hb.ld (P := prog) (t := 56) (by (simp -dsimp +decide only [vt2, vy, vz, vze, vr, ty, en, ↓reduceIte, Nat.reduceSub, Nat.reduceAdd, Nat.reduceMul, Nat.reduceLT, Int.reduceAdd, Int.reduceSub, Int.reduceToNat, ci])) (by (simp -dsimp +decide only [vt2, vy, vz, vze, vr, ty, en, ↓reduceIte, Nat.reduceSub, Nat.reduceAdd, Nat.reduceMul, Nat.reduceLT, Int.reduceAdd, Int.reduceSub, Int.reduceToNat, ci])) (by decide)
   have hl1 := Sl.loads hb.sl (P := prog) (t := 3) (by (simp -dsimp +decide only [vt2, vy, vz, vze, vr, ty, en, ↓reduceIte, Nat.reduceSub, Nat.reduceAdd, Nat.reduceMul, Nat.reduceLT, Int.reduceAdd, Int.reduceSub, Int.reduceToNat, ci]))
   have hpw := ok.wo
   refine SemA.loopK (T.length + 2) (fun k : Nat => [(1, .ptr T.length 0), (5, wint (k : Int))]) (fun _ => T ++ [.cells 29 p.cs, .cells 51 (Bg t)]) (fun k => k <= p.pts.length /\ ∀ j, j < k -> ptOK p.first.id p.pts j) (fun k => p.pts.length - k) 0 [] 0 (fun _ : Unit => []) (fun _ => T ++ [.cells 29 p.cs, .cells 51 (Bg t)]) (fun _ => ∀ j, j < p.pts.length -> ptOK p.first.id p.pts j) (by omega) ⟨by omega, fun j hj => by omega⟩ (by (simp -dsimp +decide (disch := omega) only [vt2, vy, vz, vze, vr, ty, en, ↓reduceIte, Nat.reduceSub, Nat.reduceAdd, Nat.reduceMul, Nat.reduceLT, Int.reduceAdd, Int.reduceSub, Int.reduceToNat, ci, vi, getO_i]); first | rfl | done) rfl (by simp) ?_ ?_
   . rintro k g ⟨hk, hq⟩
     refine SemA.o ?_
     simp -dsimp +decide (disch := omega) only [vt2, vy, vz, vze, vr, ty, en, ↓reduceIte, Nat.reduceSub, Nat.reduceAdd, Nat.reduceMul, Nat.reduceLT, Int.reduceAdd, Int.reduceSub, Int.reduceToNat, ci, vi, getO_i, vt, hr, hsr, g0]
     refine CondP.dec (fun h => ?_) (fun h => ?_)
     . obtain ⟨x, hx⟩ : ∃ x, p.pts[k]? = some x := ⟨p.pts[k]'(by omega), by simp⟩
       have hx32 := ok.id x (List.mem_of_getElem? hx)
       have hxr := Pt.rules hx32
       have hx4 : List.take 32 (List.drop 1 (AV.p (Value.int IntKind.i64 x.h) :: x.id.map by8)) = x.id.map by8 := hxr.2.2.2.1
       have hxh := ok.h x (List.mem_of_getElem? hx)
       have hn : 0 < p.pts.length := by omega
       have hfd := fun j k (K : AV -> Prop) => Sl.fld (K := K) hb.sl hn j k
       have g2 := fun a b l => gn2 T a b (.cells 56 (wint x.h :: x.id.map by8)) l
       have hid := p.first.id_len
       have no : ¬ ptOK p.first.id p.pts k -> mayP p = false := fun hn => by
        unfold mayP
        simp only [decide_eq_false_iff_not]
        exact fun h => hn (h k (by omega))
       have yes : ptOK p.first.id p.pts k -> ∀ j, j < k + 1 -> ptOK p.first.id p.pts j := fun h j hj => by
        rcases Nat.lt_or_eq_of_le (Nat.le_of_lt_succ hj) with h2 | rfl
        . exact hq j h2
        . exact h
       simp -dsimp +decide (disch := omega) only [vt2, vy, vz, vze, vr, ty, en, ↓reduceIte, Nat.reduceSub, Nat.reduceAdd, Nat.reduceMul, Nat.reduceLT, Int.reduceAdd, Int.reduceSub, Int.reduceToNat, ci, vi, getO_i, vt, hr, hsr, hld, hx, ez33, hxr, g0]
       refine ⟨⟨by omega, by omega⟩, ?_⟩
       by_cases d1 : x.h < 0
       . rw [no fun h => by have := (h x hx).1; omega]
         refine SemA.draw (fun i => true) [(0, true), (1, true), (2, true), (3, true), (4, true), (5, true), (6, true), (7, true), (8, true), (9, true), (10, true), (11, true), (12, true), (13, true), (14, true), (15, true), (16, true), (17, true), (18, true), (19, true), (20, true), (21, true), (22, true), (23, true), (24, true), (25, true), (26, true), (27, true), (28, false), (29, true), (30, true), (31, true)] mixed (by kernel_rfl) ?_
         simp -dsimp +decide (disch := omega) only [vt2, vy, vz, vze, vr, ty, en, ↓reduceIte, Nat.reduceSub, Nat.reduceAdd, Nat.reduceMul, Nat.reduceLT, Int.reduceAdd, Int.reduceSub, Int.reduceToNat, ci, vi, getO_i, vt, hr, hsr, hld, hx, ez33, hxr, g0, g2, kallT, d1, bb2]
         exact Vw.cut ⟨rfl, rfl, rfl⟩
       have i1 : (x.h < 0) = False := eq_false d1
       by_cases hk0 : k = 0
       . have i0 : ((0 : Int) < (k : Int)) = False := eq_false (by omega)
         refine SemA.draw (fun i => true) [(0, true), (1, true), (2, true), (3, true), (4, true), (5, true), (6, true), (7, true), (8, true), (9, true), (10, true), (11, true), (12, true), (13, true), (14, true), (15, true), (16, true), (17, true), (18, true), (19, true), (20, true), (21, true), (22, true), (23, true), (24, true), (25, true), (26, true), (27, true), (28, false), (29, true), (30, true), (31, true)] mixed (by kernel_rfl) ?_
         simp -dsimp +decide (disch := omega) only [vt2, vy, vz, vze, vr, ty, en, ↓reduceIte, Nat.reduceSub, Nat.reduceAdd, Nat.reduceMul, Nat.reduceLT, Int.reduceAdd, Int.reduceSub, Int.reduceToNat, ci, vi, getO_i, vt, hr, hsr, hld, hl1, hx, ez33, hxr, g0, g2, kallT, vbg, i1, bb2, i0]
         have hp : (x.h = 0 -> x.id = p.first.id) -> ptOK p.first.id p.pts k := fun h z hz => by
          rw [hx] at hz; cases hz
          exact ⟨by omega, fun y h0 _ => by omega, h⟩
         by_cases d3 : x.h = 0
         . have i3 : (x.h = 0) = True := eq_true d3
           simp -dsimp +decide (disch := omega) only [vt2, vy, vz, vze, vr, ty, en, ↓reduceIte, Nat.reduceSub, Nat.reduceAdd, Nat.reduceMul, Nat.reduceLT, Int.reduceAdd, Int.reduceSub, Int.reduceToNat, ci, vi, getO_i, vt, hr, hsr, hld, hl1, hx, ez33, hxr, g0, g2, kallT, vbg, i1, bb2, i0, i3]
           refine ⟨by omega, (rid_ok ok.f).det' ?_⟩
           by_cases d4 : x.id = p.first.id
           . have i4 : (x.id = p.first.id) = True := eq_true d4
             simp -dsimp +decide (disch := omega) only [vt2, vy, vz, vze, vr, ty, en, ↓reduceIte, Nat.reduceSub, Nat.reduceAdd, Nat.reduceMul, Nat.reduceLT, Int.reduceAdd, Int.reduceSub, Int.reduceToNat, ci, vi, getO_i, vt, hr, hsr, hld, hl1, hx, ez33, hxr, g0, g2, kallT, vbg, i1, bb2, i0, i3, hx4, neh hx32 hid, i4, wt]
             exact ⟨k + 1, ⟨⟨by omega, yes (hp fun _ => d4)⟩, by omega⟩, rfl⟩
           . have i4 : (x.id = p.first.id) = False := eq_false d4
             rw [no fun h => d4 ((h x hx).2.2 d3)]
             simp -dsimp +decide (disch := omega) only [vt2, vy, vz, vze, vr, ty, en, ↓reduceIte, Nat.reduceSub, Nat.reduceAdd, Nat.reduceMul, Nat.reduceLT, Int.reduceAdd, Int.reduceSub, Int.reduceToNat, ci, vi, getO_i, vt, hr, hsr, hld, hl1, hx, ez33, hxr, g0, g2, kallT, vbg, i1, bb2, i0, i3, hx4, neh hx32 hid, i4, wt]
             exact Vw.cut ⟨rfl, rfl, rfl⟩
         . have i3 : (x.h = 0) = False := eq_false d3
           simp -dsimp +decide (disch := omega) only [vt2, vy, vz, vze, vr, ty, en, ↓reduceIte, Nat.reduceSub, Nat.reduceAdd, Nat.reduceMul, Nat.reduceLT, Int.reduceAdd, Int.reduceSub, Int.reduceToNat, ci, vi, getO_i, vt, hr, hsr, hld, hl1, hx, ez33, hxr, g0, g2, kallT, vbg, i1, bb2, i0, i3, wt]
           exact ⟨k + 1, ⟨⟨by omega, yes (hp fun h => absurd h d3)⟩, by omega⟩, rfl⟩
       . obtain ⟨y, hy⟩ : ∃ y, p.pts[k - 1]? = some y := ⟨p.pts[k - 1]'(by omega), by simp⟩
         have hyh := ok.h y (List.mem_of_getElem? hy)
         have i0 : ((0 : Int) < (k : Int)) = True := eq_true (by omega)
         have hc : (k : Int) - 1 = ((k - 1 : Nat) : Int) := by omega
         have hcell : (p.pts.flatMap Pt.cs)[(k - 1) * 33]? = some (wint y.h) := by
          have := flat_cell (j := 0) hb.wd hy (by omega)
          simpa using this
         refine SemA.draw (fun i => true) [(0, true), (1, true), (2, true), (3, true), (4, true), (5, true), (6, true), (7, true), (8, true), (9, true), (10, true), (11, true), (12, true), (13, true), (14, true), (15, true), (16, true), (17, true), (18, true), (19, true), (20, true), (21, true), (22, true), (23, true), (24, true), (25, true), (26, true), (27, true), (28, false), (29, true), (30, true), (31, true)] mixed (by kernel_rfl) ?_
         simp -dsimp +decide (disch := omega) only [vt2, vy, vz, vze, vr, ty, en, ↓reduceIte, Nat.reduceSub, Nat.reduceAdd, Nat.reduceMul, Nat.reduceLT, Int.reduceAdd, Int.reduceSub, Int.reduceToNat, ci, vi, getO_i, vt, hr, hsr, hld, hl1, hx, ez33, hxr, g0, g2, kallT, vbg, i1, bb2, i0, hc, hfd, hcell]
         refine ⟨⟨by omega, by omega⟩, ?_⟩
         by_cases d2 : x.h <= y.h
         . have i2 : (x.h <= y.h) = True := eq_true d2
           rw [no fun h => by have := (h x hx).2.1 y (by omega) hy; omega]
           simp -dsimp +decide (disch := omega) only [vt2, vy, vz, vze, vr, ty, en, ↓reduceIte, Nat.reduceSub, Nat.reduceAdd, Nat.reduceMul, Nat.reduceLT, Int.reduceAdd, Int.reduceSub, Int.reduceToNat, ci, vi, getO_i, vt, hr, hsr, hld, hl1, hx, ez33, hxr, g0, g2, kallT, vbg, i1, bb2, i0, hc, hfd, hcell, i2]
           exact Vw.cut ⟨rfl, rfl, rfl⟩
         have i2 : (x.h <= y.h) = False := eq_false d2
         have hp : (x.h = 0 -> x.id = p.first.id) -> ptOK p.first.id p.pts k := fun h z hz => by
          rw [hx] at hz; cases hz
          exact ⟨by omega, fun y2 _ h2 => by rw [hy] at h2; cases h2; omega, h⟩
         by_cases d3 : x.h = 0
         . have i3 : (x.h = 0) = True := eq_true d3
           simp -dsimp +decide (disch := omega) only [vt2, vy, vz, vze, vr, ty, en, ↓reduceIte, Nat.reduceSub, Nat.reduceAdd, Nat.reduceMul, Nat.reduceLT, Int.reduceAdd, Int.reduceSub, Int.reduceToNat, ci, vi, getO_i, vt, hr, hsr, hld, hl1, hx, ez33, hxr, g0, g2, kallT, vbg, i1, bb2, i0, hc, hfd, hcell, i2, i3]
           refine ⟨by omega, (rid_ok ok.f).det' ?_⟩
           by_cases d4 : x.id = p.first.id
           . have i4 : (x.id = p.first.id) = True := eq_true d4
             simp -dsimp +decide (disch := omega) only [vt2, vy, vz, vze, vr, ty, en, ↓reduceIte, Nat.reduceSub, Nat.reduceAdd, Nat.reduceMul, Nat.reduceLT, Int.reduceAdd, Int.reduceSub, Int.reduceToNat, ci, vi, getO_i, vt, hr, hsr, hld, hl1, hx, ez33, hxr, g0, g2, kallT, vbg, i1, bb2, i0, hc, hfd, hcell, i2, i3, hx4, neh hx32 hid, i4, wt]
             exact ⟨k + 1, ⟨⟨by omega, yes (hp fun _ => d4)⟩, by omega⟩, rfl⟩
           . have i4 : (x.id = p.first.id) = False := eq_false d4
             rw [no fun h => d4 ((h x hx).2.2 d3)]
             simp -dsimp +decide (disch := omega) only [vt2, vy, vz, vze, vr, ty, en, ↓reduceIte, Nat.reduceSub, Nat.reduceAdd, Nat.reduceMul, Nat.reduceLT, Int.reduceAdd, Int.reduceSub, Int.reduceToNat, ci, vi, getO_i, vt, hr, hsr, hld, hl1, hx, ez33, hxr, g0, g2, kallT, vbg, i1, bb2, i0, hc, hfd, hcell, i2, i3, hx4, neh hx32 hid, i4, wt]
             exact Vw.cut ⟨rfl, rfl, rfl⟩
         . have i3 : (x.h = 0) = False := eq_false d3
           simp -dsimp +decide (disch := omega) only [vt2, vy, vz, vze, vr, ty, en, ↓reduceIte, Nat.reduceSub, Nat.reduceAdd, Nat.reduceMul, Nat.reduceLT, Int.reduceAdd, Int.reduceSub, Int.reduceToNat, ci, vi, getO_i, vt, hr, hsr, hld, hl1, hx, ez33, hxr, g0, g2, kallT, vbg, i1, bb2, i0, hc, hfd, hcell, i2, i3, wt]
           exact ⟨k + 1, ⟨⟨by omega, yes (hp fun h => absurd h d3)⟩, by omega⟩, rfl⟩
     . have e : k = p.pts.length := by omega
       subst e
       simp -dsimp +decide (disch := omega) only [vt2, vy, vz, vze, vr, ty, en, ↓reduceIte, Nat.reduceSub, Nat.reduceAdd, Nat.reduceMul, Nat.reduceLT, Int.reduceAdd, Int.reduceSub, Int.reduceToNat, ci, vi, getO_i, vt, wt, hr, vbg]
       exact ⟨(), hq⟩
   . rintro _ g tmp hq
     rw [show mayP p = true by unfold mayP; simp only [decide_eq_true_eq]; exact hq]
     simp -dsimp +decide (disch := omega) only [vt2, vy, vz, vze, vr, ty, en, ↓reduceIte, Nat.reduceSub, Nat.reduceAdd, Nat.reduceMul, Nat.reduceLT, Int.reduceAdd, Int.reduceSub, Int.reduceToNat, ci, vi, getO_i]
     exact Vw.cut ⟨rfl, rfl, rfl⟩
def z68 : List AV := w32 0 :: (z32 ++ (z32 ++ [w32 0, w32 0, w32 0]))
theorem ez68 : [oW, oB, oB, oB, oB, oB, oB, oB, oB, oB, oB, oB, oB, oB, oB, oB, oB, oB, oB, oB, oB, oB, oB, oB, oB, oB, oB, oB, oB, oB, oB, oB, oB, oB, oB, oB, oB, oB, oB, oB, oB, oB, oB, oB, oB, oB, oB, oB, oB, oB, oB, oB, oB, oB, oB, oB, oB, oB, oB, oB, oB, oB, oB, oB, oB, oW, oW, oW] = z68 := rfl
theorem vz68 : z68.length = 68 /\ (∀ h : Hdr, h.Ok -> wrA z68 0 h.cs = h.cs) := ⟨rfl, fun h ok => wrA_all (by rw [Hdr.cs_len ok]; rfl)⟩
theorem vmm (P : Program) (ts : Array TypeId) (ty : TypeId) (k k2 : IntKind) (x y : Int) (K : AV -> Prop) :
 (pureK P K (Builtin.max_ ts ty #[.int k x, .int k2 y]) = K (.p (.int k (max x y)))) /\ (pureK P K (Builtin.min_ ts ty #[.int k x, .int k2 y]) = K (.p (.int k (min x y)))) := by
 have h1 : max x y = if y > x then y else x := by split <;> omega
 have h2 : min x y = if y < x then y else x := by split <;> omega
 rw [h1, h2]
 exact ⟨pureK_det fun _ => rfl, pureK_det fun _ => rfl⟩
def ofN (b : UInt32) : Nat := (ofT b.toNat).getD 0
theorem ofV_n (b : UInt32) : ofV (ofT b.toNat) = .tu [.ag (Bg (ofN b)), .p (.bool (ofT b.toNat).isSome)] := by
 unfold ofN ofV
 cases ofT b.toNat <;> rfl
theorem ofN_lt (b : UInt32) : ofN b < 2 ^ 256 := by
 unfold ofN
 cases h : ofT b.toNat with
 | none => simp
 | some t => exact (ofT_lt h).1
theorem mayB_is {p : Par} (h : mayB p = true) : 2 <= p.interval /\ p.interval <= 2016 /\ 1 <= p.spacing.toNat /\ p.spacing.toNat <= 3600 /\ p.first.bits = p.limit /\ mayP p = true /\ UInt32.ofNat (cmpN (ofN p.limit)) = p.limit /\ ofT p.limit.toNat = some (ofN p.limit) := by
 unfold mayB at h
 unfold ofN
 cases ho : ofT p.limit.toNat with
 | none => rw [ho] at h; cases h
 | some t =>
   rw [ho] at h
   simp only [Bool.and_eq_true, decide_eq_true_eq] at h
   exact ⟨h.1.1.1.1.1.2, h.1.1.1.1.2, h.1.1.1.2, h.1.1.2, h.1.2, h.2, h.1.1.1.1.1.1, rfl⟩
def wantN (p : Par) : Nat := p.interval.toNat * p.spacing.toNat
def spanN (p : Par) (la fi : UInt32) : Nat := (min (max ((la.toNat : Int) - fi.toNat) ((wantN p / 4 : Nat) : Int)) ((4 * wantN p : Nat) : Int)).toNat
def turnB (p : Par) (la fi : Hdr) : UInt32 := UInt32.ofNat (cmpN (max 1 (min (ofN la.bits * spanN p la.time fi.time / wantN p) (ofN p.limit))))
noncomputable def bitsB (p : Par) (hs : List Hdr) : UInt32 := match hs.getLast? with
 | none => 0
 | some la => if mayB p = false then 0 else if hs.length % p.interval.toNat ≠ 0 then la.bits else
   match hs[hs.length - p.interval.toNat]? with
   | none => 0
   | some fi => turnB p la fi
theorem part13N {T : Tbl} {x most n m : Nat} (hx : x < 2 ^ 256) (hmost : most < 2 ^ 256) (hn : n < 2 ^ 64) (hm2 : m < 2 ^ 64) (hm : 0 < m) :
 CallA prog G 28 [.ag (Bg x), .p (.int .u64 (n : Int)), .p (.int .u64 (m : Int)), .ag (Bg most)] T fun v T' es => v = .ag (Bg (min (x * n / m) most)) /\ T' = T /\ es = [] := by
 have e : ∀ k, k < 2 ^ 64 -> (UInt64.ofNat k).toNat = k := fun k h => by rw [UInt64.toNat_ofNat', Nat.mod_eq_of_lt h]
 have := part13_ok (T := T) (n := UInt64.ofNat n) (m := UInt64.ofNat m) hx hmost (by rw [e m hm2]; exact hm)
 rw [w64, w64, e n hn, e m hm2] at this
 exact this
theorem bits13_ok {T : Tbl} {p : Par} (ok : p.Ok) {a : AV} {hs : List Hdr} (hb : Es T 68 Hdr.cs a hs) (hok : ∀ x ∈ hs, x.Ok) (hl : hs.length <= 1000000) : CallA prog G 10 [.ag p.cs, a] T fun v T' es => v = w32 (bitsB p hs) /\ T' = T /\ es = [] := by
 refine CallA.wfs fun wf => ?_
 have wt := wf.t
 have hr := Par.rules ok
 have hsr := Sl.rules hb.sl (by decide)
 have hld := hb.ld (P := prog) (t := 27) (by (simp -dsimp +decide only [vr, ty, en, ↓reduceIte, Nat.reduceSub, Nat.reduceAdd, Nat.reduceMul, Nat.reduceLT, Int.reduceAdd, Int.reduceSub, Int.reduceToNat, ci])) (by (simp -dsimp +decide only [vr, ty, en, ↓reduceIte, Nat.reduceSub, Nat.reduceAdd, Nat.reduceMul, Nat.reduceLT, Int.reduceAdd, Int.reduceSub, Int.reduceToNat, ci])) (by decide)
 have hl1 := Sl.loads hb.sl (P := prog) (t := 22) (by (simp -dsimp +decide only [vr, ty, en, ↓reduceIte, Nat.reduceSub, Nat.reduceAdd, Nat.reduceMul, Nat.reduceLT, Int.reduceAdd, Int.reduceSub, Int.reduceToNat, ci]))
 have g0 := fun l => gn0 T (.cells 29 p.cs) l
 have ez : [oQ, oQ, oQ, oQ] = Bg 0 := rfl
 refine CallA.eV 16 func10 ntmps10 results10 ?_
 simp -dsimp +decide only [vr, ty, en, ↓reduceIte, Nat.reduceSub, Nat.reduceAdd, Nat.reduceMul, Nat.reduceLT, Int.reduceAdd, Int.reduceSub, Int.reduceToNat, ci]
 cases hn : hs.getLast? with
 | none =>
   rw [List.getLast?_eq_none_iff] at hn
   subst hn
   rw [show bitsB p [] = 0 from rfl]
   simp -dsimp +decide (disch := omega) only [vr, ty, en, ↓reduceIte, Nat.reduceSub, Nat.reduceAdd, Nat.reduceMul, Nat.reduceLT, Int.reduceAdd, Int.reduceSub, Int.reduceToNat, ci, vi, getO_i, vt, hr, hsr, List.length_nil]
   exact Vw.cut ⟨rfl, rfl, rfl⟩
 | some la =>
   have hlast : hs[hs.length - 1]? = some la := by rw [<- List.getLast?_eq_getElem?, hn]
   have hne : 0 < hs.length := by
    rcases hs with _ | ⟨x, l⟩
    . cases hn
    . exact Nat.succ_pos _
   have hla := hok la (List.mem_of_getElem? hlast)
   have hlr := Hdr.rules hla
   have hl0 : ((hs.length : Int) = 0) = False := eq_false (by omega)
   simp -dsimp +decide (disch := omega) only [vr, ty, en, ↓reduceIte, Nat.reduceSub, Nat.reduceAdd, Nat.reduceMul, Nat.reduceLT, Int.reduceAdd, Int.reduceSub, Int.reduceToNat, ci, vi, getO_i, vt, hr, hsr, hl0, g0]
   refine (may13_ok ok).det' ?_
   cases hm : mayB p with
   | false =>
     rw [show bitsB p hs = 0 by unfold bitsB; rw [hn]; simp [hm]]
     simp -dsimp +decide (disch := omega) only [vr, ty, en, ↓reduceIte, Nat.reduceSub, Nat.reduceAdd, Nat.reduceMul, Nat.reduceLT, Int.reduceAdd, Int.reduceSub, Int.reduceToNat, ci, vi, getO_i, vt, hr, hsr, hl0, g0, bb2]
     exact Vw.cut ⟨rfl, rfl, rfl⟩
   | true =>
     obtain ⟨m1, m2, m3, m4, -, -, -, m5⟩ := mayB_is hm
     obtain ⟨iv, hiv⟩ := Int.eq_ofNat_of_zero_le (show 0 <= p.interval by omega)
     simp -dsimp +decide (disch := omega) only [vr, ty, en, ↓reduceIte, Nat.reduceSub, Nat.reduceAdd, Nat.reduceMul, Nat.reduceLT, Int.reduceAdd, Int.reduceSub, Int.reduceToNat, ci, vi, getO_i, vt, hr, hsr, hl0, g0, bb2]
     refine ⟨⟨by omega, by omega⟩, ?_⟩
     have hiv2 : 2 <= iv := by omega
     have hrem : (hs.length : Int).tmod (p.interval) = ((hs.length % iv : Nat) : Int) := by rw [hiv]; rfl
     simp -dsimp +decide (disch := omega) only [vr, ty, en, ↓reduceIte, Nat.reduceSub, Nat.reduceAdd, Nat.reduceMul, Nat.reduceLT, Int.reduceAdd, Int.reduceSub, Int.reduceToNat, ci, vi, getO_i, vt, hr, hsr, hl0, g0, bb2, hld, hlast, ez68, vz68, hlr, hla, hrem]
     refine ⟨by omega, CondP.ndec (fun h => ?_) (fun h => ?_)⟩
     . rw [show bitsB p hs = la.bits by unfold bitsB; rw [hn]; simp only [hm]; rw [hiv, Int.toNat_natCast, if_neg (by decide), if_pos (by omega)]]
       simp -dsimp +decide (disch := omega) only [vr, ty, en, ↓reduceIte, Nat.reduceSub, Nat.reduceAdd, Nat.reduceMul, Nat.reduceLT, Int.reduceAdd, Int.reduceSub, Int.reduceToNat, ci, vi, getO_i, vt, hr, hsr, hl0, g0, hld, hlr]
       exact Vw.cut ⟨rfl, rfl, rfl⟩
     have h0 : hs.length % iv = 0 := by omega
     have hle : iv <= hs.length := Nat.le_of_dvd hne (Nat.dvd_of_mod_eq_zero h0)
     obtain ⟨fi, hfi⟩ : ∃ fi, hs[hs.length - iv]? = some fi := ⟨hs[hs.length - iv]'(by omega), by simp⟩
     have hfo := hok fi (List.mem_of_getElem? hfi)
     rw [show bitsB p hs = turnB p la fi by unfold bitsB; rw [hn]; simp only [hm]; rw [hiv, Int.toNat_natCast, if_neg (by decide), if_neg (by omega), hfi]]
     have hsub : (hs.length : Int) - p.interval = ((hs.length - iv : Nat) : Int) := by omega
     have hmul : p.interval * (p.spacing.toNat : Int) = ((wantN p : Nat) : Int) := by unfold wantN; rw [hiv, Int.toNat_natCast]; rfl
     have hw : wantN p <= 2016 * 3600 := by unfold wantN; exact Nat.mul_le_mul (by omega) m4
     have hw2 : 2 <= wantN p := by unfold wantN; exact Nat.mul_le_mul (show 2 <= p.interval.toNat by omega) m3
     have hfd := fun j k (K : AV -> Prop) => Sl.fld (K := K) hb.sl hne j k
     have hcell : (hs.flatMap Hdr.cs)[(hs.length - iv) * 68 + 65]? = some (w32 fi.time) := by
      rw [flat_cell hb.wd hfi (by decide)]; exact (Hdr.rules hfo).2.2.2.2.1
     have g1 := fun a l => gn1 T a (.cells 27 la.cs) l
     have g2 := fun a b c l => gn2 T a b (.cells 51 c) l
     have t1 := la.time.toNat_lt
     have t2 := fi.time.toNat_lt
     simp -dsimp +decide (disch := omega) only [vr, ty, en, ↓reduceIte, Nat.reduceSub, Nat.reduceAdd, Nat.reduceMul, Nat.reduceLT, Int.reduceAdd, Int.reduceSub, Int.reduceToNat, ci, vi, getO_i, vt, hr, hsr, hl0, g0, g1, bb2, hld, hl1, hlr, hmul]
     refine SemA.draw (fun i => true) [(0, true), (1, true), (2, true), (3, true), (4, true), (5, true), (6, true), (7, true), (8, true), (9, true), (10, true), (11, true), (12, true), (13, true)] mixed (by kernel_rfl) ?_
     simp -dsimp +decide (disch := omega) only [vr, ty, en, ↓reduceIte, Nat.reduceSub, Nat.reduceAdd, Nat.reduceMul, Nat.reduceLT, Int.reduceAdd, Int.reduceSub, Int.reduceToNat, ci, vi, getO_i, vt, hr, hsr, hl0, g0, g1, bb2, hld, hl1, hlr, hsub, hfd, hcell, vmm]
     refine ⟨⟨by omega, by omega⟩, ?_⟩
     have hspan : min (max ((la.time.toNat : Int) - (fi.time.toNat : Int)) ((wantN p / 4 : Nat) : Int)) (4 * ((wantN p : Nat) : Int)) = ((spanN p la.time fi.time : Nat) : Int) := by unfold spanN; omega
     have hsl : spanN p la.time fi.time <= 4 * wantN p := by unfold spanN; omega
     rw [hspan]
     refine of03_ok.det' ?_
     rw [ofV_n]
     simp -dsimp +decide (disch := omega) only [vr, ty, en, ↓reduceIte, Nat.reduceSub, Nat.reduceAdd, Nat.reduceMul, Nat.reduceLT, Int.reduceAdd, Int.reduceSub, Int.reduceToNat, ci, vi, getO_i, vt, hr, hsr, hl0, g0, g1, bb2, vbg, ez, hlr]
     refine of03_ok.det' ?_
     rw [ofV_n]
     have hu1 : (UInt64.ofInt ((spanN p la.time fi.time : Nat) : Int)).toNat = spanN p la.time fi.time := ofInt_lt (by omega)
     have hu2 : (UInt64.ofInt ((wantN p : Nat) : Int)).toNat = wantN p := ofInt_lt (by omega)
     simp -dsimp +decide (disch := omega) only [vr, ty, en, ↓reduceIte, Nat.reduceSub, Nat.reduceAdd, Nat.reduceMul, Nat.reduceLT, Int.reduceAdd, Int.reduceSub, Int.reduceToNat, ci, vi, getO_i, vt, hr, hsr, hl0, g0, g1, g2, bb2, vbg, ez, hlr, hu1, hu2]
     refine (part13N (ofN_lt _) (ofN_lt _) (by omega) (by omega) (by omega)).det' ?_
     have ht : min (ofN la.bits * spanN p la.time fi.time / wantN p) (ofN p.limit) < 2 ^ 256 := Nat.lt_of_le_of_lt (Nat.min_le_right _ _) (ofN_lt _)
     unfold turnB
     revert ht
     generalize min (ofN la.bits * spanN p la.time fi.time / wantN p) (ofN p.limit) = t
     intro ht
     have e1 : [AV.p (Value.int IntKind.u64 1), oQ, oQ, oQ] = Bg 1 := rfl
     have g4 := fun a b c d e l => gn4 T a b c d (.cells 51 e) l
     simp -dsimp +decide (disch := omega) only [vr, ty, en, ↓reduceIte, Nat.reduceSub, Nat.reduceAdd, Nat.reduceMul, Nat.reduceLT, Int.reduceAdd, Int.reduceSub, Int.reduceToNat, ci, vi, getO_i, vt, hr, hsr, hl0, g0, g1, g2, bb2, vbg, ez, e1, hlr, eqB ht (show 0 < 2 ^ 256 by decide)]
     refine CondP.dec (fun h => ?_) (fun h => ?_)
     . subst h
       simp -dsimp +decide (disch := omega) only [vr, ty, en, ↓reduceIte, Nat.reduceSub, Nat.reduceAdd, Nat.reduceMul, Nat.reduceLT, Int.reduceAdd, Int.reduceSub, Int.reduceToNat, ci, vi, getO_i, vt, ez, e1, vbg]
       refine (compact03_ok (show 1 < 2 ^ 256 by decide)).det' ?_
       simp -dsimp +decide (disch := omega) only [vr, ty, en, ↓reduceIte, Nat.reduceSub, Nat.reduceAdd, Nat.reduceMul, Nat.reduceLT, Int.reduceAdd, Int.reduceSub, Int.reduceToNat, ci, vi, getO_i, vt, vbg, wt]
       exact Vw.cut ⟨rfl, rfl, rfl⟩
     . simp -dsimp +decide (disch := omega) only [vr, ty, en, ↓reduceIte, Nat.reduceSub, Nat.reduceAdd, Nat.reduceMul, Nat.reduceLT, Int.reduceAdd, Int.reduceSub, Int.reduceToNat, ci, vi, getO_i, vt, ez, e1, vbg]
       refine (compact03_ok ht).det' ?_
       rw [Nat.max_eq_right (by omega)]
       simp -dsimp +decide (disch := omega) only [vr, ty, en, ↓reduceIte, Nat.reduceSub, Nat.reduceAdd, Nat.reduceMul, Nat.reduceLT, Int.reduceAdd, Int.reduceSub, Int.reduceToNat, ci, vi, getO_i, vt, vbg, wt]
       exact Vw.cut ⟨rfl, rfl, rfl⟩
def lastH (pts : List Pt) : Nat -> Int
 | 0 => -1
 | k + 1 => match pts[k]? with
   | some x => x.h
   | none => -1
theorem ptOK_last {f : List UInt8} {pts : List Pt} {k : Nat} {x : Pt} (hx : pts[k]? = some x) (hp : ∀ j, j < k -> ptOK f pts j) : ptOK f pts k ↔ lastH pts k < x.h /\ (x.h = 0 -> x.id = f) := by
 cases k with
 | zero =>
   constructor
   . intro h
     have := h x hx
     exact ⟨by show (-1 : Int) < x.h; omega, this.2.2⟩
   . rintro ⟨h1, h2⟩ y hy
     rw [hx] at hy; cases hy
     have h1 : (-1 : Int) < x.h := h1
     exact ⟨by omega, fun _ h _ => absurd h (by omega), h2⟩
 | succ k =>
   obtain ⟨y, hy⟩ : ∃ y, pts[k]? = some y := ⟨pts[k]'(by have := (List.getElem?_eq_some_iff.1 hx).1; omega), by simp⟩
   have hl : lastH pts (k + 1) = y.h := by rw [lastH, hy]
   rw [hl]
   constructor
   . intro h
     have := h x hx
     exact ⟨this.2.1 y (by omega) hy, this.2.2⟩
   . rintro ⟨h1, h2⟩ z hz
     rw [hx] at hz; cases hz
     have := hp k (by omega) y hy
     refine ⟨by omega, fun z _ hz => ?_, h2⟩
     rw [Nat.add_sub_cancel, hy] at hz; cases hz; exact h1
theorem lastH_next {pts : List Pt} {k : Nat} {x : Pt} (hx : pts[k]? = some x) : lastH pts (k + 1) = x.h := by rw [lastH, hx]
theorem pmay_ok {T : Tbl} {p : Par} (ok : p.Ok) : CallA prog G 7 [.ag p.cs] T fun v T' es => v = .p (.bool (mayB p)) /\ T' = T /\ es = [] := by
 refine CallA.wfs fun wf => ?_
 have wt := wf.t
 have hr := Par.rules ok
 have g0 := fun l => gn0 T (.cells 29 p.cs) l
 have ez : [oQ, oQ, oQ, oQ] = Bg 0 := rfl
 refine CallA.eV 45 func7 ntmps7 results7 ?_
 simp -dsimp +decide only [vt2, vy, vz, vze, vr, ty, en, ↓reduceIte, Nat.reduceSub, Nat.reduceAdd, Nat.reduceMul, Nat.reduceLT, Int.reduceAdd, Int.reduceSub, Int.reduceToNat, ci]
 simp -dsimp +decide (disch := omega) only [vt2, vy, vz, vze, vr, ty, en, ↓reduceIte, Nat.reduceSub, Nat.reduceAdd, Nat.reduceMul, Nat.reduceLT, Int.reduceAdd, Int.reduceSub, Int.reduceToNat, ci, vi, getO_i, vt, hr, ez, vbg]
 refine pof03_ok.det' ?_
 cases ho : ofT p.limit.toNat with
 | none =>
   rw [show mayB p = false by rw [mayB, ho]]
   unfold ofV
   simp -dsimp +decide (disch := omega) only [vt2, vy, vz, vze, vr, ty, en, ↓reduceIte, Nat.reduceSub, Nat.reduceAdd, Nat.reduceMul, Nat.reduceLT, Int.reduceAdd, Int.reduceSub, Int.reduceToNat, ci, vi, getO_i, vt, hr, ez, vbg, bb2]
   exact Vw.cut ⟨rfl, rfl, rfl⟩
 | some t =>
   obtain ⟨htx, ht0⟩ := ofT_lt ho
   rw [show mayB p = (decide (UInt32.ofNat (cmpN t) = p.limit) && decide (2 <= p.interval) && decide (p.interval <= 2016) && decide (1 <= p.spacing.toNat) && decide (p.spacing.toNat <= 3600) && decide (p.first.bits = p.limit) && mayP p) by rw [mayB, ho]]
   unfold ofV
   have g1 := fun a l => gn1 T a (.cells 51 (Bg t)) l
   simp -dsimp +decide (disch := omega) only [vt2, vy, vz, vze, vr, ty, en, ↓reduceIte, Nat.reduceSub, Nat.reduceAdd, Nat.reduceMul, Nat.reduceLT, Int.reduceAdd, Int.reduceSub, Int.reduceToNat, ci, vi, getO_i, vt, hr, ez, vbg, bb2]
   refine SemA.draw (fun i => true) [(0, true), (2, true), (3, true), (1, false), (4, true), (5, true)] mixed (by kernel_rfl) ?_
   simp -dsimp +decide (disch := omega) only [vt2, vy, vz, vze, vr, ty, en, ↓reduceIte, Nat.reduceSub, Nat.reduceAdd, Nat.reduceMul, Nat.reduceLT, Int.reduceAdd, Int.reduceSub, Int.reduceToNat, ci, vi, getO_i, vt, hr, ez, vbg, g0, g1, bb2, kallT]
   refine (pcompact_ok htx).det' ?_
   by_cases c1 : UInt32.ofNat (cmpN t) = p.limit
   rotate_left
   . have ic1 : (((UInt32.ofNat (cmpN t)).toNat : Int) = (p.limit.toNat : Int)) = False := eq_false fun e => c1 (UInt32.toNat_inj.1 (by omega))
     rw [show decide (UInt32.ofNat (cmpN t) = p.limit) = false from decide_eq_false c1]
     simp -dsimp +decide (disch := omega) only [vt2, vy, vz, vze, vr, ty, en, ↓reduceIte, Nat.reduceSub, Nat.reduceAdd, Nat.reduceMul, Nat.reduceLT, Int.reduceAdd, Int.reduceSub, Int.reduceToNat, ci, vi, getO_i, vt, hr, ez, vbg, g0, g1, bb2, ic1, Bool.and_false, Bool.false_and]
     exact Vw.cut ⟨rfl, rfl, rfl⟩
   have ic1 : (((UInt32.ofNat (cmpN t)).toNat : Int) = (p.limit.toNat : Int)) = True := eq_true (by rw [c1])
   rw [show decide (UInt32.ofNat (cmpN t) = p.limit) = true from decide_eq_true c1]
   by_cases c6 : p.first.bits = p.limit
   rotate_left
   . have ic6 : ((p.first.bits.toNat : Int) = (p.limit.toNat : Int)) = False := eq_false fun e => c6 (UInt32.toNat_inj.1 (by omega))
     rw [show decide (p.first.bits = p.limit) = false from decide_eq_false c6]
     simp -dsimp +decide (disch := omega) only [vt2, vy, vz, vze, vr, ty, en, ↓reduceIte, Nat.reduceSub, Nat.reduceAdd, Nat.reduceMul, Nat.reduceLT, Int.reduceAdd, Int.reduceSub, Int.reduceToNat, ci, vi, getO_i, vt, hr, ez, vbg, g0, g1, bb2, ic1, ic6, Bool.and_false, Bool.false_and]
     exact Vw.cut ⟨by simp [AV.wo], rfl, rfl⟩
   have ic6 : ((p.first.bits.toNat : Int) = (p.limit.toNat : Int)) = True := eq_true (by rw [c6])
   rw [show decide (p.first.bits = p.limit) = true from decide_eq_true c6]
   by_cases c2 : 2 <= p.interval
   rotate_left
   . have ic2 : (p.interval < 2) = True := eq_true (by omega)
     rw [show decide (2 <= p.interval) = false from decide_eq_false c2]
     simp -dsimp +decide (disch := omega) only [vt2, vy, vz, vze, vr, ty, en, ↓reduceIte, Nat.reduceSub, Nat.reduceAdd, Nat.reduceMul, Nat.reduceLT, Int.reduceAdd, Int.reduceSub, Int.reduceToNat, ci, vi, getO_i, vt, hr, ez, vbg, g0, g1, bb2, ic1, ic6, ic2, Bool.and_false, Bool.false_and]
     exact Vw.cut ⟨rfl, rfl, rfl⟩
   have ic2 : (p.interval < 2) = False := eq_false (by omega)
   rw [show decide (2 <= p.interval) = true from decide_eq_true c2]
   by_cases c3 : p.interval <= 2016
   rotate_left
   . have ic3 : (2016 < p.interval) = True := eq_true (by omega)
     rw [show decide (p.interval <= 2016) = false from decide_eq_false c3]
     simp -dsimp +decide (disch := omega) only [vt2, vy, vz, vze, vr, ty, en, ↓reduceIte, Nat.reduceSub, Nat.reduceAdd, Nat.reduceMul, Nat.reduceLT, Int.reduceAdd, Int.reduceSub, Int.reduceToNat, ci, vi, getO_i, vt, hr, ez, vbg, g0, g1, bb2, ic1, ic6, ic2, ic3, Bool.and_false, Bool.false_and]
     exact Vw.cut ⟨rfl, rfl, rfl⟩
   have ic3 : (2016 < p.interval) = False := eq_false (by omega)
   rw [show decide (p.interval <= 2016) = true from decide_eq_true c3]
   by_cases c4 : 1 <= p.spacing.toNat
   rotate_left
   . have ic4 : ((p.spacing.toNat : Int) < 1) = True := eq_true (by omega)
     rw [show decide (1 <= p.spacing.toNat) = false from decide_eq_false c4]
     simp -dsimp +decide (disch := omega) only [vt2, vy, vz, vze, vr, ty, en, ↓reduceIte, Nat.reduceSub, Nat.reduceAdd, Nat.reduceMul, Nat.reduceLT, Int.reduceAdd, Int.reduceSub, Int.reduceToNat, ci, vi, getO_i, vt, hr, ez, vbg, g0, g1, bb2, ic1, ic6, ic2, ic3, ic4, Bool.and_false, Bool.false_and]
     exact Vw.cut ⟨rfl, rfl, rfl⟩
   have ic4 : ((p.spacing.toNat : Int) < 1) = False := eq_false (by omega)
   rw [show decide (1 <= p.spacing.toNat) = true from decide_eq_true c4]
   by_cases c5 : p.spacing.toNat <= 3600
   rotate_left
   . have ic5 : ((3600 : Int) < (p.spacing.toNat : Int)) = True := eq_true (by omega)
     rw [show decide (p.spacing.toNat <= 3600) = false from decide_eq_false c5]
     simp -dsimp +decide (disch := omega) only [vt2, vy, vz, vze, vr, ty, en, ↓reduceIte, Nat.reduceSub, Nat.reduceAdd, Nat.reduceMul, Nat.reduceLT, Int.reduceAdd, Int.reduceSub, Int.reduceToNat, ci, vi, getO_i, vt, hr, ez, vbg, g0, g1, bb2, ic1, ic6, ic2, ic3, ic4, ic5, Bool.and_false, Bool.false_and]
     exact Vw.cut ⟨rfl, rfl, rfl⟩
   have ic5 : ((3600 : Int) < (p.spacing.toNat : Int)) = False := eq_false (by omega)
   rw [show decide (p.spacing.toNat <= 3600) = true from decide_eq_true c5]
   have hpl := ok.l
   have hb := ok.a T
   have hsr := Sl.rules hb.sl (by decide)
   have hld := hb.ld (P := prog) (t := 56) (by (simp -dsimp +decide only [vt2, vy, vz, vze, vr, ty, en, ↓reduceIte, Nat.reduceSub, Nat.reduceAdd, Nat.reduceMul, Nat.reduceLT, Int.reduceAdd, Int.reduceSub, Int.reduceToNat, ci])) (by (simp -dsimp +decide only [vt2, vy, vz, vze, vr, ty, en, ↓reduceIte, Nat.reduceSub, Nat.reduceAdd, Nat.reduceMul, Nat.reduceLT, Int.reduceAdd, Int.reduceSub, Int.reduceToNat, ci])) (by decide)
   have hpw := ok.wo
   simp -dsimp +decide (disch := omega) only [vt2, vy, vz, vze, vr, ty, en, ↓reduceIte, Nat.reduceSub, Nat.reduceAdd, Nat.reduceMul, Nat.reduceLT, Int.reduceAdd, Int.reduceSub, Int.reduceToNat, ci, vi, getO_i, vt, hr, hsr, ez, vbg, g0, g1, bb2, ic1, ic6, ic2, ic3, ic4, ic5, Bool.true_and, Bool.and_true]
   refine SemA.loopK (T.length + 2) (fun k : Nat => [(1, .ptr T.length 0), (5, wint (lastH p.pts k)), (42, p.pa), (43, wint (p.pts.length : Int)), (44, wint (k : Int))]) (fun _ => T ++ [.cells 29 p.cs, .cells 51 (Bg t)]) (fun k => k <= p.pts.length /\ ∀ j, j < k -> ptOK p.first.id p.pts j) (fun k => p.pts.length - k) 0 [] 1 (fun _ : Unit => []) (fun _ => T ++ [.cells 29 p.cs, .cells 51 (Bg t)]) (fun _ => ∀ j, j < p.pts.length -> ptOK p.first.id p.pts j) (by omega) ⟨by omega, fun j hj => by omega⟩ (by (simp -dsimp +decide (disch := omega) only [vt2, vy, vz, vze, vr, ty, en, ↓reduceIte, Nat.reduceSub, Nat.reduceAdd, Nat.reduceMul, Nat.reduceLT, Int.reduceAdd, Int.reduceSub, Int.reduceToNat, ci, vi, getO_i]); first | rfl | exact ⟨rfl, rfl⟩ | done) rfl (by simp) ?_ ?_
   . rintro k g ⟨hk, hq⟩
     refine SemA.o ?_
     simp -dsimp +decide (disch := omega) only [vt2, vy, vz, vze, vr, ty, en, ↓reduceIte, Nat.reduceSub, Nat.reduceAdd, Nat.reduceMul, Nat.reduceLT, Int.reduceAdd, Int.reduceSub, Int.reduceToNat, ci, vi, getO_i, vt, hr, hsr, g0]
     refine CondP.dec (fun h => ?_) (fun h => ?_)
     . obtain ⟨x, hx⟩ : ∃ x, p.pts[k]? = some x := ⟨p.pts[k]'(by omega), by simp⟩
       have hx32 := ok.id x (List.mem_of_getElem? hx)
       have hxr := Pt.rules hx32
       have hx4 : List.take 32 (List.drop 1 (AV.p (Value.int IntKind.i64 x.h) :: x.id.map by8)) = x.id.map by8 := hxr.2.2.2.1
       have hxh := ok.h x (List.mem_of_getElem? hx)
       have g2 := fun a b l => gn2 T a b (.cells 56 (wint x.h :: x.id.map by8)) l
       have hid := p.first.id_len
       have hiff := ptOK_last hx hq
       have hnx := lastH_next hx
       have no : ¬ ptOK p.first.id p.pts k -> mayP p = false := fun hn => by
        unfold mayP
        simp only [decide_eq_false_iff_not]
        exact fun h => hn (h k (by omega))
       have yes : ptOK p.first.id p.pts k -> ∀ j, j < k + 1 -> ptOK p.first.id p.pts j := fun h j hj => by
        rcases Nat.lt_or_eq_of_le (Nat.le_of_lt_succ hj) with h2 | rfl
        . exact hq j h2
        . exact h
       simp -dsimp +decide (disch := omega) only [vt2, vy, vz, vze, vr, ty, en, ↓reduceIte, Nat.reduceSub, Nat.reduceAdd, Nat.reduceMul, Nat.reduceLT, Int.reduceAdd, Int.reduceSub, Int.reduceToNat, ci, vi, getO_i, vt, hr, hsr, hld, hx, ez33, hxr, g0]
       refine ⟨⟨by omega, by omega⟩, ?_⟩
       by_cases d1 : x.h <= lastH p.pts k
       . rw [no fun h => by have := (hiff.1 h).1; omega]
         have i1 := eq_true d1
         refine SemA.draw (fun i => true) [(0, true), (1, true), (2, true), (3, true), (4, true), (5, true), (6, true), (7, true), (8, true), (9, true), (10, true), (11, true), (12, true), (13, false), (14, true), (15, true), (16, true)] mixed (by kernel_rfl) ?_
         simp -dsimp +decide (disch := omega) only [vt2, vy, vz, vze, vr, ty, en, ↓reduceIte, Nat.reduceSub, Nat.reduceAdd, Nat.reduceMul, Nat.reduceLT, Int.reduceAdd, Int.reduceSub, Int.reduceToNat, ci, vi, getO_i, vt, hr, hsr, hld, hx, ez33, hxr, g0, g2, kallT, i1, bb2]
         exact Vw.cut ⟨rfl, rfl, rfl⟩
       have i1 : (x.h <= lastH p.pts k) = False := eq_false d1
       by_cases d3 : x.h = 0
       . have i3 : (x.h = 0) = True := eq_true d3
         refine SemA.draw (fun i => true) [(0, true), (1, true), (2, true), (3, true), (4, true), (5, true), (6, true), (7, true), (8, true), (9, true), (10, true), (11, true), (12, true), (13, false), (14, true), (15, true), (16, true)] mixed (by kernel_rfl) ?_
         simp -dsimp +decide (disch := omega) only [vt2, vy, vz, vze, vr, ty, en, ↓reduceIte, Nat.reduceSub, Nat.reduceAdd, Nat.reduceMul, Nat.reduceLT, Int.reduceAdd, Int.reduceSub, Int.reduceToNat, ci, vi, getO_i, vt, hr, hsr, hld, hx, ez33, hxr, g0, g2, kallT, vbg, i1, bb2, i3]
         refine ⟨by omega, (pid_ok ok.f).det' ?_⟩
         by_cases d4 : x.id = p.first.id
         . have i4 : (x.id = p.first.id) = True := eq_true d4
           simp -dsimp +decide (disch := omega) only [vt2, vy, vz, vze, vr, ty, en, ↓reduceIte, Nat.reduceSub, Nat.reduceAdd, Nat.reduceMul, Nat.reduceLT, Int.reduceAdd, Int.reduceSub, Int.reduceToNat, ci, vi, getO_i, vt, hr, hsr, hld, hx, ez33, hxr, g0, g2, kallT, vbg, i1, bb2, i3, hx4, neh hx32 hid, i4, wt, hpw]
           exact ⟨k + 1, ⟨⟨by omega, yes (hiff.2 ⟨by omega, fun _ => d4⟩)⟩, by omega⟩, by rw [hnx], rfl⟩
         . have i4 : (x.id = p.first.id) = False := eq_false d4
           rw [no fun h => d4 ((hiff.1 h).2 d3)]
           simp -dsimp +decide (disch := omega) only [vt2, vy, vz, vze, vr, ty, en, ↓reduceIte, Nat.reduceSub, Nat.reduceAdd, Nat.reduceMul, Nat.reduceLT, Int.reduceAdd, Int.reduceSub, Int.reduceToNat, ci, vi, getO_i, vt, hr, hsr, hld, hx, ez33, hxr, g0, g2, kallT, vbg, i1, bb2, i3, hx4, neh hx32 hid, i4, wt]
           exact Vw.cut ⟨rfl, rfl, rfl⟩
       . have i3 : (x.h = 0) = False := eq_false d3
         refine SemA.draw (fun i => true) [(0, true), (1, true), (2, true), (3, true), (4, true), (5, true), (6, true), (7, true), (8, true), (9, true), (10, true), (11, true), (12, true), (13, false), (14, true), (15, true), (16, true)] mixed (by kernel_rfl) ?_
         simp -dsimp +decide (disch := omega) only [vt2, vy, vz, vze, vr, ty, en, ↓reduceIte, Nat.reduceSub, Nat.reduceAdd, Nat.reduceMul, Nat.reduceLT, Int.reduceAdd, Int.reduceSub, Int.reduceToNat, ci, vi, getO_i, vt, hr, hsr, hld, hx, ez33, hxr, g0, g2, kallT, vbg, i1, bb2, i3, wt, hpw]
         exact ⟨k + 1, ⟨⟨by omega, yes (hiff.2 ⟨by omega, fun h => absurd h d3⟩)⟩, by omega⟩, by rw [hnx], rfl⟩
     . have e : k = p.pts.length := by omega
       subst e
       simp -dsimp +decide (disch := omega) only [vt2, vy, vz, vze, vr, ty, en, ↓reduceIte, Nat.reduceSub, Nat.reduceAdd, Nat.reduceMul, Nat.reduceLT, Int.reduceAdd, Int.reduceSub, Int.reduceToNat, ci, vi, getO_i, vt, wt, hr, vbg]
       exact ⟨(), hq⟩
   . rintro _ g tmp hq
     rw [show mayP p = true by unfold mayP; simp only [decide_eq_true_eq]; exact hq]
     simp -dsimp +decide (disch := omega) only [vt2, vy, vz, vze, vr, ty, en, ↓reduceIte, Nat.reduceSub, Nat.reduceAdd, Nat.reduceMul, Nat.reduceLT, Int.reduceAdd, Int.reduceSub, Int.reduceToNat, ci, vi, getO_i]
     exact Vw.cut ⟨rfl, rfl, rfl⟩
theorem shl64 (x : UInt64) {k : Nat} (h : k < 64) : (u64_shl x k).toNat = x.toNat * 2 ^ k % 2 ^ 64 := by
 rw [u64_shl, if_pos h, UInt64.toNat_shiftLeft]
 show x.toNat <<< ((UInt64.ofNat k).toNat % 64) % 2 ^ 64 = _
 rw [UInt64.toNat_ofNat', Nat.mod_eq_of_lt (a := k) (b := 2 ^ 64) (by omega), Nat.mod_eq_of_lt h, Nat.shiftLeft_eq]
theorem div_plain {hi lo y s yn a b q1 rh q0 r2 : Nat} (hy : 0 < y) (hlt : hi < y) (hs : 32 <= s) (hs2 : s < 64) (hyn : yn = y * 2 ^ (s - 32)) (ha : a = hi * 2 ^ s + lo / 2 ^ (64 - s)) (hb : b = lo * 2 ^ s % 2 ^ 64) (hlo : lo < 2 ^ 64)
 (h1 : q1 = a / yn) (h2 : rh = a % yn) (h3 : q0 = (rh * 2 ^ 32 + b / 2 ^ 32) / yn) (h4 : r2 = (rh * 2 ^ 32 + b / 2 ^ 32) % yn) :
 q1 * 2 ^ 32 + q0 = (hi * 2 ^ 64 + lo) / y /\ (r2 * 2 ^ 32 + b % 2 ^ 32) / 2 ^ s = (hi * 2 ^ 64 + lo) % y /\ q1 < 2 ^ 32 /\ q0 < 2 ^ 32 /\ rh < yn /\ r2 < yn := by
 have p32 : (2 : Nat) ^ s = 2 ^ (s - 32) * 2 ^ 32 := by rw [<- Nat.pow_add]; congr 1; omega
 have p64 : (2 : Nat) ^ 64 = 2 ^ (64 - s) * 2 ^ s := by rw [<- Nat.pow_add]; congr 1; omega
 have hY : y * 2 ^ s = yn * 2 ^ 32 := by rw [hyn, p32, Nat.mul_assoc]
 have hyn0 : 0 < yn := by rw [hyn]; exact Nat.mul_pos hy (Nat.two_pow_pos _)
 have e1 : (hi * 2 ^ 64 + lo) * 2 ^ s = a * 2 ^ 64 + b := by
  have h5 : lo * 2 ^ s = lo / 2 ^ (64 - s) * 2 ^ 64 + b := by
   have h6 := Nat.div_add_mod (lo * 2 ^ s) (2 ^ 64)
   rw [<- hb] at h6
   have h7 : lo * 2 ^ s / 2 ^ 64 = lo / 2 ^ (64 - s) := by rw [p64, Nat.mul_div_mul_right _ _ (Nat.two_pow_pos s)]
   rw [h7] at h6
   omega
  rw [Nat.add_mul, h5, ha, Nat.add_mul, Nat.mul_right_comm]; omega
 have hbl : b < 2 ^ 64 := by rw [hb]; exact Nat.mod_lt _ (by decide)
 have hal : a < yn * 2 ^ 32 := by
  rw [<- hY]
  have h5 : (hi * 2 ^ 64 + lo) * 2 ^ s < y * 2 ^ s * 2 ^ 64 := by
   rw [Nat.mul_right_comm]
   exact Nat.mul_lt_mul_of_pos_right (by omega) (Nat.two_pow_pos s)
  omega
 have hq1 : q1 < 2 ^ 32 := by rw [h1]; exact Nat.div_lt_of_lt_mul hal
 have hrh : rh < yn := by rw [h2]; exact Nat.mod_lt _ hyn0
 have hr2 : r2 < yn := by rw [h4]; exact Nat.mod_lt _ hyn0
 have hq0 : q0 < 2 ^ 32 := by rw [h3]; exact Nat.div_lt_of_lt_mul (by omega)
 have d1 := Nat.div_add_mod a yn
 rw [<- h1, <- h2] at d1
 have d2 := Nat.div_add_mod (rh * 2 ^ 32 + b / 2 ^ 32) yn
 rw [<- h3, <- h4] at d2
 have e2 : (hi * 2 ^ 64 + lo) * 2 ^ s = (q1 * 2 ^ 32 + q0) * (y * 2 ^ s) + (r2 * 2 ^ 32 + b % 2 ^ 32) := by
  rw [e1, hY, Nat.add_mul, <- d1]
  have k1 : q1 * 2 ^ 32 * (yn * 2 ^ 32) = yn * q1 * 2 ^ 64 := by rw [Nat.mul_mul_mul_comm, Nat.mul_comm q1]
  have k2 : q0 * (yn * 2 ^ 32) = yn * q0 * 2 ^ 32 := by rw [<- Nat.mul_assoc, Nat.mul_comm q0]
  rw [k1, k2]
  generalize yn * q1 = A at *
  generalize yn * q0 = B at *
  omega
 have hR : r2 * 2 ^ 32 + b % 2 ^ 32 < y * 2 ^ s := by rw [hY]; omega
 have hY0 : 0 < y * 2 ^ s := Nat.mul_pos hy (Nat.two_pow_pos s)
 refine ⟨?_, ?_, hq1, hq0, hrh, hr2⟩
 . rw [<- Nat.mul_div_mul_right (hi * 2 ^ 64 + lo) y (Nat.two_pow_pos s), e2, Nat.mul_comm (q1 * 2 ^ 32 + q0), Nat.mul_add_div hY0, Nat.div_eq_of_lt hR, Nat.add_zero]
 . have h5 : (hi * 2 ^ 64 + lo) * 2 ^ s % (y * 2 ^ s) = r2 * 2 ^ 32 + b % 2 ^ 32 := by
    rw [e2, Nat.mul_comm (q1 * 2 ^ 32 + q0), Nat.mul_add_mod, Nat.mod_eq_of_lt hR]
   rw [Nat.mul_mod_mul_right] at h5
   rw [<- h5, Nat.mul_div_cancel _ (Nat.two_pow_pos s)]
theorem leading_ok {T : Tbl} {x : UInt64} : CallA prog G 74 [w64 x] T fun v T' es => v = wint ((64 - blen x.toNat : Nat) : Int) /\ T' = T /\ es = [] := by
 have h := blen_le x.toNat_lt
 refine CallA.eV 3 func74 ntmps74 results74 ?_
 simp -dsimp +decide only [vy, vz, vze, vr, ty, en, ↓reduceIte, Nat.reduceSub, Nat.reduceAdd, Nat.reduceMul, Nat.reduceLT, Int.reduceAdd, Int.reduceSub, Int.reduceToNat, ci]
 refine (len64_ok (x := x)).det ?_
 rw [bl_blen]
 simp -dsimp +decide (disch := omega) only [vy, vz, vze, vr, ty, en, ↓reduceIte, Nat.reduceSub, Nat.reduceAdd, Nat.reduceMul, Nat.reduceLT, Int.reduceAdd, Int.reduceSub, Int.reduceToNat, ci, vi, getO_i]
 exact Vw.done ⟨congrArg (fun z => AV.p (.int .i64 z)) (show (64 : Int) - (blen x.toNat : Int) = ((64 - blen x.toNat : Nat) : Int) by omega), rfl, rfl⟩
theorem div64_ok {T : Tbl} {hi lo y : UInt64} (hlt : hi.toNat < y.toNat) (hy32 : y.toNat < 2 ^ 32) : CallA prog G 55 [w64 hi, w64 lo, w64 y] T fun v T' es => v = .tu [w64 (UInt64.ofNat ((hi.toNat * 2 ^ 64 + lo.toNat) / y.toNat)), w64 (UInt64.ofNat ((hi.toNat * 2 ^ 64 + lo.toNat) % y.toNat))] /\ T' = T /\ es = [] := by
 have hlo := lo.toNat_lt
 refine CallA.eV 19 func55 ntmps55 results55 ?_
 simp -dsimp +decide only [vy, vz, vze, vr, ty, en, ↓reduceIte, Nat.reduceSub, Nat.reduceAdd, Nat.reduceMul, Nat.reduceLT, Int.reduceAdd, Int.reduceSub, Int.reduceToNat, ci]
 have y0 : ((y.toNat : Int) = 0) = False := eq_false (by omega)
 have y1 : ((y.toNat : Int) <= (hi.toNat : Int)) = False := eq_false (by omega)
 by_cases h0 : (hi.toNat : Int) = 0
 . have h0' := eq_true h0
   have hz : hi.toNat = 0 := by omega
   have y2 : ((y.toNat : Int) <= 0) = False := eq_false (by omega)
   rw [hz, Nat.zero_mul, Nat.zero_add]
   have q1 : UInt64.ofInt ((lo.toNat : Int).tdiv (y.toNat : Int)) = UInt64.ofNat (lo.toNat / y.toNat) := by
    have hl := Nat.lt_of_le_of_lt (Nat.div_le_self lo.toNat y.toNat) hlo
    apply UInt64.toNat_inj.1
    rw [<- Int.ofNat_tdiv, ofInt_lt hl, UInt64.toNat_ofNat', Nat.mod_eq_of_lt hl]
   have q2 : ((lo.toNat : Int).tmod (y.toNat : Int)) = ((UInt64.ofNat (lo.toNat % y.toNat)).toNat : Int) := by
    rw [UInt64.toNat_ofNat', Nat.mod_eq_of_lt (Nat.lt_of_le_of_lt (Nat.mod_le _ _) hlo)]; rfl
   simp -dsimp +decide (disch := omega) only [vy, vz, vze, vr, ty, en, ↓reduceIte, Nat.reduceSub, Nat.reduceAdd, Nat.reduceMul, Nat.reduceLT, Int.reduceAdd, Int.reduceSub, Int.reduceToNat, ci, vi, getO_i, y0, y1, h0', y2, hz, bb2, vone]
   refine SemA.draw (fun i => true) [(0, true), (1, true), (2, true), (3, true), (4, true), (5, true), (6, true), (7, true)] mixed (by kernel_rfl) ?_
   simp -dsimp +decide (disch := omega) only [vy, vz, vze, vr, ty, en, ↓reduceIte, Nat.reduceSub, Nat.reduceAdd, Nat.reduceMul, Nat.reduceLT, Int.reduceAdd, Int.reduceSub, Int.reduceToNat, ci, vi, getO_i, y0, y1, h0', y2, hz, bb2, vone, q1, q2]
   exact ⟨by omega, by omega, Vw.done ⟨rfl, rfl, rfl⟩⟩
 . have h0' := eq_false h0
   have hyb := blen_le (n := 32) hy32
   obtain ⟨hb1, hb2⟩ := blen_is y.toNat
   have hb0 : blen y.toNat ≠ 0 := fun e => by rw [e] at hb1; omega
   obtain ⟨s, hs⟩ : ∃ s, s = 64 - blen y.toNat := ⟨_, rfl⟩
   have hs1 : 32 <= s := by omega
   have hs2 : s < 64 := by omega
   have hYs : y.toNat * 2 ^ s < 2 ^ 64 := by
    rw [show (2 : Nat) ^ 64 = 2 ^ blen y.toNat * 2 ^ s by rw [<- Nat.pow_add]; congr 1; omega]
    exact Nat.mul_lt_mul_of_pos_right hb1 (Nat.two_pow_pos s)
   have hS : (UInt64.ofInt (s : Int)).toNat = s := ofInt_lt (by omega)
   have hS2 : (UInt64.ofInt 64 - UInt64.ofInt (s : Int)).toNat = 64 - s := by
    rw [UInt64.toNat_sub, hS, show (UInt64.ofInt 64).toNat = 64 from rfl]; omega
   obtain ⟨Y, hY⟩ : ∃ Y, Y = u64_shl y s := ⟨_, rfl⟩
   obtain ⟨yn, hyn⟩ : ∃ yn, yn = u64_shr Y 32 := ⟨_, rfl⟩
   obtain ⟨A, hA⟩ : ∃ A, A = u64_shl hi s ||| u64_shr lo (64 - s) := ⟨_, rfl⟩
   obtain ⟨B, hB⟩ : ∃ B, B = u64_shl lo s := ⟨_, rfl⟩
   obtain ⟨U1, hU1⟩ : ∃ U1, U1 = u64_shr B 32 := ⟨_, rfl⟩
   obtain ⟨U0, hU0⟩ : ∃ U0, U0 = B &&& UInt64.ofInt 4294967295 := ⟨_, rfl⟩
   obtain ⟨Q1, hQ1⟩ : ∃ Q1, Q1 = UInt64.ofInt ((A.toNat : Int).tdiv (yn.toNat : Int)) := ⟨_, rfl⟩
   obtain ⟨R1, hR1⟩ : ∃ R1, R1 = A - Q1 * yn := ⟨_, rfl⟩
   obtain ⟨D, hD⟩ : ∃ D, D = A * UInt64.ofInt 4294967296 + U1 - Q1 * Y := ⟨_, rfl⟩
   obtain ⟨Q0, hQ0⟩ : ∃ Q0, Q0 = UInt64.ofInt ((D.toNat : Int).tdiv (yn.toNat : Int)) := ⟨_, rfl⟩
   obtain ⟨R2, hR2⟩ : ∃ R2, R2 = D - Q0 * yn := ⟨_, rfl⟩
   have nY : Y.toNat = y.toNat * 2 ^ s := by rw [hY, shl64 _ hs2, Nat.mod_eq_of_lt hYs]
   have p32 : (2 : Nat) ^ s = 2 ^ (s - 32) * 2 ^ 32 := by rw [<- Nat.pow_add]; congr 1; omega
   have nyn : yn.toNat = y.toNat * 2 ^ (s - 32) := by rw [hyn, shr64 _ (by decide), nY, p32, <- Nat.mul_assoc, Nat.mul_div_cancel _ (by decide)]
   have nYy : Y.toNat = yn.toNat * 2 ^ 32 := by rw [nY, nyn, p32, Nat.mul_assoc]
   have hZ : Y &&& UInt64.ofInt 4294967295 = 0 := by
    apply UInt64.toNat_inj.1
    rw [and64, nYy, Nat.mul_mod_left]; rfl
   have nB : B.toNat = lo.toNat * 2 ^ s % 2 ^ 64 := by rw [hB, shl64 _ hs2]
   have hhi : hi.toNat * 2 ^ s < 2 ^ 64 := Nat.lt_of_le_of_lt (Nat.mul_le_mul_right _ (by omega)) hYs
   have hlos : lo.toNat / 2 ^ (64 - s) < 2 ^ s := by
    rw [Nat.div_lt_iff_lt_mul (Nat.two_pow_pos _), <- Nat.pow_add, show s + (64 - s) = 64 by omega]; exact hlo
   have nA : A.toNat = hi.toNat * 2 ^ s + lo.toNat / 2 ^ (64 - s) := by
    rw [hA, UInt64.toNat_or, shl64 _ hs2, shr64 _ (by omega), Nat.mod_eq_of_lt hhi, Nat.mul_comm, <- Nat.two_pow_add_eq_or_of_lt hlos]
   have nU1 : U1.toNat = B.toNat / 2 ^ 32 := by rw [hU1, shr64 _ (by decide)]
   have nU0 : U0.toNat = B.toNat % 2 ^ 32 := by rw [hU0, and64]
   have hyn0 : yn.toNat ≠ 0 := by
    rw [nyn]; exact Nat.ne_of_gt (Nat.mul_pos (by omega) (Nat.two_pow_pos _))
   have hP := div_plain (by omega) hlt hs1 hs2 nyn nA nB hlo rfl rfl rfl rfl
   obtain ⟨p1, p2, p3, p4, p5, p6⟩ := hP
   have hAl := A.toNat_lt
   have hYl := Y.toNat_lt
   have tdv : ∀ u v : UInt64, (UInt64.ofInt ((u.toNat : Int).tdiv (v.toNat : Int))).toNat = u.toNat / v.toNat := fun u v => by
    rw [<- Int.ofNat_tdiv, ofInt_lt (Nat.lt_of_le_of_lt (Nat.div_le_self _ _) u.toNat_lt)]
   have nQ1 : Q1.toNat = A.toNat / yn.toNat := by rw [hQ1, tdv]
   have submod : ∀ {u v : UInt64} (w : UInt64), w = UInt64.ofInt ((u.toNat : Int).tdiv (v.toNat : Int)) -> (u - w * v).toNat = u.toNat % v.toNat := by
    rintro u v w rfl
    have hd := Nat.div_add_mod u.toNat v.toNat
    have hu := u.toNat_lt
    have hm : u.toNat / v.toNat * v.toNat <= u.toNat := Nat.div_mul_le_self _ _
    rw [UInt64.toNat_sub, UInt64.toNat_mul, tdv, Nat.mod_eq_of_lt (a := u.toNat / v.toNat * v.toNat) (by omega)]
    rw [Nat.mul_comm] at hd
    omega
   have nR1 : R1.toNat = A.toNat % yn.toNat := by rw [hR1]; exact submod Q1 hQ1
   have nD : D.toNat = A.toNat % yn.toNat * 2 ^ 32 + B.toNat / 2 ^ 32 := by
    have hb32 : B.toNat / 2 ^ 32 < 2 ^ 32 := by have := B.toNat_lt; omega
    have hyn32 : yn.toNat < 2 ^ 32 := by omega
    have hd := Nat.div_add_mod A.toNat yn.toNat
    rw [hD, UInt64.toNat_sub, UInt64.toNat_add, UInt64.toNat_mul, UInt64.toNat_mul, nU1, nQ1, nYy, show (UInt64.ofInt 4294967296).toNat = 2 ^ 32 from rfl]
    have e : A.toNat / yn.toNat * (yn.toNat * 2 ^ 32) = yn.toNat * (A.toNat / yn.toNat) * 2 ^ 32 := by rw [<- Nat.mul_assoc, Nat.mul_comm yn.toNat]
    rw [e]
    generalize yn.toNat * (A.toNat / yn.toNat) = X at *
    omega
   have nQ0 : Q0.toNat = D.toNat / yn.toNat := by rw [hQ0, tdv]
   have nR2 : R2.toNat = D.toNat % yn.toNat := by rw [hR2]; exact submod Q0 hQ0
   rw [<- nD] at p1 p2 p4 p6
   rw [<- nQ1, <- nQ0] at p1
   rw [<- nR2] at p2 p6
   rw [<- nQ1] at p3
   rw [<- nQ0] at p4
   rw [<- nR1] at p5
   rw [<- nU0] at p2
   have c1 : ((4294967296 : Int) <= (Q1.toNat : Int)) = False := eq_false (by omega)
   have c2 : ((4294967296 : Int) <= (Q0.toNat : Int)) = False := eq_false (by omega)
   have c3 : ∀ x : UInt64, ((x.toNat : Int) < ((0 : UInt64).toNat : Int)) = False := fun x => eq_false (by simp)
   simp -dsimp +decide (disch := omega) only [vy, vz, vze, vr, ty, en, ↓reduceIte, Nat.reduceSub, Nat.reduceAdd, Nat.reduceMul, Nat.reduceLT, Int.reduceAdd, Int.reduceSub, Int.reduceToNat, ci, vi, getO_i, y0, y1, h0', bb2, vone]
   refine (leading_ok (x := y)).det' ?_
   rw [<- hs]
   simp -dsimp +decide (disch := omega) only [vy, vz, vze, vr, ty, en, ↓reduceIte, Nat.reduceSub, Nat.reduceAdd, Nat.reduceMul, Nat.reduceLT, Int.reduceAdd, Int.reduceSub, Int.reduceToNat, ci, vi, getO_i, y0, y1, h0', bb2, vone, hS, hS2, <- hY, <- hyn, hZ, <- hA, <- hB, <- hU1, <- hU0, <- hQ1, <- hR1]
   refine ⟨by omega, by omega, by omega, by omega, by omega, ?_⟩
   refine SemA.loopE (fun _ : Unit => [(2, w64 Y), (8, .p (.int .u64 (s : Int))), (9, w64 yn), (10, w64 0), (11, w64 A), (13, w64 U1), (14, w64 U0), (15, w64 Q1), (16, w64 R1)]) (fun _ => T) (fun _ => True) (fun _ => 0) () [] 0 (fun _ : Unit => [(2, w64 Y), (8, .p (.int .u64 (s : Int))), (9, w64 yn), (10, w64 0), (11, w64 A), (13, w64 U1), (14, w64 U0), (15, w64 Q1)]) (fun _ => T) (fun _ => True) trivial (by (simp -dsimp +decide (disch := omega) only [vy, vz, vze, vr, ty, en, ↓reduceIte, Nat.reduceSub, Nat.reduceAdd, Nat.reduceMul, Nat.reduceLT, Int.reduceAdd, Int.reduceSub, Int.reduceToNat, ci, vi, getO_i]); first | rfl | done) rfl (by simp) ?_ ?_
   . rintro _ g -
     refine SemA.o ?_
     simp -dsimp +decide (disch := omega) only [vy, vz, vze, vr, ty, en, ↓reduceIte, Nat.reduceSub, Nat.reduceAdd, Nat.reduceMul, Nat.reduceLT, Int.reduceAdd, Int.reduceSub, Int.reduceToNat, ci, vi, getO_i, c1, c3, UInt64.mul_zero, bb2]
     exact ⟨(), trivial⟩
   rintro _ g tmp -
   simp -dsimp +decide (disch := omega) only [vy, vz, vze, vr, ty, en, ↓reduceIte, Nat.reduceSub, Nat.reduceAdd, Nat.reduceMul, Nat.reduceLT, Int.reduceAdd, Int.reduceSub, Int.reduceToNat, ci, vi, getO_i, y0, y1, h0', bb2, <- hD, <- hQ0, <- hR2]
   refine ⟨by omega, ?_⟩
   refine SemA.loopE (fun _ : Unit => [(2, w64 Y), (8, .p (.int .u64 (s : Int))), (9, w64 yn), (10, w64 0), (14, w64 U0), (15, w64 Q1), (16, w64 R2), (17, w64 D), (18, w64 Q0)]) (fun _ => T) (fun _ => True) (fun _ => 0) () [] 2 (fun _ : Unit => [(2, w64 Y), (8, .p (.int .u64 (s : Int))), (14, w64 U0), (15, w64 Q1), (17, w64 D), (18, w64 Q0)]) (fun _ => T) (fun _ => True) trivial (by (simp -dsimp +decide (disch := omega) only [vy, vz, vze, vr, ty, en, ↓reduceIte, Nat.reduceSub, Nat.reduceAdd, Nat.reduceMul, Nat.reduceLT, Int.reduceAdd, Int.reduceSub, Int.reduceToNat, ci, vi, getO_i]); first | rfl | done) rfl (by simp) ?_ ?_
   . rintro _ g -
     refine SemA.o ?_
     simp -dsimp +decide (disch := omega) only [vy, vz, vze, vr, ty, en, ↓reduceIte, Nat.reduceSub, Nat.reduceAdd, Nat.reduceMul, Nat.reduceLT, Int.reduceAdd, Int.reduceSub, Int.reduceToNat, ci, vi, getO_i, c2, c3, UInt64.mul_zero, bb2]
     exact ⟨(), trivial⟩
   rintro _ g tmp -
   have hfin1 : Q1 * UInt64.ofInt 4294967296 + Q0 = UInt64.ofNat ((hi.toNat * 2 ^ 64 + lo.toNat) / y.toNat) := by
    apply UInt64.toNat_inj.1
    rw [<- p1, UInt64.toNat_add, UInt64.toNat_mul, UInt64.toNat_ofNat', show (UInt64.ofInt 4294967296).toNat = 2 ^ 32 from rfl]
    omega
   have hsn : (UInt64.ofNat s).toNat = s := by rw [UInt64.toNat_ofNat']; omega
   have hfin2 : u64_shr (D * UInt64.ofInt 4294967296 + U0 - Q0 * Y) s = UInt64.ofNat ((hi.toNat * 2 ^ 64 + lo.toNat) % y.toNat) := by
    apply UInt64.toNat_inj.1
    have hd := Nat.div_add_mod D.toNat yn.toNat
    rw [<- nQ0, <- nR2] at hd
    have hm : (D * UInt64.ofInt 4294967296 + U0 - Q0 * Y).toNat = R2.toNat * 2 ^ 32 + U0.toNat := by
     have hU0l : U0.toNat < 2 ^ 32 := by omega
     rw [UInt64.toNat_sub, UInt64.toNat_add, UInt64.toNat_mul, UInt64.toNat_mul, nYy, show (UInt64.ofInt 4294967296).toNat = 2 ^ 32 from rfl]
     have e : Q0.toNat * (yn.toNat * 2 ^ 32) = yn.toNat * Q0.toNat * 2 ^ 32 := by rw [<- Nat.mul_assoc, Nat.mul_comm yn.toNat]
     rw [e]
     generalize yn.toNat * Q0.toNat = X at *
     omega
    rw [shr64 _ hs2, hm, p2, UInt64.toNat_ofNat']
    exact (Nat.mod_eq_of_lt (Nat.lt_of_lt_of_le (Nat.mod_lt _ (show y.toNat > 0 by omega)) (show y.toNat <= 2 ^ 64 by omega))).symm
   simp -dsimp +decide (disch := omega) only [vy, vz, vze, vr, ty, en, ↓reduceIte, Nat.reduceSub, Nat.reduceAdd, Nat.reduceMul, Nat.reduceLT, Int.reduceAdd, Int.reduceSub, Int.reduceToNat, ci, vi, getO_i, y0, y1, h0', bb2, vone, hfin1, hfin2]
   exact ⟨by omega, Vw.done ⟨rfl, rfl, rfl⟩⟩
theorem limb_of_mod {a b k : Nat} (h : a % 2 ^ (64 * (k + 1)) = b % 2 ^ (64 * (k + 1))) : limb a k = limb b k := by
 apply UInt64.toNat_inj.1
 rw [limb_nat, limb_nat]
 have e : ∀ x : Nat, x / 2 ^ (64 * k) % 2 ^ 64 = x % 2 ^ (64 * (k + 1)) / 2 ^ (64 * k) := fun x => by
  rw [Nat.mul_add, Nat.mul_one, Nat.pow_add, Nat.mod_mul_right_div_self]
 rw [e, e, h]
theorem mod_of_mod {a b k : Nat} (h : a % 2 ^ (64 * (k + 1)) = b % 2 ^ (64 * (k + 1))) : a % 2 ^ (64 * k) = b % 2 ^ (64 * k) := by
 have e : ∀ x : Nat, x % 2 ^ (64 * k) = x % 2 ^ (64 * (k + 1)) % 2 ^ (64 * k) := fun x => by
  rw [Nat.mul_add, Nat.mul_one, Nat.pow_add, Nat.mod_mul_right_mod]
 rw [e, e b, h]
theorem scaled_ok {T : Tbl} {x most n m : Nat} (hx : x < 2 ^ 256) (hmost : most < 2 ^ 256) (hn : n < 2 ^ 64) (hm0 : 0 < m) (hm : m < 2 ^ 32) :
 CallA prog G 26 [.ag (Bg x), .p (.int .u64 (n : Int)), .p (.int .u64 (m : Int)), .ag (Bg most)] T fun v T' es => v = .ag (Bg (min (x * n / m) most)) /\ T' = T /\ es = [] := by
 refine CallA.wfs fun wf => ?_
 have wt := wf.t
 have ez : [oQ, oQ, oQ, oQ] = Bg 0 := rfl
 have nn : ∀ k, k < 2 ^ 64 -> (UInt64.ofNat k).toNat = k := fun k h => by rw [UInt64.toNat_ofNat', Nat.mod_eq_of_lt h]
 have eN : AV.p (.int .u64 (n : Int)) = w64 (UInt64.ofNat n) := nat_w64 hn
 have eM : AV.p (.int .u64 (m : Int)) = w64 (UInt64.ofNat m) := nat_w64 (by omega)
 rw [eN, eM]
 have mul := pmul_ok (T := T) (n := UInt64.ofNat n) hx
 rw [nn n hn] at mul
 obtain ⟨N, hN⟩ : ∃ N, N = x * n := ⟨_, rfl⟩
 have hNl : N / 2 ^ 256 < 2 ^ 64 := by
  rw [Nat.div_lt_iff_lt_mul (by decide), hN]
  exact Nat.lt_of_le_of_lt (Nat.mul_le_mul_left x (Nat.le_of_lt hn)) (by rw [Nat.mul_comm]; exact Nat.mul_lt_mul_of_pos_left hx (by decide))
 have hx0 : N % 2 ^ 256 < 2 ^ 256 := Nat.mod_lt _ (by decide)
 have hov := nn _ hNl
 have hmm := nn m (by omega)
 rw [<- hN]
 refine CallA.eV 25 func26 ntmps26 results26 ?_
 simp -dsimp +decide only [vy, vz, vze, vr, ty, en, ↓reduceIte, Nat.reduceSub, Nat.reduceAdd, Nat.reduceMul, Nat.reduceLT, Int.reduceAdd, Int.reduceSub, Int.reduceToNat, ci]
 simp -dsimp +decide (disch := omega) only [vy, vz, vze, vr, ty, en, ↓reduceIte, Nat.reduceSub, Nat.reduceAdd, Nat.reduceMul, Nat.reduceLT, Int.reduceAdd, Int.reduceSub, Int.reduceToNat, ci, vi, getO_i, vt, ez, vbg]
 have mul2 := fun Y => pmul_ok (T := Y) (x := x) (n := UInt64.ofNat n) hx
 rw [nn n hn, <- hN] at mul2
 refine (mul2 _).det' ?_
 have g1 := fun a l => gn1 T a (.cells 51 (Bg most)) l
 by_cases ho : m <= N / 2 ^ 256
 . have io : (((UInt64.ofNat m).toNat : Int) <= ((UInt64.ofNat (N / 2 ^ 256)).toNat : Int)) = True := eq_true (by rw [hov, hmm]; omega)
   have hmin : min (N / m) most = most := by
    refine Nat.min_eq_right (Nat.le_trans (Nat.le_of_lt hmost) ?_)
    rw [Nat.le_div_iff_mul_le hm0]
    rw [Nat.mul_comm]
    exact Nat.le_trans (Nat.mul_le_mul_right (2 ^ 256) ho) (Nat.div_mul_le_self N (2 ^ 256))
   rw [hmin]
   simp -dsimp +decide (disch := omega) only [vy, vz, vze, vr, ty, en, ↓reduceIte, Nat.reduceSub, Nat.reduceAdd, Nat.reduceMul, Nat.reduceLT, Int.reduceAdd, Int.reduceSub, Int.reduceToNat, ci, vi, getO_i, vt, ez, vbg, io, g1, vres]
   exact Vw.cut ⟨by rw [AV.wo, AV.woL_eq, Bg_wo], rfl, rfl⟩
 . have io : (((UInt64.ofNat m).toNat : Int) <= ((UInt64.ofNat (N / 2 ^ 256)).toNat : Int)) = False := eq_false (by rw [hov, hmm]; omega)
   simp -dsimp +decide (disch := omega) only [vy, vz, vze, vr, ty, en, ↓reduceIte, Nat.reduceSub, Nat.reduceAdd, Nat.reduceMul, Nat.reduceLT, Int.reduceAdd, Int.reduceSub, Int.reduceToNat, ci, vi, getO_i, vt, ez, vbg, io, g1, vres]
   refine SemA.loopE (fun s : Nat × Nat × UInt64 => [(2, w64 (UInt64.ofNat m)), (4, .ptr T.length 0), (7, .ptr (T.length + 1) 0), (8, .ptr (T.length + 2) 0), (10, w64 s.2.2), (24, wint (s.1 : Int))]) (fun s => T ++ [.cells 51 (Bg s.2.1), .cells 51 (Bg most), .cells 51 (Bg 0)]) (fun s => s.1 <= 4 /\ s.2.1 < 2 ^ 256 /\ s.2.2.toNat < m /\ s.2.1 % 2 ^ (64 * (4 - s.1)) = N % 2 ^ 256 % 2 ^ (64 * (4 - s.1)) /\ N / 2 ^ (64 * (4 - s.1)) = s.2.1 / 2 ^ (64 * (4 - s.1)) * m + s.2.2.toNat) (fun s => 4 - s.1) (0, N % 2 ^ 256, UInt64.ofNat (N / 2 ^ 256)) [] 0 (fun _ : Unit => [(4, .ptr T.length 0), (7, .ptr (T.length + 1) 0), (8, .ptr (T.length + 2) 0)]) (fun _ => T ++ [.cells 51 (Bg (N / m)), .cells 51 (Bg most), .cells 51 (Bg 0)]) (fun _ => N / m < 2 ^ 256) ⟨by simp, hx0, by rw [hov]; omega, rfl, ?_⟩ (by (simp -dsimp +decide (disch := omega) only [vy, vz, vze, vr, ty, en, ↓reduceIte, Nat.reduceSub, Nat.reduceAdd, Nat.reduceMul, Nat.reduceLT, Int.reduceAdd, Int.reduceSub, Int.reduceToNat, ci, vi, getO_i]); first | rfl | done) rfl (by simp) ?_ ?_
   . dsimp only
     rw [hov, Nat.sub_zero, Nat.div_eq_of_lt hx0, Nat.zero_mul, Nat.zero_add]
   . rintro ⟨i, w, r⟩ g ⟨hi, hw, hr, h1, h2⟩
     dsimp only at hi hw hr h1 h2
     refine SemA.o ?_
     simp -dsimp +decide (disch := omega) only [vy, vz, vze, vr, ty, en, ↓reduceIte, Nat.reduceSub, Nat.reduceAdd, Nat.reduceMul, Nat.reduceLT, Int.reduceAdd, Int.reduceSub, Int.reduceToNat, ci, vi, getO_i]
     refine CondP.dec (fun h => ?_) (fun h => ?_)
     . obtain ⟨k, hk⟩ : ∃ k, k = 3 - i := ⟨_, rfl⟩
       have hk4 : k < 4 := by omega
       have hsub : (3 : Int) - (i : Int) = (k : Int) := by omega
       rw [show 4 - i = k + 1 by omega] at h1 h2
       have hgw := Bg_get w hk4
       have g0 := fun l => gn0 T (.cells 51 (Bg w)) l
       simp -dsimp +decide (disch := omega) only [vy, vz, vze, vr, ty, en, ↓reduceIte, Nat.reduceSub, Nat.reduceAdd, Nat.reduceMul, Nat.reduceLT, Int.reduceAdd, Int.reduceSub, Int.reduceToNat, ci, vi, getO_i, vt, vbg, g0, hsub, hgw, Bg_len]
       refine ⟨⟨by omega, by omega⟩, (div64_ok (by rw [hmm]; exact hr) (by rw [hmm]; exact hm)).det' ?_⟩
       rw [hmm]
       obtain ⟨l, hl⟩ : ∃ l, l = (limb w k).toNat := ⟨_, rfl⟩
       have lx : l < 2 ^ 64 := by rw [hl]; exact UInt64.toNat_lt _
       rw [<- hl]
       obtain ⟨D, hD⟩ : ∃ D, D = r.toNat * 2 ^ 64 + l := ⟨_, rfl⟩
       rw [<- hD]
       have hq : D / m < 2 ^ 64 := by
        rw [Nat.div_lt_iff_lt_mul hm0, hD]
        have : (r.toNat + 1) * 2 ^ 64 <= m * 2 ^ 64 := Nat.mul_le_mul_right _ hr
        rw [Nat.mul_comm m] at this
        omega
       have hrm : D % m < m := Nat.mod_lt _ hm0
       obtain ⟨w', hw', hs, g1', g2', g3'⟩ := Bg_put hw hk4 hq
       have hs2 := hs (UInt64.ofNat (D / m)) (nn _ hq)
       simp -dsimp +decide (disch := omega) only [vy, vz, vze, vr, ty, en, ↓reduceIte, Nat.reduceSub, Nat.reduceAdd, Nat.reduceMul, Nat.reduceLT, Int.reduceAdd, Int.reduceSub, Int.reduceToNat, ci, vi, getO_i, vt, vbg, g0, hs2, Bg_len]
       refine ⟨⟨by omega, by omega⟩, by omega, (i + 1, w', UInt64.ofNat (D % m)), ⟨⟨by dsimp only; omega, hw', by rw [nn _ (by omega)]; exact hrm, ?_, ?_⟩, by dsimp only; omega⟩, ⟨by rw [hmm], rfl, rfl⟩, rfl⟩
       . dsimp only
         rw [show 4 - (i + 1) = k by omega, g1', mod_of_mod h1]
       . dsimp only
         rw [show 4 - (i + 1) = k by omega, nn _ (by omega)]
         have hd1 := div_next N k
         have hd2 := div_next w' k
         have hl2 : N / 2 ^ (64 * k) % 2 ^ 64 = l := by
          rw [hl, limb_of_mod h1, limb_nat]
          have : N / 2 ^ (64 * k) % 2 ^ 64 = N % 2 ^ 256 / 2 ^ (64 * k) % 2 ^ 64 := by
           have e : (limb N k).toNat = (limb (N % 2 ^ 256) k).toNat := by
            rw [limb_of_mod (a := N) (b := N % 2 ^ 256) (k := k)]
            rw [Nat.mod_mod_of_dvd]
            exact Nat.pow_dvd_pow 2 (by omega)
           rw [limb_nat, limb_nat] at e
           exact e
          exact this
         rw [hl2, h2] at hd1
         rw [g2', g3'] at hd2
         have hdm := Nat.div_add_mod D m
         rw [hd1, hd2, Nat.add_mul, Nat.add_mul, Nat.mul_right_comm]
         rw [hD] at hdm
         rw [<- hD] at hdm
         rw [Nat.mul_comm (D / m) m]
         omega
     . have e : i = 4 := by omega
       subst e
       simp only [Nat.sub_self, Nat.mul_zero, Nat.pow_zero, Nat.div_one] at h2
       have hq : N / m = w := by
        rw [h2, Nat.mul_comm, Nat.mul_add_div hm0, Nat.div_eq_of_lt hr, Nat.add_zero]
       simp -dsimp +decide (disch := omega) only [vy, vz, vze, vr, ty, en, ↓reduceIte, Nat.reduceSub, Nat.reduceAdd, Nat.reduceMul, Nat.reduceLT, Int.reduceAdd, Int.reduceSub, Int.reduceToNat, ci, vi, getO_i, vt, vbg]
       refine ⟨(), ?_, ?_⟩
       . rw [hq]; exact hw
       . rw [hq]
   . rintro _ g tmp hlt
     simp -dsimp +decide (disch := omega) only [vy, vz, vze, vr, ty, en, ↓reduceIte, Nat.reduceSub, Nat.reduceAdd, Nat.reduceMul, Nat.reduceLT, Int.reduceAdd, Int.reduceSub, Int.reduceToNat, ci, vi, getO_i, vt, vbg]
     refine (pless_ok hmost hlt).det' ?_
     have g0 := fun l => gn0 T (.cells 51 (Bg (N / m))) l
     by_cases hc : most < N / m
     . have ic := eq_true hc
       rw [Nat.min_eq_right (by omega)]
       simp -dsimp +decide (disch := omega) only [vy, vz, vze, vr, ty, en, ↓reduceIte, Nat.reduceSub, Nat.reduceAdd, Nat.reduceMul, Nat.reduceLT, Int.reduceAdd, Int.reduceSub, Int.reduceToNat, ci, vi, getO_i, vt, vbg, g0, g1, ic, vres]
       exact Vw.cut ⟨by rw [AV.wo, AV.woL_eq, Bg_wo], rfl, rfl⟩
     . have ic := eq_false hc
       rw [Nat.min_eq_left (by omega)]
       simp -dsimp +decide (disch := omega) only [vy, vz, vze, vr, ty, en, ↓reduceIte, Nat.reduceSub, Nat.reduceAdd, Nat.reduceMul, Nat.reduceLT, Int.reduceAdd, Int.reduceSub, Int.reduceToNat, ci, vi, getO_i, vt, vbg, g0, g1, ic, vres]
       exact Vw.cut ⟨by rw [AV.wo, AV.woL_eq, Bg_wo], rfl, rfl⟩
theorem rbits_ok {T : Tbl} {p : Par} (ok : p.Ok) {a : AV} {hs : List Hdr} (hb : Es T 68 Hdr.cs a hs) (hok : ∀ x ∈ hs, x.Ok) (hl : hs.length <= 1000000) : CallA prog G 9 [.ag p.cs, a] T fun v T' es => v = w32 (bitsB p hs) /\ T' = T /\ es = [] := by
 refine CallA.wfs fun wf => ?_
 have wt := wf.t
 have hr := Par.rules ok
 have hsr := Sl.rules hb.sl (by decide)
 have hld := hb.ld (P := prog) (t := 27) (by (simp -dsimp +decide only [vr, ty, en, ↓reduceIte, Nat.reduceSub, Nat.reduceAdd, Nat.reduceMul, Nat.reduceLT, Int.reduceAdd, Int.reduceSub, Int.reduceToNat, ci])) (by (simp -dsimp +decide only [vr, ty, en, ↓reduceIte, Nat.reduceSub, Nat.reduceAdd, Nat.reduceMul, Nat.reduceLT, Int.reduceAdd, Int.reduceSub, Int.reduceToNat, ci])) (by decide)
 have hl1 := Sl.loads hb.sl (P := prog) (t := 22) (by (simp -dsimp +decide only [vr, ty, en, ↓reduceIte, Nat.reduceSub, Nat.reduceAdd, Nat.reduceMul, Nat.reduceLT, Int.reduceAdd, Int.reduceSub, Int.reduceToNat, ci]))
 have g0 := fun l => gn0 T (.cells 29 p.cs) l
 have ez : [oQ, oQ, oQ, oQ] = Bg 0 := rfl
 refine CallA.eV 14 func9 ntmps9 results9 ?_
 simp -dsimp +decide only [vr, ty, en, ↓reduceIte, Nat.reduceSub, Nat.reduceAdd, Nat.reduceMul, Nat.reduceLT, Int.reduceAdd, Int.reduceSub, Int.reduceToNat, ci]
 cases hn : hs.getLast? with
 | none =>
   rw [List.getLast?_eq_none_iff] at hn
   subst hn
   rw [show bitsB p [] = 0 from rfl]
   simp -dsimp +decide (disch := omega) only [vr, ty, en, ↓reduceIte, Nat.reduceSub, Nat.reduceAdd, Nat.reduceMul, Nat.reduceLT, Int.reduceAdd, Int.reduceSub, Int.reduceToNat, ci, vi, getO_i, vt, hr, hsr, List.length_nil, bb2]
   exact Vw.cut ⟨rfl, rfl, rfl⟩
 | some la =>
   have hlast : hs[hs.length - 1]? = some la := by rw [<- List.getLast?_eq_getElem?, hn]
   have hne : 0 < hs.length := by
    rcases hs with _ | ⟨x, l⟩
    . cases hn
    . exact Nat.succ_pos _
   have hla := hok la (List.mem_of_getElem? hlast)
   have hlr := Hdr.rules hla
   have hl0 : ((hs.length : Int) = 0) = False := eq_false (by omega)
   have hsub1 : (hs.length : Int) - 1 = ((hs.length - 1 : Nat) : Int) := by omega
   simp -dsimp +decide (disch := omega) only [vr, ty, en, ↓reduceIte, Nat.reduceSub, Nat.reduceAdd, Nat.reduceMul, Nat.reduceLT, Int.reduceAdd, Int.reduceSub, Int.reduceToNat, ci, vi, getO_i, vt, hr, hsr, hl0, g0, bb2]
   refine (pmay_ok ok).det' ?_
   cases hm : mayB p with
   | false =>
     rw [show bitsB p hs = 0 by unfold bitsB; rw [hn]; simp [hm]]
     simp -dsimp +decide (disch := omega) only [vr, ty, en, ↓reduceIte, Nat.reduceSub, Nat.reduceAdd, Nat.reduceMul, Nat.reduceLT, Int.reduceAdd, Int.reduceSub, Int.reduceToNat, ci, vi, getO_i, vt, hr, hsr, hl0, g0, bb2]
     exact Vw.cut ⟨rfl, rfl, rfl⟩
   | true =>
     obtain ⟨m1, m2, m3, m4, -, -, -, m5⟩ := mayB_is hm
     obtain ⟨iv, hiv⟩ := Int.eq_ofNat_of_zero_le (show 0 <= p.interval by omega)
     have hiv2 : 2 <= iv := by omega
     have hrem : (hs.length : Int).tmod (p.interval) = ((hs.length % iv : Nat) : Int) := by rw [hiv]; rfl
     simp -dsimp +decide (disch := omega) only [vr, ty, en, ↓reduceIte, Nat.reduceSub, Nat.reduceAdd, Nat.reduceMul, Nat.reduceLT, Int.reduceAdd, Int.reduceSub, Int.reduceToNat, ci, vi, getO_i, vt, hr, hsr, hl0, g0, bb2, hsub1, hld, hlast, ez68, vz68, hlr, hla, hrem]
     refine ⟨⟨by omega, by omega⟩, by omega, CondP.ndec (fun h => ?_) (fun h => ?_)⟩
     . rw [show bitsB p hs = la.bits by unfold bitsB; rw [hn]; simp only [hm]; rw [hiv, Int.toNat_natCast, if_neg (by decide), if_pos (by omega)]]
       simp -dsimp +decide (disch := omega) only [vr, ty, en, ↓reduceIte, Nat.reduceSub, Nat.reduceAdd, Nat.reduceMul, Nat.reduceLT, Int.reduceAdd, Int.reduceSub, Int.reduceToNat, ci, vi, getO_i, vt, hr, hsr, hl0, g0, hld, hlr]
       exact Vw.cut ⟨rfl, rfl, rfl⟩
     have h0 : hs.length % iv = 0 := by omega
     have hle : iv <= hs.length := Nat.le_of_dvd hne (Nat.dvd_of_mod_eq_zero h0)
     obtain ⟨fi, hfi⟩ : ∃ fi, hs[hs.length - iv]? = some fi := ⟨hs[hs.length - iv]'(by omega), by simp⟩
     have hfo := hok fi (List.mem_of_getElem? hfi)
     rw [show bitsB p hs = turnB p la fi by unfold bitsB; rw [hn]; simp only [hm]; rw [hiv, Int.toNat_natCast, if_neg (by decide), if_neg (by omega), hfi]]
     have hsub : (hs.length : Int) - p.interval = ((hs.length - iv : Nat) : Int) := by omega
     have hmul : p.interval * (p.spacing.toNat : Int) = ((wantN p : Nat) : Int) := by unfold wantN; rw [hiv, Int.toNat_natCast]; rfl
     have hw : wantN p <= 2016 * 3600 := by unfold wantN; exact Nat.mul_le_mul (by omega) m4
     have hw2 : 2 <= wantN p := by unfold wantN; exact Nat.mul_le_mul (show 2 <= p.interval.toNat by omega) m3
     have hfd := fun j k (K : AV -> Prop) => Sl.fld (K := K) hb.sl hne j k
     have hcell : (hs.flatMap Hdr.cs)[(hs.length - iv) * 68 + 65]? = some (w32 fi.time) := by
      rw [flat_cell hb.wd hfi (by decide)]; exact (Hdr.rules hfo).2.2.2.2.1
     have g1 := fun a l => gn1 T a (.cells 27 la.cs) l
     have g2 := fun a b c l => gn2 T a b (.cells 51 c) l
     have g3 := fun a b c d l => gn3 T a b c (.cells 51 d) l
     have t1 := la.time.toNat_lt
     have t2 := fi.time.toNat_lt
     simp -dsimp +decide (disch := omega) only [vr, ty, en, ↓reduceIte, Nat.reduceSub, Nat.reduceAdd, Nat.reduceMul, Nat.reduceLT, Int.reduceAdd, Int.reduceSub, Int.reduceToNat, ci, vi, getO_i, vt, hr, hsr, hl0, g0, g1, bb2, hld, hl1, hlr, hmul]
     refine SemA.draw (fun i => true) [(0, true), (1, true), (2, true), (3, true), (4, true), (5, true), (6, true), (7, true), (8, true), (9, true), (10, true), (11, true), (12, true), (13, true)] mixed (by kernel_rfl) ?_
     simp -dsimp +decide (disch := omega) only [vr, ty, en, ↓reduceIte, Nat.reduceSub, Nat.reduceAdd, Nat.reduceMul, Nat.reduceLT, Int.reduceAdd, Int.reduceSub, Int.reduceToNat, ci, vi, getO_i, vt, hr, hsr, hl0, g0, g1, bb2, hld, hl1, hlr, hsub, hfd, hcell, vmm, kallT]
     refine ⟨⟨by omega, by omega⟩, ?_⟩
     have hspan : max ((wantN p / 4 : Nat) : Int) (min (4 * ((wantN p : Nat) : Int)) ((la.time.toNat : Int) - (fi.time.toNat : Int))) = ((spanN p la.time fi.time : Nat) : Int) := by unfold spanN; omega
     have hsl : spanN p la.time fi.time <= 4 * wantN p := by unfold spanN; omega
     rw [hspan]
     refine pof03_ok.det' ?_
     rw [ofV_n]
     simp -dsimp +decide (disch := omega) only [vr, ty, en, ↓reduceIte, Nat.reduceSub, Nat.reduceAdd, Nat.reduceMul, Nat.reduceLT, Int.reduceAdd, Int.reduceSub, Int.reduceToNat, ci, vi, getO_i, vt, hr, hsr, hl0, g0, g1, bb2, vbg, ez, hlr]
     refine pof03_ok.det' ?_
     rw [ofV_n]
     have hu1 : (UInt64.ofInt ((spanN p la.time fi.time : Nat) : Int)).toNat = spanN p la.time fi.time := ofInt_lt (by omega)
     have hu2 : (UInt64.ofInt ((wantN p : Nat) : Int)).toNat = wantN p := ofInt_lt (by omega)
     simp -dsimp +decide (disch := omega) only [vr, ty, en, ↓reduceIte, Nat.reduceSub, Nat.reduceAdd, Nat.reduceMul, Nat.reduceLT, Int.reduceAdd, Int.reduceSub, Int.reduceToNat, ci, vi, getO_i, vt, hr, hsr, hl0, g0, g1, g2, g3, bb2, vbg, ez, hlr, hu1, hu2]
     refine (scaled_ok (ofN_lt _) (ofN_lt _) (by omega) (by omega) (by omega)).det' ?_
     have ht : min (ofN la.bits * spanN p la.time fi.time / wantN p) (ofN p.limit) < 2 ^ 256 := Nat.lt_of_le_of_lt (Nat.min_le_right _ _) (ofN_lt _)
     unfold turnB
     revert ht
     generalize min (ofN la.bits * spanN p la.time fi.time / wantN p) (ofN p.limit) = t
     intro ht
     have g4 := fun a b c d e l => gn4 T a b c d (.cells 51 e) l
     simp -dsimp +decide (disch := omega) only [vr, ty, en, ↓reduceIte, Nat.reduceSub, Nat.reduceAdd, Nat.reduceMul, Nat.reduceLT, Int.reduceAdd, Int.reduceSub, Int.reduceToNat, ci, vi, getO_i, vt, hr, hsr, hl0, g0, g1, g2, g4, bb2, vbg, ez, hlr, eqB ht (show 0 < 2 ^ 256 by decide)]
     refine CondP.dec (fun h => ?_) (fun h => ?_)
     . subst h
       simp -dsimp +decide (disch := omega) only [vr, ty, en, ↓reduceIte, Nat.reduceSub, Nat.reduceAdd, Nat.reduceMul, Nat.reduceLT, Int.reduceAdd, Int.reduceSub, Int.reduceToNat, ci, vi, getO_i, vt, ez, vbg, g4]
       refine (pof_ok (n := 1)).det' ?_
       simp -dsimp +decide (disch := omega) only [vr, ty, en, ↓reduceIte, Nat.reduceSub, Nat.reduceAdd, Nat.reduceMul, Nat.reduceLT, Int.reduceAdd, Int.reduceSub, Int.reduceToNat, ci, vi, getO_i, vt, ez, vbg, g4]
       refine (pcompact_ok (show 1 < 2 ^ 256 by decide)).det' ?_
       simp -dsimp +decide (disch := omega) only [vr, ty, en, ↓reduceIte, Nat.reduceSub, Nat.reduceAdd, Nat.reduceMul, Nat.reduceLT, Int.reduceAdd, Int.reduceSub, Int.reduceToNat, ci, vi, getO_i, vt, vbg, wt]
       exact Vw.cut ⟨rfl, rfl, rfl⟩
     . simp -dsimp +decide (disch := omega) only [vr, ty, en, ↓reduceIte, Nat.reduceSub, Nat.reduceAdd, Nat.reduceMul, Nat.reduceLT, Int.reduceAdd, Int.reduceSub, Int.reduceToNat, ci, vi, getO_i, vt, ez, vbg, g4]
       refine (pcompact_ok ht).det' ?_
       rw [Nat.max_eq_right (by omega)]
       simp -dsimp +decide (disch := omega) only [vr, ty, en, ↓reduceIte, Nat.reduceSub, Nat.reduceAdd, Nat.reduceMul, Nat.reduceLT, Int.reduceAdd, Int.reduceSub, Int.reduceToNat, ci, vi, getO_i, vt, vbg, wt]
       exact Vw.cut ⟨rfl, rfl, rfl⟩
def sortU (l : List UInt32) : List UInt32 := l.mergeSort fun a b => decide (a <= b)
theorem sortU_is {s l : List UInt32} (hp : s.Perm l) (hs : s.Pairwise (· <= ·)) : s = sortU l := by
 refine List.Perm.eq_of_pairwise (le := (· <= ·)) (fun a b _ _ h1 h2 => UInt32.le_antisymm h1 h2) hs ?_ (hp.trans (List.mergeSort_perm l _).symm)
 have := List.pairwise_mergeSort (le := fun a b : UInt32 => decide (a <= b)) (fun a b c h1 h2 => by simp only [decide_eq_true_eq] at *; exact UInt32.le_trans h1 h2) (fun a b => by
  rcases UInt32.le_total a b with h | h
  . simp [h]
  . simp [h]) l
 exact this.imp fun h => by simpa using h
def lastT (hs : List Hdr) : List UInt32 := (hs.drop (hs.length - 11)).map Hdr.time
def medT (ts : List UInt32) : UInt32 := ((sortU ts)[ts.length / 2]?).getD 0
def medB (hs : List Hdr) : UInt32 := medT (lastT hs)
theorem ins_perm {x : UInt32} {s l : List UInt32} {j : Nat} (hp : s.Perm l) : (s.take j ++ x :: s.drop j).Perm (l ++ [x]) := by
 refine List.perm_middle.trans ?_
 rw [List.take_append_drop]
 exact (List.Perm.cons x hp).trans (List.perm_append_singleton x l).symm
theorem ins_sorted {x : UInt32} {s : List UInt32} {j : Nat} (hs : s.Pairwise (· <= ·)) (h1 : ∀ y, 0 < j -> s[j - 1]? = some y -> y <= x) (h2 : ∀ y ∈ s.drop j, x < y) (hj : j <= s.length) : (s.take j ++ x :: s.drop j).Pairwise (· <= ·) := by
 have e := List.take_append_drop j s
 rw [<- e, List.pairwise_append] at hs
 obtain ⟨p1, p2, p3⟩ := hs
 have hle : ∀ y ∈ s.take j, y <= x := fun y hy => by
  obtain ⟨i, hi, rfl⟩ := List.mem_iff_getElem.1 hy
  have hi2 : i < j /\ i < s.length := by rw [List.length_take] at hi; omega
  have hk : j - 1 < s.length := by omega
  have hz := h1 (s[j - 1]) (by omega) (by simp [hk])
  refine UInt32.le_trans ?_ hz
  rw [List.getElem_take]
  rcases Nat.lt_or_ge i (j - 1) with hl | hl
  . have hsw : s.Pairwise (· <= ·) := by rw [<- e, List.pairwise_append]; exact ⟨p1, p2, p3⟩
    exact List.pairwise_iff_getElem.1 hsw i (j - 1) hi2.2 hk hl
  . have : i = j - 1 := by omega
    subst this; exact UInt32.le_refl _
 rw [List.pairwise_append]
 refine ⟨p1, List.pairwise_cons.2 ⟨fun y hy => UInt32.le_of_lt (h2 y hy), p2⟩, fun y hy z hz => ?_⟩
 rcases List.mem_cons.1 hz with rfl | hz
 . exact hle y hy
 . exact p3 y hy z hz
theorem median13_ok {T : Tbl} {a : AV} {hs : List Hdr} (hb : Es T 68 Hdr.cs a hs) (hok : ∀ x ∈ hs, x.Ok) (hl : hs.length <= 1000000) : CallA prog G 12 [a] T fun v T' es => v = w32 (medB hs) /\ T' = T /\ es = [] := by
 refine CallA.wfs fun wf => ?_
 have wt := wf.t
 have wa := wf.arg a (by simp)
 have hsr := Sl.rules hb.sl (by decide)
 have hl1 := Sl.loads hb.sl (P := prog) (t := 22) (by (simp -dsimp +decide only [vt2, vy, vz, vze, vr, ty, en, ↓reduceIte, Nat.reduceSub, Nat.reduceAdd, Nat.reduceMul, Nat.reduceLT, Int.reduceAdd, Int.reduceSub, Int.reduceToNat, ci]))
 obtain ⟨f, hf⟩ : ∃ f, f = hs.length - 11 := ⟨_, rfl⟩
 have hmx : max ((hs.length : Int) - 11) 0 = (f : Int) := by omega
 have hlast : lastT hs = (hs.drop f).map Hdr.time := by rw [lastT, hf]
 refine CallA.eV 6 func12 ntmps12 results12 ?_
 simp -dsimp +decide only [vt2, vy, vz, vze, vr, ty, en, ↓reduceIte, Nat.reduceSub, Nat.reduceAdd, Nat.reduceMul, Nat.reduceLT, Int.reduceAdd, Int.reduceSub, Int.reduceToNat, ci]
 simp -dsimp +decide (disch := omega) only [vt2, vy, vz, vze, vr, ty, en, ↓reduceIte, Nat.reduceSub, Nat.reduceAdd, Nat.reduceMul, Nat.reduceLT, Int.reduceAdd, Int.reduceSub, Int.reduceToNat, ci, vi, getO_i, vt, hsr, vmm, hmx]
 refine SemA.adopt 3 22 1 (by decide) rfl ?_
 simp -dsimp +decide only [vt2, vy, vz, vze, vr, ty, en, ↓reduceIte, Nat.reduceSub, Nat.reduceAdd, Nat.reduceMul, Nat.reduceLT, Int.reduceAdd, Int.reduceSub, Int.reduceToNat, ci, vt]
 refine SemA.loopK (T.length + 1) (fun s : Nat × List UInt32 => [(0, a), (3, .sl T.length 0 s.1), (4, wint ((f + s.1 : Nat) : Int))]) (fun s => T ++ [.buf 22 1 (s.2.map w32)]) (fun s => f + s.1 <= hs.length /\ s.2.length = s.1 /\ s.2.Perm ((lastT hs).take s.1) /\ s.2.Pairwise (· <= ·)) (fun s => hs.length - s.1) (0, []) [] 0 (fun _ : Unit => [(3, .sl T.length 0 (lastT hs).length)]) (fun _ => T ++ [.buf 22 1 ((sortU (lastT hs)).map w32)]) (fun _ => True) (by omega) ⟨by dsimp only; omega, rfl, by simp, by simp⟩ (by (simp -dsimp +decide (disch := omega) only [vt2, vy, vz, vze, vr, ty, en, ↓reduceIte, Nat.reduceSub, Nat.reduceAdd, Nat.reduceMul, Nat.reduceLT, Int.reduceAdd, Int.reduceSub, Int.reduceToNat, ci, vi, getO_i]); first | rfl | done) rfl (by simp) ?_ ?_
 . rintro ⟨k, s⟩ g ⟨hk, hsl, hp, hst⟩
   dsimp only at hk hsl hp hst
   refine SemA.o ?_
   simp -dsimp +decide (disch := omega) only [vt2, vy, vz, vze, vr, ty, en, ↓reduceIte, Nat.reduceSub, Nat.reduceAdd, Nat.reduceMul, Nat.reduceLT, Int.reduceAdd, Int.reduceSub, Int.reduceToNat, ci, vi, getO_i, vt, hsr]
   refine CondP.dec (fun h => ?_) (fun h => ?_)
   . obtain ⟨x, hx⟩ : ∃ x, hs[f + k]? = some x := ⟨hs[f + k]'(by omega), by simp⟩
     have hxo := hok x (List.mem_of_getElem? hx)
     have hne : 0 < hs.length := by omega
     have hfd := fun j k (K : AV -> Prop) => Sl.fld (K := K) hb.sl hne j k
     have hcell : (hs.flatMap Hdr.cs)[(f + k) * 68 + 65]? = some (w32 x.time) := by
      rw [flat_cell hb.wd hx (by decide)]; exact (Hdr.rules hxo).2.2.2.2.1
     simp -dsimp +decide (disch := omega) only [vt2, vy, vz, vze, vr, ty, en, ↓reduceIte, Nat.reduceSub, Nat.reduceAdd, Nat.reduceMul, Nat.reduceLT, Int.reduceAdd, Int.reduceSub, Int.reduceToNat, ci, vi, getO_i, vt, hsr, hl1, hfd, hcell]
     refine ⟨⟨by omega, by omega⟩, ⟨hsl, by omega, by omega⟩, ?_⟩
     refine SemA.cut (T.length + 1) (by omega) ?_
     simp -dsimp +decide (disch := omega) only [vt2, vy, vz, vze, vr, ty, en, ↓reduceIte, Nat.reduceSub, Nat.reduceAdd, Nat.reduceMul, Nat.reduceLT, Int.reduceAdd, Int.reduceSub, Int.reduceToNat, ci, vi, getO_i, vt, wt, wa]
     refine SemA.loopK (T.length + 1) (fun q : Nat × UInt32 => [(0, a), (3, .sl T.length 0 (k + 1)), (4, wint ((f + k : Nat) : Int)), (5, wint (q.1 : Int))]) (fun q => T ++ [.buf 22 1 ((s.take q.1 ++ q.2 :: s.drop q.1).map w32)]) (fun q => q.1 <= k /\ ∀ y ∈ s.drop q.1, x.time < y) (fun q => q.1) (k, x.time) [] 2 (fun q : Nat × UInt32 => [(0, a), (3, .sl T.length 0 (k + 1)), (4, wint ((f + k : Nat) : Int)), (5, wint (q.1 : Int))]) (fun q => T ++ [.buf 22 1 ((s.take q.1 ++ q.2 :: s.drop q.1).map w32)]) (fun q => q.1 <= k /\ (∀ y ∈ s.drop q.1, x.time < y) /\ (∀ y, 0 < q.1 -> s[q.1 - 1]? = some y -> y <= x.time)) (by omega) ⟨by dsimp only; omega, by simp [<- hsl]⟩ (by (simp -dsimp +decide (disch := omega) only [vt2, vy, vz, vze, vr, ty, en, ↓reduceIte, Nat.reduceSub, Nat.reduceAdd, Nat.reduceMul, Nat.reduceLT, Int.reduceAdd, Int.reduceSub, Int.reduceToNat, ci, vi, getO_i]); first | rfl | done) (by simp [<- hsl, w32]) (by simp) ?_ ?_
     . rintro ⟨j, c⟩ g ⟨hj, hgt⟩
       dsimp only at hj hgt
       have hlen : (s.take j ++ c :: s.drop j).length = k + 1 := by simp; omega
       refine SemA.o ?_
       by_cases h0 : j = 0
       . have i0 : ((0 : Int) < (j : Int)) = False := eq_false (by omega)
         refine SemA.draw (fun i => true) [(0, true), (1, true), (2, true), (3, true), (4, true), (5, true), (6, true), (7, true), (8, true), (9, true), (10, true), (11, true), (12, true), (13, true), (14, true)] mixed (by kernel_rfl) ?_
         simp -dsimp +decide (disch := omega) only [vt2, vy, vz, vze, vr, ty, en, ↓reduceIte, Nat.reduceSub, Nat.reduceAdd, Nat.reduceMul, Nat.reduceLT, Int.reduceAdd, Int.reduceSub, Int.reduceToNat, ci, vi, getO_i, vt, hsr, i0, bb2]
         exact ⟨(j, c), ⟨hj, hgt, fun y hy => by omega⟩, ⟨wa.1 1, rfl⟩, by rw [wt.1 1]⟩
       . obtain ⟨y, hy⟩ : ∃ y, s[j - 1]? = some y := ⟨s[j - 1]'(by omega), by simp⟩
         have i0 : ((0 : Int) < (j : Int)) = True := eq_true (by omega)
         have hc : (j : Int) - 1 = ((j - 1 : Nat) : Int) := by omega
         have hyc : ((s.take j ++ c :: s.drop j).map w32)[j - 1]? = some (w32 y) := by
          rw [List.getElem?_map, List.getElem?_append_left (by simp; omega), List.getElem?_take_of_lt (by omega), hy]; rfl
         refine SemA.draw (fun i => true) [(0, true), (1, true), (2, true), (3, true), (4, true), (5, true), (6, true), (7, true), (8, true), (9, true), (10, true), (11, true), (12, true), (13, true), (14, true)] mixed (by kernel_rfl) ?_
         simp -dsimp +decide (disch := omega) only [vt2, vy, vz, vze, vr, ty, en, ↓reduceIte, Nat.reduceSub, Nat.reduceAdd, Nat.reduceMul, Nat.reduceLT, Int.reduceAdd, Int.reduceSub, Int.reduceToNat, ci, vi, getO_i, vt, hsr, i0, hc, hyc, hl1, hfd, hcell]
         have hnil : (s.take j ++ c :: s.drop j).map w32 ≠ [] := by simp
         refine ⟨⟨by omega, by omega, hnil⟩, ⟨by omega, by omega⟩, CondP.dec (fun h => ?_) (fun h => ?_)⟩
         . simp -dsimp +decide (disch := omega) only [vt2, vy, vz, vze, vr, ty, en, ↓reduceIte, Nat.reduceSub, Nat.reduceAdd, Nat.reduceMul, Nat.reduceLT, Int.reduceAdd, Int.reduceSub, Int.reduceToNat, ci, vi, getO_i, vt, hsr, hc, hyc]
           have e2 : s.drop (j - 1) = y :: s.drop j := by
            have := List.drop_eq_getElem_cons (l := s) (i := j - 1) (by omega)
            rw [this, show j - 1 + 1 = j by omega]
            rw [List.getElem?_eq_getElem (by omega)] at hy
            rw [Option.some.inj hy]
           have e1 : s.take j = s.take (j - 1) ++ [y] := by
            have := List.take_add_one (l := s) (i := j - 1)
            rw [show j - 1 + 1 = j by omega, hy] at this
            exact this
           refine ⟨⟨by omega, by omega, hnil⟩, ⟨by omega, by omega, hnil⟩, by omega, (j - 1, y), ⟨⟨by dsimp only; omega, ?_⟩, by dsimp only; omega⟩, ⟨wa.1 1, rfl⟩, ?_⟩
           . dsimp only
             rw [e2]
             intro z hz
             rcases List.mem_cons.1 hz with rfl | hz
             . exact UInt32.lt_iff_toNat_lt.2 (by omega)
             . exact hgt z hz
           . dsimp only
             rw [wt.1 1, List.set_append_right _ _ (by simp; omega), show j - (s.take j).length = 0 by simp; omega, e2, e1, List.append_assoc]
             rfl
         . simp -dsimp +decide (disch := omega) only [vt2, vy, vz, vze, vr, ty, en, ↓reduceIte, Nat.reduceSub, Nat.reduceAdd, Nat.reduceMul, Nat.reduceLT, Int.reduceAdd, Int.reduceSub, Int.reduceToNat, ci, vi, getO_i, vt, hsr]
           refine ⟨(j, c), ⟨hj, hgt, fun z _ hz => ?_⟩, ⟨wa.1 1, rfl⟩, by rw [wt.1 1]⟩
           rw [hy] at hz; cases hz
           exact UInt32.le_iff_toNat_le.2 (by omega)
     . rintro ⟨j, c⟩ g tmp ⟨hj, hgt, hle⟩
       dsimp only at hj hgt hle
       simp -dsimp +decide (disch := omega) only [vt2, vy, vz, vze, vr, ty, en, ↓reduceIte, Nat.reduceSub, Nat.reduceAdd, Nat.reduceMul, Nat.reduceLT, Int.reduceAdd, Int.reduceSub, Int.reduceToNat, ci, vi, getO_i, vt, hsr, hl1, hfd, hcell]
       have hlen : (s.take j ++ c :: s.drop j).length = k + 1 := by simp; omega
       have hnil : (s.take j ++ c :: s.drop j).map w32 ≠ [] := by simp
       refine ⟨⟨by omega, by omega⟩, ⟨by omega, by omega, hnil⟩, by omega, (k + 1, s.take j ++ x.time :: s.drop j), ⟨⟨by dsimp only; omega, by simp; omega, ?_, ins_sorted hst hle hgt (by omega)⟩, by dsimp only; omega⟩, ⟨wa.1 1, rfl, rfl⟩, ?_⟩
       . dsimp only
         have hx2 : (lastT hs)[k]? = some x.time := by rw [hlast, List.getElem?_map, List.getElem?_drop, hx]; rfl
         rw [List.take_add_one, hx2]
         exact ins_perm hp
       . rw [wt.1 1, List.set_append_right _ _ (by simp; omega), show j - (s.take j).length = 0 by simp; omega]
         rfl
   . have e : f + k = hs.length := by omega
     have hkl : k = (lastT hs).length := by rw [hlast]; simp; omega
     subst hkl
     rw [List.take_length] at hp
     rw [sortU_is hp hst]
     simp -dsimp +decide (disch := omega) only [vt2, vy, vz, vze, vr, ty, en, ↓reduceIte, Nat.reduceSub, Nat.reduceAdd, Nat.reduceMul, Nat.reduceLT, Int.reduceAdd, Int.reduceSub, Int.reduceToNat, ci, vi, getO_i, vt, wt]
     exact ⟨(), trivial⟩
 . rintro _ g tmp -
   have hsl : (sortU (lastT hs)).length = (lastT hs).length := List.length_mergeSort _
   have hll : (lastT hs).length <= 11 := by rw [lastT]; simp; omega
   simp -dsimp +decide (disch := omega) only [vt2, vy, vz, vze, vr, ty, en, ↓reduceIte, Nat.reduceSub, Nat.reduceAdd, Nat.reduceMul, Nat.reduceLT, Int.reduceAdd, Int.reduceSub, Int.reduceToNat, ci, vi, getO_i, vt]
   refine CondP.dec (fun h => ?_) (fun h => ?_)
   . have h0 : lastT hs = [] := List.length_eq_zero_iff.1 (by omega)
     rw [show medB hs = 0 by rw [medB, h0]; simp [medT, sortU]]
     simp -dsimp +decide (disch := omega) only [vt2, vy, vz, vze, vr, ty, en, ↓reduceIte, Nat.reduceSub, Nat.reduceAdd, Nat.reduceMul, Nat.reduceLT, Int.reduceAdd, Int.reduceSub, Int.reduceToNat, ci, vi, getO_i, vt, wt]
     exact Vw.cut ⟨rfl, rfl, rfl⟩
   . obtain ⟨m, hm⟩ : ∃ m, (sortU (lastT hs))[(lastT hs).length / 2]? = some m := ⟨(sortU (lastT hs))[(lastT hs).length / 2]'(by omega), by simp⟩
     have hmc : ((sortU (lastT hs)).map w32)[(lastT hs).length / 2]? = some (w32 m) := by rw [List.getElem?_map, hm]; rfl
     have hq : ((lastT hs).length : Int).tdiv 2 = (((lastT hs).length / 2 : Nat) : Int) := rfl
     have hnil : (sortU (lastT hs)).map w32 ≠ [] := fun e => by rw [List.map_eq_nil_iff] at e; rw [e] at hsl; simp at hsl; omega
     rw [show medB hs = m by rw [medB, medT, hm]; rfl]
     simp -dsimp +decide (disch := omega) only [vt2, vy, vz, vze, vr, ty, en, ↓reduceIte, Nat.reduceSub, Nat.reduceAdd, Nat.reduceMul, Nat.reduceLT, Int.reduceAdd, Int.reduceSub, Int.reduceToNat, ci, vi, getO_i, vt, wt, hq, hmc]
     refine ⟨⟨by omega, by omega, hnil⟩, ?_⟩
     exact Vw.cut ⟨rfl, rfl, rfl⟩
theorem TB_self {T : Tbl} {i : Nat} {d : Array UInt32} (h : T[i]? = some (.buf 22 1 (D d))) : TB T i d = T := by
 unfold TB
 obtain ⟨h1, h2⟩ := List.getElem?_eq_some_iff.1 h
 rw [<- h2, List.set_getElem_self]
theorem sort_at {T : Tbl} {i n : Nat} {d : Array UInt32} (hT : T[i]? = some (.buf 22 1 (D d))) (hn : d.size = n) (hB : n <= 12) :
 CallA prog G 29 [.sl i 0 n] T fun v T' es => v = .tu [] /\ T' = T.set i (.buf 22 1 (D (Sort.sort ltU d))) /\ es = [(i, false)] := by
 have := sorts_ok (T := T) (i := i) (d := d) (List.getElem?_eq_some_iff.1 hT).1 hn hB
 rw [TB_self hT] at this
 exact this
theorem sort_is (l : List UInt32) : (Sort.sort ltU l.toArray).toList = sortU l := by
 obtain ⟨⟨k0, k1, k2⟩, k3⟩ := Sort.sort_sorts ltU swoU l.toArray
 have hsz : (Sort.sort ltU l.toArray).size = l.length := by simpa using k0
 refine sortU_is ?_ ?_
 . have e1 : (Sort.sort ltU l.toArray).extract 0 l.toArray.size = Sort.sort ltU l.toArray := by
    rw [show l.toArray.size = (Sort.sort ltU l.toArray).size by rw [k0]]; simp
   have e2 : l.toArray.extract 0 l.toArray.size = l.toArray := by simp
   rw [e1, e2] at k2
   simpa using k2
 . refine List.pairwise_iff_getElem.2 fun i j hi hj hij => ?_
   have hj' : j < l.length := by rw [Array.length_toList, hsz] at hj; exact hj
   have := k3 i j (Nat.zero_le _) hij (by simpa using hj')
   rw [getElem!_pos _ j (by omega), getElem!_pos _ i (by omega)] at this
   simp only [ltU, decide_eq_false_iff_not] at this
   rw [Array.getElem_toList, Array.getElem_toList]
   exact UInt32.not_lt.1 this
theorem D_sort (l : List UInt32) : D (Sort.sort ltU l.toArray) = (sortU l).map w32 := by rw [D, sort_is]
theorem sortU_len (l : List UInt32) : (sortU l).length = l.length := by rw [sortU, List.length_mergeSort]
theorem sub_wo {q : Nat -> Bool} {a : AV} {sz l m : Nat} (h : a.wo q = a) : (a.sub sz l m).wo q = a.sub sz l m := by
 cases a <;> simp_all [AV.sub, AV.wo]
theorem pmedian_ok {T : Tbl} {a : AV} {hs : List Hdr} (hb : Es T 68 Hdr.cs a hs) (hok : ∀ x ∈ hs, x.Ok) (hl : hs.length <= 1000000) : CallA prog G 11 [a] T fun v T' es => v = w32 (medB hs) /\ T' = T /\ es = [] := by
 refine CallA.wfs fun wf => ?_
 have wt := wf.t
 have wa := wf.arg a (by simp)
 have hsr := Sl.rules hb.sl (by decide)
 obtain ⟨f, hf⟩ : ∃ f, f = hs.length - 11 := ⟨_, rfl⟩
 have hfl : f <= hs.length := by omega
 have hmx : max (0 : Int) ((hs.length : Int) - 11) = (f : Int) := by omega
 have hlast : lastT hs = (hs.drop f).map Hdr.time := by rw [lastT, hf]
 refine CallA.eV 14 func11 ntmps11 results11 ?_
 simp -dsimp +decide only [vt2, vy, vz, vze, vr, ty, en, ↓reduceIte, Nat.reduceSub, Nat.reduceAdd, Nat.reduceMul, Nat.reduceLT, Int.reduceAdd, Int.reduceSub, Int.reduceToNat, ci]
 simp -dsimp +decide (disch := omega) only [vt2, vy, vz, vze, vr, ty, en, ↓reduceIte, Nat.reduceSub, Nat.reduceAdd, Nat.reduceMul, Nat.reduceLT, Int.reduceAdd, Int.reduceSub, Int.reduceToNat, ci, vi, getO_i, vt, hsr, vmm, hmx]
 refine ⟨by omega, ⟨by omega, by omega⟩, ?_⟩
 have hb2 := hb.sub hfl (Nat.le_refl _)
 rw [List.take_of_length_le (by simp)] at hb2
 have hw1 := fun k => sub_wo (sz := 68) (l := f) (m := hs.length) (wa.1 k)
 obtain ⟨a2, ha2⟩ : ∃ a2, a2 = a.sub 68 f hs.length := ⟨_, rfl⟩
 obtain ⟨l, hll⟩ : ∃ l, l = hs.drop f := ⟨_, rfl⟩
 rw [<- ha2] at hb2 hw1 ⊢
 rw [<- hll] at hb2 hlast
 have hln : l.length <= 11 := by rw [hll, List.length_drop]; omega
 have hok2 : ∀ x ∈ l, x.Ok := fun x hx => hok x (List.mem_of_mem_drop (hll ▸ hx))
 have hsr2 := Sl.rules hb2.sl (by decide)
 have hld2 := hb2.ld (P := prog) (t := 27) (by (simp -dsimp +decide only [vt2, vy, vz, vze, vr, ty, en, ↓reduceIte, Nat.reduceSub, Nat.reduceAdd, Nat.reduceMul, Nat.reduceLT, Int.reduceAdd, Int.reduceSub, Int.reduceToNat, ci])) (by (simp -dsimp +decide only [vt2, vy, vz, vze, vr, ty, en, ↓reduceIte, Nat.reduceSub, Nat.reduceAdd, Nat.reduceMul, Nat.reduceLT, Int.reduceAdd, Int.reduceSub, Int.reduceToNat, ci])) (by decide)
 simp -dsimp +decide (disch := omega) only [vt2, vy, vz, vze, vr, ty, en, ↓reduceIte, Nat.reduceSub, Nat.reduceAdd, Nat.reduceMul, Nat.reduceLT, Int.reduceAdd, Int.reduceSub, Int.reduceToNat, ci, vi, getO_i, vt, hsr2]
 refine SemA.adopt 3 22 1 (by decide) rfl ?_
 simp -dsimp +decide only [vt2, vy, vz, vze, vr, ty, en, ↓reduceIte, Nat.reduceSub, Nat.reduceAdd, Nat.reduceMul, Nat.reduceLT, Int.reduceAdd, Int.reduceSub, Int.reduceToNat, ci, vt]
 refine SemA.loopK (T.length + 1) (fun k : Nat => [(3, .sl T.length 0 k), (11, a2), (12, wint (l.length : Int)), (13, wint (k : Int))]) (fun k => T ++ [.buf 22 1 (((l.take k).map Hdr.time).map w32)]) (fun k => k <= l.length) (fun k => l.length - k) 0 [] 0 (fun _ : Unit => [(3, .sl T.length 0 l.length)]) (fun _ => T ++ [.buf 22 1 ((l.map Hdr.time).map w32)]) (fun _ => True) (by omega) (by simp) (by (simp -dsimp +decide (disch := omega) only [vt2, vy, vz, vze, vr, ty, en, ↓reduceIte, Nat.reduceSub, Nat.reduceAdd, Nat.reduceMul, Nat.reduceLT, Int.reduceAdd, Int.reduceSub, Int.reduceToNat, ci, vi, getO_i]); first | rfl | exact ⟨rfl, rfl⟩ | done) rfl (by simp) ?_ ?_
 . rintro k g hk
   refine SemA.o ?_
   simp -dsimp +decide (disch := omega) only [vt2, vy, vz, vze, vr, ty, en, ↓reduceIte, Nat.reduceSub, Nat.reduceAdd, Nat.reduceMul, Nat.reduceLT, Int.reduceAdd, Int.reduceSub, Int.reduceToNat, ci, vi, getO_i, vt, hsr2]
   refine CondP.dec (fun h => ?_) (fun h => ?_)
   . obtain ⟨x, hx⟩ : ∃ x, l[k]? = some x := ⟨l[k]'(by omega), by simp⟩
     have hxo := hok2 x (List.mem_of_getElem? hx)
     have hxr := Hdr.rules hxo
     have g1 := fun a l => gn1 T a (.cells 27 x.cs) l
     have hnx : (l.take k).map Hdr.time ++ [x.time] = (l.take (k + 1)).map Hdr.time := by rw [List.take_add_one, hx]; simp
     simp -dsimp +decide (disch := omega) only [vt2, vy, vz, vze, vr, ty, en, ↓reduceIte, Nat.reduceSub, Nat.reduceAdd, Nat.reduceMul, Nat.reduceLT, Int.reduceAdd, Int.reduceSub, Int.reduceToNat, ci, vi, getO_i, vt, wt, hsr2, hld2, hx, ez68, vz68, hxo, hxr, g1, hnx]
     exact ⟨⟨by omega, by omega⟩, ⟨by simp; omega, by omega, by omega⟩, k + 1, ⟨by omega, by omega⟩, ⟨rfl, hw1 1, rfl⟩, rfl⟩
   . have e : k = l.length := by omega
     subst e
     simp -dsimp +decide (disch := omega) only [vt2, vy, vz, vze, vr, ty, en, ↓reduceIte, Nat.reduceSub, Nat.reduceAdd, Nat.reduceMul, Nat.reduceLT, Int.reduceAdd, Int.reduceSub, Int.reduceToNat, ci, vi, getO_i, vt, wt]
     rw [List.take_length]
     exact ⟨(), rfl⟩
 . rintro _ g tmp -
   rw [medB, hlast]
   simp -dsimp +decide (disch := omega) only [vt2, vy, vz, vze, vr, ty, en, ↓reduceIte, Nat.reduceSub, Nat.reduceAdd, Nat.reduceMul, Nat.reduceLT, Int.reduceAdd, Int.reduceSub, Int.reduceToNat, ci, vi, getO_i, vt]
   refine CondP.dec (fun h => ?_) (fun h => ?_)
   . have : l = [] := List.eq_nil_of_length_eq_zero (by omega)
     subst this
     rw [show medT (List.map Hdr.time []) = 0 from by simp [medT, sortU]]
     simp -dsimp +decide (disch := omega) only [vt2, vy, vz, vze, vr, ty, en, ↓reduceIte, Nat.reduceSub, Nat.reduceAdd, Nat.reduceMul, Nat.reduceLT, Int.reduceAdd, Int.reduceSub, Int.reduceToNat, ci, vi, getO_i, vt]
     exact Vw.cut ⟨rfl, rfl, rfl⟩
   . simp -dsimp +decide (disch := omega) only [vt2, vy, vz, vze, vr, ty, en, ↓reduceIte, Nat.reduceSub, Nat.reduceAdd, Nat.reduceMul, Nat.reduceLT, Int.reduceAdd, Int.reduceSub, Int.reduceToNat, ci, vi, getO_i, vt]
     refine (sort_at (d := ((l.map Hdr.time).toArray)) (gn0 T _ []) (by simp) (by omega)).det' ?_
     rw [D_sort]
     obtain ⟨S, hS⟩ : ∃ S, S = sortU (l.map Hdr.time) := ⟨_, rfl⟩
     have hSl : S.length = l.length := by rw [hS, sortU_len, List.length_map]
     obtain ⟨x, hx⟩ : ∃ x, S[l.length / 2]? = some x := ⟨S[l.length / 2]'(by omega), by simp⟩
     rw [show medT (l.map Hdr.time) = x by rw [medT, <- hS, List.length_map, hx]; rfl, <- hS]
     have hxc : (S.map w32)[l.length / 2]? = some (w32 x) := by rw [List.getElem?_map, hx]; rfl
     have hq : (l.length : Int).tdiv 2 = ((l.length / 2 : Nat) : Int) := rfl
     have hne : S.map w32 ≠ [] := fun e => by rw [e] at hxc; cases hxc
     simp -dsimp +decide (disch := omega) only [vt2, vy, vz, vze, vr, ty, en, ↓reduceIte, Nat.reduceSub, Nat.reduceAdd, Nat.reduceMul, Nat.reduceLT, Int.reduceAdd, Int.reduceSub, Int.reduceToNat, ci, vi, getO_i, vt, hq, hxc]
     exact ⟨⟨by omega, by omega, hne⟩, Vw.cut ⟨rfl, rfl, rfl⟩⟩
def h0b : List UInt8 := List.replicate 32 0
def easyP (i : Int) (s : UInt32) : Par := ⟨0x207fffff, i, s, .p (.slice none 0 0), [], ⟨1, h0b, h0b, 1000, 0x207fffff, 0⟩⟩
theorem easy_ok' {i : Int} {s : UInt32} (hi : -9223372036854775808 <= i /\ i <= 9223372036854775807) : (easyP i s).Ok where
 f := ⟨rfl, rfl⟩
 a := fun T => Es.nil
 l := Nat.zero_le _
 i := hi
 wo := fun q => by rw [easyP]; rfl
 pub := fun i cs => by rw [easyP]; rfl
 one := rfl
 h := by simp [easyP]
theorem easy13_ok {T : Tbl} {i : Int} {s : UInt32} (hi : -9223372036854775808 <= i /\ i <= 9223372036854775807) : CallA prog G 15 [wint i, w32 s] T fun v T' es => v = .ag (easyP i s).cs /\ T' = T /\ es = [] := by
 refine CallA.wfs fun wf => ?_
 have wt := wf.t
 have hr := Par.rules (easy_ok' (s := s) hi)
 refine CallA.eV 5 func15 ntmps15 results15 ?_
 simp -dsimp +decide only [vr, ty, en, ↓reduceIte, Nat.reduceSub, Nat.reduceAdd, Nat.reduceMul, Nat.reduceLT, Int.reduceAdd, Int.reduceSub, Int.reduceToNat, ci]
 and_intros
 all_goals first | rfl | exact Nat.le_of_ble_eq_true rfl | (exact Vw.cut ⟨rfl, rfl, rfl⟩)
theorem Hdr.wr {h : Hdr} (ok : h.Ok) : (∀ x : List UInt8, x.length = 32 -> wrA h.cs 1 (x.map by8) = Hdr.cs { h with prev := x }) /\ (∀ x : List UInt8, x.length = 32 -> wrA h.cs 33 (x.map by8) = Hdr.cs { h with root := x }) /\
 (∀ n : UInt32, h.cs.set 65 (.p (.int .u32 (n.toNat : Int))) = Hdr.cs { h with time := n }) /\ (∀ n : UInt32, h.cs.set 66 (.p (.int .u32 (n.toNat : Int))) = Hdr.cs { h with bits := n }) /\ (∀ n : UInt32, h.cs.set 67 (.p (.int .u32 (n.toNat : Int))) = Hdr.cs { h with nonce := n }) := by
 have hl := Hdr.cs_len ok
 have hp : (h.prev.map by8).length = 32 := by simp [ok.p]
 have hr : (h.root.map by8).length = 32 := by simp [ok.r]
 have e65 : ∀ (k : Nat) (v : AV), h.cs.set (65 + k) v = w32 h.v :: (h.prev.map by8 ++ (h.root.map by8 ++ [w32 h.time, w32 h.bits, w32 h.nonce].set k v)) := fun k v => by
  rw [Hdr.cs, show 65 + k = (32 + (32 + k)) + 1 by omega, List.set_cons_succ, List.set_append_right _ _ (by omega), List.set_append_right _ _ (by omega)]
  rw [hp, hr, show 32 + (32 + k) - 32 - 32 = k by omega]
 refine ⟨fun x hx => ?_, fun x hx => ?_, fun n => e65 0 _, fun n => e65 1 _, fun n => e65 2 _⟩
 . rw [wrA_eq (by simp [hx]; omega), Hdr.cs, List.length_map, hx, show List.drop (1 + 32) (w32 h.v :: (h.prev.map by8 ++ (h.root.map by8 ++ [w32 h.time, w32 h.bits, w32 h.nonce]))) = h.root.map by8 ++ [w32 h.time, w32 h.bits, w32 h.nonce] by
    rw [show 1 + 32 = 32 + 1 from rfl, List.drop_succ_cons, <- hp, List.drop_left]]
   rfl
 . rw [wrA_eq (by simp [hx]; omega), Hdr.cs, List.length_map, hx, show List.drop (33 + 32) (w32 h.v :: (h.prev.map by8 ++ (h.root.map by8 ++ [w32 h.time, w32 h.bits, w32 h.nonce]))) = [w32 h.time, w32 h.bits, w32 h.nonce] by
    rw [show 33 + 32 = (32 + 32) + 1 from rfl, List.drop_succ_cons, <- List.drop_drop, <- hp, List.drop_left, hp, <- hr, List.drop_left],
    show List.take 33 (w32 h.v :: (h.prev.map by8 ++ (h.root.map by8 ++ [w32 h.time, w32 h.bits, w32 h.nonce]))) = w32 h.v :: h.prev.map by8 by
    rw [show 33 = 32 + 1 from rfl, List.take_succ_cons, <- hp, List.take_left], List.cons_append, List.cons_append, List.append_assoc]
   rfl
theorem okZ (root : List UInt8) (v t b n : UInt32) (h : root.length = 32) : Hdr.Ok ⟨v, h0b, root, t, b, n⟩ := ⟨rfl, h⟩
theorem z68_set : z68.set 0 (AV.p (Value.int IntKind.u32 1)) = Hdr.cs ⟨1, h0b, h0b, 0, 0, 0⟩ := rfl
theorem wz68 (q : Nat -> Bool) : z68.map (AV.wo q) = z68 := by
 have := (Hdr.rules (okZ h0b 0 0 0 0 rfl)).2.2.2.2.2.2.2.2.2.1 q
 exact this
def meetsB (h : Hdr) (t : Nat) : Bool := decide (t ≠ 0 /\ hN h.id <= t)
def mineAt (h : Hdr) (t n : Nat) : Nat -> Hdr × Bool
 | 0 => (h, false)
 | k + 1 => if meetsB { h with nonce := UInt32.ofNat n } t then ({ h with nonce := UInt32.ofNat n }, true) else mineAt { h with nonce := UInt32.ofNat n } t (n + 1) k
noncomputable def mineB (p : Par) (hs : List Hdr) (time : UInt32) (root : List UInt8) (tries : UInt32) : Hdr × Bool := match hs.getLast? with
 | none => (⟨1, h0b, root, time, bitsB p hs, 0⟩, false)
 | some la => match ofT (bitsB p hs).toNat with
   | none => (⟨1, la.id, root, time, bitsB p hs, 0⟩, false)
   | some t => mineAt ⟨1, la.id, root, time, bitsB p hs, 0⟩ t 0 tries.toNat
theorem mine13_ok {T : Tbl} {p : Par} (ok : p.Ok) {a : AV} {hs : List Hdr} (hb : Es T 68 Hdr.cs a hs) (hok : ∀ x ∈ hs, x.Ok) (hl : hs.length <= 1000000) {time tries : UInt32} {root : List UInt8} (hrt : root.length = 32) :
 CallA prog G 40 [.ag p.cs, a, w32 time, .ag (root.map by8), w32 tries] T fun v T' es => v = .tu [.ag (mineB p hs time root tries).1.cs, .p (.bool (mineB p hs time root tries).2)] /\ T' = T /\ es = [] := by
 refine CallA.wfs fun wf => ?_
 have wt := wf.t
 have wa := wf.arg a (by simp)
 have hr := Par.rules ok
 have g0 := fun l => gn0 T (.cells 29 p.cs) l
 have g1 := fun a l => gn1 T a (.cells 25 (root.map by8)) l
 have g3 := fun a b c d l => gn3 T a b c (.cells 27 d) l
 refine CallA.eV 16 func40 ntmps40 results40 ?_
 simp -dsimp +decide only [vt2, vy, vz, vze, vr, ty, en, ↓reduceIte, Nat.reduceSub, Nat.reduceAdd, Nat.reduceMul, Nat.reduceLT, Int.reduceAdd, Int.reduceSub, Int.reduceToNat, ci]
 refine SemA.drawT [(1, a), (4, w32 tries), (10, .ptr (T.length + 2) 0), (12, .ptr (T.length + 3) 0)] (T ++ [.cells 29 p.cs, .cells 25 (root.map by8), .cells 27 z68, .cells 27 (Hdr.cs ⟨1, h0b, root, time, bitsB p hs, 0⟩)]) [] 7 (fun i => decide (i < T.length + 3)) (.st 0 true (.st 1 true (.st 2 true (.st 3 true (.alt 4 (.alt 5 (.st 6 false (.st 7 false .nil)) 6 (.st 5 false (.st 7 false .nil))) 6 (.st 4 false (.st 5 false (.st 7 false .nil)))))))) mixed (by kernel_rfl) ?_ ?_
 . have kk : (∀ k j : Nat, decide (T.length + k < T.length + j) = decide (k < j)) /\ (∀ j : Nat, decide (T.length < T.length + j) = decide (0 < j)) := ⟨fun k j => by simp, fun j => by simp⟩
   have t32 : List.take 32 (List.drop 0 root) = root := by rw [List.drop_zero, List.take_of_length_le (by omega)]
   simp -dsimp +decide (disch := omega) only [vt2, vy, vz, vze, vr, ty, en, ↓reduceIte, Nat.reduceSub, Nat.reduceAdd, Nat.reduceMul, Nat.reduceLT, Int.reduceAdd, Int.reduceSub, Int.reduceToNat, ci, vi, getO_i, vp, vt, wt, kk, hr, vh, hrt, ez68, ez32, t32]
   refine ⟨(bits13_ok ok (hb.app _) hok hl).det' ?_, (bits13_ok ok (hb.app _) hok hl).det' ?_⟩
   all_goals
    have hw1 := (Hdr.wr (okZ h0b 1 0 0 0 rfl)).2.1 root hrt
    have hw2 := (Hdr.wr (okZ root 1 0 0 0 hrt)).2.2.1
    have hw3 := (Hdr.wr (okZ root 1 time 0 0 hrt)).2.2.2.1
    have hl1 := Hdr.cs_len (okZ root 1 0 0 0 hrt)
    have hl2 := Hdr.cs_len (okZ root 1 time 0 0 hrt)
    have hl3 := Hdr.cs_len (okZ root 1 time (bitsB p hs) 0 hrt)
    have hv := vz68.2 _ (okZ root 1 time (bitsB p hs) 0 hrt)
    simp -dsimp +decide (disch := omega) only [vt2, vy, vz, vze, vr, ty, en, ↓reduceIte, Nat.reduceSub, Nat.reduceAdd, Nat.reduceMul, Nat.reduceLT, Int.reduceAdd, Int.reduceSub, Int.reduceToNat, ci, vi, getO_i, vp, vt, wt, wa, kk, hr, vh, vz68, hrt, ez68, ez32, t32, z68_set, hw1, hw2, hw3, hl1, hl2, hl3, hv]
    have hro := (Hdr.rules (okZ root 1 time (bitsB p hs) 0 hrt)).2.2.2.2.2.2.2.2.2.2.2
    and_intros
    all_goals first
     | exact hro
     | (refine SeeL.done ⟨rfl, ?_, rfl, by simp⟩
        (first | rfl | ((simp -dsimp +decide only [vt2, vy, vz, vze, vr, ty, en, ↓reduceIte, Nat.reduceSub, Nat.reduceAdd, Nat.reduceMul, Nat.reduceLT, Int.reduceAdd, Int.reduceSub, Int.reduceToNat, ci]); done)))
 . intro g tmp
   have hsr := Sl.rules hb.sl (by decide)
   have hld := hb.ld (P := prog) (t := 27) (by (simp -dsimp +decide only [vt2, vy, vz, vze, vr, ty, en, ↓reduceIte, Nat.reduceSub, Nat.reduceAdd, Nat.reduceMul, Nat.reduceLT, Int.reduceAdd, Int.reduceSub, Int.reduceToNat, ci])) (by (simp -dsimp +decide only [vt2, vy, vz, vze, vr, ty, en, ↓reduceIte, Nat.reduceSub, Nat.reduceAdd, Nat.reduceMul, Nat.reduceLT, Int.reduceAdd, Int.reduceSub, Int.reduceToNat, ci])) (by decide)
   cases hn : hs.getLast? with
   | none =>
     have hm : mineB p hs time root tries = (⟨1, h0b, root, time, bitsB p hs, 0⟩, false) := by unfold mineB; rw [hn]
     rw [hm]
     rw [List.getLast?_eq_none_iff] at hn
     subst hn
     have hlr := Hdr.rules (okZ root 1 time (bitsB p []) 0 hrt)
     have hv := vz68.2 _ (okZ root 1 time (bitsB p []) 0 hrt)
     have g2 := fun a b d l => gn2 T a b (.cells 27 d) l
     simp -dsimp +decide (disch := omega) only [vt2, vy, vz, vze, vr, ty, en, ↓reduceIte, Nat.reduceSub, Nat.reduceAdd, Nat.reduceMul, Nat.reduceLT, Int.reduceAdd, Int.reduceSub, Int.reduceToNat, ci, vi, getO_i, vt, hr, hsr, List.length_nil, g2, g3, hlr, hv, vz68, vres, vone, keepT_get, keepO]
     exact Vw.cut ⟨by rw [AV.wo, AV.woL_eq]; simp only [List.map_cons, List.map_nil, AV.wo, AV.woL_eq, hlr], rfl, rfl⟩
   | some la =>
     have hlast : hs[hs.length - 1]? = some la := by rw [<- List.getLast?_eq_getElem?, hn]
     have hne : 0 < hs.length := by
      rcases hs with _ | ⟨x, l⟩
      . cases hn
      . exact Nat.succ_pos _
     have hla := hok la (List.mem_of_getElem? hlast)
     have hlr := Hdr.rules hla
     have hl0 : ((hs.length : Int) = 0) = False := eq_false (by omega)
     have hid := la.id_len
     have hw := (Hdr.wr (okZ root 1 time (bitsB p hs) 0 hrt)).1 la.id hid
     have hl1 := Hdr.cs_len (okZ root 1 time (bitsB p hs) 0 hrt)
     simp -dsimp +decide (disch := omega) only [vt2, vy, vz, vze, vr, ty, en, ↓reduceIte, Nat.reduceSub, Nat.reduceAdd, Nat.reduceMul, Nat.reduceLT, Int.reduceAdd, Int.reduceSub, Int.reduceToNat, ci, vi, getO_i, vt, hr, hsr, hl0, hld, hlast, g3, hlr, vz68]
     refine ⟨⟨by omega, by omega⟩, (rid_ok hla).det' ?_⟩
     have okh : Hdr.Ok ⟨1, la.id, root, time, bitsB p hs, 0⟩ := ⟨hid, hrt⟩
     have hhr := Hdr.rules okh
     simp -dsimp +decide (disch := omega) only [vt2, vy, vz, vze, vr, ty, en, ↓reduceIte, Nat.reduceSub, Nat.reduceAdd, Nat.reduceMul, Nat.reduceLT, Int.reduceAdd, Int.reduceSub, Int.reduceToNat, ci, vi, getO_i, vt, g3, hw, hl1, hhr, vh, hid]
     refine of03_ok.det' ?_
     rw [ofV_n]
     have hR : (if (ofT (bitsB p hs).toNat).isSome then mineAt ⟨1, la.id, root, time, bitsB p hs, 0⟩ (ofN (bitsB p hs)) 0 tries.toNat else (⟨1, la.id, root, time, bitsB p hs, 0⟩, false)) = mineB p hs time root tries := by
      unfold mineB ofN
      rw [hn]
      cases ofT (bitsB p hs).toNat <;> rfl
     have htl := ofN_lt (bitsB p hs)
     revert hR htl
     generalize (ofT (bitsB p hs).toNat).isSome = is
     generalize ofN (bitsB p hs) = t
     generalize mineB p hs time root tries = R
     intro hR htl
     have ez : [oQ, oQ, oQ, oQ] = Bg 0 := rfl
     simp -dsimp +decide (disch := omega) only [vt2, vy, vz, vze, vr, ty, en, ↓reduceIte, Nat.reduceSub, Nat.reduceAdd, Nat.reduceMul, Nat.reduceLT, Int.reduceAdd, Int.reduceSub, Int.reduceToNat, ci, vi, getO_i, vt, g3, hw, hl1, hhr, vh, hid, ez, vbg]
     have htr := tries.toNat_lt
     refine SemA.loopK (T.length + 5) (fun s : Nat × Hdr => [(4, w32 tries), (10, .ptr (T.length + 2) 0), (12, .ptr (T.length + 3) 0), (13, .ptr (T.length + 4) 0), (14, .p (.bool is)), (15, .p (.int .u32 (s.1 : Int)))]) (fun s => T ++ [.cells 29 p.cs, .cells 25 (root.map by8), .cells 27 z68, .cells 27 s.2.cs, .cells 51 (Bg t)]) (fun s => s.1 <= tries.toNat /\ s.2.Ok /\ (if is then mineAt s.2 t s.1 (tries.toNat - s.1) else (s.2, false)) = R) (fun s => tries.toNat - s.1) (0, ⟨1, la.id, root, time, bitsB p hs, 0⟩) [] 0 (fun _ : Hdr => [(10, .ptr (T.length + 2) 0), (12, .ptr (T.length + 3) 0)]) (fun h => T ++ [.cells 29 p.cs, .cells 25 (root.map by8), .cells 27 z68, .cells 27 h.cs, .cells 51 (Bg t)]) (fun h => h.Ok /\ R = (h, false)) (by omega) ⟨by dsimp only; omega, okh, hR⟩ (by (simp -dsimp +decide (disch := omega) only [vt2, vy, vz, vze, vr, ty, en, ↓reduceIte, Nat.reduceSub, Nat.reduceAdd, Nat.reduceMul, Nat.reduceLT, Int.reduceAdd, Int.reduceSub, Int.reduceToNat, ci, vi, getO_i]); first | rfl | done) rfl (by simp) ?_ ?_
     . rintro ⟨n, h⟩ g ⟨hnt, hho, hres⟩
       dsimp only at hnt hho hres
       have hhr2 := Hdr.rules hho
       refine SemA.o ?_
       cases is with
       | false =>
         simp -dsimp +decide (disch := omega) only [vt2, vy, vz, vze, vr, ty, en, ↓reduceIte, Nat.reduceSub, Nat.reduceAdd, Nat.reduceMul, Nat.reduceLT, Int.reduceAdd, Int.reduceSub, Int.reduceToNat, ci, vi, getO_i, vt, wt, hr, hhr2, vbg, vh, vz68, wz68]
         exact ⟨h, ⟨hho, by simpa using hres.symm⟩, rfl⟩
       | true =>
         simp -dsimp +decide (disch := omega) only [vt2, vy, vz, vze, vr, ty, en, ↓reduceIte, Nat.reduceSub, Nat.reduceAdd, Nat.reduceMul, Nat.reduceLT, Int.reduceAdd, Int.reduceSub, Int.reduceToNat, ci, vi, getO_i, vt]
         refine CondP.dec (fun hlt => ?_) (fun hlt => ?_)
         . have hset : h.cs.set 67 (AV.p (.int .u32 (n : Int))) = Hdr.cs { h with nonce := UInt32.ofNat n } := by
            have := (Hdr.wr hho).2.2.2.2 (UInt32.ofNat n)
            rwa [UInt32.toNat_ofNat', Nat.mod_eq_of_lt (by omega)] at this
           have hk2 : Hdr.Ok { h with nonce := UInt32.ofNat n } := ⟨hho.p, hho.r⟩
           have hhr3 := Hdr.rules hk2
           have hl0' := Hdr.cs_len hho
           have hidl := Hdr.id_len { h with nonce := UInt32.ofNat n }
           have g4 := fun a b c d e l => gn4 T a b c d (.cells 51 e) l
           simp -dsimp +decide (disch := omega) only [vt2, vy, vz, vze, vr, ty, en, ↓reduceIte, Nat.reduceSub, Nat.reduceAdd, Nat.reduceMul, Nat.reduceLT, Int.reduceAdd, Int.reduceSub, Int.reduceToNat, ci, vi, getO_i, vt, g3, g4, hset, hl0']
           refine SemA.draw (fun i => true) [(0, true), (2, true), (1, false), (3, false)] mixed (by kernel_rfl) ?_
           simp -dsimp +decide (disch := omega) only [vt2, vy, vz, vze, vr, ty, en, ↓reduceIte, Nat.reduceSub, Nat.reduceAdd, Nat.reduceMul, Nat.reduceLT, Int.reduceAdd, Int.reduceSub, Int.reduceToNat, ci, vi, getO_i, vt, g3, g4, hhr3, vbg]
           refine (rid_ok hk2).det' ?_
           simp -dsimp +decide (disch := omega) only [vt2, vy, vz, vze, vr, ty, en, ↓reduceIte, Nat.reduceSub, Nat.reduceAdd, Nat.reduceMul, Nat.reduceLT, Int.reduceAdd, Int.reduceSub, Int.reduceToNat, ci, vi, getO_i, vt, g3, g4, hhr3, vbg]
           refine (meets03_ok hidl htl).det' ?_
           have hstep : mineAt h t n (tries.toNat - n) = if meetsB { h with nonce := UInt32.ofNat n } t then ({ h with nonce := UInt32.ofNat n }, true) else mineAt { h with nonce := UInt32.ofNat n } t (n + 1) (tries.toNat - (n + 1)) := by
            rw [show tries.toNat - n = tries.toNat - (n + 1) + 1 by omega, mineAt]
           rw [if_pos rfl, hstep] at hres
           have g2 := fun a b d l => gn2 T a b (.cells 27 d) l
           have hv := vz68.2 _ hk2
           by_cases hm : meetsB { h with nonce := UInt32.ofNat n } t = true
           . rw [show decide (t ≠ 0 /\ hN (Hdr.id { h with nonce := UInt32.ofNat n }) <= t) = true from hm]
             rw [if_pos hm] at hres
             simp -dsimp +decide (disch := omega) only [vt2, vy, vz, vze, vr, ty, en, ↓reduceIte, Nat.reduceSub, Nat.reduceAdd, Nat.reduceMul, Nat.reduceLT, Int.reduceAdd, Int.reduceSub, Int.reduceToNat, ci, vi, getO_i, vt, g2, g3, g4, hhr3, vbg, hv, vz68, vres, vone, keepT_get, keepO]
             rw [<- hres]
             exact Vw.cut ⟨by rw [AV.wo, AV.woL_eq]; simp only [List.map_cons, List.map_nil, AV.wo, AV.woL_eq, hhr3], rfl, rfl⟩
           . have hm2 : meetsB { h with nonce := UInt32.ofNat n } t = false := by simpa using hm
             rw [show decide (t ≠ 0 /\ hN (Hdr.id { h with nonce := UInt32.ofNat n }) <= t) = false from hm2]
             rw [if_neg hm] at hres
             simp -dsimp +decide (disch := omega) only [vt2, vy, vz, vze, vr, ty, en, ↓reduceIte, Nat.reduceSub, Nat.reduceAdd, Nat.reduceMul, Nat.reduceLT, Int.reduceAdd, Int.reduceSub, Int.reduceToNat, ci, vi, getO_i, vt, wt, hr, g2, g3, g4, hhr3, vbg, vh, hv, vz68, wz68]
             have hinc : (UInt32.ofInt (n : Int) + UInt32.ofInt 1).toNat = n + 1 := by
              have e1 : (UInt32.ofInt (n : Int)).toNat = n := by rw [UInt32.ofInt]; simp; omega
              rw [UInt32.toNat_add, e1, show (UInt32.ofInt 1).toNat = 1 from rfl, Nat.mod_eq_of_lt (by omega)]
             refine ⟨(n + 1, { h with nonce := UInt32.ofNat n }), ⟨⟨by dsimp only; omega, hk2, hres⟩, by dsimp only; omega⟩, ?_, rfl⟩
             rw [hinc]
         . simp -dsimp +decide (disch := omega) only [vt2, vy, vz, vze, vr, ty, en, ↓reduceIte, Nat.reduceSub, Nat.reduceAdd, Nat.reduceMul, Nat.reduceLT, Int.reduceAdd, Int.reduceSub, Int.reduceToNat, ci, vi, getO_i, vt, wt, hr, hhr2, vbg, vh, vz68, wz68]
           have : tries.toNat - n = 0 := by omega
           rw [if_pos rfl, this] at hres
           exact ⟨h, ⟨hho, hres.symm⟩, rfl⟩
     . rintro h g tmp ⟨hho, hres⟩
       have hhr2 := Hdr.rules hho
       have hv := vz68.2 _ hho
       have g2 := fun a b d l => gn2 T a b (.cells 27 d) l
       simp -dsimp +decide (disch := omega) only [vt2, vy, vz, vze, vr, ty, en, ↓reduceIte, Nat.reduceSub, Nat.reduceAdd, Nat.reduceMul, Nat.reduceLT, Int.reduceAdd, Int.reduceSub, Int.reduceToNat, ci, vi, getO_i, vt, hhr2, g2, g3, hv, vz68, vres, vone, keepT_get, keepO]
       rw [hres]
       exact Vw.cut ⟨by rw [AV.wo, AV.woL_eq]; simp only [List.map_cons, List.map_nil, AV.wo, AV.woL_eq, hhr2], rfl, rfl⟩
theorem rt1_ok {W : Tbl} {p : Par} (ok : p.Ok) {i : Nat} (hi : W[i]? = some (.cells 29 p.cs)) : CallA prog G 30 [.ptr i 0] W fun v T' es => v = .p (.bool (mayB p)) /\ T' = W /\ es = [] := by
 have hr := Par.rules ok
 refine CallA.eV 3 func30 ntmps30 results30 ?_
 simp -dsimp +decide only [vy, vz, vze, vr, ty, en, ↓reduceIte, Nat.reduceSub, Nat.reduceAdd, Nat.reduceMul, Nat.reduceLT, Int.reduceAdd, Int.reduceSub, Int.reduceToNat, ci]
 simp -dsimp +decide (disch := omega) only [vy, vz, vze, vr, ty, en, ↓reduceIte, Nat.reduceSub, Nat.reduceAdd, Nat.reduceMul, Nat.reduceLT, Int.reduceAdd, Int.reduceSub, Int.reduceToNat, ci, vi, getO_i, vt, hi, hr]
 refine (pmay_ok ok).det' ?_
 simp -dsimp +decide (disch := omega) only [vy, vz, vze, vr, ty, en, ↓reduceIte, Nat.reduceSub, Nat.reduceAdd, Nat.reduceMul, Nat.reduceLT, Int.reduceAdd, Int.reduceSub, Int.reduceToNat, ci, vi, getO_i, vt, hi, hr]
 exact Vw.done ⟨rfl, rfl, rfl⟩
def prevB (hs : List Hdr) (h : Hdr) : Bool := match hs.getLast? with
 | none => false
 | some la => decide (h.prev = la.id)
theorem rt2_ok {W : Tbl} {a : AV} {hs : List Hdr} {h : Hdr} (hb : Es W 68 Hdr.cs a hs) (hok : ∀ x ∈ hs, x.Ok) (ok : h.Ok) (hl : hs.length <= 1000000) {j q : Nat} (hj : W[j]? = some (.cells 30 [a])) (hq : W[q]? = some (.cells 27 h.cs)) :
 CallA prog G 31 [.ptr j 0, .ptr q 0] W fun v T' es => v = .p (.bool (prevB hs h)) /\ T' = W /\ es = [] := by
 have hr := Hdr.rules ok
 have hsr := Sl.rules hb.sl (by decide)
 have hld := hb.ld (P := prog) (t := 27) (by (simp -dsimp +decide only [vy, vz, vze, vr, ty, en, ↓reduceIte, Nat.reduceSub, Nat.reduceAdd, Nat.reduceMul, Nat.reduceLT, Int.reduceAdd, Int.reduceSub, Int.reduceToNat, ci])) (by (simp -dsimp +decide only [vy, vz, vze, vr, ty, en, ↓reduceIte, Nat.reduceSub, Nat.reduceAdd, Nat.reduceMul, Nat.reduceLT, Int.reduceAdd, Int.reduceSub, Int.reduceToNat, ci])) (by decide)
 refine CallA.eV 3 func31 ntmps31 results31 ?_
 simp -dsimp +decide only [vy, vz, vze, vr, ty, en, ↓reduceIte, Nat.reduceSub, Nat.reduceAdd, Nat.reduceMul, Nat.reduceLT, Int.reduceAdd, Int.reduceSub, Int.reduceToNat, ci]
 refine SemA.draw (fun i => true) [(0, true), (1, true), (2, true), (3, true), (4, true), (5, true), (6, true), (7, true), (8, true), (9, true), (10, true), (11, true), (12, false), (13, true), (14, true), (15, true)] mixed (by kernel_rfl) ?_
 cases hn : hs.getLast? with
 | none =>
   rw [List.getLast?_eq_none_iff] at hn
   subst hn
   simp -dsimp +decide (disch := omega) only [vy, vz, vze, vr, ty, en, ↓reduceIte, Nat.reduceSub, Nat.reduceAdd, Nat.reduceMul, Nat.reduceLT, Int.reduceAdd, Int.reduceSub, Int.reduceToNat, ci, vi, getO_i, vt, hj, hq, hr, hsr, List.length_nil, kallT, bb2]
   exact Vw.done ⟨rfl, rfl, rfl⟩
 | some la =>
   have hlast : hs[hs.length - 1]? = some la := by rw [<- List.getLast?_eq_getElem?, hn]
   have hne : 0 < hs.length := by
    rcases hs with _ | ⟨x, l⟩
    . cases hn
    . exact Nat.succ_pos _
   have hla := hok la (List.mem_of_getElem? hlast)
   have hsub1 : (hs.length : Int) - 1 = ((hs.length - 1 : Nat) : Int) := by omega
   have h0 : ((0 : Int) < (hs.length : Int)) = True := eq_true (by omega)
   rw [show prevB hs h = decide (h.prev = la.id) by rw [prevB, hn]]
   simp -dsimp +decide (disch := omega) only [vy, vz, vze, vr, ty, en, ↓reduceIte, Nat.reduceSub, Nat.reduceAdd, Nat.reduceMul, Nat.reduceLT, Int.reduceAdd, Int.reduceSub, Int.reduceToNat, ci, vi, getO_i, vt, hj, hq, hr, hsr, h0, hsub1, hld, hlast, kallT, bb2]
   refine ⟨⟨by omega, by omega⟩, (pid_ok hla).det' ?_⟩
   simp -dsimp +decide (disch := omega) only [vy, vz, vze, vr, ty, en, ↓reduceIte, Nat.reduceSub, Nat.reduceAdd, Nat.reduceMul, Nat.reduceLT, Int.reduceAdd, Int.reduceSub, Int.reduceToNat, ci, vi, getO_i, vt, hj, hq, hr, eqh ok.p la.id_len, kallT, bb2]
   exact Vw.done ⟨rfl, rfl, rfl⟩
theorem rt3_ok {W : Tbl} {p : Par} (okp : p.Ok) {a : AV} {hs : List Hdr} {h : Hdr} (hb : Es W 68 Hdr.cs a hs) (hok : ∀ x ∈ hs, x.Ok) (ok : h.Ok) (hl : hs.length <= 1000000) {i j q : Nat} (hi : W[i]? = some (.cells 29 p.cs)) (hj : W[j]? = some (.cells 30 [a])) (hq : W[q]? = some (.cells 27 h.cs)) :
 CallA prog G 32 [.ptr q 0, .ptr i 0, .ptr j 0] W fun v T' es => v = .p (.bool (decide (h.bits = bitsB p hs))) /\ T' = W /\ es = [] := by
 have hr := Hdr.rules ok
 have hr2 := Par.rules okp
 refine CallA.eV 4 func32 ntmps32 results32 ?_
 simp -dsimp +decide only [vy, vz, vze, vr, ty, en, ↓reduceIte, Nat.reduceSub, Nat.reduceAdd, Nat.reduceMul, Nat.reduceLT, Int.reduceAdd, Int.reduceSub, Int.reduceToNat, ci]
 refine SemA.draw (fun i => true) [(0, true), (1, true), (2, true), (3, true), (4, false), (5, true), (6, true)] mixed (by kernel_rfl) ?_
 simp -dsimp +decide (disch := omega) only [vy, vz, vze, vr, ty, en, ↓reduceIte, Nat.reduceSub, Nat.reduceAdd, Nat.reduceMul, Nat.reduceLT, Int.reduceAdd, Int.reduceSub, Int.reduceToNat, ci, vi, getO_i, vt, hi, hj, hq, hr, hr2, kallT]
 refine (rbits_ok okp hb hok hl).det' ?_
 simp -dsimp +decide (disch := omega) only [vy, vz, vze, vr, ty, en, ↓reduceIte, Nat.reduceSub, Nat.reduceAdd, Nat.reduceMul, Nat.reduceLT, Int.reduceAdd, Int.reduceSub, Int.reduceToNat, ci, vi, getO_i, vt, kallT]
 exact Vw.done ⟨congrArg (fun b => AV.p (.bool b)) (decide_eq_decide.2 ⟨fun e => UInt32.toNat_inj.1 (by omega), fun e => by rw [e]⟩), rfl, rfl⟩
def workB (h : Hdr) : Bool := match ofT h.bits.toNat with
 | none => false
 | some t => meetsB h t
theorem rt4_ok {W : Tbl} {h : Hdr} (ok : h.Ok) {q m : Nat} (hq : W[q]? = some (.cells 27 h.cs)) (hm : W[m]? = some (.cells 25 (h.id.map by8))) :
 CallA prog G 33 [.ptr q 0, .ptr m 0] W fun v T' es => v = .p (.bool (workB h)) /\ T' = W /\ es = [] := by
 have hr := Hdr.rules ok
 refine CallA.wfs fun wf => ?_
 have wt := wf.t
 have ez : [oQ, oQ, oQ, oQ] = Bg 0 := rfl
 have gq := get_old hq
 have gm := get_old hm
 refine CallA.eV 5 func33 ntmps33 results33 ?_
 simp -dsimp +decide only [vy, vz, vze, vr, ty, en, ↓reduceIte, Nat.reduceSub, Nat.reduceAdd, Nat.reduceMul, Nat.reduceLT, Int.reduceAdd, Int.reduceSub, Int.reduceToNat, ci]
 simp -dsimp +decide (disch := omega) only [vy, vz, vze, vr, ty, en, ↓reduceIte, Nat.reduceSub, Nat.reduceAdd, Nat.reduceMul, Nat.reduceLT, Int.reduceAdd, Int.reduceSub, Int.reduceToNat, ci, vi, getO_i, vt, hq, hr, ez, vbg]
 refine pof03_ok.det' ?_
 cases ho : ofT h.bits.toNat with
 | none =>
   rw [show workB h = false by rw [workB, ho]]
   unfold ofV
   simp -dsimp +decide (disch := omega) only [vy, vz, vze, vr, ty, en, ↓reduceIte, Nat.reduceSub, Nat.reduceAdd, Nat.reduceMul, Nat.reduceLT, Int.reduceAdd, Int.reduceSub, Int.reduceToNat, ci, vi, getO_i, vt, gq, gm, hr, ez, vbg, bb2]
   exact Vw.cut ⟨rfl, rfl, rfl⟩
 | some t =>
   rw [show workB h = meetsB h t by rw [workB, ho]]
   unfold ofV
   have g0 := fun l => gn0 W (.cells 51 (Bg t)) l
   simp -dsimp +decide (disch := omega) only [vy, vz, vze, vr, ty, en, ↓reduceIte, Nat.reduceSub, Nat.reduceAdd, Nat.reduceMul, Nat.reduceLT, Int.reduceAdd, Int.reduceSub, Int.reduceToNat, ci, vi, getO_i, vt, gq, gm, g0, hr, ez, vbg, vh, h.id_len, List.drop_zero, bb2]
   refine (pmeets_ok h.id_len (ofT_lt ho).1).det' ?_
   rw [show decide (t ≠ 0 /\ hN h.id <= t) = meetsB h t from rfl]
   simp -dsimp +decide (disch := omega) only [vy, vz, vze, vr, ty, en, ↓reduceIte, Nat.reduceSub, Nat.reduceAdd, Nat.reduceMul, Nat.reduceLT, Int.reduceAdd, Int.reduceSub, Int.reduceToNat, ci, vi, getO_i, vt, bb2]
   exact Vw.cut ⟨rfl, rfl, rfl⟩
theorem rt5_ok {W : Tbl} {a : AV} {hs : List Hdr} {h : Hdr} (hb : Es W 68 Hdr.cs a hs) (hok : ∀ x ∈ hs, x.Ok) (ok : h.Ok) (hl : hs.length <= 1000000) {j q : Nat} (hj : W[j]? = some (.cells 30 [a])) (hq : W[q]? = some (.cells 27 h.cs)) :
 CallA prog G 35 [.ptr q 0, .ptr j 0] W fun v T' es => v = .p (.bool (decide ((medB hs).toNat < h.time.toNat))) /\ T' = W /\ es = [] := by
 have hr := Hdr.rules ok
 refine CallA.eV 3 func35 ntmps35 results35 ?_
 simp -dsimp +decide only [vy, vz, vze, vr, ty, en, ↓reduceIte, Nat.reduceSub, Nat.reduceAdd, Nat.reduceMul, Nat.reduceLT, Int.reduceAdd, Int.reduceSub, Int.reduceToNat, ci]
 refine SemA.draw (fun i => true) [(0, true), (1, true), (2, true), (3, false), (4, true), (5, true)] mixed (by kernel_rfl) ?_
 simp -dsimp +decide (disch := omega) only [vy, vz, vze, vr, ty, en, ↓reduceIte, Nat.reduceSub, Nat.reduceAdd, Nat.reduceMul, Nat.reduceLT, Int.reduceAdd, Int.reduceSub, Int.reduceToNat, ci, vi, getO_i, vt, hj, hq, hr, kallT]
 refine (pmedian_ok hb hok hl).det' ?_
 simp -dsimp +decide (disch := omega) only [vy, vz, vze, vr, ty, en, ↓reduceIte, Nat.reduceSub, Nat.reduceAdd, Nat.reduceMul, Nat.reduceLT, Int.reduceAdd, Int.reduceSub, Int.reduceToNat, ci, vi, getO_i, vt, kallT]
 exact Vw.done ⟨congrArg (fun b => AV.p (.bool b)) (decide_eq_decide.2 (by omega)), rfl, rfl⟩
def ptB (n : Nat) (id : List UInt8) (x : Pt) : Bool := decide (x.h = (n : Int)) && !decide (x.id = id)
theorem rp_ok {W : Tbl} {a : AV} {hs : List Hdr} {id : List UInt8} {x : Pt} (hb : Es W 68 Hdr.cs a hs) (hx : x.id.length = 32) (hid : id.length = 32) {j m : Nat} (hj : W[j]? = some (.cells 30 [a])) (hm : W[m]? = some (.cells 25 (id.map by8))) :
 CallA prog G 38 [.ag x.cs, .ptr j 0, .ptr m 0] W fun v T' es => v = .p (.bool (ptB hs.length id x)) /\ T' = W /\ es = [] := by
 refine CallA.wfs fun wf => ?_
 have wt := wf.t
 have hsr := Sl.rules hb.sl (by decide)
 have gj := get_old hj
 have gm := get_old hm
 have hxr := Pt.rules hx
 have hx4 : List.take 32 (List.drop 1 (AV.p (Value.int IntKind.i64 x.h) :: x.id.map by8)) = x.id.map by8 := hxr.2.2.2.1
 have ht : List.take 32 id = id := List.take_of_length_le (Nat.le_of_eq hid)
 refine CallA.eV 5 func38 ntmps38 results38 ?_
 simp -dsimp +decide only [vy, vz, vze, vr, ty, en, ↓reduceIte, Nat.reduceSub, Nat.reduceAdd, Nat.reduceMul, Nat.reduceLT, Int.reduceAdd, Int.reduceSub, Int.reduceToNat, ci]
 unfold ptB
 by_cases h0 : x.h = (hs.length : Int)
 . have i0 := eq_true h0
   rw [decide_eq_true h0]
   simp -dsimp +decide (disch := omega) only [vy, vz, vze, vr, ty, en, ↓reduceIte, Nat.reduceSub, Nat.reduceAdd, Nat.reduceMul, Nat.reduceLT, Int.reduceAdd, Int.reduceSub, Int.reduceToNat, ci, vi, getO_i, vt, gj, gm, hsr, hxr, hx4, i0, vh, hx, hid, ht, List.drop_zero, neh hx hid, bb2]
   exact Vw.cut ⟨by rw [Bool.true_and]; rfl, rfl, rfl⟩
 . have i0 := eq_false h0
   rw [decide_eq_false h0]
   simp -dsimp +decide (disch := omega) only [vy, vz, vze, vr, ty, en, ↓reduceIte, Nat.reduceSub, Nat.reduceAdd, Nat.reduceMul, Nat.reduceLT, Int.reduceAdd, Int.reduceSub, Int.reduceToNat, ci, vi, getO_i, vt, gj, gm, hsr, hxr, hx4, i0, bb2]
   exact Vw.cut ⟨rfl, rfl, rfl⟩
theorem rix_ok {T : Tbl} {a : AV} {i j : Nat} {hs : List Pt} {q : Pt -> Bool} (hb : Es T 33 Pt.cs a hs) (hl : hs.length <= 1099511627776) (hc : ∀ x ∈ hs, CallA prog G 38 [.ag x.cs, .ptr i 0, .ptr j 0] T fun v T' es => v = .p (.bool (q x)) /\ T' = T /\ es = []) :
 CallA prog G 64 [a, .fn 38 [.ptr i 0, .ptr j 0]] T fun v T' es => (∃ k : Int, v = wint k /\ decide (0 <= k) = hs.any q) /\ T' = T /\ es = [] := by
 have hr := Sl.rules hb.sl (by decide)
 have hld := hb.ld (P := prog) (t := 56) (by (simp -dsimp +decide only [vy, vz, vze, vr, ty, en, ↓reduceIte, Nat.reduceSub, Nat.reduceAdd, Nat.reduceMul, Nat.reduceLT, Int.reduceAdd, Int.reduceSub, Int.reduceToNat, ci])) (by (simp -dsimp +decide only [vy, vz, vze, vr, ty, en, ↓reduceIte, Nat.reduceSub, Nat.reduceAdd, Nat.reduceMul, Nat.reduceLT, Int.reduceAdd, Int.reduceSub, Int.reduceToNat, ci])) (by decide)
 refine CallA.eV 10 func64 ntmps64 results64 ?_
 simp -dsimp +decide only [vy, vz, vze, vr, ty, en, ↓reduceIte, Nat.reduceSub, Nat.reduceAdd, Nat.reduceMul, Nat.reduceLT, Int.reduceAdd, Int.reduceSub, Int.reduceToNat, ci]
 simp -dsimp +decide (disch := omega) only [vy, vz, vze, vr, ty, en, ↓reduceIte, Nat.reduceSub, Nat.reduceAdd, Nat.reduceMul, Nat.reduceLT, Int.reduceAdd, Int.reduceSub, Int.reduceToNat, ci, vi, getO_i, hr]
 refine SemA.loopE (fun k : Nat => [(0, a), (1, .fn 38 [.ptr i 0, .ptr j 0]), (7, wint (hs.length : Int)), (8, wint (k : Int))]) (fun _ => T) (fun k => k <= hs.length /\ (hs.take k).any q = false) (fun k => hs.length - k) 0 [] 0 (fun _ : Unit => []) (fun _ => T) (fun _ => hs.any q = false) ⟨by omega, by simp⟩ (by (simp -dsimp +decide (disch := omega) only [vy, vz, vze, vr, ty, en, ↓reduceIte, Nat.reduceSub, Nat.reduceAdd, Nat.reduceMul, Nat.reduceLT, Int.reduceAdd, Int.reduceSub, Int.reduceToNat, ci, vi, getO_i]); first | rfl | done) rfl (by simp) ?_ ?_
 . rintro k g ⟨hk, hn⟩
   refine SemA.o ?_
   simp -dsimp +decide (disch := omega) only [vy, vz, vze, vr, ty, en, ↓reduceIte, Nat.reduceSub, Nat.reduceAdd, Nat.reduceMul, Nat.reduceLT, Int.reduceAdd, Int.reduceSub, Int.reduceToNat, ci, vi, getO_i, hr]
   refine CondP.dec (fun h => ?_) (fun h => ?_)
   . obtain ⟨y, hy⟩ : ∃ y, hs[k]? = some y := ⟨hs[k]'(by omega), by simp⟩
     simp -dsimp +decide (disch := omega) only [vy, vz, vze, vr, ty, en, ↓reduceIte, Nat.reduceSub, Nat.reduceAdd, Nat.reduceMul, Nat.reduceLT, Int.reduceAdd, Int.reduceSub, Int.reduceToNat, ci, vi, getO_i, hr, hld, hy]
     refine ⟨⟨by omega, by omega⟩, ?_⟩
     refine (hc y (List.mem_of_getElem? hy)).det ?_
     cases hq : q y with
     | true =>
       simp -dsimp +decide (disch := omega) only [vy, vz, vze, vr, ty, en, ↓reduceIte, Nat.reduceSub, Nat.reduceAdd, Nat.reduceMul, Nat.reduceLT, Int.reduceAdd, Int.reduceSub, Int.reduceToNat, ci, vi, getO_i]
       exact Vw.done ⟨⟨k, rfl, by rw [List.any_eq_true.2 ⟨y, List.mem_of_getElem? hy, hq⟩]; exact decide_eq_true (by omega)⟩, rfl, rfl⟩
     | false =>
       simp -dsimp +decide (disch := omega) only [vy, vz, vze, vr, ty, en, ↓reduceIte, Nat.reduceSub, Nat.reduceAdd, Nat.reduceMul, Nat.reduceLT, Int.reduceAdd, Int.reduceSub, Int.reduceToNat, ci, vi, getO_i]
       refine ⟨k + 1, ⟨⟨by omega, ?_⟩, by omega⟩, rfl⟩
       rw [List.take_add_one, hy, List.any_append, hn]
       simp [hq]
   . rw [List.take_of_length_le (by omega)] at hn
     simp -dsimp +decide (disch := omega) only [vy, vz, vze, vr, ty, en, ↓reduceIte, Nat.reduceSub, Nat.reduceAdd, Nat.reduceMul, Nat.reduceLT, Int.reduceAdd, Int.reduceSub, Int.reduceToNat, ci, vi, getO_i]
     exact ⟨(), hn⟩
 . rintro _ g tmp hn
   simp -dsimp +decide (disch := omega) only [vy, vz, vze, vr, ty, en, ↓reduceIte, Nat.reduceSub, Nat.reduceAdd, Nat.reduceMul, Nat.reduceLT, Int.reduceAdd, Int.reduceSub, Int.reduceToNat, ci, vi, getO_i]
   exact Vw.done ⟨⟨-1, rfl, by rw [hn]; rfl⟩, rfl, rfl⟩
theorem rcon_ok {T : Tbl} {a : AV} {i j : Nat} {hs : List Pt} {q : Pt -> Bool} (hb : Es T 33 Pt.cs a hs) (hl : hs.length <= 1099511627776) (hc : ∀ x ∈ hs, CallA prog G 38 [.ag x.cs, .ptr i 0, .ptr j 0] T fun v T' es => v = .p (.bool (q x)) /\ T' = T /\ es = []) :
 CallA prog G 37 [a, .fn 38 [.ptr i 0, .ptr j 0]] T fun v T' es => v = .p (.bool (hs.any q)) /\ T' = T /\ es = [] := by
 refine CallA.eV 6 func37 ntmps37 results37 ?_
 simp -dsimp +decide only [vy, vz, vze, vr, ty, en, ↓reduceIte, Nat.reduceSub, Nat.reduceAdd, Nat.reduceMul, Nat.reduceLT, Int.reduceAdd, Int.reduceSub, Int.reduceToNat, ci]
 refine (rix_ok hb hl hc).mono ?_
 rintro v T' es ⟨⟨k, rfl, hk⟩, rfl, rfl⟩
 simp -dsimp +decide (disch := omega) only [vy, vz, vze, vr, ty, en, ↓reduceIte, Nat.reduceSub, Nat.reduceAdd, Nat.reduceMul, Nat.reduceLT, Int.reduceAdd, Int.reduceSub, Int.reduceToNat, ci, vi, getO_i]
 exact Vw.done ⟨by rw [<- hk], rfl, rfl⟩
theorem rt6_ok {W : Tbl} {p : Par} (ok : p.Ok) {a : AV} {hs : List Hdr} {id : List UInt8} (hb : Es W 68 Hdr.cs a hs) (hid : id.length = 32) {i j m : Nat} (hi : W[i]? = some (.cells 29 p.cs)) (hj : W[j]? = some (.cells 30 [a])) (hm : W[m]? = some (.cells 25 (id.map by8))) :
 CallA prog G 36 [.ptr i 0, .ptr j 0, .ptr m 0] W fun v T' es => v = .p (.bool (!p.pts.any (ptB hs.length id))) /\ T' = W /\ es = [] := by
 have hr := Par.rules ok
 refine CallA.eV 4 func36 ntmps36 results36 ?_
 simp -dsimp +decide only [vy, vz, vze, vr, ty, en, ↓reduceIte, Nat.reduceSub, Nat.reduceAdd, Nat.reduceMul, Nat.reduceLT, Int.reduceAdd, Int.reduceSub, Int.reduceToNat, ci]
 simp -dsimp +decide (disch := omega) only [vy, vz, vze, vr, ty, en, ↓reduceIte, Nat.reduceSub, Nat.reduceAdd, Nat.reduceMul, Nat.reduceLT, Int.reduceAdd, Int.reduceSub, Int.reduceToNat, ci, vi, getO_i, vt, hi, hr]
 refine (rcon_ok (ok.a W) ok.l fun x hx => rp_ok hb (ok.id x hx) hid hj hm).det' ?_
 simp -dsimp +decide (disch := omega) only [vy, vz, vze, vr, ty, en, ↓reduceIte, Nat.reduceSub, Nat.reduceAdd, Nat.reduceMul, Nat.reduceLT, Int.reduceAdd, Int.reduceSub, Int.reduceToNat, ci, vi, getO_i, vt, hi, hr]
 exact Vw.done ⟨rfl, rfl, rfl⟩
def firstR (r0 r1 r2 r3 r4 r5 : Bool) : Int := if r0 = false then 1 else if r1 = false then 9 else if r2 = false then 10 else if r3 = false then 11 else if r4 = false then 12 else if r5 = false then 13 else 0
noncomputable def rightE (p : Par) (hs : List Hdr) (h : Hdr) : Int := firstR (mayB p) (prevB hs h) (decide (h.bits = bitsB p hs)) (workB h) (decide ((medB hs).toNat < h.time.toNat)) (!p.pts.any (ptB hs.length h.id))
def rl6 (r0 r1 r2 r3 r4 r5 : Bool) : Nat -> Bool
 | 0 => r0
 | 1 => r1
 | 2 => r2
 | 3 => r3
 | 4 => r4
 | _ => r5
theorem first_at {r0 r1 r2 r3 r4 r5 : Bool} {k : Nat} (hk : k < 6) (h : ∀ j, j < k -> rl6 r0 r1 r2 r3 r4 r5 j = true) (hn : rl6 r0 r1 r2 r3 r4 r5 k = false) : firstR r0 r1 r2 r3 r4 r5 = if k = 0 then 1 else k + 8 := by
 have h0 := h 0
 have h1 := h 1
 have h2 := h 2
 have h3 := h 3
 have h4 := h 4
 unfold firstR
 match k, hk with
 | 0, _ => simp_all [rl6]
 | 1, _ => simp_all [rl6]
 | 2, _ => simp_all [rl6]
 | 3, _ => simp_all [rl6]
 | 4, _ => simp_all [rl6]
 | 5, _ => simp_all [rl6]
theorem more {r0 r1 r2 r3 r4 r5 : Bool} {k : Nat} (h : ∀ j, j < k -> rl6 r0 r1 r2 r3 r4 r5 j = true) (hc : rl6 r0 r1 r2 r3 r4 r5 k = true) : ∀ j, j < k + 1 -> rl6 r0 r1 r2 r3 r4 r5 j = true := fun j hj => by
 rcases Nat.lt_or_eq_of_le (Nat.le_of_lt_succ hj) with h2 | rfl
 . exact h j h2
 . exact hc
theorem first_all {r0 r1 r2 r3 r4 r5 : Bool} (h : ∀ j, j < 6 -> rl6 r0 r1 r2 r3 r4 r5 j = true) : firstR r0 r1 r2 r3 r4 r5 = 0 := by
 have h0 := h 0
 have h1 := h 1
 have h2 := h 2
 have h3 := h 3
 have h4 := h 4
 have h5 := h 5
 unfold firstR
 simp_all [rl6]
def rulC (n : Nat) : List AV := [wint 1, .fn 30 [.ptr n 0], wint 9, .fn 31 [.ptr (n + 1) 0, .ptr (n + 2) 0], wint 10, .fn 32 [.ptr (n + 2) 0, .ptr n 0, .ptr (n + 1) 0], wint 11, .fn 33 [.ptr (n + 2) 0, .ptr (n + 3) 0], wint 12, .fn 35 [.ptr (n + 2) 0, .ptr (n + 1) 0], wint 13, .fn 36 [.ptr n 0, .ptr (n + 1) 0, .ptr (n + 3) 0]]
theorem slAlone {T : Tbl} {sz n : Nat} {a : AV} {cs : List AV} (h : Sl T sz a cs n) : a.known = some [a] /\ AV.one a = true := by
 obtain ⟨hl, rfl | ⟨i, off, o, ds, rfl, h2, h3⟩ | ⟨rfl, rfl⟩⟩ := h <;> exact ⟨rfl, rfl⟩
theorem right_ok' {T : Tbl} {p : Par} (okp : p.Ok) {a : AV} {hs : List Hdr} {h : Hdr} (hb : Es T 68 Hdr.cs a hs) (hok : ∀ x ∈ hs, x.Ok) (ok : h.Ok) (hl : hs.length <= 1000000) :
 CallA prog G 13 [.ag p.cs, a, .ag h.cs] T fun v T' es => v = .p (.int .i64 (rightE p hs h)) /\ T' = T /\ es = [] := by
 refine CallA.wfs fun wf => ?_
 have wt := wf.t
 have wa := wf.arg a (by simp)
 have hr := Hdr.rules ok
 have hr2 := Par.rules okp
 have hal := slAlone hb.sl
 have hil := h.id_len
 refine CallA.eV 27 func13 ntmps13 results13 ?_
 simp -dsimp +decide only [vt2, vy, vz, vze, vr, ty, en, ↓reduceIte, Nat.reduceSub, Nat.reduceAdd, Nat.reduceMul, Nat.reduceLT, Int.reduceAdd, Int.reduceSub, Int.reduceToNat, ci]
 simp -dsimp +decide (disch := omega) only [vt2, vy, vz, vze, vr, ty, en, ↓reduceIte, Nat.reduceSub, Nat.reduceAdd, Nat.reduceMul, Nat.reduceLT, Int.reduceAdd, Int.reduceSub, Int.reduceToNat, ci, vi, getO_i, vt, hal, hr, hr2]
 refine (pid_ok ok).det' ?_
 simp -dsimp +decide (disch := omega) only [vt2, vy, vz, vze, vr, ty, en, ↓reduceIte, Nat.reduceSub, Nat.reduceAdd, Nat.reduceMul, Nat.reduceLT, Int.reduceAdd, Int.reduceSub, Int.reduceToNat, ci, vi, getO_i, vt, hr, hr2, ez32, vh, hil, wa, hal]
 show getO (some (rulC T.length)) _
 simp -dsimp +decide (disch := omega) only [vt2, vy, vz, vze, vr, ty, en, ↓reduceIte, Nat.reduceSub, Nat.reduceAdd, Nat.reduceMul, Nat.reduceLT, Int.reduceAdd, Int.reduceSub, Int.reduceToNat, ci, vi, getO_i, vt]
 have hrl : (rulC T.length).length = 12 := rfl
 have hne : (rulC T.length ≠ []) = True := eq_true (by unfold rulC; simp)
 have k39 : tak prog 32 = some false /\ tsz prog 32 = 1 := ⟨(by kernel_rfl), (by kernel_rfl)⟩
 have hwr : List.map (AV.wo fun x => decide (T.length + 5 <= x)) (rulC T.length) = rulC T.length := by
  simp [rulC, AV.wo, AV.woL]
  exact ⟨rfl, rfl, rfl, rfl, rfl, rfl⟩
 refine SemA.loopK (T.length + 5) (fun k : Nat => [(24, .sl (T.length + 4) 0 6), (25, wint 6), (26, wint (k : Int))]) (fun _ => T ++ [.cells 29 p.cs, .cells 30 [a], .cells 27 h.cs, .cells 25 (h.id.map by8), .buf 62 2 (rulC T.length)]) (fun k => k <= 6 /\ ∀ j, j < k -> rl6 (mayB p) (prevB hs h) (decide (h.bits = bitsB p hs)) (workB h) (decide ((medB hs).toNat < h.time.toNat)) ((!p.pts.any (ptB hs.length h.id))) j = true) (fun k => 6 - k) 0 [] 0 (fun _ : Unit => []) (fun _ => T ++ [.cells 29 p.cs, .cells 30 [a], .cells 27 h.cs, .cells 25 (h.id.map by8), .buf 62 2 (rulC T.length)]) (fun _ => ∀ j, j < 6 -> rl6 (mayB p) (prevB hs h) (decide (h.bits = bitsB p hs)) (workB h) (decide ((medB hs).toNat < h.time.toNat)) ((!p.pts.any (ptB hs.length h.id))) j = true) (by omega) ⟨by omega, fun j hj => by omega⟩ (by (simp -dsimp +decide (disch := omega) only [vt2, vy, vz, vze, vr, ty, en, ↓reduceIte, Nat.reduceSub, Nat.reduceAdd, Nat.reduceMul, Nat.reduceLT, Int.reduceAdd, Int.reduceSub, Int.reduceToNat, ci, vi, getO_i]); first | rfl | exact ⟨rfl, rfl, rfl⟩ | done) rfl (by simp) ?_ ?_
 . rintro k g ⟨hk, hq⟩
   refine SemA.o ?_
   simp -dsimp +decide (disch := omega) only [vt2, vy, vz, vze, vr, ty, en, ↓reduceIte, Nat.reduceSub, Nat.reduceAdd, Nat.reduceMul, Nat.reduceLT, Int.reduceAdd, Int.reduceSub, Int.reduceToNat, ci, vi, getO_i, vt]
   refine CondP.dec (fun hc => ?_) (fun hc => ?_)
   . rcases (show k = 0 ∨ k = 1 ∨ k = 2 ∨ k = 3 ∨ k = 4 ∨ k = 5 by omega) with rfl | rfl | rfl | rfl | rfl | rfl
     . have hk1 : List.take 2 (rulC T.length) = [wint 1, .fn 30 [.ptr T.length 0]] := rfl
       simp -dsimp +decide (disch := omega) only [vt2, vy, vz, vze, vr, ty, en, ↓reduceIte, Nat.reduceSub, Nat.reduceAdd, Nat.reduceMul, Nat.reduceLT, Int.reduceAdd, Int.reduceSub, Int.reduceToNat, ci, vi, getO_i, vt, hne, hrl, hk1, k39]
       refine (rt1_ok okp (gn0 T _ _)).det' ?_
       cases hc : mayB p with
       | false =>
         rw [show rightE p hs h = 1 from first_at (k := 0) (by omega) hq hc]
         simp -dsimp +decide (disch := omega) only [vt2, vy, vz, vze, vr, ty, en, ↓reduceIte, Nat.reduceSub, Nat.reduceAdd, Nat.reduceMul, Nat.reduceLT, Int.reduceAdd, Int.reduceSub, Int.reduceToNat, ci, vi, getO_i, vt, bb2]
         exact Vw.cut ⟨rfl, rfl, rfl⟩
       | true =>
         have hmo := more (k := 0) hq hc
         rw [hc] at hmo
         simp -dsimp +decide (disch := omega) only [vt2, vy, vz, vze, vr, ty, en, ↓reduceIte, Nat.reduceSub, Nat.reduceAdd, Nat.reduceMul, Nat.reduceLT, Int.reduceAdd, Int.reduceSub, Int.reduceToNat, ci, vi, getO_i, vt, wt, wa, hr, hr2, hwr, bb2, vh]
         exact ⟨1, ⟨⟨by omega, hmo⟩, by omega⟩, rfl⟩
     . have hk1 : List.take 2 (List.drop 2 (rulC T.length)) = [wint 9, .fn 31 [.ptr (T.length + 1) 0, .ptr (T.length + 2) 0]] := rfl
       simp -dsimp +decide (disch := omega) only [vt2, vy, vz, vze, vr, ty, en, ↓reduceIte, Nat.reduceSub, Nat.reduceAdd, Nat.reduceMul, Nat.reduceLT, Int.reduceAdd, Int.reduceSub, Int.reduceToNat, ci, vi, getO_i, vt, hne, hrl, hk1, k39]
       refine (rt2_ok (hb.app _) hok ok hl (gn1 T _ _ _) (gn2 T _ _ _ _)).det' ?_
       cases hc : prevB hs h with
       | false =>
         rw [show rightE p hs h = 9 from first_at (k := 1) (by omega) hq hc]
         simp -dsimp +decide (disch := omega) only [vt2, vy, vz, vze, vr, ty, en, ↓reduceIte, Nat.reduceSub, Nat.reduceAdd, Nat.reduceMul, Nat.reduceLT, Int.reduceAdd, Int.reduceSub, Int.reduceToNat, ci, vi, getO_i, vt, bb2]
         exact Vw.cut ⟨rfl, rfl, rfl⟩
       | true =>
         have hmo := more (k := 1) hq hc
         rw [hc] at hmo
         simp -dsimp +decide (disch := omega) only [vt2, vy, vz, vze, vr, ty, en, ↓reduceIte, Nat.reduceSub, Nat.reduceAdd, Nat.reduceMul, Nat.reduceLT, Int.reduceAdd, Int.reduceSub, Int.reduceToNat, ci, vi, getO_i, vt, wt, wa, hr, hr2, hwr, bb2, vh]
         exact ⟨2, ⟨⟨by omega, hmo⟩, by omega⟩, rfl⟩
     . have hk1 : List.take 2 (List.drop 4 (rulC T.length)) = [wint 10, .fn 32 [.ptr (T.length + 2) 0, .ptr T.length 0, .ptr (T.length + 1) 0]] := rfl
       simp -dsimp +decide (disch := omega) only [vt2, vy, vz, vze, vr, ty, en, ↓reduceIte, Nat.reduceSub, Nat.reduceAdd, Nat.reduceMul, Nat.reduceLT, Int.reduceAdd, Int.reduceSub, Int.reduceToNat, ci, vi, getO_i, vt, hne, hrl, hk1, k39]
       refine (rt3_ok okp (hb.app _) hok ok hl (gn0 T _ _) (gn1 T _ _ _) (gn2 T _ _ _ _)).det' ?_
       cases hc : decide (h.bits = bitsB p hs) with
       | false =>
         rw [show rightE p hs h = 10 from first_at (k := 2) (by omega) hq hc]
         simp -dsimp +decide (disch := omega) only [vt2, vy, vz, vze, vr, ty, en, ↓reduceIte, Nat.reduceSub, Nat.reduceAdd, Nat.reduceMul, Nat.reduceLT, Int.reduceAdd, Int.reduceSub, Int.reduceToNat, ci, vi, getO_i, vt, bb2]
         exact Vw.cut ⟨rfl, rfl, rfl⟩
       | true =>
         have hmo := more (k := 2) hq hc
         rw [hc] at hmo
         simp -dsimp +decide (disch := omega) only [vt2, vy, vz, vze, vr, ty, en, ↓reduceIte, Nat.reduceSub, Nat.reduceAdd, Nat.reduceMul, Nat.reduceLT, Int.reduceAdd, Int.reduceSub, Int.reduceToNat, ci, vi, getO_i, vt, wt, wa, hr, hr2, hwr, bb2, vh]
         exact ⟨3, ⟨⟨by omega, hmo⟩, by omega⟩, rfl⟩
     . have hk1 : List.take 2 (List.drop 6 (rulC T.length)) = [wint 11, .fn 33 [.ptr (T.length + 2) 0, .ptr (T.length + 3) 0]] := rfl
       simp -dsimp +decide (disch := omega) only [vt2, vy, vz, vze, vr, ty, en, ↓reduceIte, Nat.reduceSub, Nat.reduceAdd, Nat.reduceMul, Nat.reduceLT, Int.reduceAdd, Int.reduceSub, Int.reduceToNat, ci, vi, getO_i, vt, hne, hrl, hk1, k39]
       refine (rt4_ok ok (gn2 T _ _ _ _) (gn3 T _ _ _ _ _)).det' ?_
       cases hc : workB h with
       | false =>
         rw [show rightE p hs h = 11 from first_at (k := 3) (by omega) hq hc]
         simp -dsimp +decide (disch := omega) only [vt2, vy, vz, vze, vr, ty, en, ↓reduceIte, Nat.reduceSub, Nat.reduceAdd, Nat.reduceMul, Nat.reduceLT, Int.reduceAdd, Int.reduceSub, Int.reduceToNat, ci, vi, getO_i, vt, bb2]
         exact Vw.cut ⟨rfl, rfl, rfl⟩
       | true =>
         have hmo := more (k := 3) hq hc
         rw [hc] at hmo
         simp -dsimp +decide (disch := omega) only [vt2, vy, vz, vze, vr, ty, en, ↓reduceIte, Nat.reduceSub, Nat.reduceAdd, Nat.reduceMul, Nat.reduceLT, Int.reduceAdd, Int.reduceSub, Int.reduceToNat, ci, vi, getO_i, vt, wt, wa, hr, hr2, hwr, bb2, vh]
         exact ⟨4, ⟨⟨by omega, hmo⟩, by omega⟩, rfl⟩
     . have hk1 : List.take 2 (List.drop 8 (rulC T.length)) = [wint 12, .fn 35 [.ptr (T.length + 2) 0, .ptr (T.length + 1) 0]] := rfl
       simp -dsimp +decide (disch := omega) only [vt2, vy, vz, vze, vr, ty, en, ↓reduceIte, Nat.reduceSub, Nat.reduceAdd, Nat.reduceMul, Nat.reduceLT, Int.reduceAdd, Int.reduceSub, Int.reduceToNat, ci, vi, getO_i, vt, hne, hrl, hk1, k39]
       refine (rt5_ok (hb.app _) hok ok hl (gn1 T _ _ _) (gn2 T _ _ _ _)).det' ?_
       cases hc : decide ((medB hs).toNat < h.time.toNat) with
       | false =>
         rw [show rightE p hs h = 12 from first_at (k := 4) (by omega) hq hc]
         simp -dsimp +decide (disch := omega) only [vt2, vy, vz, vze, vr, ty, en, ↓reduceIte, Nat.reduceSub, Nat.reduceAdd, Nat.reduceMul, Nat.reduceLT, Int.reduceAdd, Int.reduceSub, Int.reduceToNat, ci, vi, getO_i, vt, bb2]
         exact Vw.cut ⟨rfl, rfl, rfl⟩
       | true =>
         have hmo := more (k := 4) hq hc
         rw [hc] at hmo
         simp -dsimp +decide (disch := omega) only [vt2, vy, vz, vze, vr, ty, en, ↓reduceIte, Nat.reduceSub, Nat.reduceAdd, Nat.reduceMul, Nat.reduceLT, Int.reduceAdd, Int.reduceSub, Int.reduceToNat, ci, vi, getO_i, vt, wt, wa, hr, hr2, hwr, bb2, vh]
         exact ⟨5, ⟨⟨by omega, hmo⟩, by omega⟩, rfl⟩
     . have hk1 : List.take 2 (List.drop 10 (rulC T.length)) = [wint 13, .fn 36 [.ptr T.length 0, .ptr (T.length + 1) 0, .ptr (T.length + 3) 0]] := rfl
       simp -dsimp +decide (disch := omega) only [vt2, vy, vz, vze, vr, ty, en, ↓reduceIte, Nat.reduceSub, Nat.reduceAdd, Nat.reduceMul, Nat.reduceLT, Int.reduceAdd, Int.reduceSub, Int.reduceToNat, ci, vi, getO_i, vt, hne, hrl, hk1, k39]
       refine (rt6_ok okp (hb.app _) h.id_len (gn0 T _ _) (gn1 T _ _ _) (gn3 T _ _ _ _ _)).det' ?_
       cases hc : (!p.pts.any (ptB hs.length h.id)) with
       | false =>
         rw [show rightE p hs h = 13 from first_at (k := 5) (by omega) hq hc]
         simp -dsimp +decide (disch := omega) only [vt2, vy, vz, vze, vr, ty, en, ↓reduceIte, Nat.reduceSub, Nat.reduceAdd, Nat.reduceMul, Nat.reduceLT, Int.reduceAdd, Int.reduceSub, Int.reduceToNat, ci, vi, getO_i, vt, bb2]
         exact Vw.cut ⟨rfl, rfl, rfl⟩
       | true =>
         have hmo := more (k := 5) hq hc
         rw [hc] at hmo
         simp -dsimp +decide (disch := omega) only [vt2, vy, vz, vze, vr, ty, en, ↓reduceIte, Nat.reduceSub, Nat.reduceAdd, Nat.reduceMul, Nat.reduceLT, Int.reduceAdd, Int.reduceSub, Int.reduceToNat, ci, vi, getO_i, vt, wt, wa, hr, hr2, hwr, bb2, vh]
         exact ⟨6, ⟨⟨by omega, hmo⟩, by omega⟩, rfl⟩
   . have e : k = 6 := by omega
     subst e
     simp -dsimp +decide (disch := omega) only [vt2, vy, vz, vze, vr, ty, en, ↓reduceIte, Nat.reduceSub, Nat.reduceAdd, Nat.reduceMul, Nat.reduceLT, Int.reduceAdd, Int.reduceSub, Int.reduceToNat, ci, vi, getO_i, vt, wt, wa, hr, hr2, hwr, vh]
     exact ⟨(), hq⟩
 . rintro _ g tmp hq
   rw [show rightE p hs h = 0 from first_all hq]
   simp -dsimp +decide (disch := omega) only [vt2, vy, vz, vze, vr, ty, en, ↓reduceIte, Nat.reduceSub, Nat.reduceAdd, Nat.reduceMul, Nat.reduceLT, Int.reduceAdd, Int.reduceSub, Int.reduceToNat, ci, vi, getO_i, vt]
   exact Vw.cut ⟨rfl, rfl, rfl⟩
theorem fr_none {p : Par} {hs : List Hdr} {h : Hdr} (c1 : mayB p = true) (c2 : prevB hs h = true) (c3 : h.bits = bitsB p hs) (c4 : workB h = true) (c5 : (medB hs).toNat < h.time.toNat) : rightE p hs h = if p.pts.any (ptB hs.length h.id) then 13 else 0 := by
 unfold rightE
 rw [c1, c2, decide_eq_true c3, c4, decide_eq_true c5]
 cases p.pts.any (ptB hs.length h.id) <;> rfl
theorem flat_sub {α : Type} {f : α -> List AV} {sz : Nat} {xs : List α} (h : ∀ x ∈ xs, (f x).length = sz) {i j m : Nat} {x : α} (hx : xs[i]? = some x) (hj : j + m = sz) : ((xs.flatMap f).drop (i * sz + j)).take m = (f x).drop j := by
 rw [<- List.drop_drop, show m = sz - j by omega, <- List.drop_take, flat_at h hx]
theorem right13_ok {T : Tbl} {p : Par} (okp : p.Ok) {a : AV} {hs : List Hdr} {h : Hdr} (hb : Es T 68 Hdr.cs a hs) (hok : ∀ x ∈ hs, x.Ok) (ok : h.Ok) (hl : hs.length <= 1000000) :
 CallA prog G 14 [.ag p.cs, a, .ag h.cs] T fun v T' es => v = .p (.int .i64 (rightE p hs h)) /\ T' = T /\ es = [] := by
 refine CallA.wfs fun wf => ?_
 have wt := wf.t
 have wa := wf.arg a (by simp)
 have hr := Hdr.rules ok
 have hr2 := Par.rules okp
 have ez : [oQ, oQ, oQ, oQ] = Bg 0 := rfl
 have hil := h.id_len
 have hsr := Sl.rules hb.sl (by decide)
 have hld := hb.ld (P := prog) (t := 27) (by (simp -dsimp +decide only [vt2, vy, vz, vze, vr, ty, en, ↓reduceIte, Nat.reduceSub, Nat.reduceAdd, Nat.reduceMul, Nat.reduceLT, Int.reduceAdd, Int.reduceSub, Int.reduceToNat, ci])) (by (simp -dsimp +decide only [vt2, vy, vz, vze, vr, ty, en, ↓reduceIte, Nat.reduceSub, Nat.reduceAdd, Nat.reduceMul, Nat.reduceLT, Int.reduceAdd, Int.reduceSub, Int.reduceToNat, ci])) (by decide)
 have g0 := fun l => gn0 T (.cells 29 p.cs) l
 have g1 := fun a l => gn1 T a (.cells 27 h.cs) l
 refine CallA.eV 14 func14 ntmps14 results14 ?_
 simp -dsimp +decide only [vt2, vy, vz, vze, vr, ty, en, ↓reduceIte, Nat.reduceSub, Nat.reduceAdd, Nat.reduceMul, Nat.reduceLT, Int.reduceAdd, Int.reduceSub, Int.reduceToNat, ci]
 simp -dsimp +decide (disch := omega) only [vt2, vy, vz, vze, vr, ty, en, ↓reduceIte, Nat.reduceSub, Nat.reduceAdd, Nat.reduceMul, Nat.reduceLT, Int.reduceAdd, Int.reduceSub, Int.reduceToNat, ci, vi, getO_i, vt, hr, hr2]
 refine (may13_ok okp).det' ?_
 cases c1 : mayB p with
 | false =>
   rw [show rightE p hs h = 1 by unfold rightE firstR; rw [c1]; rfl]
   simp -dsimp +decide (disch := omega) only [vt2, vy, vz, vze, vr, ty, en, ↓reduceIte, Nat.reduceSub, Nat.reduceAdd, Nat.reduceMul, Nat.reduceLT, Int.reduceAdd, Int.reduceSub, Int.reduceToNat, ci, vi, getO_i, vt, bb2]
   exact Vw.cut ⟨rfl, rfl, rfl⟩
 | true =>
 simp -dsimp +decide (disch := omega) only [vt2, vy, vz, vze, vr, ty, en, ↓reduceIte, Nat.reduceSub, Nat.reduceAdd, Nat.reduceMul, Nat.reduceLT, Int.reduceAdd, Int.reduceSub, Int.reduceToNat, ci, vi, getO_i, vt, hr, hr2, g0, g1, bb2]
 refine SemA.draw (fun i => true) [(0, true), (1, true), (2, true), (3, true), (4, true), (5, true), (6, true), (7, true), (8, true), (9, true), (10, true), (11, true), (12, false), (13, true), (14, true)] mixed (by kernel_rfl) ?_
 cases hn : hs.getLast? with
 | none =>
   rw [show rightE p hs h = 9 by unfold rightE firstR; rw [c1, show prevB hs h = false by rw [prevB, hn]]; rfl]
   rw [List.getLast?_eq_none_iff] at hn
   subst hn
   simp -dsimp +decide (disch := omega) only [vt2, vy, vz, vze, vr, ty, en, ↓reduceIte, Nat.reduceSub, Nat.reduceAdd, Nat.reduceMul, Nat.reduceLT, Int.reduceAdd, Int.reduceSub, Int.reduceToNat, ci, vi, getO_i, vt, hr, hr2, g0, g1, hsr, List.length_nil, kallT, bb2]
   exact Vw.cut ⟨rfl, rfl, rfl⟩
 | some la =>
 have hlast : hs[hs.length - 1]? = some la := by rw [<- List.getLast?_eq_getElem?, hn]
 have hne : 0 < hs.length := by
  rcases hs with _ | ⟨x, l⟩
  . cases hn
  . exact Nat.succ_pos _
 have hla := hok la (List.mem_of_getElem? hlast)
 have hsub1 : (hs.length : Int) - 1 = ((hs.length - 1 : Nat) : Int) := by omega
 have h0 : ((hs.length : Int) = 0) = False := eq_false (by omega)
 simp -dsimp +decide (disch := omega) only [vt2, vy, vz, vze, vr, ty, en, ↓reduceIte, Nat.reduceSub, Nat.reduceAdd, Nat.reduceMul, Nat.reduceLT, Int.reduceAdd, Int.reduceSub, Int.reduceToNat, ci, vi, getO_i, vt, hr, hr2, g0, g1, hsr, h0, hsub1, hld, hlast, kallT, bb2]
 refine ⟨⟨by omega, by omega⟩, (rid_ok hla).det' ?_⟩
 by_cases d2 : h.prev = la.id
 rotate_left
 . rw [show rightE p hs h = 9 by unfold rightE firstR; rw [c1, show prevB hs h = false by rw [prevB, hn]; exact decide_eq_false d2]; rfl]
   have i2 := eq_false d2
   simp -dsimp +decide (disch := omega) only [vt2, vy, vz, vze, vr, ty, en, ↓reduceIte, Nat.reduceSub, Nat.reduceAdd, Nat.reduceMul, Nat.reduceLT, Int.reduceAdd, Int.reduceSub, Int.reduceToNat, ci, vi, getO_i, vt, hr, hr2, g0, g1, hsr, neh ok.p la.id_len, i2, kallT, bb2]
   exact Vw.cut ⟨rfl, rfl, rfl⟩
 have c2 : prevB hs h = true := by rw [prevB, hn]; exact decide_eq_true d2
 have i2 := eq_true d2
 simp -dsimp +decide (disch := omega) only [vt2, vy, vz, vze, vr, ty, en, ↓reduceIte, Nat.reduceSub, Nat.reduceAdd, Nat.reduceMul, Nat.reduceLT, Int.reduceAdd, Int.reduceSub, Int.reduceToNat, ci, vi, getO_i, vt, hr, hr2, g0, g1, hsr, neh ok.p la.id_len, i2, kallT, bb2]
 refine SemA.draw (fun i => true) [(0, true), (1, true), (2, true), (3, true), (4, false), (5, true)] mixed (by kernel_rfl) ?_
 simp -dsimp +decide (disch := omega) only [vt2, vy, vz, vze, vr, ty, en, ↓reduceIte, Nat.reduceSub, Nat.reduceAdd, Nat.reduceMul, Nat.reduceLT, Int.reduceAdd, Int.reduceSub, Int.reduceToNat, ci, vi, getO_i, vt, hr, hr2, g0, g1, kallT]
 refine (bits13_ok okp (hb.app _) hok hl).det' ?_
 by_cases c3 : h.bits = bitsB p hs
 rotate_left
 . rw [show rightE p hs h = 10 by unfold rightE firstR; rw [c1, c2, decide_eq_false c3]; rfl]
   have i3 : ((h.bits.toNat : Int) = ((bitsB p hs).toNat : Int)) = False := eq_false fun e => c3 (UInt32.toNat_inj.1 (by omega))
   simp -dsimp +decide (disch := omega) only [vt2, vy, vz, vze, vr, ty, en, ↓reduceIte, Nat.reduceSub, Nat.reduceAdd, Nat.reduceMul, Nat.reduceLT, Int.reduceAdd, Int.reduceSub, Int.reduceToNat, ci, vi, getO_i, vt, hr, hr2, g0, g1, kallT, bb2, i3]
   exact Vw.cut ⟨rfl, rfl, rfl⟩
 have i3 : ((h.bits.toNat : Int) = ((bitsB p hs).toNat : Int)) = True := eq_true (by rw [<- c3])
 simp -dsimp +decide (disch := omega) only [vt2, vy, vz, vze, vr, ty, en, ↓reduceIte, Nat.reduceSub, Nat.reduceAdd, Nat.reduceMul, Nat.reduceLT, Int.reduceAdd, Int.reduceSub, Int.reduceToNat, ci, vi, getO_i, vt, hr, hr2, g0, g1, kallT, bb2, i3]
 refine (rid_ok ok).det' ?_
 have g2 := fun a b l => gn2 T a b (.cells 25 (h.id.map by8)) l
 simp -dsimp +decide (disch := omega) only [vt2, vy, vz, vze, vr, ty, en, ↓reduceIte, Nat.reduceSub, Nat.reduceAdd, Nat.reduceMul, Nat.reduceLT, Int.reduceAdd, Int.reduceSub, Int.reduceToNat, ci, vi, getO_i, vt, hr, hr2, g0, g1, g2, ez32, vh, hil, ez, vbg]
 refine of03_ok.det' ?_
 cases ho : ofT h.bits.toNat with
 | none =>
   rw [show rightE p hs h = 11 by unfold rightE firstR; rw [c1, c2, decide_eq_true c3, show workB h = false by rw [workB, ho]]; rfl]
   unfold ofV
   simp -dsimp +decide (disch := omega) only [vt2, vy, vz, vze, vr, ty, en, ↓reduceIte, Nat.reduceSub, Nat.reduceAdd, Nat.reduceMul, Nat.reduceLT, Int.reduceAdd, Int.reduceSub, Int.reduceToNat, ci, vi, getO_i, vt, hr, hr2, g0, g1, g2, ez32, vh, hil, ez, vbg, bb2]
   exact Vw.cut ⟨rfl, rfl, rfl⟩
 | some t =>
 have hwk : workB h = meetsB h t := by rw [workB, ho]
 unfold ofV
 have g3 := fun a b c l => gn3 T a b c (.cells 51 (Bg t)) l
 have hid32 : List.take 32 h.id = h.id := List.take_of_length_le (Nat.le_of_eq hil)
 simp -dsimp +decide (disch := omega) only [vt2, vy, vz, vze, vr, ty, en, ↓reduceIte, Nat.reduceSub, Nat.reduceAdd, Nat.reduceMul, Nat.reduceLT, Int.reduceAdd, Int.reduceSub, Int.reduceToNat, ci, vi, getO_i, vt, hr, hr2, g0, g1, g2, g3, ez32, vh, hil, hid32, List.drop_zero, ez, vbg, bb2]
 refine (meets03_ok h.id_len (ofT_lt ho).1).det' ?_
 rw [show decide (t ≠ 0 /\ hN h.id <= t) = meetsB h t from rfl]
 cases c4 : meetsB h t with
 | false =>
   rw [show rightE p hs h = 11 by unfold rightE firstR; rw [c1, c2, decide_eq_true c3, hwk, c4]; rfl]
   simp -dsimp +decide (disch := omega) only [vt2, vy, vz, vze, vr, ty, en, ↓reduceIte, Nat.reduceSub, Nat.reduceAdd, Nat.reduceMul, Nat.reduceLT, Int.reduceAdd, Int.reduceSub, Int.reduceToNat, ci, vi, getO_i, vt, hr, hr2, g0, g1, g2, g3, ez32, vh, hil, ez, vbg, bb2]
   exact Vw.cut ⟨rfl, rfl, rfl⟩
 | true =>
 rw [c4] at hwk
 simp -dsimp +decide (disch := omega) only [vt2, vy, vz, vze, vr, ty, en, ↓reduceIte, Nat.reduceSub, Nat.reduceAdd, Nat.reduceMul, Nat.reduceLT, Int.reduceAdd, Int.reduceSub, Int.reduceToNat, ci, vi, getO_i, vt, hr, hr2, g0, g1, g2, g3, ez32, vh, hil, ez, vbg, bb2]
 refine SemA.draw (fun i => true) [(0, true), (1, true), (2, true), (3, false), (4, true)] mixed (by kernel_rfl) ?_
 simp -dsimp +decide (disch := omega) only [vt2, vy, vz, vze, vr, ty, en, ↓reduceIte, Nat.reduceSub, Nat.reduceAdd, Nat.reduceMul, Nat.reduceLT, Int.reduceAdd, Int.reduceSub, Int.reduceToNat, ci, vi, getO_i, vt, hr, hr2, g0, g1, g2, g3, kallT]
 refine (median13_ok (hb.app _) hok hl).det' ?_
 by_cases c5 : (medB hs).toNat < h.time.toNat
 rotate_left
 . rw [show rightE p hs h = 12 by unfold rightE firstR; rw [c1, c2, decide_eq_true c3, hwk, decide_eq_false c5]; rfl]
   have i5 : ((h.time.toNat : Int) <= ((medB hs).toNat : Int)) = True := eq_true (by omega)
   simp -dsimp +decide (disch := omega) only [vt2, vy, vz, vze, vr, ty, en, ↓reduceIte, Nat.reduceSub, Nat.reduceAdd, Nat.reduceMul, Nat.reduceLT, Int.reduceAdd, Int.reduceSub, Int.reduceToNat, ci, vi, getO_i, vt, hr, hr2, g0, g1, kallT, bb2, i5]
   exact Vw.cut ⟨rfl, rfl, rfl⟩
 have i5 : ((h.time.toNat : Int) <= ((medB hs).toNat : Int)) = False := eq_false (by omega)
 simp -dsimp +decide (disch := omega) only [vt2, vy, vz, vze, vr, ty, en, ↓reduceIte, Nat.reduceSub, Nat.reduceAdd, Nat.reduceMul, Nat.reduceLT, Int.reduceAdd, Int.reduceSub, Int.reduceToNat, ci, vi, getO_i, vt, hr, hr2, g0, g1, kallT, bb2, i5]
 rw [fr_none c1 c2 c3 hwk c5]
 have hpl := okp.l
 have hbp := okp.a T
 have hsp := Sl.rules hbp.sl (by decide)
 have hldp := hbp.ld (P := prog) (t := 56) (by (simp -dsimp +decide only [vt2, vy, vz, vze, vr, ty, en, ↓reduceIte, Nat.reduceSub, Nat.reduceAdd, Nat.reduceMul, Nat.reduceLT, Int.reduceAdd, Int.reduceSub, Int.reduceToNat, ci])) (by (simp -dsimp +decide only [vt2, vy, vz, vze, vr, ty, en, ↓reduceIte, Nat.reduceSub, Nat.reduceAdd, Nat.reduceMul, Nat.reduceLT, Int.reduceAdd, Int.reduceSub, Int.reduceToNat, ci])) (by decide)
 have hl1 := Sl.loads hbp.sl (P := prog) (t := 3) (by (simp -dsimp +decide only [vt2, vy, vz, vze, vr, ty, en, ↓reduceIte, Nat.reduceSub, Nat.reduceAdd, Nat.reduceMul, Nat.reduceLT, Int.reduceAdd, Int.reduceSub, Int.reduceToNat, ci]))
 have hpw := okp.wo
 refine SemA.loopK (T.length + 4) (fun k : Nat => [(1, a), (3, .ptr T.length 0), (7, .ptr (T.length + 2) 0), (10, wint (k : Int))]) (fun _ => T ++ [.cells 29 p.cs, .cells 27 h.cs, .cells 25 (h.id.map by8), .cells 51 (Bg t)]) (fun k => k <= p.pts.length /\ ∀ j, j < k -> ∀ x, p.pts[j]? = some x -> ptB hs.length h.id x = false) (fun k => p.pts.length - k) 0 [] 0 (fun _ : Unit => []) (fun _ => T ++ [.cells 29 p.cs, .cells 27 h.cs, .cells 25 (h.id.map by8), .cells 51 (Bg t)]) (fun _ => p.pts.any (ptB hs.length h.id) = false) (by omega) ⟨by omega, fun j hj => by omega⟩ (by (simp -dsimp +decide (disch := omega) only [vt2, vy, vz, vze, vr, ty, en, ↓reduceIte, Nat.reduceSub, Nat.reduceAdd, Nat.reduceMul, Nat.reduceLT, Int.reduceAdd, Int.reduceSub, Int.reduceToNat, ci, vi, getO_i]); first | rfl | exact ⟨rfl, rfl, rfl⟩ | done) rfl (by simp) ?_ ?_
 . rintro k g ⟨hk, hq⟩
   refine SemA.o ?_
   simp -dsimp +decide (disch := omega) only [vt2, vy, vz, vze, vr, ty, en, ↓reduceIte, Nat.reduceSub, Nat.reduceAdd, Nat.reduceMul, Nat.reduceLT, Int.reduceAdd, Int.reduceSub, Int.reduceToNat, ci, vi, getO_i, vt, hr2, hsp, g0]
   refine CondP.dec (fun hc => ?_) (fun hc => ?_)
   . obtain ⟨x, hx⟩ : ∃ x, p.pts[k]? = some x := ⟨p.pts[k]'(by omega), by simp⟩
     have hx32 := okp.id x (List.mem_of_getElem? hx)
     have hn : 0 < p.pts.length := by omega
     have hfd := fun j k (K : AV -> Prop) => Sl.fld (K := K) hbp.sl hn j k
     have hcell : (p.pts.flatMap Pt.cs)[k * 33]? = some (wint x.h) := by
      have := flat_cell (j := 0) hbp.wd hx (by omega)
      simpa using this
     have hlh : ∀ (l : Tbl) (K : AV -> Prop), loadA prog 25 (p.pa.pl (k * 33 + 1)) (T ++ l) K = K (.ag (x.id.map by8)) := fun l K => by
      have e1 : tsz prog 25 = 32 := by (simp -dsimp +decide only [vt2, vy, vz, vze, vr, ty, en, ↓reduceIte, Nat.reduceSub, Nat.reduceAdd, Nat.reduceMul, Nat.reduceLT, Int.reduceAdd, Int.reduceSub, Int.reduceToNat, ci])
      rw [(Sl.loadss hbp.sl (P := prog) (t := 25) (by (simp -dsimp +decide only [vt2, vy, vz, vze, vr, ty, en, ↓reduceIte, Nat.reduceSub, Nat.reduceAdd, Nat.reduceMul, Nat.reduceLT, Int.reduceAdd, Int.reduceSub, Int.reduceToNat, ci])) (by decide)).1 l (k * 33 + 1) K (by rw [e1]; have : (k + 1) * 33 <= p.pts.length * 33 := Nat.mul_le_mul_right _ (by omega); omega), e1, flat_sub hbp.wd hx (by decide)]
      rfl
     have yes : ptB hs.length h.id x = false -> ∀ j, j < k + 1 -> ∀ x, p.pts[j]? = some x -> ptB hs.length h.id x = false := fun hp j hj z hz => by
      rcases Nat.lt_or_eq_of_le (Nat.le_of_lt_succ hj) with h2 | rfl
      . exact hq j h2 z hz
      . rw [hx] at hz; cases hz; exact hp
     have no : ptB hs.length h.id x = true -> p.pts.any (ptB hs.length h.id) = true := fun hp => List.any_eq_true.2 ⟨x, List.mem_of_getElem? hx, hp⟩
     refine SemA.draw (fun i => true) [(0, true), (1, true), (2, true), (3, true), (4, true), (5, true), (6, true), (7, true), (8, true), (9, true), (10, true), (11, true), (12, true), (13, true), (14, true), (15, true), (16, true), (17, true), (18, true)] mixed (by kernel_rfl) ?_
     by_cases d1 : x.h = (hs.length : Int)
     . have j1 := eq_true d1
       simp -dsimp +decide (disch := omega) only [vt2, vy, vz, vze, vr, ty, en, ↓reduceIte, Nat.reduceSub, Nat.reduceAdd, Nat.reduceMul, Nat.reduceLT, Int.reduceAdd, Int.reduceSub, Int.reduceToNat, ci, vi, getO_i, vt, hr2, hsr, hsp, hldp, hl1, hx, g0, g2, hfd, hcell, hlh, vh, hil, hid32, List.drop_zero, kallT, j1, bb2, neh hx32 hil]
       refine ⟨⟨by omega, by omega⟩, ⟨by omega, by omega⟩, ?_⟩
       by_cases d2 : x.id = h.id
       . have j2 := eq_true d2
         have hp : ptB hs.length h.id x = false := by unfold ptB; rw [decide_eq_true d2, Bool.not_true, Bool.and_false]
         simp -dsimp +decide (disch := omega) only [vt2, vy, vz, vze, vr, ty, en, ↓reduceIte, Nat.reduceSub, Nat.reduceAdd, Nat.reduceMul, Nat.reduceLT, Int.reduceAdd, Int.reduceSub, Int.reduceToNat, ci, vi, getO_i, vt, wt, wa, hr, hr2, hsr, hsp, hldp, hl1, hx, g0, g2, hfd, hcell, kallT, j2, bb2, vbg, vh, Bg_wo]
         exact ⟨k + 1, ⟨⟨by omega, yes hp⟩, by omega⟩, rfl⟩
       . have j2 := eq_false d2
         have hp : ptB hs.length h.id x = true := by unfold ptB; rw [decide_eq_true d1, decide_eq_false d2]; rfl
         rw [if_pos (no hp)]
         simp -dsimp +decide (disch := omega) only [vt2, vy, vz, vze, vr, ty, en, ↓reduceIte, Nat.reduceSub, Nat.reduceAdd, Nat.reduceMul, Nat.reduceLT, Int.reduceAdd, Int.reduceSub, Int.reduceToNat, ci, vi, getO_i, vt, hr2, hsr, hsp, hldp, hl1, hx, g0, g2, hfd, hcell, kallT, j2, bb2]
         exact Vw.cut ⟨rfl, rfl, rfl⟩
     . have j1 := eq_false d1
       have hp : ptB hs.length h.id x = false := by unfold ptB; rw [decide_eq_false d1]; rfl
       simp -dsimp +decide (disch := omega) only [vt2, vy, vz, vze, vr, ty, en, ↓reduceIte, Nat.reduceSub, Nat.reduceAdd, Nat.reduceMul, Nat.reduceLT, Int.reduceAdd, Int.reduceSub, Int.reduceToNat, ci, vi, getO_i, vt, hr2, hsr, hsp, hldp, hl1, hx, g0, g2, hfd, hcell, kallT, j1, bb2, wt, wa, hr, Bg_wo]
       exact ⟨⟨by omega, by omega⟩, k + 1, ⟨⟨by omega, yes hp⟩, by omega⟩, rfl⟩
   . have e : k = p.pts.length := by omega
     subst e
     simp -dsimp +decide (disch := omega) only [vt2, vy, vz, vze, vr, ty, en, ↓reduceIte, Nat.reduceSub, Nat.reduceAdd, Nat.reduceMul, Nat.reduceLT, Int.reduceAdd, Int.reduceSub, Int.reduceToNat, ci, vi, getO_i, vt, wt, wa, hr, hr2, vbg, vh]
     refine ⟨(), ?_⟩
     rw [List.any_eq_false]
     intro x hx
     obtain ⟨i, hi, rfl⟩ := List.mem_iff_getElem.1 hx
     rw [hq i hi _ (by simp [hi])]; exact Bool.false_ne_true
 . rintro _ g tmp hq
   rw [hq]
   simp -dsimp +decide (disch := omega) only [vt2, vy, vz, vze, vr, ty, en, ↓reduceIte, Nat.reduceSub, Nat.reduceAdd, Nat.reduceMul, Nat.reduceLT, Int.reduceAdd, Int.reduceSub, Int.reduceToNat, ci, vi, getO_i, vt]
   exact Vw.cut ⟨rfl, rfl, rfl⟩
def timeH (t : UInt32) : Hdr := ⟨0, h0b, h0b, t, 0x207fffff, 0⟩
theorem timeH_ok (t : UInt32) : (timeH t).Ok := ⟨rfl, rfl⟩
def timesH (l : List UInt32) : List Hdr := l.map timeH
theorem timesH_ok (l : List UInt32) : ∀ x ∈ timesH l, x.Ok := fun x hx => by
 obtain ⟨t, _, rfl⟩ := List.mem_map.1 hx; exact timeH_ok t
theorem timesH_wd (l : List UInt32) : ∀ x ∈ timesH l, (Hdr.cs x).length = 68 := fun x hx => Hdr.cs_len (timesH_ok l x hx)
theorem hdr_clean {h : Hdr} : ∀ a ∈ h.cs, a.Clean := by
 intro a ha
 simp only [Hdr.cs, List.mem_cons, List.mem_append, List.mem_map, List.not_mem_nil, or_false] at ha
 rcases ha with rfl | ⟨x, _, rfl⟩ | ⟨x, _, rfl⟩ | rfl | rfl | rfl <;> exact .p _
theorem hdrs_clean (l : List Hdr) : ∀ a ∈ l.flatMap Hdr.cs, a.Clean := by
 intro a ha; obtain ⟨x, _, hx⟩ := List.mem_flatMap.1 ha; exact hdr_clean a hx
theorem hdrs_wo (q : Nat -> Bool) {hs : List Hdr} (h : ∀ x ∈ hs, x.Ok) : List.map (AV.wo q) (hs.flatMap Hdr.cs) = hs.flatMap Hdr.cs := by
 rw [List.map_flatMap]
 simp only [List.flatMap]
 congr 1
 exact List.map_congr_left fun x hx => (Hdr.rules (h x hx)).2.2.2.2.2.2.2.2.2.1 q
theorem rep1 (l : List AV) : (List.replicate 1 l).flatten = l := by simp
theorem times_ok {T : Tbl} {a : AV} {l : List UInt32} (hb : Sl T 1 a (l.map w32) l.length) (hl : l.length <= 1000000) : CallA prog G 20 [a] T fun v T' es => v = .vs ((timesH l).flatMap Hdr.cs) l.length /\ T' = T /\ es = [] := by
 refine CallA.wfs fun wf => ?_
 have wt := wf.t
 have wp := wf.p
 have wa := wf.arg a (by simp)
 have hsr := Sl.rules hb (by decide)
 have hl1 := Sl.loads hb (P := prog) (t := 22) (by (simp -dsimp +decide only [vt2, vy, vz, vze, vr, ty, en, ↓reduceIte, Nat.reduceSub, Nat.reduceAdd, Nat.reduceMul, Nat.reduceLT, Int.reduceAdd, Int.reduceSub, Int.reduceToNat, ci]))
 refine CallA.eV 5 func20 ntmps20 results20 ?_
 simp -dsimp +decide only [vt2, vy, vz, vze, vr, ty, en, ↓reduceIte, Nat.reduceSub, Nat.reduceAdd, Nat.reduceMul, Nat.reduceLT, Int.reduceAdd, Int.reduceSub, Int.reduceToNat, ci]
 refine SemA.adopt 3 27 68 (by decide) rfl ?_
 simp -dsimp +decide only [vt2, vy, vz, vze, vr, ty, en, ↓reduceIte, Nat.reduceSub, Nat.reduceAdd, Nat.reduceMul, Nat.reduceLT, Int.reduceAdd, Int.reduceSub, Int.reduceToNat, ci, vt]
 refine SemA.loopK (T.length + 1) (fun k : Nat => [(0, a), (3, .sl T.length 0 k), (4, wint (k : Int))]) (fun k => T ++ [.buf 27 68 ((timesH (l.take k)).flatMap Hdr.cs)]) (fun k => k <= l.length) (fun k => l.length - k) 0 [] 0 (fun _ : Unit => [(3, .sl T.length 0 l.length)]) (fun _ => T ++ [.buf 27 68 ((timesH l).flatMap Hdr.cs)]) (fun _ => True) (by omega) (by simp) (by (simp -dsimp +decide (disch := omega) only [vt2, vy, vz, vze, vr, ty, en, ↓reduceIte, Nat.reduceSub, Nat.reduceAdd, Nat.reduceMul, Nat.reduceLT, Int.reduceAdd, Int.reduceSub, Int.reduceToNat, ci, vi, getO_i]); first | rfl | exact ⟨rfl, rfl⟩ | done) rfl (by simp) ?_ ?_
 . rintro k g hk
   refine SemA.o ?_
   simp -dsimp +decide (disch := omega) only [vt2, vy, vz, vze, vr, ty, en, ↓reduceIte, Nat.reduceSub, Nat.reduceAdd, Nat.reduceMul, Nat.reduceLT, Int.reduceAdd, Int.reduceSub, Int.reduceToNat, ci, vi, getO_i, vt, hsr]
   refine CondP.dec (fun h => ?_) (fun h => ?_)
   . obtain ⟨x, hx⟩ : ∃ x, l[k]? = some x := ⟨l[k]'(by omega), by simp⟩
     have hnx : (timesH (l.take k)).flatMap Hdr.cs ++ (timeH x).cs = (timesH (l.take (k + 1))).flatMap Hdr.cs := by rw [List.take_add_one, hx]; simp [timesH]
     have hlen : ((timesH (l.take k)).flatMap Hdr.cs).length = k * 68 := by rw [flat_len (timesH_wd _)]; simp [timesH]; omega
     have hxo := timeH_ok x
     have hxr := Hdr.rules hxo
     have hv := vz68.2 _ hxo
     simp -dsimp +decide (disch := omega) only [vt2, vy, vz, vze, vr, ty, en, ↓reduceIte, Nat.reduceSub, Nat.reduceAdd, Nat.reduceMul, Nat.reduceLT, Int.reduceAdd, Int.reduceSub, Int.reduceToNat, ci, vi, getO_i, vt, wt, hsr, hl1, hx, ez68]
     refine ⟨⟨by omega, by omega⟩, ?_⟩
     show getO (some (timeH x).cs) _
     simp -dsimp +decide (disch := omega) only [vt2, vy, vz, vze, vr, ty, en, ↓reduceIte, Nat.reduceSub, Nat.reduceAdd, Nat.reduceMul, Nat.reduceLT, Int.reduceAdd, Int.reduceSub, Int.reduceToNat, ci, vi, getO_i, vt, wt, hsr, hl1, hx, rep1, ez68, hv, hxr, vz68, hnx, hdrs_wo _ (timesH_ok _)]
     exact ⟨⟨hlen, by omega, by omega⟩, k + 1, ⟨by omega, by omega⟩, ⟨wa.1 1, rfl, rfl⟩, rfl⟩
   . have e : k = l.length := by omega
     subst e
     simp -dsimp +decide (disch := omega) only [vt2, vy, vz, vze, vr, ty, en, ↓reduceIte, Nat.reduceSub, Nat.reduceAdd, Nat.reduceMul, Nat.reduceLT, Int.reduceAdd, Int.reduceSub, Int.reduceToNat, ci, vi, getO_i, vt, wt, hdrs_wo _ (timesH_ok _)]
     rw [List.take_length]
     exact ⟨(), rfl⟩
 . rintro _ g tmp -
   simp -dsimp +decide (disch := omega) only [vt2, vy, vz, vze, vr, ty, en, ↓reduceIte, Nat.reduceSub, Nat.reduceAdd, Nat.reduceMul, Nat.reduceLT, Int.reduceAdd, Int.reduceSub, Int.reduceToNat, ci, vi, getO_i, vt]
   refine Vw.pub T.length (o := .buf 27 68 ((timesH l).flatMap Hdr.cs)) (gn0 T _ _) rfl (hdrs_clean _) ?_
   simp -dsimp +decide only [vt2, vy, vz, vze, vr, ty, en, ↓reduceIte, Nat.reduceSub, Nat.reduceAdd, Nat.reduceMul, Nat.reduceLT, Int.reduceAdd, Int.reduceSub, Int.reduceToNat, ci, vt, wp]
   exact Vw.cut ⟨rfl, rfl, rfl⟩
end Go.Proofs.YtolaljbainjjaaaGreatDoor
namespace Go.E
section
variable {P : Program} {G : Nat -> AV} {Z Z' Z0 : Heap} {ρ ρ' ρ0 : List BI} {T T' T0 T1 S : Tbl} {w w' w0 : World} {a b : AV} {u v : Value} {K : AV -> Tbl -> Eff -> Prop} {cs : List AV} {vs : List Value} {es E : Eff}
variable {N n m : Nat} {ro : Option Nat} {ds loc : List AV} {tmp : List (Nat × AV)} {Nk R : AKont} {X : Nat -> AKont} {f : Nat -> Option Nat} {x : BI} {o : AObj}
end
section
variable {f : Nat -> Option Nat} {q : Nat -> Bool}
end
end Go.E
namespace Go.E
section
variable {P : Program} {G : Nat -> AV} {Z Z' Z0 : Heap} {ρ ρ' ρ0 : List BI} {T T' T0 : Tbl} {w w' w0 : World} {a b : AV} {u v : Value} {K : AV -> Tbl -> Eff -> Prop} {cs : List AV} {es E : Eff}
variable {N n m : Nat} {ro : Option Nat} {ds loc : List AV} {tmp : List (Nat × AV)} {Nk R : AKont} {X : Nat -> AKont}
inductive PU where
 | nil : PU
 | st : Nat -> Bool -> PU -> PU
 | alt : Nat -> PU -> Nat -> PU -> PU
 | al3 : Nat -> PU -> Nat -> PU -> Nat -> PU -> PU
def PU.len : PU -> Nat
 | .nil => 0
 | .st _ _ r => r.len + 1
 | .alt _ r _ _ => r.len + 1
 | .al3 _ r _ _ _ _ => r.len + 1
def PU.isNil : PU -> Bool
 | .nil => true
 | _ => false
def planOKU (ops : Array Oper) (cl : Nat) (o : Option Nat) : PU -> Array Bool -> Bool
 | .nil, listed => (Region.ready .any ops listed).isEmpty
 | .st i fl r, listed =>
   (if fl then (Region.ready .any ops listed).contains i && Region.free .any ops listed i && (cl != i && ((match ops[i]? with | none => false | some oi => pureOp oi.op) || blocks ops cl i listed))
    else Region.ready .any ops listed == [i] && (if r.isNil || some i == o then i == cl && decide (i < listed.size) else !(listed.getD cl false) && i != cl)) &&
   planOKU ops cl o r (listed.setIfInBounds i true)
 | .alt i r j s, listed => Region.ready .any ops listed == [i, j] && !(listed.getD cl false) && i != cl && j != cl && r.len == s.len && planOKU ops cl o r (listed.setIfInBounds i true) && planOKU ops cl o s (listed.setIfInBounds j true)
 | .al3 i r j s k t, listed => Region.ready .any ops listed == [i, j, k] && !(listed.getD cl false) && i != cl && j != cl && k != cl && r.len == s.len && r.len == t.len && planOKU ops cl o r (listed.setIfInBounds i true) && planOKU ops cl o s (listed.setIfInBounds j true) && planOKU ops cl o t (listed.setIfInBounds k true)
def planU (P : Program) (n : Nat) (base : Nat -> Value) (ops : List Oper) (cl : Option Nat) (I : World -> Prop) (ds : List Nat) : PU -> List Value -> List (Nat × Value) -> World -> (K : Kont) -> Prop
 | .nil, loc, tmp, w, K => K ds loc tmp w
 | .st i true r, loc, tmp, w, K => planO n base ops ops[i]? loc tmp
   (fun o => floatV P (ev n base loc tmp) o.op o.type I fun v => putK n o.dst v loc tmp fun loc tmp => planU P n base ops cl I ds r loc tmp w K)
   (fun o => putK n o.dst undef loc tmp fun loc tmp => planU P n base ops cl I ds r loc tmp w K)
 | .st i false r, loc, tmp, w, K => planO n base ops ops[i]? loc tmp
   (fun o => opV P (ev n base loc tmp) o.op o.type w fun v w' => putK n o.dst v loc tmp fun loc tmp => ∃ I', (r.isNil = false -> some i ≠ cl -> I' w' /\ ∀ w, I' w -> I w) /\ planU P n base ops cl I' ds r loc tmp w' K)
   (fun o => putK n o.dst undef loc tmp fun loc tmp => planU P n base ops cl I ds r loc tmp w K)
 | .alt i r j s, loc, tmp, w, K =>
   planO n base ops ops[i]? loc tmp
    (fun o => opV P (ev n base loc tmp) o.op o.type w fun v w' => putK n o.dst v loc tmp fun loc tmp => ∃ I', (I' w' /\ ∀ w, I' w -> I w) /\ planU P n base ops cl I' ds r loc tmp w' K)
    (fun o => putK n o.dst undef loc tmp fun loc tmp => planU P n base ops cl I ds r loc tmp w K) /\
   planO n base ops ops[j]? loc tmp
    (fun o => opV P (ev n base loc tmp) o.op o.type w fun v w' => putK n o.dst v loc tmp fun loc tmp => ∃ I', (I' w' /\ ∀ w, I' w -> I w) /\ planU P n base ops cl I' ds s loc tmp w' K)
    (fun o => putK n o.dst undef loc tmp fun loc tmp => planU P n base ops cl I ds s loc tmp w K)
 | .al3 i r j s k t, loc, tmp, w, K =>
   planO n base ops ops[i]? loc tmp
    (fun o => opV P (ev n base loc tmp) o.op o.type w fun v w' => putK n o.dst v loc tmp fun loc tmp => ∃ I', (I' w' /\ ∀ w, I' w -> I w) /\ planU P n base ops cl I' ds r loc tmp w' K)
    (fun o => putK n o.dst undef loc tmp fun loc tmp => planU P n base ops cl I ds r loc tmp w K) /\
   planO n base ops ops[j]? loc tmp
    (fun o => opV P (ev n base loc tmp) o.op o.type w fun v w' => putK n o.dst v loc tmp fun loc tmp => ∃ I', (I' w' /\ ∀ w, I' w -> I w) /\ planU P n base ops cl I' ds s loc tmp w' K)
    (fun o => putK n o.dst undef loc tmp fun loc tmp => planU P n base ops cl I ds s loc tmp w K) /\
   planO n base ops ops[k]? loc tmp
    (fun o => opV P (ev n base loc tmp) o.op o.type w fun v w' => putK n o.dst v loc tmp fun loc tmp => ∃ I', (I' w' /\ ∀ w, I' w -> I w) /\ planU P n base ops cl I' ds t loc tmp w' K)
    (fun o => putK n o.dst undef loc tmp fun loc tmp => planU P n base ops cl I ds t loc tmp w K)
theorem planU_any {Q : Exit -> Act -> World -> Prop} {n m cl : Nat} {oc : Option Nat} {base : Nat -> Value} {l : List Oper} {ds : List Nat} {K : Kont} (hsel : Region.noSelect l.toArray = true) (hdef : noDefer l.toArray = true) (hQ : ∀ c (a a' : Act) w, Q (.panic c) a w -> Q (.panic c) a' w) (hall : l.all (dstIn m) = true) :
 ∀ (pl : PU) (listed : Array Bool) (I : World -> Prop) (loc : List Value) (tmp : List (Nat × Value)) (w : World) (a : Act), planU P n base l oc I ds pl loc tmp w K -> planOKU l.toArray cl oc pl listed = true -> (listed.getD cl false = false -> I w) ->
  Agree n base loc tmp a -> a.tmps.size = m -> a.defers = ds.map markOf ->
  (∀ loc tmp w a, Agree n base loc tmp a -> a.tmps.size = m -> a.defers = ds.map markOf -> K ds loc tmp w -> Q .normal a w) -> AnyI ro P l.toArray Q cl I pl.len listed a w
 | .nil, listed, I, loc, tmp, w, a, h, hpl, hI, ha, hs, hd, hK => by
   simp only [planOKU, List.isEmpty_iff] at hpl
   exact ⟨hI, hpl, hK loc tmp w a ha hs hd h⟩
 | .st i fl r, listed, I, loc, tmp, w, a, h, hpl, hI, ha, hs, hd, hK => by
   rw [planOKU, Bool.and_eq_true] at hpl
   obtain ⟨hpl1, hpl2⟩ := hpl
   cases ho : l[i]? with
   | none => cases fl <;> (simp only [planU, ho, planO] at h)
   | some o =>
     have hoi : l.toArray[i]? = some o := by simpa using ho
     have hmem : o ∈ l := List.mem_of_getElem? ho
     have hd1 : dstIn m o = true := List.all_eq_true.1 hall o hmem
     have hdst : ∀ t, o.dst = some t -> t < a.tmps.size := by rw [hs]; exact dstIn_spec hd1
     have hnext : ∀ (I' : World -> Prop) v w', ((listed.setIfInBounds i true).getD cl false = false -> I' w') -> (putK n o.dst v loc tmp fun loc tmp => planU P n base l oc I' ds r loc tmp w' K) -> AnyI ro P l.toArray Q cl I' r.len (listed.setIfInBounds i true) (a.put o.dst v) w' := by
      intro I' v w' hI' hv
      obtain ⟨loc', tmp', ha', hv'⟩ := ha.put hdst v hv
      exact planU_any hsel hdef hQ hall r _ I' loc' tmp' w' _ hv' hpl2 hI' ha' (by cases o.dst <;> simp [Act.put, hs]) (by cases o.dst <;> simp [Act.put, hd]) hK
     cases fl with
     | true =>
       simp only [planU, ho, planO] at h
       rw [<- ha.ev] at h
       simp only [if_true, Bool.and_eq_true, List.contains_iff_mem, Bool.or_eq_true, Bool.not_eq_true', bne_iff_ne, ne_eq, hoi] at hpl1
       obtain ⟨⟨hp1, hp2⟩, hp4, hp3⟩ := hpl1
       have hnext' : ∀ v, (putK n o.dst v loc tmp fun loc tmp => planU P n base l oc I ds r loc tmp w K) -> AnyI ro P l.toArray Q cl I r.len (listed.setIfInBounds i true) (a.put o.dst v) w := fun v hk =>
        hnext I v w (fun hl => hI (by rw [getD_set_ne false (Ne.symm hp4)] at hl; exact hl)) hk
       rcases hp3 with hp3 | hp3
       . have hgive : ∃ v, GivesI P l.toArray (fun _ => True) o v a /\ putK n o.dst v loc tmp fun loc tmp => planU P n base l oc I ds r loc tmp w K := by
          rcases grdV_wanted h with ⟨hw, h⟩ | ⟨hw, h⟩
          . obtain ⟨v, hv, hk⟩ := floatV_run (floatV_pure hp3 h)
            exact ⟨v, .inl ⟨hw, hv⟩, hk⟩
          . exact ⟨undef, .inr ⟨hw, rfl⟩, h⟩
         obtain ⟨v, hg, hk⟩ := hgive
         exact AnyI_first2 [] (.inl fun _ => trivial) hp4 hoi (Region.noSelect_spec hsel) (noDefer_spec hdef) (fun c a w => hQ c _ _ w) r.len listed a w (fun j oj hj hne hun hno => Region.free_spec hoi hp2 j oj hj hne hun hno) (.inl fun _ => trivial) hp1 hg (hnext' v hk)
       . have hgive : ∃ v, GivesI P l.toArray I o v a /\ putK n o.dst v loc tmp fun loc tmp => planU P n base l oc I ds r loc tmp w K := by
          rcases grdV_wanted h with ⟨hw, h⟩ | ⟨hw, h⟩
          . obtain ⟨v, hv, hk⟩ := floatV_run h
            exact ⟨v, .inl ⟨hw, hv⟩, hk⟩
          . exact ⟨undef, .inr ⟨hw, rfl⟩, h⟩
         obtain ⟨v, hg, hk⟩ := hgive
         simp only [blocks, Bool.and_eq_true, Bool.or_eq_true, Bool.not_eq_true', List.contains_iff_mem, List.all_eq_true] at hp3
         obtain ⟨⟨⟨hb1, hb2⟩, hb3⟩, hb4⟩ := hp3
         refine AnyI_first2 (waitsFor l.toArray i) (.inr ⟨fun _ h => h, ?_, fun j hj oj hoj => ?_⟩) hp4 hoi (Region.noSelect_spec hsel) (noDefer_spec hdef) (fun c a w => hQ c _ _ w) r.len listed a w (fun j oj hj hne hun hno => Region.free_spec hoi hp2 j oj hj hne hun hno) (.inr ⟨hb3, hb4⟩) hp1 hg (hnext' v hk)
         . rcases hb2 with h | h
           . exact .inl h
           . right
             split at h
             . assumption
             . cases h
         . have := List.all_eq_true.1 hb1 j hj
           rw [hoj] at this
           obtain ⟨k, hk, hk'⟩ := Array.any_eq_true.1 this
           simp only [Bool.and_eq_true, Bool.or_eq_true, beq_iff_eq, List.contains_iff_mem] at hk'
           exact ⟨_, Array.getElem_mem hk, hk'⟩
     | false =>
       simp only [Bool.false_eq_true, if_false, beq_iff_eq, Bool.and_eq_true] at hpl1
       obtain ⟨hp1, hp2⟩ := hpl1
       refine ⟨hI, fun e => (by rw [e] at hp1; cases hp1), fun j hj => ?_⟩
       rw [hp1, List.mem_singleton] at hj
       subst hj
       unfold wpOpIn
       simp only [hoi]
       simp only [planU, ho, planO] at h
       rw [<- ha.ev] at h
       by_cases hcl : r.isNil = true ∨ some j = oc
       . have hcl' : (r.isNil || some j == oc) = true := by
          rcases hcl with h | h
          . simp [h]
          . simp [h]
         rw [hcl', if_pos rfl, Bool.and_eq_true, beq_iff_eq, decide_eq_true_eq] at hp2
         have hset : (listed.setIfInBounds j true).getD cl false = true := by
          rw [<- hp2.1]; simp [hp2.2]
         have hfin : ∀ (I' : World -> Prop) v w', (putK n o.dst v loc tmp fun loc tmp => planU P n base l oc I' ds r loc tmp w' K) -> AnyI ro P l.toArray Q cl I r.len (listed.setIfInBounds j true) (a.put o.dst v) w' := fun I' v w' hv =>
          (hnext I' v w' (fun hf => by rw [hset] at hf; cases hf) hv).listed _ _ _ _ hset
         rcases grdV_wanted h with ⟨hw, h⟩ | ⟨hw, h⟩
         . rw [if_pos hw]
           refine (opV_step h).wp fun v w' hv => ?_
           obtain ⟨loc', tmp', ha', I', hI', hv'⟩ := ha.put hdst v hv
           exact (planU_any hsel hdef hQ hall r _ I' loc' tmp' w' _ hv' hpl2 (fun hf => by rw [hset] at hf; cases hf) ha' (by cases o.dst <;> simp [Act.put, hs]) (by cases o.dst <;> simp [Act.put, hd]) hK).listed _ _ _ _ hset
         . rw [if_neg (by rw [hw]; simp)]
           exact ⟨fun f _ => fz_fn f, hfin I _ _ h⟩
       . have hcl' : (r.isNil || some j == oc) = false := by
          rw [not_or] at hcl
          simp [hcl.1, hcl.2]
         rw [hcl'] at hp2
         simp only [Bool.false_eq_true, if_false, Bool.and_eq_true, Bool.not_eq_true', bne_iff_ne, ne_eq] at hp2
         rw [not_or] at hcl
         have hfin : ∀ v w', (putK n o.dst v loc tmp fun loc tmp => ∃ I', (r.isNil = false -> some j ≠ oc -> I' w' /\ ∀ w, I' w -> I w) /\ planU P n base l oc I' ds r loc tmp w' K) -> AnyI ro P l.toArray Q cl I r.len (listed.setIfInBounds j true) (a.put o.dst v) w' := by
          intro v w' hv
          obtain ⟨loc', tmp', ha', I', hI', hv'⟩ := ha.put hdst v hv
          have hi' := hI' (by simpa using hcl.1) hcl.2
          exact (planU_any hsel hdef hQ hall r _ I' loc' tmp' w' (a.put o.dst v) hv' hpl2 (fun _ => hi'.1) ha' (by cases o.dst <;> simp [Act.put, hs]) (by cases o.dst <;> simp [Act.put, hd]) hK).mono hi'.2
         rcases grdV_wanted h with ⟨hw, h⟩ | ⟨hw, h⟩
         . rw [if_pos hw]
           exact (opV_step h).wp hfin
         . rw [if_neg (by rw [hw]; simp)]
           exact ⟨fun f _ => fz_fn f, hnext I _ _ (fun _ => hI hp2.1) h⟩
 | .alt i r j s, listed, I, loc, tmp, w, a, h, hpl, hI, ha, hs, hd, hK => by
   simp only [planOKU, Bool.and_eq_true, beq_iff_eq, Bool.not_eq_true', bne_iff_ne, ne_eq] at hpl
   obtain ⟨⟨⟨⟨⟨⟨hp1, hp2⟩, hp3⟩, hp4⟩, hp5⟩, hp6⟩, hp7⟩ := hpl
   obtain ⟨h1, h2⟩ := h
   refine ⟨hI, fun e => (by rw [e] at hp1; cases hp1), fun k hk => ?_⟩
   rw [hp1] at hk
   rcases List.mem_cons.1 hk with rfl | hk
   . exact stepT hall h1 ha hs hd (hI hp2) (fun I' loc tmp w a hf hi' ha hs hd => planU_any hsel hdef hQ hall r _ I' loc tmp w a hf hp6 (fun _ => hi') ha hs hd hK)
   . rw [List.mem_singleton] at hk
     subst hk
     have := stepT hall h2 ha hs hd (hI hp2) (fun I' loc tmp w a hf hi' ha hs hd => planU_any hsel hdef hQ hall s _ I' loc tmp w a hf hp7 (fun _ => hi') ha hs hd hK)
     rw [hp5]
     exact this
 | .al3 i r j s k2 t, listed, I, loc, tmp, w, a, h, hpl, hI, ha, hs, hd, hK => by
   simp only [planOKU, Bool.and_eq_true, beq_iff_eq, Bool.not_eq_true', bne_iff_ne, ne_eq] at hpl
   obtain ⟨⟨⟨⟨⟨⟨⟨⟨⟨hp1, hp2⟩, hp3⟩, hp4⟩, hp4'⟩, hp5⟩, hp5'⟩, hp6⟩, hp7⟩, hp8⟩ := hpl
   obtain ⟨h1, h2, h3⟩ := h
   refine ⟨hI, fun e => (by rw [e] at hp1; cases hp1), fun k hk => ?_⟩
   rw [hp1] at hk
   rcases List.mem_cons.1 hk with rfl | hk
   . exact stepT hall h1 ha hs hd (hI hp2) (fun I' loc tmp w a hf hi' ha hs hd => planU_any hsel hdef hQ hall r _ I' loc tmp w a hf hp6 (fun _ => hi') ha hs hd hK)
   . rcases List.mem_cons.1 hk with rfl | hk
     . have := stepT hall h2 ha hs hd (hI hp2) (fun I' loc tmp w a hf hi' ha hs hd => planU_any hsel hdef hQ hall s _ I' loc tmp w a hf hp7 (fun _ => hi') ha hs hd hK)
       rw [hp5]
       exact this
     . rw [List.mem_singleton] at hk
       subst hk
       have := stepT hall h3 ha hs hd (hI hp2) (fun I' loc tmp w a hf hi' ha hs hd => planU_any hsel hdef hQ hall t _ I' loc tmp w a hf hp8 (fun _ => hi') ha hs hd hK)
       rw [hp5']
       exact this
def planUA (P : Program) (G : Nat -> AV) (N n : Nat) (ops : List Oper) (cl : Option Nat) (keep : Nat -> Bool) : List AV -> PU -> List AV -> List (Nat × AV) -> Tbl -> Eff -> (K : AKont) -> Prop
 | ds, .nil, loc, tmp, T, E, K => K ds loc tmp T E
 | ds, .st i true r, loc, tmp, T, E, K => planOA ops ops[i]? (evA G n loc tmp)
  (fun o => rdF P (evA G n loc tmp) o.op o.type (keepT keep T) fun v => putA n o.dst v loc tmp fun loc tmp => planUA P G N n ops cl keep ds r loc tmp T E K)
  (fun o => putA n o.dst (.p undef) loc tmp fun loc tmp => planUA P G N n ops cl keep ds r loc tmp T E K)
 | ds, .st i false r, loc, tmp, T, E, K => planOA ops ops[i]? (evA G n loc tmp)
  (fun o => opA P G (evA G n loc tmp) o.op o.type T fun v T' es => putA n o.dst v (slots es loc) (slotsT es tmp) fun loc tmp => (keepOK keep es = true ∨ r.isNil = true ∨ some i = cl) /\ planUA P G N n ops cl keep (slots es ds) r loc tmp T' (recE N es E) K)
  (fun o => putA n o.dst (.p undef) loc tmp fun loc tmp => planUA P G N n ops cl keep ds r loc tmp T E K)
 | ds, .alt i r j s, loc, tmp, T, E, K => planOA ops ops[i]? (evA G n loc tmp)
  (fun o => opA P G (evA G n loc tmp) o.op o.type T fun v T' es => putA n o.dst v (slots es loc) (slotsT es tmp) fun loc tmp => (keepOK keep es = true) /\ planUA P G N n ops cl keep (slots es ds) r loc tmp T' (recE N es E) K)
  (fun o => putA n o.dst (.p undef) loc tmp fun loc tmp => planUA P G N n ops cl keep ds r loc tmp T E K) /\
   planOA ops ops[j]? (evA G n loc tmp)
    (fun o => opA P G (evA G n loc tmp) o.op o.type T fun v T' es => putA n o.dst v (slots es loc) (slotsT es tmp) fun loc tmp => (keepOK keep es = true) /\ planUA P G N n ops cl keep (slots es ds) s loc tmp T' (recE N es E) K)
    (fun o => putA n o.dst (.p undef) loc tmp fun loc tmp => planUA P G N n ops cl keep ds s loc tmp T E K)
 | ds, .al3 i r j s k t, loc, tmp, T, E, K => planOA ops ops[i]? (evA G n loc tmp)
  (fun o => opA P G (evA G n loc tmp) o.op o.type T fun v T' es => putA n o.dst v (slots es loc) (slotsT es tmp) fun loc tmp => (keepOK keep es = true) /\ planUA P G N n ops cl keep (slots es ds) r loc tmp T' (recE N es E) K)
  (fun o => putA n o.dst (.p undef) loc tmp fun loc tmp => planUA P G N n ops cl keep ds r loc tmp T E K) /\
   planOA ops ops[j]? (evA G n loc tmp)
    (fun o => opA P G (evA G n loc tmp) o.op o.type T fun v T' es => putA n o.dst v (slots es loc) (slotsT es tmp) fun loc tmp => (keepOK keep es = true) /\ planUA P G N n ops cl keep (slots es ds) s loc tmp T' (recE N es E) K)
    (fun o => putA n o.dst (.p undef) loc tmp fun loc tmp => planUA P G N n ops cl keep ds s loc tmp T E K) /\
   planOA ops ops[k]? (evA G n loc tmp)
    (fun o => opA P G (evA G n loc tmp) o.op o.type T fun v T' es => putA n o.dst v (slots es loc) (slotsT es tmp) fun loc tmp => (keepOK keep es = true) /\ planUA P G N n ops cl keep (slots es ds) t loc tmp T' (recE N es E) K)
    (fun o => putA n o.dst (.p undef) loc tmp fun loc tmp => planUA P G N n ops cl keep ds t loc tmp T E K)
theorem planUA_sound {n : Nat} {base : Nat -> Value} {ops : List Oper} {cl : Option Nat} {keep : Nat -> Bool} {K : AKont} : ∀ (pl : PU) (ds loc : List AV) (tmp : List (Nat × AV)) (dv : List Nat) (lv : List Value) (tv : List (Nat × Value)) (Z : Heap) (ρ : List BI) (T : Tbl) (w : World) (E : Eff),
 planUA P G ρ0.length n ops cl keep ds pl loc tmp T E K -> Frm G Z0 ρ0 T0 w0 Z ρ T w E -> At Z ρ ds loc tmp dv lv tv -> planU P n base ops cl (Agr Z ρ (keepT keep T) w) dv pl lv tv w (LK G Z0 ρ0 T0 w0 K)
 | .nil, ds, loc, tmp, dv, lv, tv, Z, ρ, T, w, E, h, hf, ha => ⟨Z, ρ, T, E, ds, loc, tmp, hf, ha.ds, ha.loc, ha.tmp, h⟩
 | .st i true r, ds, loc, tmp, dv, lv, tv, Z, ρ, T, w, E, h, hf, ha => by
   simp only [planUA, planOA] at h
   simp only [planU, planO]
   have he := evA_rel (n := n) (base := base) hf.g ha.loc ha.tmp
   cases ho : ops[i]? with
   | none => rw [ho] at h; exact h.elim
   | some o =>
     rw [ho] at h
     simp only at h ⊢
     refine grdA_sound h he (fun h => ?_) (fun h => ?_)
     . refine valV_mono (rdF_sound (hf.st.keepT keep) he h) (fun _ _ h => h) (fun s h => FloatP.mono h (fun _ h => h) ?_) ?_
       all_goals
        rintro v ⟨a, h1, h2⟩
        exact putA_sound h2 h1 ha fun loc tmp lv tv hk hat => planUA_sound r _ _ _ _ _ _ _ _ _ _ _ hk hf hat
     . exact putA_sound h (.p _) ha fun loc tmp lv tv hk hat => planUA_sound r _ _ _ _ _ _ _ _ _ _ _ hk hf hat
 | .st i false r, ds, loc, tmp, dv, lv, tv, Z, ρ, T, w, E, h, hf, ha => by
   simp only [planUA, planOA] at h
   simp only [planU, planO]
   have he := evA_rel (n := n) (base := base) hf.g ha.loc ha.tmp
   cases ho : ops[i]? with
   | none => rw [ho] at h; exact h.elim
   | some o =>
     rw [ho] at h
     simp only at h ⊢
     refine grdA_sound h he (fun h => ?_) (fun h => ?_)
     . refine opV_mono (opA_sound hf.g hf.st he h) fun v w' h2 => ?_
       obtain ⟨Z', ρ', T', es, a, k1, k2, k3, k4⟩ := h2
       refine putA_sound k4 k3 (ha.step k2) fun loc tmp lv tv hk hat => ⟨Agr Z' ρ' (keepT keep T') w', fun hr hc => ?_, planUA_sound r _ _ _ _ _ _ _ _ _ _ _ hk.2 (hf.step k1 k2) hat⟩
       exact ⟨agr_self (k1.keepT keep), agr_step k2 (hk.1.resolve_right (fun h => h.elim (fun h => by rw [hr] at h; cases h) hc))⟩
     . exact putA_sound h (.p _) ha fun loc tmp lv tv hk hat => planUA_sound r _ _ _ _ _ _ _ _ _ _ _ hk hf hat
 | .alt i r j s, ds, loc, tmp, dv, lv, tv, Z, ρ, T, w, E, h, hf, ha => by
   simp only [planUA, planOA] at h
   simp only [planU, planO]
   have he := evA_rel (n := n) (base := base) hf.g ha.loc ha.tmp
   refine ⟨?_, ?_⟩
   . have h := h.1
     cases ho : ops[i]? with
     | none => rw [ho] at h; exact h.elim
     | some o =>
       rw [ho] at h
       simp only at h ⊢
       refine grdA_sound h he (fun h => ?_) (fun h => ?_)
       . refine opV_mono (opA_sound hf.g hf.st he h) fun v w' h2 => ?_
         obtain ⟨Z', ρ', T', es, a, k1, k2, k3, k4⟩ := h2
         refine putA_sound k4 k3 (ha.step k2) fun loc tmp lv tv hk hat => ⟨Agr Z' ρ' (keepT keep T') w', ⟨agr_self (k1.keepT keep), agr_step k2 hk.1⟩, planUA_sound r _ _ _ _ _ _ _ _ _ _ _ hk.2 (hf.step k1 k2) hat⟩
       . exact putA_sound h (.p _) ha fun loc tmp lv tv hk hat => planUA_sound r _ _ _ _ _ _ _ _ _ _ _ hk hf hat
   . have h := h.2
     cases ho : ops[j]? with
     | none => rw [ho] at h; exact h.elim
     | some o =>
       rw [ho] at h
       simp only at h ⊢
       refine grdA_sound h he (fun h => ?_) (fun h => ?_)
       . refine opV_mono (opA_sound hf.g hf.st he h) fun v w' h2 => ?_
         obtain ⟨Z', ρ', T', es, a, k1, k2, k3, k4⟩ := h2
         refine putA_sound k4 k3 (ha.step k2) fun loc tmp lv tv hk hat => ⟨Agr Z' ρ' (keepT keep T') w', ⟨agr_self (k1.keepT keep), agr_step k2 hk.1⟩, planUA_sound s _ _ _ _ _ _ _ _ _ _ _ hk.2 (hf.step k1 k2) hat⟩
       . exact putA_sound h (.p _) ha fun loc tmp lv tv hk hat => planUA_sound s _ _ _ _ _ _ _ _ _ _ _ hk hf hat
 | .al3 i r j s k3 t, ds, loc, tmp, dv, lv, tv, Z, ρ, T, w, E, h, hf, ha => by
   simp only [planUA, planOA] at h
   simp only [planU, planO]
   have he := evA_rel (n := n) (base := base) hf.g ha.loc ha.tmp
   refine ⟨?_, ?_, ?_⟩
   . have h := h.1
     cases ho : ops[i]? with
     | none => rw [ho] at h; exact h.elim
     | some o =>
       rw [ho] at h
       simp only at h ⊢
       refine grdA_sound h he (fun h => ?_) (fun h => ?_)
       . refine opV_mono (opA_sound hf.g hf.st he h) fun v w' h2 => ?_
         obtain ⟨Z', ρ', T', es, a, k1, k2, k3, k4⟩ := h2
         refine putA_sound k4 k3 (ha.step k2) fun loc tmp lv tv hk hat => ⟨Agr Z' ρ' (keepT keep T') w', ⟨agr_self (k1.keepT keep), agr_step k2 hk.1⟩, planUA_sound r _ _ _ _ _ _ _ _ _ _ _ hk.2 (hf.step k1 k2) hat⟩
       . exact putA_sound h (.p _) ha fun loc tmp lv tv hk hat => planUA_sound r _ _ _ _ _ _ _ _ _ _ _ hk hf hat
   . have h := h.2.1
     cases ho : ops[j]? with
     | none => rw [ho] at h; exact h.elim
     | some o =>
       rw [ho] at h
       simp only at h ⊢
       refine grdA_sound h he (fun h => ?_) (fun h => ?_)
       . refine opV_mono (opA_sound hf.g hf.st he h) fun v w' h2 => ?_
         obtain ⟨Z', ρ', T', es, a, k1, k2, k3, k4⟩ := h2
         refine putA_sound k4 k3 (ha.step k2) fun loc tmp lv tv hk hat => ⟨Agr Z' ρ' (keepT keep T') w', ⟨agr_self (k1.keepT keep), agr_step k2 hk.1⟩, planUA_sound s _ _ _ _ _ _ _ _ _ _ _ hk.2 (hf.step k1 k2) hat⟩
       . exact putA_sound h (.p _) ha fun loc tmp lv tv hk hat => planUA_sound s _ _ _ _ _ _ _ _ _ _ _ hk hf hat
   . have h := h.2.2
     cases ho : ops[k3]? with
     | none => rw [ho] at h; exact h.elim
     | some o =>
       rw [ho] at h
       simp only at h ⊢
       refine grdA_sound h he (fun h => ?_) (fun h => ?_)
       . refine opV_mono (opA_sound hf.g hf.st he h) fun v w' h2 => ?_
         obtain ⟨Z', ρ', T', es, a, k1, k2, k3, k4⟩ := h2
         refine putA_sound k4 k3 (ha.step k2) fun loc tmp lv tv hk hat => ⟨Agr Z' ρ' (keepT keep T') w', ⟨agr_self (k1.keepT keep), agr_step k2 hk.1⟩, planUA_sound t _ _ _ _ _ _ _ _ _ _ _ hk.2 (hf.step k1 k2) hat⟩
       . exact putA_sound h (.p _) ha fun loc tmp lv tv hk hat => planUA_sound t _ _ _ _ _ _ _ _ _ _ _ hk hf hat
theorem SemA.drawU0 {id : Nat} {ops : Array Oper} (cl : Nat) (oc : Option Nat) (keep : Nat -> Bool) (pl : PU) (hm : P.follows .mixedOrders = true)
 (hok : (Region.noSelect ops && noDefer ops && ops.toList.all (dstIn m) && pl.len == ops.size && planOKU ops cl oc pl (Array.replicate ops.size false)) = true)
 (h : planUA P G N n ops.toList oc keep ds pl loc [] T E Nk) : SemA P G N ro n m (.region id ops true) ds loc tmp T E Nk X R := by
 simp only [Bool.and_eq_true, beq_iff_eq] at hok
 obtain ⟨⟨⟨⟨h1, h0⟩, h2⟩, h3⟩, h4⟩ := hok
 intro Z0 ρ0 T0 w0 Z ρ w dv lv tv hN hf ha
 refine SemV.cleared ?_
 intro a haa Qs hQs
 refine wpIn_mono (Q := fun e a w => ∃ dv lv tv, Fits' n m dv lv tv a /\ mkQ (LK G Z0 ρ0 T0 w0 Nk) (fun i => LK G Z0 ρ0 T0 w0 (X i)) (LK G Z0 ρ0 T0 w0 R) e dv lv tv w) ?_ (fun e a w ⟨ds, loc, tmp, hf, hq⟩ => hQs _ _ _ _ _ _ hf hq)
 have hdr : Alike { w with drawn := w.drawn + 1 } w := ⟨rfl, rfl, rfl⟩
 have hf' := hf.same hdr
 subst hN
 refine wpIn_region_any hm (AnyI.any (cl := cl) (I := Agr Z ρ (keepT keep T) { w with drawn := w.drawn + 1 }) _ _ _ _ ?_)
 have := planU_any (P := P) (cl := cl) (oc := oc) (ro := ro) (Q := fun e a w => ∃ dv lv tv, Fits' n m dv lv tv a /\ mkQ (LK G Z0 ρ0 T0 w0 Nk) (fun i => LK G Z0 ρ0 T0 w0 (X i)) (LK G Z0 ρ0 T0 w0 R) e dv lv tv w) (l := ops.toList) (K := LK G Z0 ρ0 T0 w0 Nk) (by simpa using h1) (by simpa using h0) (fun c a a' w ⟨ds, loc, tmp, _, hq⟩ => hq.elim) h2 pl
  (Array.replicate ops.size false) (Agr Z ρ (keepT keep T) { w with drawn := w.drawn + 1 }) lv [] { w with drawn := w.drawn + 1 } a (planUA_sound pl ds loc [] dv lv [] Z ρ T _ E h hf' ha.clear) (by simpa using h4) (fun _ => agr_self (hf'.st.keepT keep)) haa.clear haa.size haa.defers
  (fun loc tmp w a h1 h2 h3 hk => ⟨dv, loc, tmp, ⟨⟨_, h1⟩, h2, h3⟩, hk⟩)
 rw [h3] at this
 simpa using this
theorem SemA.drawU {id : Nat} {ops : Array Oper} (L : List (Nat × AV)) (Tb : Tbl) (Ei : Eff) (cl : Nat) (keep : Nat -> Bool) (pl : PU) (hm : P.follows .mixedOrders = true)
 (hok : (Region.noSelect ops && noDefer ops && ops.toList.all (dstIn m) && pl.len == ops.size && planOKU ops cl (some cl) pl (Array.replicate ops.size false)) = true)
 (h : planUA P G N n ops.toList (some cl) keep ds pl loc [] T E (fun ds' loc' _ T' E' => SeeL G N n ds' loc' T' E' ds L Tb Ei)) (next : ∀ g tmp, Nk ds (mkA g L 0 n) tmp Tb Ei) : SemA P G N ro n m (.region id ops true) ds loc tmp T E Nk X R := by
 have h0 := SemA.drawU0 (ro := ro) (X := X) (R := R) (tmp := tmp) (id := id) cl (some cl) keep pl hm hok h
 intro Z0 ρ0 T0 w0 Z ρ w dv lv tv hN hf ha
 refine (h0 Z0 ρ0 T0 w0 Z ρ w dv lv tv hN hf ha).mono fun e dv lv tv w hq => ?_
 cases e with
 | normal =>
   obtain ⟨Z1, ρ1, T1, E1, ds1, loc1, tmp1, g1, g2, g3, g4, hv⟩ := hq
   obtain ⟨Z2, ρ2, loc2, k1, k2, k3⟩ := hv Z0 ρ0 T0 w0 Z1 ρ1 w dv lv hN g1 ⟨g2, g3, .nil⟩
   obtain ⟨g, rfl⟩ := k3.elim
   exact ⟨Z2, ρ2, Tb, Ei, ds, _, _, k1, k2.ds, k2.loc, RelT.all tv, next g _⟩
 | exit i => exact hq
 | ret => exact hq
 | _ => exact hq.elim
theorem vpu :
 (∀ (P : Program) (G : Nat -> AV) (N n : Nat) (ops : List Oper) (cl : Option Nat) (keep : Nat -> Bool) (ds : List AV) (loc : List AV) (tmp : List (Nat × AV)) (T : Tbl) (E : Eff) (K : AKont), planUA P G N n ops cl keep ds .nil loc tmp T E K = K ds loc tmp T E) /\
 (∀ (P : Program) (G : Nat -> AV) (N n : Nat) (ops : List Oper) (cl : Option Nat) (keep : Nat -> Bool) (ds : List AV) (loc : List AV) (tmp : List (Nat × AV)) (T : Tbl) (E : Eff) (K : AKont) (i : Nat) (r : PU), planUA P G N n ops cl keep ds (.st i true r) loc tmp T E K = (planOA ops ops[i]? (evA G n loc tmp)
     (fun o => rdF P (evA G n loc tmp) o.op o.type (keepT keep T) fun v => putA n o.dst v loc tmp fun loc tmp => planUA P G N n ops cl keep ds r loc tmp T E K)
     (fun o => putA n o.dst (.p undef) loc tmp fun loc tmp => planUA P G N n ops cl keep ds r loc tmp T E K))) /\
 (∀ (P : Program) (G : Nat -> AV) (N n : Nat) (ops : List Oper) (cl : Option Nat) (keep : Nat -> Bool) (ds : List AV) (loc : List AV) (tmp : List (Nat × AV)) (T : Tbl) (E : Eff) (K : AKont) (i : Nat) (r : PU), planUA P G N n ops cl keep ds (.st i false r) loc tmp T E K = (planOA ops ops[i]? (evA G n loc tmp)
     (fun o => opA P G (evA G n loc tmp) o.op o.type T fun v T' es => putA n o.dst v (slots es loc) (slotsT es tmp) fun loc tmp => (keepOK keep es = true ∨ r.isNil = true ∨ some i = cl) /\ planUA P G N n ops cl keep (slots es ds) r loc tmp T' (recE N es E) K)
     (fun o => putA n o.dst (.p undef) loc tmp fun loc tmp => planUA P G N n ops cl keep ds r loc tmp T E K))) /\
 (∀ (P : Program) (G : Nat -> AV) (N n : Nat) (ops : List Oper) (cl : Option Nat) (keep : Nat -> Bool) (ds : List AV) (loc : List AV) (tmp : List (Nat × AV)) (T : Tbl) (E : Eff) (K : AKont) (i : Nat) (r : PU) (j : Nat) (s : PU), planUA P G N n ops cl keep ds (.alt i r j s) loc tmp T E K = (planOA ops ops[i]? (evA G n loc tmp)
     (fun o => opA P G (evA G n loc tmp) o.op o.type T fun v T' es => putA n o.dst v (slots es loc) (slotsT es tmp) fun loc tmp => (keepOK keep es = true) /\ planUA P G N n ops cl keep (slots es ds) r loc tmp T' (recE N es E) K)
     (fun o => putA n o.dst (.p undef) loc tmp fun loc tmp => planUA P G N n ops cl keep ds r loc tmp T E K) /\
  planOA ops ops[j]? (evA G n loc tmp)
   (fun o => opA P G (evA G n loc tmp) o.op o.type T fun v T' es => putA n o.dst v (slots es loc) (slotsT es tmp) fun loc tmp => (keepOK keep es = true) /\ planUA P G N n ops cl keep (slots es ds) s loc tmp T' (recE N es E) K)
   (fun o => putA n o.dst (.p undef) loc tmp fun loc tmp => planUA P G N n ops cl keep ds s loc tmp T E K))) /\
  (∀ (P : Program) (G : Nat -> AV) (N n : Nat) (ops : List Oper) (cl : Option Nat) (keep : Nat -> Bool) (ds : List AV) (loc : List AV) (tmp : List (Nat × AV)) (T : Tbl) (E : Eff) (K : AKont) (i : Nat) (r : PU) (j : Nat) (s : PU) (k : Nat) (t : PU), planUA P G N n ops cl keep ds (.al3 i r j s k t) loc tmp T E K = (planOA ops ops[i]? (evA G n loc tmp)
   (fun o => opA P G (evA G n loc tmp) o.op o.type T fun v T' es => putA n o.dst v (slots es loc) (slotsT es tmp) fun loc tmp => (keepOK keep es = true) /\ planUA P G N n ops cl keep (slots es ds) r loc tmp T' (recE N es E) K)
   (fun o => putA n o.dst (.p undef) loc tmp fun loc tmp => planUA P G N n ops cl keep ds r loc tmp T E K) /\
  planOA ops ops[j]? (evA G n loc tmp)
   (fun o => opA P G (evA G n loc tmp) o.op o.type T fun v T' es => putA n o.dst v (slots es loc) (slotsT es tmp) fun loc tmp => (keepOK keep es = true) /\ planUA P G N n ops cl keep (slots es ds) s loc tmp T' (recE N es E) K)
   (fun o => putA n o.dst (.p undef) loc tmp fun loc tmp => planUA P G N n ops cl keep ds s loc tmp T E K) /\
  planOA ops ops[k]? (evA G n loc tmp)
   (fun o => opA P G (evA G n loc tmp) o.op o.type T fun v T' es => putA n o.dst v (slots es loc) (slotsT es tmp) fun loc tmp => (keepOK keep es = true) /\ planUA P G N n ops cl keep (slots es ds) t loc tmp T' (recE N es E) K)
   (fun o => putA n o.dst (.p undef) loc tmp fun loc tmp => planUA P G N n ops cl keep ds t loc tmp T E K))) /\ (PU.nil.isNil = true) /\ (∀ i b r, (PU.st i b r).isNil = false) /\ (∀ i r j s, (PU.alt i r j s).isNil = false) /\ (∀ i r j s k t, (PU.al3 i r j s k t).isNil = false) :=
 ⟨fun _ _ _ _ _ _ _ _ _ _ _ _ _ => rfl, fun _ _ _ _ _ _ _ _ _ _ _ _ _ _ _ => rfl, fun _ _ _ _ _ _ _ _ _ _ _ _ _ _ _ => rfl, fun _ _ _ _ _ _ _ _ _ _ _ _ _ _ _ _ _ => rfl, fun _ _ _ _ _ _ _ _ _ _ _ _ _ _ _ _ _ _ _ => rfl, rfl, fun _ _ _ => rfl, fun _ _ _ _ => rfl, fun _ _ _ _ _ _ => rfl⟩
end
end Go.E
namespace Go.Proofs.YtolaljbainjjaaaGreatDoor
open Go.E Go.Proofs.YtolaljbainjjaaaGreatDoor.Tryz Go.Proofs.Tryz
theorem mineAt_ok (t : Nat) : ∀ (k n : Nat) (h : Hdr), h.Ok -> (mineAt h t n k).1.Ok
 | 0, _, _, hh => hh
 | k + 1, n, h, hh => by
   rw [mineAt]
   split
   . exact ⟨hh.p, hh.r⟩
   . exact mineAt_ok t k (n + 1) _ ⟨hh.p, hh.r⟩
theorem mineB_ok {p : Par} {hs : List Hdr} {time : UInt32} {root : List UInt8} {tries : UInt32} (hr : root.length = 32) : (mineB p hs time root tries).1.Ok := by
 unfold mineB
 cases hs.getLast? with
 | none => exact ⟨rfl, hr⟩
 | some la =>
   cases ofT (bitsB p hs).toNat with
   | none => exact ⟨la.id_len, hr⟩
   | some t => exact mineAt_ok _ _ _ _ ⟨la.id_len, hr⟩
def rootB (i : Nat) (s : UInt8) : List UInt8 := UInt8.ofInt (i : Int) :: s :: List.replicate 30 0
theorem ezr (i : Nat) (s : UInt8) : [AV.p (Value.int IntKind.u8 ((UInt8.ofInt (i : Int)).toNat : Int)), AV.p (Value.int IntKind.u8 (s.toNat : Int)), oB, oB, oB, oB, oB, oB, oB, oB, oB, oB, oB, oB, oB, oB, oB, oB, oB, oB, oB, oB, oB, oB, oB, oB, oB, oB, oB, oB, oB, oB] = (rootB i s).map by8 := rfl
theorem rootB_len (i : Nat) (s : UInt8) : (rootB i s).length = 32 := rfl
noncomputable def nextB (p : Par) (i : Nat) (hs : List Hdr) (s : UInt8) : Hdr × Bool := mineB p hs (medB hs + 1 + s.toUInt32) (rootB i s) 200
theorem nextB_ok (p : Par) (i : Nat) (hs : List Hdr) (s : UInt8) : (nextB p i hs s).1.Ok := mineB_ok (rootB_len i s)
noncomputable def chainGo (p : Par) : Nat -> List Hdr -> List UInt8 -> List Hdr
 | _, hs, [] => hs
 | i, hs, s :: r => if (nextB p i hs s).2 then chainGo p (i + 1) (hs ++ [(nextB p i hs s).1]) r else hs
noncomputable def chainB (p : Par) (steps : List UInt8) : List Hdr := chainGo p 0 [p.first] steps
theorem keep_frontN (T l : Tbl) (j : Nat) : ∃ l', keepT (fun i => decide (i < T.length + j)) (T ++ l) = T ++ l' := by
 refine ⟨(keepT (fun i => decide (i < T.length + j)) (T ++ l)).drop T.length, ?_⟩
 refine List.ext_getElem? fun k => ?_
 rw [keepT_get]
 by_cases hk : k < T.length
 . rw [List.getElem?_append_left hk, List.getElem?_append_left hk]
   have : keepO (fun i => decide (i < T.length + j)) k = id := by
    funext o; unfold keepO; simp only [decide_eq_true (show k < T.length + j by omega)]; rfl
   rw [this]; simp
 . rw [List.getElem?_append_right (l₁ := T) (by omega), List.getElem?_append_right (l₁ := T) (by omega), List.getElem?_drop, keepT_get, show T.length + (k - T.length) = k by omega, List.getElem?_append_right (by omega)]
theorem chain_ok {T : Tbl} {p : Par} (ok : p.Ok) {a : AV} {steps : List UInt8} (hb : Bs T a steps) (hl : steps.length <= 1000) : CallA prog G 16 [.ag p.cs, a] T fun v T' es => v = .vs ((chainB p steps).flatMap Hdr.cs) (chainB p steps).length /\ T' = T /\ es = [] := by
 refine CallA.wfs fun wf => ?_
 have wt := wf.t
 have wp := wf.p
 have wa := wf.arg a (by simp)
 have hr := Par.rules ok
 have hsr := Sl.rules hb (by decide)
 have g0 := fun l => gn0 T (.cells 29 p.cs) l
 have hfr := Hdr.rules ok.f
 have hv := vz68.2 _ ok.f
 refine CallA.eV 9 func16 ntmps16 results16 ?_
 simp -dsimp +decide only [vt2, vy, vz, vze, vr, ty, en, ↓reduceIte, Nat.reduceSub, Nat.reduceAdd, Nat.reduceMul, Nat.reduceLT, Int.reduceAdd, Int.reduceSub, Int.reduceToNat, ci]
 simp -dsimp +decide (disch := omega) only [vt2, vy, vz, vze, vr, ty, en, ↓reduceIte, Nat.reduceSub, Nat.reduceAdd, Nat.reduceMul, Nat.reduceLT, Int.reduceAdd, Int.reduceSub, Int.reduceToNat, ci, vi, getO_i, vt, hr, hfr, rep1, ez68, hv, vz68]
 have e1 : p.first.cs = [p.first].flatMap Hdr.cs := by simp
 rw [e1]
 refine SemA.loopK (T.length + 2) (fun s : Nat × List Hdr => [(1, a), (2, .ptr T.length 0), (5, .sl (T.length + 1) 0 s.2.length), (6, wint (s.1 : Int))]) (fun s => T ++ [.cells 29 p.cs, .buf 27 68 (s.2.flatMap Hdr.cs)]) (fun s => s.1 <= steps.length /\ s.2.length = s.1 + 1 /\ (∀ x ∈ s.2, x.Ok) /\ chainB p steps = chainGo p s.1 s.2 (steps.drop s.1)) (fun s => steps.length - s.1) (0, [p.first]) [] 0 (fun _ : Unit => [(5, .sl (T.length + 1) 0 (chainB p steps).length)]) (fun _ => T ++ [.cells 29 p.cs, .buf 27 68 ((chainB p steps).flatMap Hdr.cs)]) (fun _ => ∀ x ∈ chainB p steps, x.Ok) (by omega) ⟨by simp, rfl, fun x hx => by simp at hx; rw [hx]; exact ok.f, rfl⟩ (by (simp -dsimp +decide (disch := omega) only [vt2, vy, vz, vze, vr, ty, en, ↓reduceIte, Nat.reduceSub, Nat.reduceAdd, Nat.reduceMul, Nat.reduceLT, Int.reduceAdd, Int.reduceSub, Int.reduceToNat, ci, vi, getO_i]); first | rfl | exact ⟨rfl, rfl⟩ | done) rfl (by simp) ?_ ?_
 . rintro ⟨i, hs⟩ g ⟨hi, hsl, hso, hch⟩
   dsimp only at hi hsl hso hch
   refine SemA.o ?_
   simp -dsimp +decide (disch := omega) only [vt2, vy, vz, vze, vr, ty, en, ↓reduceIte, Nat.reduceSub, Nat.reduceAdd, Nat.reduceMul, Nat.reduceLT, Int.reduceAdd, Int.reduceSub, Int.reduceToNat, ci, vi, getO_i, vt, hsr]
   refine CondP.dec (fun h => ?_) (fun h => ?_)
   . obtain ⟨s, hs1⟩ : ∃ s, steps[i]? = some s := ⟨steps[i]'(by omega), by simp⟩
     have hd : steps.drop i = s :: steps.drop (i + 1) := by
      rw [List.drop_eq_getElem_cons (by omega)]
      rw [List.getElem?_eq_getElem (by omega)] at hs1
      rw [Option.some.inj hs1]
     rw [hd, chainGo] at hch
     obtain ⟨R, hR⟩ : ∃ R, R = nextB p i hs s := ⟨_, rfl⟩
     have hRo : R.1.Ok := by rw [hR]; exact nextB_ok ..
     rw [<- hR] at hch
     have kk : (∀ k j : Nat, decide (T.length + k < T.length + j) = decide (k < j)) /\ (∀ j : Nat, decide (T.length < T.length + j) = decide (0 < j)) := ⟨fun k j => by simp, fun j => by simp⟩
     simp -dsimp +decide (disch := omega) only [vt2, vy, vz, vze, vr, ty, en, ↓reduceIte, Nat.reduceSub, Nat.reduceAdd, Nat.reduceMul, Nat.reduceLT, Int.reduceAdd, Int.reduceSub, Int.reduceToNat, ci, vi, getO_i, vt]
     refine SemA.drawU [(1, a), (2, .ptr T.length 0), (5, .sl (T.length + 1) 0 hs.length), (6, wint (i : Int)), (7, .ptr (T.length + 2) 0), (8, .p (.bool R.2))] (T ++ [.cells 29 p.cs, .buf 27 68 (hs.flatMap Hdr.cs), .cells 27 R.1.cs]) [] 23 (fun i => decide (i < T.length + 2)) (.st 0 true (.st 1 true (.st 2 true (.st 5 true (.st 6 true (.st 7 true (.st 8 true (.st 9 true (.st 11 true (.st 12 true (.st 13 true (.st 14 true (.st 15 true (.st 16 true (.st 17 true (.alt 3 (.st 4 true (.st 10 true (.alt 18 (.st 19 true (.st 20 true (.st 21 true (.st 22 false (.st 23 false (.st 24 true .nil)))))) 22 (.st 18 false (.st 19 true (.st 20 true (.st 21 true (.st 23 false (.st 24 true .nil))))))))) 22 (.st 3 false (.st 4 true (.st 10 true (.st 18 false (.st 19 true (.st 20 true (.st 21 true (.st 23 false (.st 24 true .nil))))))))))))))))))))))))) mixed (by kernel_rfl) ?_ ?_
     . have kf : ∀ l2, ∃ l', keepT (fun i => decide (i < T.length + 2)) (T ++ l2) = T ++ l' := fun l2 => keep_frontN T l2 2
       have kix := fun (l2 : Tbl) (ik : IntKind) (z : Int) (K : AV -> Prop) => (show ixA 1 a (.p (.int ik z)) (keepT (fun i => decide (i < T.length + 2)) (T ++ l2)) K = ((0 <= z /\ z < steps.length) /\ K (a.pl (z.toNat * 1))) by
        obtain ⟨l', e⟩ := kf l2
        rw [e]; exact (hb.app l').ix (by decide) ik z)
       have kld := fun (l2 : Tbl) (K : AV -> Prop) => (show loadA prog 5 (a.pl i) (keepT (fun i => decide (i < T.length + 2)) (T ++ l2)) K = K (by8 s) by
        obtain ⟨l', e⟩ := kf l2
        rw [e]
        have := Sl.loads (hb.app l') (P := prog) (t := 5) (by (simp -dsimp +decide only [vt2, vy, vz, vze, vr, ty, en, ↓reduceIte, Nat.reduceSub, Nat.reduceAdd, Nat.reduceMul, Nat.reduceLT, Int.reduceAdd, Int.reduceSub, Int.reduceToNat, ci]))
        rw [this.2 i K (by omega), List.getElem?_map, hs1]; rfl)
       simp -dsimp +decide (disch := omega) only [vt2, vy, vz, vze, vr, ty, en, ↓reduceIte, Nat.reduceSub, Nat.reduceAdd, Nat.reduceMul, Nat.reduceLT, Int.reduceAdd, Int.reduceSub, Int.reduceToNat, ci, vi, getO_i, vpu, vt, hr, hsr, kix, kld, kk, keepT_get, keepO, ezr]
       have hmed := fun (l : Tbl) => median13_ok (T := T ++ .cells 29 p.cs :: .buf 27 68 (hs.flatMap Hdr.cs) :: l) (Es.obj (xs := hs) (gn1 T _ _ _) rfl fun x hx => Hdr.cs_len (hso x hx)) hso (by omega)
       have hmine := fun (l : Tbl) => mine13_ok (T := T ++ .cells 29 p.cs :: .buf 27 68 (hs.flatMap Hdr.cs) :: l) ok (Es.obj (xs := hs) (gn1 T _ _ _) rfl fun x hx => Hdr.cs_len (hso x hx)) hso (by omega) (time := medB hs + UInt32.ofInt 1 + s.toUInt32) (tries := 200) (root := rootB i s) (rootB_len i s)
       have hMR : mineB p hs (medB hs + UInt32.ofInt 1 + s.toUInt32) (rootB i s) 200 = R := by rw [hR, nextB]; rfl
       rw [hMR] at hmine
       have hRl := Hdr.cs_len hRo
       have hRr := Hdr.rules hRo
       have hvR := vz68.2 _ hRo
       refine ⟨⟨by omega, by omega⟩, ⟨by omega, by omega⟩, ?_, ?_⟩
       . refine (hmed _).det' ?_
         simp -dsimp +decide (disch := omega) only [vt2, vy, vz, vze, vr, ty, en, ↓reduceIte, Nat.reduceSub, Nat.reduceAdd, Nat.reduceMul, Nat.reduceLT, Int.reduceAdd, Int.reduceSub, Int.reduceToNat, ci, vi, getO_i, vpu, vt, wt, hr, kk, keepT_get, keepO, ez68]
         refine ⟨(hmine _).det' ?_, (hmine _).det' ?_⟩
         . simp -dsimp +decide (disch := omega) only [vt2, vy, vz, vze, vr, ty, en, ↓reduceIte, Nat.reduceSub, Nat.reduceAdd, Nat.reduceMul, Nat.reduceLT, Int.reduceAdd, Int.reduceSub, Int.reduceToNat, ci, vi, getO_i, vpu, vt, wt, wa, hr, kk, keepT_get, keepO, ez68, vz68, hRl, hRr, hvR]
           exact SeeL.done ⟨rfl, ⟨rfl, rfl, rfl, rfl, rfl, rfl, rfl⟩, rfl, by simp⟩
         . simp -dsimp +decide (disch := omega) only [vt2, vy, vz, vze, vr, ty, en, ↓reduceIte, Nat.reduceSub, Nat.reduceAdd, Nat.reduceMul, Nat.reduceLT, Int.reduceAdd, Int.reduceSub, Int.reduceToNat, ci, vi, getO_i, vpu, vt, wt, wa, hr, kk, keepT_get, keepO, ez68, vz68, hRl, hRr, hvR]
           exact SeeL.done ⟨rfl, ⟨rfl, rfl, rfl, rfl, rfl, rfl, rfl⟩, rfl, by simp⟩
       . refine (hmed _).det' ?_
         simp -dsimp +decide (disch := omega) only [vt2, vy, vz, vze, vr, ty, en, ↓reduceIte, Nat.reduceSub, Nat.reduceAdd, Nat.reduceMul, Nat.reduceLT, Int.reduceAdd, Int.reduceSub, Int.reduceToNat, ci, vi, getO_i, vpu, vt, wt, hr, kk, keepT_get, keepO, ez68]
         refine (hmine _).det' ?_
         simp -dsimp +decide (disch := omega) only [vt2, vy, vz, vze, vr, ty, en, ↓reduceIte, Nat.reduceSub, Nat.reduceAdd, Nat.reduceMul, Nat.reduceLT, Int.reduceAdd, Int.reduceSub, Int.reduceToNat, ci, vi, getO_i, vpu, vt, wt, wa, hr, kk, keepT_get, keepO, ez68, vz68, hRl, hRr, hvR]
         exact SeeL.done ⟨rfl, ⟨rfl, rfl, rfl, rfl, rfl, rfl, rfl⟩, rfl, by simp⟩
     . intro g tmp
       have g2 := fun a b l => gn2 T a b (.cells 27 R.1.cs) l
       have hRr := Hdr.rules hRo
       have hsO : ∀ x ∈ hs ++ [R.1], x.Ok := fun x hx => by
        rcases List.mem_append.1 hx with hx | hx
        . exact hso x hx
        . rw [List.mem_singleton.1 hx]; exact hRo
       cases hR2 : R.2 with
       | false =>
         rw [hR2] at hch
         rw [if_neg (by decide)] at hch
         rw [hch]
         simp -dsimp +decide (disch := omega) only [vt2, vy, vz, vze, vr, ty, en, ↓reduceIte, Nat.reduceSub, Nat.reduceAdd, Nat.reduceMul, Nat.reduceLT, Int.reduceAdd, Int.reduceSub, Int.reduceToNat, ci, vi, getO_i, vt, bb2]
         refine Vw.pub (T.length + 1) (o := .buf 27 68 (hs.flatMap Hdr.cs)) (gn1 T _ _ _) rfl (hdrs_clean _) ?_
         simp -dsimp +decide only [vt2, vy, vz, vze, vr, ty, en, ↓reduceIte, Nat.reduceSub, Nat.reduceAdd, Nat.reduceMul, Nat.reduceLT, Int.reduceAdd, Int.reduceSub, Int.reduceToNat, ci, vt, wp]
         exact Vw.cut ⟨rfl, rfl, rfl⟩
       | true =>
         rw [hR2] at hch
         rw [if_pos rfl] at hch
         have hnx : hs.flatMap Hdr.cs ++ R.1.cs = (hs ++ [R.1]).flatMap Hdr.cs := by simp
         have hvR := vz68.2 _ hRo
         have hlen : (hs.flatMap Hdr.cs).length = hs.length * 68 := flat_len fun x hx => Hdr.cs_len (hso x hx)
         simp -dsimp +decide (disch := omega) only [vt2, vy, vz, vze, vr, ty, en, ↓reduceIte, Nat.reduceSub, Nat.reduceAdd, Nat.reduceMul, Nat.reduceLT, Int.reduceAdd, Int.reduceSub, Int.reduceToNat, ci, vi, getO_i, vt, wt, g2, hr, hRr, bb2, rep1, ez68, vz68, hvR, hnx, hdrs_wo _ hsO, wa]
         exact ⟨⟨hlen, by omega, by omega⟩, (i + 1, hs ++ [R.1]), ⟨⟨by dsimp only; omega, by simp; omega, hsO, hch⟩, by dsimp only; omega⟩, ⟨by simp, rfl⟩, rfl⟩
   . have e : i = steps.length := by omega
     subst e
     rw [List.drop_length, chainGo] at hch
     subst hch
     simp -dsimp +decide (disch := omega) only [vt2, vy, vz, vze, vr, ty, en, ↓reduceIte, Nat.reduceSub, Nat.reduceAdd, Nat.reduceMul, Nat.reduceLT, Int.reduceAdd, Int.reduceSub, Int.reduceToNat, ci, vi, getO_i, vt, wt, hr, hdrs_wo _ hso]
     exact ⟨(), hso⟩
 . rintro _ g tmp hso
   simp -dsimp +decide (disch := omega) only [vt2, vy, vz, vze, vr, ty, en, ↓reduceIte, Nat.reduceSub, Nat.reduceAdd, Nat.reduceMul, Nat.reduceLT, Int.reduceAdd, Int.reduceSub, Int.reduceToNat, ci, vi, getO_i, vt]
   refine Vw.pub (T.length + 1) (o := .buf 27 68 ((chainB p steps).flatMap Hdr.cs)) (gn1 T _ _ _) rfl (hdrs_clean _) ?_
   simp -dsimp +decide only [vt2, vy, vz, vze, vr, ty, en, ↓reduceIte, Nat.reduceSub, Nat.reduceAdd, Nat.reduceMul, Nat.reduceLT, Int.reduceAdd, Int.reduceSub, Int.reduceToNat, ci, vt, wp]
   exact Vw.cut ⟨rfl, rfl, rfl⟩
theorem mineAt_is (t : Nat) : ∀ (k n : Nat) (h : Hdr), (mineAt h t n k).2 = true -> ∃ m, (mineAt h t n k).1 = { h with nonce := m } /\ meetsB { h with nonce := m } t = true
 | 0, _, _, hh => by cases hh
 | k + 1, n, h, hh => by
   rw [mineAt] at hh ⊢
   split
   . rename_i hm
     exact ⟨_, rfl, hm⟩
   . rename_i hm
     rw [if_neg hm] at hh
     obtain ⟨m, h1, h2⟩ := mineAt_is t k (n + 1) _ hh
     exact ⟨m, h1, h2⟩
def Good (p : Par) (hs : List Hdr) (h : Hdr) : Prop := prevB hs h = true /\ h.bits = bitsB p hs /\ workB h = true /\ (medB hs).toNat < h.time.toNat
theorem next_good {p : Par} {i : Nat} {hs : List Hdr} {s : UInt8} (h : (nextB p i hs s).2 = true) (hb : (medB hs).toNat + 1 + s.toNat < 2 ^ 32) : Good p hs (nextB p i hs s).1 /\ (nextB p i hs s).1.time.toNat = (medB hs).toNat + 1 + s.toNat := by
 have ht : (medB hs + 1 + s.toUInt32).toNat = (medB hs).toNat + 1 + s.toNat := by
  rw [UInt32.toNat_add, UInt32.toNat_add, UInt8.toNat_toUInt32, show (1 : UInt32).toNat = 1 from rfl]; omega
 unfold nextB mineB at h ⊢
 cases hl : hs.getLast? with
 | none => rw [hl] at h; cases h
 | some la =>
   rw [hl] at h
   simp only at h ⊢
   cases ho : ofT (bitsB p hs).toNat with
   | none => rw [ho] at h; cases h
   | some t =>
     rw [ho] at h
     simp only at h ⊢
     obtain ⟨m, h1, h2⟩ := mineAt_is t _ _ _ h
     rw [h1]
     refine ⟨⟨?_, rfl, ?_, ?_⟩, ht⟩
     . rw [prevB, hl]; simp
     . rw [workB]
       simp only
       rw [ho]; exact h2
     . simp only; omega
theorem med_le {hs : List Hdr} {B : Nat} (h : ∀ x ∈ hs, x.time.toNat <= B) : (medB hs).toNat <= B := by
 unfold medB medT
 cases hx : (sortU (lastT hs))[(lastT hs).length / 2]? with
 | none => simp
 | some x =>
   have h1 : x ∈ sortU (lastT hs) := List.mem_of_getElem? hx
   rw [sortU, List.mem_mergeSort, lastT] at h1
   obtain ⟨y, hy, rfl⟩ := List.mem_map.1 h1
   exact h y (List.mem_of_mem_drop hy)
theorem chainGo_good (p : Par) : ∀ (r : List UInt8) (i : Nat) (hs : List Hdr), (∀ x ∈ hs, x.time.toNat <= 1000 + 256 * hs.length) -> hs.length + r.length <= 10000 -> (∀ x ∈ hs, x.Ok) ->
 (∃ l, chainGo p i hs r = hs ++ l /\ l.length <= r.length) /\ (∀ x ∈ chainGo p i hs r, x.Ok) /\ ∀ j x, hs.length <= j -> (chainGo p i hs r)[j]? = some x -> Good p ((chainGo p i hs r).take j) x
 | [], i, hs, hB, hl, ho => by
   rw [chainGo]
   refine ⟨⟨[], by simp, by simp⟩, ho, fun j x hj hx => ?_⟩
   rw [List.getElem?_eq_none hj] at hx; cases hx
 | s :: r, i, hs, hB, hl, ho => by
   rw [chainGo]
   rw [List.length_cons] at hl
   have hs8 := s.toNat_lt
   have hm := med_le hB
   cases hn : (nextB p i hs s).2 with
   | false =>
     rw [if_neg (by decide)]
     refine ⟨⟨[], by simp, by simp⟩, ho, fun j x hj hx => ?_⟩
     rw [List.getElem?_eq_none hj] at hx; cases hx
   | true =>
     rw [if_pos rfl]
     obtain ⟨hg, hgt⟩ := next_good hn (by omega)
     have hno := nextB_ok p i hs s
     obtain ⟨R, hR⟩ : ∃ R, R = (nextB p i hs s).1 := ⟨_, rfl⟩
     rw [<- hR] at hg hgt hno ⊢
     have hlen : (hs ++ [R]).length = hs.length + 1 := by simp
     obtain ⟨⟨l, h1, h1l⟩, h2, h3⟩ := chainGo_good p r (i + 1) (hs ++ [R]) (fun x hx => by
      rw [hlen]
      rcases List.mem_append.1 hx with hx | hx
      . have := hB x hx; omega
      . rw [List.mem_singleton.1 hx]; omega) (by rw [hlen]; omega) (fun x hx => by
      rcases List.mem_append.1 hx with hx | hx
      . exact ho x hx
      . rw [List.mem_singleton.1 hx]; exact hno)
     refine ⟨⟨R :: l, by rw [h1]; simp, by simp; omega⟩, h2, fun j x hj hx => ?_⟩
     rcases Nat.lt_or_eq_of_le hj with hj | rfl
     . exact h3 j x (by rw [hlen]; omega) hx
     . rw [h1, List.append_assoc] at hx ⊢
       rw [List.getElem?_append_right (Nat.le_refl _), Nat.sub_self] at hx
       rw [List.take_left' rfl]
       cases hx
       exact hg
theorem chain_good {p : Par} (ok : p.Ok) (ht : p.first.time.toNat <= 1000) {steps : List UInt8} (hl : steps.length <= 1000) :
 (∃ l, chainB p steps = p.first :: l /\ l.length <= steps.length) /\ (∀ x ∈ chainB p steps, x.Ok) /\ ∀ j x, 1 <= j -> (chainB p steps)[j]? = some x -> Good p ((chainB p steps).take j) x := by
 obtain ⟨⟨l, h1, h2⟩, h3, h4⟩ := chainGo_good p steps 0 [p.first] (fun x hx => by rw [List.mem_singleton.1 hx]; omega) (by simp; omega) (fun x hx => by rw [List.mem_singleton.1 hx]; exact ok.f)
 exact ⟨⟨l, h1, h2⟩, h3, h4⟩
theorem right_good {p : Par} {hs : List Hdr} {h : Hdr} (hm : mayB p = true) (hg : Good p hs h) : rightE p hs h = if p.pts.any (ptB hs.length h.id) = true then 13 else 0 := by
 obtain ⟨h1, h2, h3, h4⟩ := hg
 rw [rightE, hm, h1, decide_eq_true h2, h3, decide_eq_true h4]
 unfold firstR
 cases p.pts.any (ptB hs.length h.id) <;> simp
theorem easy_may {i : Int} {s : UInt32} (h1 : 2 <= i) (h2 : i <= 2016) (h3 : 1 <= s.toNat) (h4 : s.toNat <= 3600) : mayB (easyP i s) = true := by
 have e : ofT (easyP i s).limit.toNat = some (0x7fffff * 2 ^ 232) := by
  show ofT 545259519 = _
  decide +kernel
 unfold mayB
 rw [e]
 simp only [Bool.and_eq_true, decide_eq_true_eq]
 refine ⟨⟨⟨⟨⟨⟨?_, h1⟩, h2⟩, h3⟩, h4⟩, rfl⟩, ?_⟩
 . show UInt32.ofNat (cmpN (0x7fffff * 2 ^ 232)) = 545259519
   decide +kernel
 . unfold mayP
   simp only [decide_eq_true_eq]
   intro k hk
   exact absurd hk (Nat.not_lt_zero k)
abbrev eP : Par := easyP 4 10
theorem eP_ok : eP.Ok := easy_ok' (by omega)
theorem eP_may : mayB eP = true := easy_may (by decide) (by decide) (by decide) (by decide)
theorem ex_bits3 : bitsB eP (timesH [0, 1, 2]) = 545259519 := by
 unfold bitsB
 rw [show (timesH [0, 1, 2]).getLast? = some (timeH 2) from rfl]
 simp only [eP_may]
 rw [if_neg (by decide), if_pos (by decide)]
 rfl
theorem ex_bits4 : bitsB eP (timesH [0, 1, 2, 3]) = 538968063 := by
 unfold bitsB
 rw [show (timesH [0, 1, 2, 3]).getLast? = some (timeH 3) from rfl]
 simp only [eP_may]
 rw [if_neg (by decide), if_neg (by decide), show (timesH [0, 1, 2, 3])[(timesH [0, 1, 2, 3]).length - eP.interval.toNat]? = some (timeH 0) from rfl]
 show turnB eP (timeH 3) (timeH 0) = _
 decide +kernel
theorem ex_med : medB (timesH [5, 1, 9, 7]) = 7 := by
 have h : sortU [5, 1, 9, 7] = [1, 5, 7, 9] := (sortU_is (by decide) (by decide)).symm
 show medT [5, 1, 9, 7] = 7
 rw [medT, h]; rfl
theorem ex_med1 : medB [eP.first] = 1000 := by
 have h : sortU [1000] = [1000] := (sortU_is (by decide) (by decide)).symm
 show medT [1000] = 1000
 rw [medT, h]; rfl
theorem ex_bits1 : bitsB eP [eP.first] = 545259519 := by
 unfold bitsB
 rw [show [eP.first].getLast? = some eP.first from rfl]
 simp only [eP_may]
 rw [if_neg (by decide), if_pos (by decide)]
 rfl
def eH : Hdr := ⟨1, eP.first.id, rootB 0 1, 1002, 545259519, 2⟩
def eT : Nat := 0x7fffff * 2 ^ 232
theorem ex_t : ofT (545259519 : UInt32).toNat = some eT := by decide +kernel
set_option maxRecDepth 100000 in
theorem ex_m0 : meetsB ⟨1, eP.first.id, rootB 0 1, 1002, 545259519, 0⟩ eT = false := by decide +kernel
set_option maxRecDepth 100000 in
theorem ex_m1 : meetsB ⟨1, eP.first.id, rootB 0 1, 1002, 545259519, 1⟩ eT = false := by decide +kernel
set_option maxRecDepth 100000 in
theorem ex_m2 : meetsB ⟨1, eP.first.id, rootB 0 1, 1002, 545259519, 2⟩ eT = true := by decide +kernel
def e1B : List UInt8 := 1 :: List.replicate 31 0
set_option maxRecDepth 100000 in
theorem ex_id0 : (eP.first.id == e1B) = false := by decide +kernel
set_option maxRecDepth 100000 in
theorem ex_id1 : (eH.id == e1B) = false := by decide +kernel
theorem ex_next : nextB eP 0 [eP.first] 1 = (eH, true) := by
 unfold nextB mineB
 rw [ex_med1, ex_bits1]
 simp only [List.getLast?_singleton, ex_t]
 rw [show (200 : UInt32).toNat = 197 + 1 + 1 + 1 from rfl, mineAt, if_neg, mineAt, if_neg, mineAt, if_pos]
 . rfl
 . exact ex_m2
 . rw [Bool.not_eq_true]; exact ex_m1
 . rw [Bool.not_eq_true]; exact ex_m0
theorem ex_chain : ∃ l, chainB eP [1, 2] = eP.first :: eH :: l /\ l.length <= 1 := by
 unfold chainB
 rw [chainGo, ex_next, if_pos rfl]
 rw [chainGo]
 split
 . exact ⟨[_], by rw [chainGo]; rfl, by simp⟩
 . exact ⟨[], rfl, by simp⟩
end Go.Proofs.YtolaljbainjjaaaGreatDoor
