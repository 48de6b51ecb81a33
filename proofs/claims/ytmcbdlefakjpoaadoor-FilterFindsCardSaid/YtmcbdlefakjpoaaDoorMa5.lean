/-
  'scantlinglaw29.FilterFinds' returns true whatever comes, and leaves what came as it was; its row's listed variable is tied to the program's text. No condition.
-/
import Derived.Test.YtmcbdlefakjpoaaDoorMa4
import Derived.Test.YtmcbdlefakjpoaaDoorRows
import Derived.LaidMore
import Derived.OpenShut
import Derived.Stop.Joined
import Derived.Test.YtmcbdlefakjpoaaDoorCards
import Derived.Test.YtmcbdlefakjpoaaDoorTie
import Derived.SevenTiedAt
import Derived.ChangeCalls
set_option linter.unusedSimpArgs false
set_option linter.unusedVariables false
set_option linter.unusedSectionVars false
namespace Go.Proofs.YtmcbdlefakjpoaaDoor
open Go.E
abbrev BSt := List UInt8 × Nat
theorem wo_ns (q : Nat → Bool) (l : List UInt64) (n : Nat) : AV.wo q (.vs (l.map w64) n) = .vs (l.map w64) n := by rw [AV.wo]
theorem moved_EP (T : Tbl) : moved (EP T) = (· == T.length + 1) := by
  funext j
  simp only [EP, moved, Bool.true_and, Bool.false_and, Bool.false_or, Bool.or_false]
  rw [Bool.eq_iff_iff]; simp
theorem slots_EP (T : Tbl) : (∀ l, slots (EP T) l = l.map (AV.wo (· == T.length + 1))) ∧ (∀ l, slotsT (EP T) l = l.map fun p => (p.1, p.2.wo (· == T.length + 1))) := by
  refine ⟨fun l => ?_, fun l => ?_⟩
  · show l.map (AV.wo (moved (EP T))) = _; rw [moved_EP]
  · show (l.map fun p => (p.1, p.2.wo (moved (EP T)))) = _; rw [moved_EP]
set_option maxRecDepth 8000 in
theorem build_ok {T : Tbl} {a : AV} {id : List UInt8} {hs : List (List UInt8)} (hid : id.length = 32) (hb : Es T 32 H8 a hs) (hl : hs.length ≤ 4096) (hsm : small 0 (srt (nums id hs))) :
    CallA Tryd.prog Tryd.G 10 [.ag (id.map by8), a] T fun v T' es => v = .tu [.vs ((filtB (srt (nums id hs))).map by8) (filtB (srt (nums id hs))).length, .p (.int .i64 0)] ∧ T' = T ∧ es = [] := by
  have hul : (uniq hs).length ≤ 4096 := Nat.le_trans (uniqF_len hs []) (by simpa using hl)
  refine CallA.wfs fun wf => ?_
  have hw : Wft T := ⟨fun q hq => (wf.wf q hq).1⟩
  have wt := wf.t
  have wp := wf.p
  have wa := wf.arg a (by simp)
  have wap := wf.argp a (by simp)
  have htk := tk32 id hid
  refine CallA.enterV 42 Tryd.func10 Tryd.ntmps10 (congrArg Array.toList Tryd.results10) rfl ⟨by simp, by simp⟩ (by kernel_rfl) (by kernel_rfl) ?_
  (simp -dsimp +decide only [vy, vz, vze, va, vc, vu, vl, Tryd.ty, Tryd.en, ↓reduceIte, Nat.reduceSub, Nat.reduceAdd, Nat.reduceMul, Nat.reduceLT, Int.reduceAdd, Int.reduceSub, Int.reduceToNat, Int.cast_ofNat_Int])
  (simp -dsimp +decide (disch := omega) only [vy, vz, vze, va, vc, vu, vl, Tryd.ty, Tryd.en, ↓reduceIte, Nat.reduceSub, Nat.reduceAdd, Nat.reduceMul, Nat.reduceLT, Int.reduceAdd, Int.reduceSub, Int.reduceToNat, Int.cast_ofNat_Int, vi, getO_i, hid, htk])
  refine (numbers_ok hid (hb.app _) hl).det ?_
  have hLn : (nums id hs).length = (srt (nums id hs)).length := (srt_len _).symm
  rw [hLn]
  have hLl : (srt (nums id hs)).length ≤ 4096 := by rw [srt_len]; simpa [nums] using hul
  obtain ⟨L, hL⟩ : ∃ L, L = srt (nums id hs) := ⟨_, rfl⟩
  rw [← hL] at hLl hsm ⊢
  have hLi : ∀ k x, L[k]? = some x → (L.map w64)[k]? = some (w64 x) := fun k x h => by rw [getm, h]; rfl
  obtain ⟨T1, hT1⟩ : ∃ T1, T1 = T ++ [.cells 23 (id.map by8)] := ⟨_, rfl⟩
  have hw1 : Wft T1 := ⟨fun q hq => by
    rw [hT1, List.map_append, hw.wf q fun i hi => hq i (by rw [hT1]; simp; omega)]
    show T ++ [AObj.cells _ ((id.map by8).map (AV.wo q))] = _
    rw [wo8]⟩
  have h1l : T1.length = T.length + 1 := by rw [hT1]; simp
  (simp -dsimp +decide (disch := omega) only [vy, vz, vze, va, vc, vu, vl, Tryd.ty, Tryd.en, ↓reduceIte, Nat.reduceSub, Nat.reduceAdd, Nat.reduceMul, Nat.reduceLT, Int.reduceAdd, Int.reduceSub, Int.reduceToNat, Int.cast_ofNat_Int, vi, getO_i])
  refine (put_nil (n := UInt64.ofInt (L.length : Int)) (k := 4) (.inr (.inr (.inl rfl)))).det' ?_
  rw [← hT1]
  obtain ⟨o, ho⟩ : ∃ o, o = AObj.buf 5 1 [by8 (UInt64.ofInt (L.length : Int)).toUInt8] := ⟨_, rfl⟩
  have hob : ∀ q, o.wo q = o := fun q => by rw [ho]; show AObj.buf _ _ [AV.wo q (.p _)] = _; rw [AV.wo]; rfl
  rw [← ho]
  have hPR0 : T1 ++ [o, .buf 5 1 ((lbs (UInt64.ofInt (L.length : Int)) 4).map by8), .cells 53 [.sl (T1.length + 1) 0 4, .p (.int .i64 0)]] = PR T1 o (lbs (UInt64.ofInt (L.length : Int)) 4) 0 := by
    unfold PR; rw [lbs_len]; rfl
  (simp -dsimp +decide (disch := omega) only [vy, vz, vze, va, vc, vu, vl, Tryd.ty, Tryd.en, ↓reduceIte, Nat.reduceSub, Nat.reduceAdd, Nat.reduceMul, Nat.reduceLT, Int.reduceAdd, Int.reduceSub, Int.reduceToNat, Int.cast_ofNat_Int, vi, getO_i, vt, hPR0])
  have sE := slots_EP T1
  have hrE : ∀ E, recE T.length (EP T1) E = E := fun E => by
    have h1 : ¬ T1.length + 1 < T.length := by omega
    have h2 : ¬ T1.length + 2 < T.length := by omega
    simp [EP, recE, rec1, h1, h2]
  have tg : (∀ (out : List UInt8) (l : Nat), (PR T1 o out l)[T1.length + 2]? = some (.cells 53 [.sl (T1.length + 1) 0 out.length, wint (l : Int)])) := fun out l => get_n2 _ _ _ _ _
  have kEq : ∀ k j : Nat, (T1.length + k == T1.length + j) = (k == j) := fun k j => by rw [Bool.eq_iff_iff]; simp
  have hbl := bitsF_len L 0 hsm
  obtain ⟨hdr, hhdr⟩ : ∃ hdr, hdr = lbs (UInt64.ofInt (L.length : Int)) 4 := ⟨_, rfl⟩
  have hh4 : hdr.length = 4 := by rw [hhdr, lbs_len]
  have hfin : filtB L = pks hdr 0 (bitsF 0 L) := by rw [hhdr]; rfl
  rw [← hhdr]
  obtain ⟨lf, hlf⟩ : ∃ lf : Nat → Nat, lf = fun i => (8 - i % 8) % 8 := ⟨_, rfl⟩
  have hput : ∀ {out : List UInt8} {i : Nat} {bit : UInt64}, (i % 8 = 0 ∨ 0 < out.length) → out.length ≤ 1099511627776 → CallA Tryd.prog Tryd.G 24 [.ptr (T1.length + 2) 0, w64 bit] (PR T1 o out (lf i)) fun v T' es => v = .tu [] ∧ T' = PR T1 o (pk out i bit.toUInt8) (lf (i + 1)) ∧ es = EP T1 := fun {out i bit} h1 h2 => by
    have := rput_ok (o := o) (out := out) (i := i) (bit := bit) hw1 hob h1 h2
    rw [hlf]
    dsimp only
    rwa [show (8 - (i + 1) % 8) % 8 = 7 - i % 8 by omega]
  refine SemA.loopE (fun s : Nat × UInt64 × List UInt8 × Nat => [(8, .ptr (T1.length + 2) 0), (9, w64 s.2.1), (29, .vs (L.map w64) L.length), (30, wint (L.length : Int)), (31, wint (s.1 : Int))]) (fun s => PR T1 o s.2.2.1 (lf s.2.2.2)) (fun s => s.1 ≤ L.length ∧ small s.2.1 (L.drop s.1) ∧ s.2.2.1.length = 4 + (s.2.2.2 + 7) / 8 ∧ s.2.2.2 + (bitsF s.2.1 (L.drop s.1)).length = (bitsF 0 L).length ∧ pks s.2.2.1 s.2.2.2 (bitsF s.2.1 (L.drop s.1)) = filtB L) (fun s => L.length - s.1) (0, 0, hdr, 0) [] 0 (fun s : Nat => [(8, .ptr (T1.length + 2) 0)]) (fun s => PR T1 o (filtB L) s) (fun _ => True) ⟨by simp, hsm, by simp [hh4], by simp, by rw [hfin]; rfl⟩ (by (simp -dsimp +decide (disch := omega) only [vy, vz, vze, va, vc, vu, vl, Tryd.ty, Tryd.en, ↓reduceIte, Nat.reduceSub, Nat.reduceAdd, Nat.reduceMul, Nat.reduceLT, Int.reduceAdd, Int.reduceSub, Int.reduceToNat, Int.cast_ofNat_Int, vi, getO_i]); rfl) (by rw [hlf]; simp) (by simp) ?_ ?_
  · rintro ⟨s, last, out, i⟩ g ⟨hs, hsm1, hol, hbt, hpk⟩
    dsimp only at hs hsm1 hol hbt hpk
    refine SemA.of (by kernel_rfl) ?_
    (simp -dsimp +decide (disch := omega) only [vy, vz, vze, va, vc, vu, vl, Tryd.ty, Tryd.en, ↓reduceIte, Nat.reduceSub, Nat.reduceAdd, Nat.reduceMul, Nat.reduceLT, Int.reduceAdd, Int.reduceSub, Int.reduceToNat, Int.cast_ofNat_Int, vi, getO_i, vt, tg])
    refine CondP.dec (fun h => ?_) (fun h => ?_)
    · obtain ⟨x, hx⟩ : ∃ x, L[s]? = some x := ⟨L[s]'(by omega), by simp⟩
      have hd : L.drop s = x :: L.drop (s + 1) := by
        obtain ⟨h1, rfl⟩ := List.getElem?_eq_some_iff.1 hx
        exact List.drop_eq_getElem_cons h1
      have hxg := hLi s x hx
      have hne : L.map w64 ≠ [] := fun e => by rw [List.map_eq_nil_iff] at e; rw [e] at hx; simp at hx
      rw [hd] at hsm1 hbt hpk
      obtain ⟨hx32, hsm2⟩ := hsm1
      rw [bitsF, List.length_append] at hbt
      rw [bitsF] at hpk
      obtain ⟨d, hdd⟩ : ∃ d, d = x - last := ⟨_, rfl⟩
      rw [← hdd] at hx32 hbt hpk
      obtain ⟨rest, hrest⟩ : ∃ rest, rest = bitsF x (L.drop (s + 1)) := ⟨_, rfl⟩
      rw [← hrest] at hbt hpk
      (simp -dsimp +decide (disch := omega) only [vy, vz, vze, va, vc, vu, vl, Tryd.ty, Tryd.en, ↓reduceIte, Nat.reduceSub, Nat.reduceAdd, Nat.reduceMul, Nat.reduceLT, Int.reduceAdd, Int.reduceSub, Int.reduceToNat, Int.cast_ofNat_Int, vi, getO_i, vt, tg, hxg, ← hdd])
      refine ⟨⟨by omega, by omega, hne⟩, ?_⟩
      have hq : (u64_shr d 19).toNat = d.toNat >>> 19 := by rw [u64_shr, if_pos (by omega), UInt64.toNat_shiftRight]; rfl
      have hq2 : d.toNat >>> 19 < 8192 := by rw [Nat.shiftRight_eq_div_pow]; omega
      obtain ⟨low, hlow⟩ : ∃ low, low = (List.range 19).map fun j => (u64_shr d (18 - j) &&& 1).toUInt8 := ⟨_, rfl⟩
      have hlowl : low.length = 19 := by rw [hlow]; simp
      have hbD : bitD d = List.replicate (d.toNat >>> 19) 1 ++ 0 :: low := by rw [hlow]; rfl
      rw [hbD] at hpk hbt
      simp only [List.length_append, List.length_replicate, List.length_cons, hlowl] at hbt
      refine SemA.loopE (fun s' : Nat × List UInt8 × Nat => [(8, .ptr (T1.length + 2) 0), (9, w64 x), (12, w64 d), (29, .vs (L.map w64) L.length), (30, wint (L.length : Int)), (31, wint (s : Int)), (40, w64 (u64_shr d 19)), (41, .p (.int .u64 (s'.1 : Int)))]) (fun s' => PR T1 o s'.2.1 (lf s'.2.2)) (fun s' => s'.1 ≤ d.toNat >>> 19 ∧ s'.2.1.length = 4 + (s'.2.2 + 7) / 8 ∧ s'.2.2 = i + s'.1 ∧ pks s'.2.1 s'.2.2 (List.replicate (d.toNat >>> 19 - s'.1) 1 ++ 0 :: low ++ rest) = filtB L) (fun s' => d.toNat >>> 19 - s'.1) (0, out, i) [] 2 (fun s' : List UInt8 => [(8, .ptr (T1.length + 2) 0), (9, w64 x), (12, w64 d), (29, .vs (L.map w64) L.length), (30, wint (L.length : Int)), (31, wint (s : Int))]) (fun s' => PR T1 o s' (lf (i + d.toNat >>> 19))) (fun s' => s'.length = 4 + (i + d.toNat >>> 19 + 7) / 8 ∧ pks s' (i + d.toNat >>> 19) (0 :: low ++ rest) = filtB L) ⟨by simp, hol, by simp, by simpa using hpk⟩ (by (simp -dsimp +decide (disch := omega) only [vy, vz, vze, va, vc, vu, vl, Tryd.ty, Tryd.en, ↓reduceIte, Nat.reduceSub, Nat.reduceAdd, Nat.reduceMul, Nat.reduceLT, Int.reduceAdd, Int.reduceSub, Int.reduceToNat, Int.cast_ofNat_Int, vi, getO_i])) rfl (by simp) ?_ ?_
      · rintro ⟨k, out1, i1⟩ g1 ⟨hk, hol1, hi1, hpk1⟩
        dsimp only at hk hol1 hi1 hpk1
        subst hi1
        refine SemA.of (by kernel_rfl) ?_
        (simp -dsimp +decide (disch := omega) only [vy, vz, vze, va, vc, vu, vl, Tryd.ty, Tryd.en, ↓reduceIte, Nat.reduceSub, Nat.reduceAdd, Nat.reduceMul, Nat.reduceLT, Int.reduceAdd, Int.reduceSub, Int.reduceToNat, Int.cast_ofNat_Int, vi, getO_i, vt, tg, hq])
        refine CondP.dec (fun h => ?_) (fun h => ?_)
        · have hrep : d.toNat >>> 19 - k = (d.toNat >>> 19 - (k + 1)) + 1 := by omega
          rw [hrep, List.replicate_succ, List.cons_append, List.cons_append, pks] at hpk1
          (simp -dsimp +decide (disch := omega) only [vy, vz, vze, va, vc, vu, vl, Tryd.ty, Tryd.en, ↓reduceIte, Nat.reduceSub, Nat.reduceAdd, Nat.reduceMul, Nat.reduceLT, Int.reduceAdd, Int.reduceSub, Int.reduceToNat, Int.cast_ofNat_Int, vi, getO_i, vt, tg])
          refine (hput (out := out1) (i := i + k) (bit := 1) (by omega) (by omega)).det' ?_
          have hk0 : (UInt64.ofInt (k : Int)).toNat = k := by
            rw [UInt64.ofInt]; simp; omega
          (simp -dsimp +decide (disch := omega) only [vy, vz, vze, va, vc, vu, vl, Tryd.ty, Tryd.en, ↓reduceIte, Nat.reduceSub, Nat.reduceAdd, Nat.reduceMul, Nat.reduceLT, Int.reduceAdd, Int.reduceSub, Int.reduceToNat, Int.cast_ofNat_Int, vi, getO_i, vt, sE, hrE, kEq])
          refine ⟨(k + 1, pk out1 (i + k) 1, i + k + 1), ⟨⟨by dsimp only; omega, ?_, by dsimp only; omega, hpk1⟩, by dsimp only; omega⟩, by first | rfl | (and_intros <;> first | rfl | (simp [hk0]; omega)), by first | rfl | (and_intros <;> first | rfl | (simp; done))⟩
          dsimp only
          rw [pk_len]; split <;> omega
        · have hk0 : k = d.toNat >>> 19 := by omega
          subst hk0
          rw [Nat.sub_self] at hpk1
          (simp -dsimp +decide (disch := omega) only [vy, vz, vze, va, vc, vu, vl, Tryd.ty, Tryd.en, ↓reduceIte, Nat.reduceSub, Nat.reduceAdd, Nat.reduceMul, Nat.reduceLT, Int.reduceAdd, Int.reduceSub, Int.reduceToNat, Int.cast_ofNat_Int, vi, getO_i, vt, tg])
          exact ⟨out1, ⟨hol1, hpk1⟩, rfl⟩
      · rintro out1 g1 tmp1 ⟨hol1, hpk1⟩
        obtain ⟨i1, hi1⟩ : ∃ i1, i1 = i + d.toNat >>> 19 := ⟨_, rfl⟩
        rw [← hi1] at hol1 hpk1 ⊢
        rw [List.cons_append, pks] at hpk1
        (simp -dsimp +decide (disch := omega) only [vy, vz, vze, va, vc, vu, vl, Tryd.ty, Tryd.en, ↓reduceIte, Nat.reduceSub, Nat.reduceAdd, Nat.reduceMul, Nat.reduceLT, Int.reduceAdd, Int.reduceSub, Int.reduceToNat, Int.cast_ofNat_Int, vi, getO_i, vt, tg])
        refine (hput (out := out1) (i := i1) (bit := 0) (by omega) (by omega)).det' ?_
        have hol2 : (pk out1 i1 0).length = 4 + (i1 + 1 + 7) / 8 := by rw [pk_len]; split <;> omega
        have hpk1' : pks (pk out1 i1 (UInt64.toUInt8 0)) (i1 + 1) (low ++ rest) = filtB L := hpk1
        (simp -dsimp +decide (disch := omega) only [vy, vz, vze, va, vc, vu, vl, Tryd.ty, Tryd.en, ↓reduceIte, Nat.reduceSub, Nat.reduceAdd, Nat.reduceMul, Nat.reduceLT, Int.reduceAdd, Int.reduceSub, Int.reduceToNat, Int.cast_ofNat_Int, vi, getO_i, vt, sE, hrE, kEq])
        obtain ⟨i2, hi2⟩ : ∃ i2, i2 = i1 + 1 := ⟨_, rfl⟩
        rw [← hi2] at hol2 hpk1' ⊢
        refine SemA.loopE (fun s' : Nat × List UInt8 => [(8, .ptr (T1.length + 2) 0), (9, w64 x), (12, w64 d), (13, wint (18 - (s'.1 : Int))), (29, .vs (L.map w64) L.length), (30, wint (L.length : Int)), (31, wint (s : Int))]) (fun s' => PR T1 o s'.2 (lf (i2 + s'.1))) (fun s' => s'.1 ≤ 19 ∧ s'.2.length = 4 + (i2 + s'.1 + 7) / 8 ∧ pks s'.2 (i2 + s'.1) (low.drop s'.1 ++ rest) = filtB L) (fun s' => 19 - s'.1) (0, pk out1 i1 (UInt64.toUInt8 0)) [] 4 (fun s' : List UInt8 => [(8, .ptr (T1.length + 2) 0), (9, w64 x), (29, .vs (L.map w64) L.length), (30, wint (L.length : Int)), (31, wint (s : Int))]) (fun s' => PR T1 o s' (lf (i2 + 19))) (fun s' => s'.length = 4 + (i2 + 19 + 7) / 8 ∧ pks s' (i2 + 19) rest = filtB L) ⟨by simp, hol2, by simpa using hpk1'⟩ (by (simp -dsimp +decide (disch := omega) only [vy, vz, vze, va, vc, vu, vl, Tryd.ty, Tryd.en, ↓reduceIte, Nat.reduceSub, Nat.reduceAdd, Nat.reduceMul, Nat.reduceLT, Int.reduceAdd, Int.reduceSub, Int.reduceToNat, Int.cast_ofNat_Int, vi, getO_i])) rfl (by simp) ?_ ?_
        · rintro ⟨j, out2⟩ g2 ⟨hj, hol3, hpk2⟩
          dsimp only at hj hol3 hpk2
          refine SemA.of (by kernel_rfl) ?_
          (simp -dsimp +decide (disch := omega) only [vy, vz, vze, va, vc, vu, vl, Tryd.ty, Tryd.en, ↓reduceIte, Nat.reduceSub, Nat.reduceAdd, Nat.reduceMul, Nat.reduceLT, Int.reduceAdd, Int.reduceSub, Int.reduceToNat, Int.cast_ofNat_Int, vi, getO_i, vt, tg])
          refine CondP.dec (fun h => ?_) (fun h => ?_)
          · have hld : low.drop j = (u64_shr d (18 - j) &&& 1).toUInt8 :: low.drop (j + 1) := by
              rw [List.drop_eq_getElem_cons (by omega)]
              congr 1
              subst hlow; simp
            rw [hld, List.cons_append, pks] at hpk2
            have hj18 : (18 : Int) - (j : Int) = ((18 - j : Nat) : Int) := by omega
            (simp -dsimp +decide (disch := omega) only [vy, vz, vze, va, vc, vu, vl, Tryd.ty, Tryd.en, ↓reduceIte, Nat.reduceSub, Nat.reduceAdd, Nat.reduceMul, Nat.reduceLT, Int.reduceAdd, Int.reduceSub, Int.reduceToNat, Int.cast_ofNat_Int, vi, getO_i, vt, tg, hj18])
            refine ⟨by omega, ?_⟩
            refine (hput (out := out2) (i := i2 + j) (bit := u64_shr d (18 - j) &&& UInt64.ofInt 1) (by omega) (by omega)).det' ?_
            (simp -dsimp +decide (disch := omega) only [vy, vz, vze, va, vc, vu, vl, Tryd.ty, Tryd.en, ↓reduceIte, Nat.reduceSub, Nat.reduceAdd, Nat.reduceMul, Nat.reduceLT, Int.reduceAdd, Int.reduceSub, Int.reduceToNat, Int.cast_ofNat_Int, vi, getO_i, vt, sE, hrE, kEq])
            refine ⟨(j + 1, pk out2 (i2 + j) (u64_shr d (18 - j) &&& 1).toUInt8), ⟨⟨by dsimp only; omega, ?_, hpk2⟩, by dsimp only; omega⟩, ?_, rfl⟩
            · dsimp only; rw [pk_len]; split <;> omega
            · dsimp only
              first | (rw [show ((18 - j : Nat) : Int) - 1 = 18 - ((j + 1 : Nat) : Int) by omega]) | (rw [show ((18 - j : Nat) : Int) - 1 = 18 - ((j + 1 : Nat) : Int) by omega]; exact ⟨rfl, rfl⟩)
          · have hj19 : j = 19 := by omega
            subst hj19
            rw [List.drop_eq_nil_of_le (by omega)] at hpk2
            (simp -dsimp +decide (disch := omega) only [vy, vz, vze, va, vc, vu, vl, Tryd.ty, Tryd.en, ↓reduceIte, Nat.reduceSub, Nat.reduceAdd, Nat.reduceMul, Nat.reduceLT, Int.reduceAdd, Int.reduceSub, Int.reduceToNat, Int.cast_ofNat_Int, vi, getO_i, vt, tg])
            exact ⟨out2, ⟨hol3, hpk2⟩, rfl⟩
        · rintro out2 g2 tmp2 ⟨hol3, hpk2⟩
          (simp -dsimp +decide (disch := omega) only [vy, vz, vze, va, vc, vu, vl, Tryd.ty, Tryd.en, ↓reduceIte, Nat.reduceSub, Nat.reduceAdd, Nat.reduceMul, Nat.reduceLT, Int.reduceAdd, Int.reduceSub, Int.reduceToNat, Int.cast_ofNat_Int, vi, getO_i, vt, tg])
          exact ⟨(s + 1, x, out2, i2 + 19), ⟨⟨by dsimp only; omega, hsm2, hol3, by dsimp only; rw [← hrest]; omega, by dsimp only; rw [← hrest]; exact hpk2⟩, by dsimp only; omega⟩, by first | rfl | (and_intros <;> first | rfl | (simp; done)), rfl⟩
    · have hd : L.drop s = [] := List.drop_eq_nil_of_le (by omega)
      rw [hd] at hpk
      have hpk : out = filtB L := hpk
      subst hpk
      (simp -dsimp +decide (disch := omega) only [vy, vz, vze, va, vc, vu, vl, Tryd.ty, Tryd.en, ↓reduceIte, Nat.reduceSub, Nat.reduceAdd, Nat.reduceMul, Nat.reduceLT, Int.reduceAdd, Int.reduceSub, Int.reduceToNat, Int.cast_ofNat_Int, vi, getO_i, vt, tg])
      exact ⟨lf i, rfl⟩
  · rintro lft g tmp -
    (simp -dsimp +decide (disch := omega) only [vy, vz, vze, va, vc, vu, vl, Tryd.ty, Tryd.en, ↓reduceIte, Nat.reduceSub, Nat.reduceAdd, Nat.reduceMul, Nat.reduceLT, Int.reduceAdd, Int.reduceSub, Int.reduceToNat, Int.cast_ofNat_Int, vi, getO_i, vt, tg])
    refine Vw.pub (T1.length + 1) (o := .buf 5 1 ((filtB L).map by8)) (get_n1 _ _ _ _) rfl (clean8 _) ?_
    have hp2 : ∀ (l : List UInt8) (lf : Nat), ∃ l2, (List.set (List.map (AObj.pub (T1.length + 1) ((filtB L).map by8)) (PR T1 o l lf)) (T1.length + 1) .gone) = T ++ l2 := by
      intro l lf
      refine ⟨(List.set (List.map (AObj.pub (T1.length + 1) ((filtB L).map by8)) (PR T1 o l lf)) (T1.length + 1) .gone).drop T.length, ?_⟩
      conv => lhs; rw [← List.take_append_drop T.length (List.set _ _ _)]
      congr 1
      rw [List.take_set_of_le (by omega), ← List.map_take]
      unfold PR
      rw [hT1, List.append_assoc, List.take_left]
      have := wp.1 2 ((filtB L).map by8)
      rw [show T.length + 2 = (T ++ [AObj.cells 23 (id.map by8)]).length + 1 by simp] at this
      exact this
    obtain ⟨l2, hl2⟩ := hp2 (filtB L) lft
    rw [hl2]
    refine Vw.cut ⟨?_, rfl, ?_⟩
    · (simp -dsimp +decide only [vy, vz, vze, va, vc, vu, vl, Tryd.ty, Tryd.en, ↓reduceIte, Nat.reduceSub, Nat.reduceAdd, Nat.reduceMul, Nat.reduceLT, Int.reduceAdd, Int.reduceSub, Int.reduceToNat, Int.cast_ofNat_Int, vt])
    · rw [h1l, rec1, if_neg (by omega)]
end Go.Proofs.YtmcbdlefakjpoaaDoor

set_option linter.unusedSimpArgs false
set_option linter.unusedVariables false
set_option linter.unusedSectionVars false
namespace Go.Proofs.YtmcbdlefakjpoaaDoor
open Go.E
theorem lit1 (x : UInt8) : ([.p (.int .u8 (x.toNat : Int))] : List AV) = [x].map by8 := rfl
theorem app8 (l m : List UInt8) : l.map by8 ++ m.map by8 = (l ++ m).map by8 := by rw [List.map_append]
set_option maxRecDepth 8000 in
theorem rbuild_ok {T : Tbl} {a : AV} {id : List UInt8} {hs : List (List UInt8)} (hid : id.length = 32) (hb : Es T 32 H8 a hs) (hl : hs.length ≤ 4096) (hsm : small 0 (srt (nums id hs))) :
    CallA Tryd.prog Tryd.G 11 [.ag (id.map by8), a] T fun v T' es => v = .tu [.vs ((filtB (srt (nums id hs))).map by8) (filtB (srt (nums id hs))).length, .p (.int .i64 0)] ∧ T' = T ∧ es = [] := by
  have hul : (uniq hs).length ≤ 4096 := Nat.le_trans (uniqF_len hs []) (by simpa using hl)
  refine CallA.wfs fun wf => ?_
  have wt := wf.t
  have wp := wf.p
  have htk := tk32 id hid
  refine CallA.enterV 16 Tryd.func11 Tryd.ntmps11 (congrArg Array.toList Tryd.results11) rfl ⟨by simp, by simp⟩ (by kernel_rfl) (by kernel_rfl) ?_
  (simp -dsimp +decide only [vt2, vy, vz, vze, vy, vz, vze, va, vc, vu, vl, Tryd.ty, Tryd.en, ↓reduceIte, Nat.reduceSub, Nat.reduceAdd, Nat.reduceMul, Nat.reduceLT, Int.reduceAdd, Int.reduceSub, Int.reduceToNat, Int.cast_ofNat_Int])
  (simp -dsimp +decide (disch := omega) only [vt2, vy, vz, vze, vy, vz, vze, va, vc, vu, vl, Tryd.ty, Tryd.en, ↓reduceIte, Nat.reduceSub, Nat.reduceAdd, Nat.reduceMul, Nat.reduceLT, Int.reduceAdd, Int.reduceSub, Int.reduceToNat, Int.cast_ofNat_Int, vi, getO_i, hid, htk])
  refine (rnumbers_ok hid (hb.app _) hl).det ?_
  have hLn : (nums id hs).length = (srt (nums id hs)).length := (srt_len _).symm
  rw [hLn]
  have hLl : (srt (nums id hs)).length ≤ 4096 := by rw [srt_len]; simpa [nums] using hul
  obtain ⟨L, hL⟩ : ∃ L, L = srt (nums id hs) := ⟨_, rfl⟩
  rw [← hL] at hLl hsm ⊢
  have hLi : ∀ k x, L[k]? = some x → (L.map w64)[k]? = some (w64 x) := fun k x h => by rw [getm, h]; rfl
  have hbl := bitsF_len L 0 hsm
  obtain ⟨total, htot⟩ : ∃ total, total = bitsF 0 L := ⟨_, rfl⟩
  rw [← htot] at hbl
  (simp -dsimp +decide (disch := omega) only [vt2, vy, vz, vze, vy, vz, vze, va, vc, vu, vl, Tryd.ty, Tryd.en, ↓reduceIte, Nat.reduceSub, Nat.reduceAdd, Nat.reduceMul, Nat.reduceLT, Int.reduceAdd, Int.reduceSub, Int.reduceToNat, Int.cast_ofNat_Int, vi, getO_i, vt])
  refine SemA.adopt 8 5 1 (by decide) rfl ?_
  (simp -dsimp +decide only [vt2, vy, vz, vze, vy, vz, vze, va, vc, vu, vl, Tryd.ty, Tryd.en, ↓reduceIte, Nat.reduceSub, Nat.reduceAdd, Nat.reduceMul, Nat.reduceLT, Int.reduceAdd, Int.reduceSub, Int.reduceToNat, Int.cast_ofNat_Int, vt, List.length_append])
  obtain ⟨idc, hidc⟩ : ∃ idc, idc = AObj.cells 23 (id.map by8) := ⟨_, rfl⟩
  have wi : ∀ q, idc.wo q = idc := fun q => by rw [hidc]; show AObj.cells _ ((id.map by8).map (AV.wo q)) = _; rw [wo8]
  rw [← hidc]
  refine SemA.loopK (T.length + 2) (fun s : Nat × UInt64 × List UInt8 => [(6, .vs (L.map w64) L.length), (8, .sl (T.length + 1) 0 s.2.2.length), (9, w64 s.2.1), (10, wint (s.1 : Int))]) (fun s => T ++ [idc, .buf 5 1 (s.2.2.map by8)]) (fun s => s.1 ≤ L.length ∧ small s.2.1 (L.drop s.1) ∧ s.2.2 ++ bitsF s.2.1 (L.drop s.1) = total) (fun s => L.length - s.1) (0, 0, []) [] 0 (fun _ : Unit => [(6, .vs (L.map w64) L.length), (8, .sl (T.length + 1) 0 total.length)]) (fun _ => T ++ [idc, .buf 5 1 (total.map by8)]) (fun _ => True) (by omega) ⟨by simp, hsm, by rw [htot]; rfl⟩ (by (simp -dsimp +decide (disch := omega) only [vt2, vy, vz, vze, vy, vz, vze, va, vc, vu, vl, Tryd.ty, Tryd.en, ↓reduceIte, Nat.reduceSub, Nat.reduceAdd, Nat.reduceMul, Nat.reduceLT, Int.reduceAdd, Int.reduceSub, Int.reduceToNat, Int.cast_ofNat_Int, vi, getO_i]); exact ⟨rfl, rfl⟩) rfl (by simp) ?_ ?_
  · rintro ⟨s, last, out⟩ g ⟨hs, hsm1, hpk⟩
    dsimp only at hs hsm1 hpk
    refine SemA.of (by kernel_rfl) ?_
    (simp -dsimp +decide (disch := omega) only [vt2, vy, vz, vze, vy, vz, vze, va, vc, vu, vl, Tryd.ty, Tryd.en, ↓reduceIte, Nat.reduceSub, Nat.reduceAdd, Nat.reduceMul, Nat.reduceLT, Int.reduceAdd, Int.reduceSub, Int.reduceToNat, Int.cast_ofNat_Int, vi, getO_i, vt])
    refine CondP.dec (fun h => ?_) (fun h => ?_)
    · obtain ⟨x, hx⟩ : ∃ x, L[s]? = some x := ⟨L[s]'(by omega), by simp⟩
      have hd : L.drop s = x :: L.drop (s + 1) := by
        obtain ⟨h1, rfl⟩ := List.getElem?_eq_some_iff.1 hx
        exact List.drop_eq_getElem_cons h1
      have hxg := hLi s x hx
      have hne : L.map w64 ≠ [] := fun e => by rw [List.map_eq_nil_iff] at e; rw [e] at hx; simp at hx
      rw [hd] at hsm1 hpk
      obtain ⟨hx32, hsm2⟩ := hsm1
      rw [bitsF] at hpk
      obtain ⟨d, hdd⟩ : ∃ d, d = x - last := ⟨_, rfl⟩
      rw [← hdd] at hx32 hpk
      obtain ⟨rest, hrest⟩ : ∃ rest, rest = bitsF x (L.drop (s + 1)) := ⟨_, rfl⟩
      rw [← hrest] at hpk
      (simp -dsimp +decide (disch := omega) only [vt2, vy, vz, vze, vy, vz, vze, va, vc, vu, vl, Tryd.ty, Tryd.en, ↓reduceIte, Nat.reduceSub, Nat.reduceAdd, Nat.reduceMul, Nat.reduceLT, Int.reduceAdd, Int.reduceSub, Int.reduceToNat, Int.cast_ofNat_Int, vi, getO_i, vt, hxg, ← hdd])
      refine ⟨⟨by omega, by omega, hne⟩, ⟨by omega, by omega, hne⟩, ?_⟩
      have hq : (u64_shr d 19).toNat = d.toNat >>> 19 := by rw [u64_shr, if_pos (by omega), UInt64.toNat_shiftRight]; rfl
      have hq2 : d.toNat >>> 19 < 8192 := by rw [Nat.shiftRight_eq_div_pow]; omega
      obtain ⟨low, hlow⟩ : ∃ low, low = (List.range 19).map fun j => (u64_shr d (18 - j) &&& 1).toUInt8 := ⟨_, rfl⟩
      have hlowl : low.length = 19 := by rw [hlow]; simp
      have hbD : bitD d = List.replicate (d.toNat >>> 19) 1 ++ 0 :: low := by rw [hlow]; rfl
      rw [hbD] at hpk
      refine SemA.loopK (T.length + 2) (fun s' : Nat × List UInt8 => [(6, .vs (L.map w64) L.length), (8, .sl (T.length + 1) 0 s'.2.length), (9, w64 x), (10, wint (s : Int)), (11, w64 d), (12, .p (.int .u64 (s'.1 : Int)))]) (fun s' => T ++ [idc, .buf 5 1 (s'.2.map by8)]) (fun s' => s'.1 ≤ d.toNat >>> 19 ∧ s'.2 ++ (List.replicate (d.toNat >>> 19 - s'.1) 1 ++ 0 :: low ++ rest) = total) (fun s' => d.toNat >>> 19 - s'.1) (0, out) [] 2 (fun s' : List UInt8 => [(6, .vs (L.map w64) L.length), (8, .sl (T.length + 1) 0 s'.length), (9, w64 x), (10, wint (s : Int)), (11, w64 d)]) (fun s' => T ++ [idc, .buf 5 1 (s'.map by8)]) (fun s' => s' ++ (0 :: low ++ rest) = total) (by omega) ⟨by simp, by simpa using hpk⟩ (by (simp -dsimp +decide (disch := omega) only [vt2, vy, vz, vze, vy, vz, vze, va, vc, vu, vl, Tryd.ty, Tryd.en, ↓reduceIte, Nat.reduceSub, Nat.reduceAdd, Nat.reduceMul, Nat.reduceLT, Int.reduceAdd, Int.reduceSub, Int.reduceToNat, Int.cast_ofNat_Int, vi, getO_i])) rfl (by simp) ?_ ?_
      · rintro ⟨k, out1⟩ g1 ⟨hk, hpk1⟩
        dsimp only at hk hpk1
        refine SemA.of (by kernel_rfl) ?_
        (simp -dsimp +decide (disch := omega) only [vt2, vy, vz, vze, vy, vz, vze, va, vc, vu, vl, Tryd.ty, Tryd.en, ↓reduceIte, Nat.reduceSub, Nat.reduceAdd, Nat.reduceMul, Nat.reduceLT, Int.reduceAdd, Int.reduceSub, Int.reduceToNat, Int.cast_ofNat_Int, vi, getO_i, vt, hq])
        refine CondP.dec (fun h => ?_) (fun h => ?_)
        · have hrep : d.toNat >>> 19 - k = (d.toNat >>> 19 - (k + 1)) + 1 := by omega
          rw [hrep, List.replicate_succ, List.cons_append, List.cons_append] at hpk1
          have hlen := congrArg List.length hpk1
          simp only [List.length_append, List.length_cons] at hlen
          have hk0 : (UInt64.ofInt (k : Int)).toNat = k := by rw [UInt64.ofInt]; simp; omega
          have hl1 : (List.map by8 out1).length = out1.length := by simp
          (simp -dsimp +decide (disch := omega) only [vt2, vy, vz, vze, vy, vz, vze, va, vc, vu, vl, Tryd.ty, Tryd.en, ↓reduceIte, Nat.reduceSub, Nat.reduceAdd, Nat.reduceMul, Nat.reduceLT, Int.reduceAdd, Int.reduceSub, Int.reduceToNat, Int.cast_ofNat_Int, vi, getO_i, vt, wt, wi, wo8, hl1])
          refine ⟨by omega, (k + 1, out1 ++ [1]), ⟨⟨by dsimp only; omega, by dsimp only; rw [← hpk1, List.append_assoc]; rfl⟩, by dsimp only; omega⟩, by and_intros <;> first | rfl | (simp; done) | (simp [hk0]; omega), ?_⟩
          rw [← app8]; rfl
        · have hk0 : k = d.toNat >>> 19 := by omega
          subst hk0
          rw [Nat.sub_self] at hpk1
          (simp -dsimp +decide (disch := omega) only [vt2, vy, vz, vze, vy, vz, vze, va, vc, vu, vl, Tryd.ty, Tryd.en, ↓reduceIte, Nat.reduceSub, Nat.reduceAdd, Nat.reduceMul, Nat.reduceLT, Int.reduceAdd, Int.reduceSub, Int.reduceToNat, Int.cast_ofNat_Int, vi, getO_i, vt, wt, wi, wo8])
          exact ⟨out1, by simpa using hpk1⟩
      · rintro out1 g1 tmp1 hpk1
        have hlen := congrArg List.length hpk1
        simp only [List.length_append, List.length_cons] at hlen
        have hl1 : (List.map by8 out1).length = out1.length := by simp
        (simp -dsimp +decide (disch := omega) only [vt2, vy, vz, vze, vy, vz, vze, va, vc, vu, vl, Tryd.ty, Tryd.en, ↓reduceIte, Nat.reduceSub, Nat.reduceAdd, Nat.reduceMul, Nat.reduceLT, Int.reduceAdd, Int.reduceSub, Int.reduceToNat, Int.cast_ofNat_Int, vi, getO_i, vt, wt, wi, wo8, hl1])
        refine ⟨by omega, ?_⟩
        refine SemA.cut (T.length + 2) (by omega) ?_
        (simp -dsimp +decide (disch := omega) only [vt2, vy, vz, vze, vy, vz, vze, va, vc, vu, vl, Tryd.ty, Tryd.en, ↓reduceIte, Nat.reduceSub, Nat.reduceAdd, Nat.reduceMul, Nat.reduceLT, Int.reduceAdd, Int.reduceSub, Int.reduceToNat, Int.cast_ofNat_Int, vi, getO_i, vt, wt, wi, wo8])
        have hz : List.map by8 out1 ++ [AV.p (.int .u8 0)] = (out1 ++ [0]).map by8 := by rw [← app8]; rfl
        rw [hz]
        have hpk1' : (out1 ++ [0]) ++ (low ++ rest) = total := by rw [← hpk1, List.append_assoc]; rfl
        refine SemA.loopK (T.length + 2) (fun s' : Nat × List UInt8 => [(6, .vs (L.map w64) L.length), (8, .sl (T.length + 1) 0 s'.2.length), (9, w64 x), (10, wint (s : Int)), (11, w64 d), (13, wint (18 - (s'.1 : Int)))]) (fun s' => T ++ [idc, .buf 5 1 (s'.2.map by8)]) (fun s' => s'.1 ≤ 19 ∧ s'.2 ++ (low.drop s'.1 ++ rest) = total) (fun s' => 19 - s'.1) (0, out1 ++ [0]) [] 4 (fun s' : List UInt8 => [(6, .vs (L.map w64) L.length), (8, .sl (T.length + 1) 0 s'.length), (9, w64 x), (10, wint (s : Int))]) (fun s' => T ++ [idc, .buf 5 1 (s'.map by8)]) (fun s' => s' ++ rest = total) (by omega) ⟨by simp, by simpa using hpk1'⟩ (by (simp -dsimp +decide (disch := omega) only [vt2, vy, vz, vze, vy, vz, vze, va, vc, vu, vl, Tryd.ty, Tryd.en, ↓reduceIte, Nat.reduceSub, Nat.reduceAdd, Nat.reduceMul, Nat.reduceLT, Int.reduceAdd, Int.reduceSub, Int.reduceToNat, Int.cast_ofNat_Int, vi, getO_i, List.length_append]); first | rfl | (and_intros <;> first | rfl | (simp; done))) rfl (by simp) ?_ ?_
        · rintro ⟨j, out2⟩ g2 ⟨hj, hpk2⟩
          dsimp only at hj hpk2
          refine SemA.of (by kernel_rfl) ?_
          (simp -dsimp +decide (disch := omega) only [vt2, vy, vz, vze, vy, vz, vze, va, vc, vu, vl, Tryd.ty, Tryd.en, ↓reduceIte, Nat.reduceSub, Nat.reduceAdd, Nat.reduceMul, Nat.reduceLT, Int.reduceAdd, Int.reduceSub, Int.reduceToNat, Int.cast_ofNat_Int, vi, getO_i, vt])
          refine CondP.dec (fun h => ?_) (fun h => ?_)
          · have hld : low.drop j = (u64_shr d (18 - j) &&& 1).toUInt8 :: low.drop (j + 1) := by
              rw [List.drop_eq_getElem_cons (by omega)]
              congr 1
              subst hlow; simp
            rw [hld, List.cons_append] at hpk2
            have hlen2 := congrArg List.length hpk2
            simp only [List.length_append, List.length_cons] at hlen2
            have hj18 : (18 : Int) - (j : Int) = ((18 - j : Nat) : Int) := by omega
            have hju : (UInt64.ofInt ((18 - j : Nat) : Int)).toNat = 18 - j := by rw [UInt64.ofInt]; simp; omega
            have hl2 : (List.map by8 out2).length = out2.length := by simp
            (simp -dsimp +decide (disch := omega) only [vt2, vy, vz, vze, vy, vz, vze, va, vc, vu, vl, Tryd.ty, Tryd.en, ↓reduceIte, Nat.reduceSub, Nat.reduceAdd, Nat.reduceMul, Nat.reduceLT, Int.reduceAdd, Int.reduceSub, Int.reduceToNat, Int.cast_ofNat_Int, vi, getO_i, vt, wt, wi, wo8, hl2, hj18, hju])
            refine ⟨by omega, by omega, (j + 1, out2 ++ [(u64_shr d (18 - j) &&& 1).toUInt8]), ⟨⟨by dsimp only; omega, by dsimp only; rw [← hpk2, List.append_assoc]; rfl⟩, by dsimp only; omega⟩, ⟨by simp, ?_⟩, rfl⟩
            dsimp only
            rw [show ((18 - j : Nat) : Int) - 1 = 18 - ((j + 1 : Nat) : Int) by omega]
          · have hj19 : j = 19 := by omega
            subst hj19
            rw [List.drop_eq_nil_of_le (by omega)] at hpk2
            (simp -dsimp +decide (disch := omega) only [vt2, vy, vz, vze, vy, vz, vze, va, vc, vu, vl, Tryd.ty, Tryd.en, ↓reduceIte, Nat.reduceSub, Nat.reduceAdd, Nat.reduceMul, Nat.reduceLT, Int.reduceAdd, Int.reduceSub, Int.reduceToNat, Int.cast_ofNat_Int, vi, getO_i, vt, wt, wi, wo8])
            exact ⟨out2, by simpa using hpk2⟩
        · rintro out2 g2 tmp2 hpk2
          (simp -dsimp +decide (disch := omega) only [vt2, vy, vz, vze, vy, vz, vze, va, vc, vu, vl, Tryd.ty, Tryd.en, ↓reduceIte, Nat.reduceSub, Nat.reduceAdd, Nat.reduceMul, Nat.reduceLT, Int.reduceAdd, Int.reduceSub, Int.reduceToNat, Int.cast_ofNat_Int, vi, getO_i, vt, wt, wi, wo8])
          exact ⟨(s + 1, x, out2), ⟨⟨by dsimp only; omega, hsm2, by dsimp only; rw [← hrest]; exact hpk2⟩, by dsimp only; omega⟩, by first | rfl | (and_intros <;> first | rfl | (simp; done)), rfl⟩
    · have hd : L.drop s = [] := List.drop_eq_nil_of_le (by omega)
      rw [hd] at hpk
      have hpk : out = total := by rw [← hpk]; simp [bitsF]
      subst hpk
      (simp -dsimp +decide (disch := omega) only [vt2, vy, vz, vze, vy, vz, vze, va, vc, vu, vl, Tryd.ty, Tryd.en, ↓reduceIte, Nat.reduceSub, Nat.reduceAdd, Nat.reduceMul, Nat.reduceLT, Int.reduceAdd, Int.reduceSub, Int.reduceToNat, Int.cast_ofNat_Int, vi, getO_i, vt, wt, wi, wo8])
      exact ⟨(), by first | trivial | rfl⟩
  · rintro ⟨⟩ g tmp -
    (simp -dsimp +decide (disch := omega) only [vt2, vy, vz, vze, vy, vz, vze, va, vc, vu, vl, Tryd.ty, Tryd.en, ↓reduceIte, Nat.reduceSub, Nat.reduceAdd, Nat.reduceMul, Nat.reduceLT, Int.reduceAdd, Int.reduceSub, Int.reduceToNat, Int.cast_ofNat_Int, vi, getO_i, vt])
    refine (rput_nil (n := UInt64.ofInt (L.length : Int)) (k := 4) (.inr (.inr (.inl rfl)))).det' ?_
    (simp -dsimp +decide (disch := omega) only [vt2, vy, vz, vze, vy, vz, vze, va, vc, vu, vl, Tryd.ty, Tryd.en, ↓reduceIte, Nat.reduceSub, Nat.reduceAdd, Nat.reduceMul, Nat.reduceLT, Int.reduceAdd, Int.reduceSub, Int.reduceToNat, Int.cast_ofNat_Int, vi, getO_i, vt])
    obtain ⟨hdr, hhdr⟩ : ∃ hdr, hdr = lbs (UInt64.ofInt (L.length : Int)) 4 := ⟨_, rfl⟩
    have hh4 : hdr.length = 4 := by rw [hhdr, lbs_len]
    have hfin : filtB L = pks hdr 0 total := by rw [hhdr, htot]; rfl
    rw [← hhdr]
    refine SemA.loopK (T.length + 3) (fun s : Nat × List UInt8 => [(8, .sl (T.length + 1) 0 total.length), (14, .sl (T.length + 2) 0 s.2.length), (15, wint (s.1 : Int))]) (fun s => T ++ [idc, .buf 5 1 (total.map by8), .buf 5 1 (s.2.map by8)]) (fun s => s.1 ≤ total.length ∧ s.2.length = 4 + (s.1 + 7) / 8 ∧ pks s.2 s.1 (total.drop s.1) = filtB L) (fun s => total.length - s.1) (0, hdr) [] 6 (fun _ : Unit => [(14, .sl (T.length + 2) 0 (filtB L).length)]) (fun _ => T ++ [idc, .buf 5 1 (total.map by8), .buf 5 1 ((filtB L).map by8)]) (fun _ => True) (by omega) ⟨by simp, by simp [hh4], by rw [hfin]; rfl⟩ (by (simp -dsimp +decide (disch := omega) only [vt2, vy, vz, vze, vy, vz, vze, va, vc, vu, vl, Tryd.ty, Tryd.en, ↓reduceIte, Nat.reduceSub, Nat.reduceAdd, Nat.reduceMul, Nat.reduceLT, Int.reduceAdd, Int.reduceSub, Int.reduceToNat, Int.cast_ofNat_Int, vi, getO_i]); rw [hh4]) rfl (by simp) ?_ ?_
    · rintro ⟨i, out⟩ g2 ⟨hi, hol, hpk⟩
      dsimp only at hi hol hpk
      refine SemA.of (by kernel_rfl) ?_
      (simp -dsimp +decide (disch := omega) only [vt2, vy, vz, vze, vy, vz, vze, va, vc, vu, vl, Tryd.ty, Tryd.en, ↓reduceIte, Nat.reduceSub, Nat.reduceAdd, Nat.reduceMul, Nat.reduceLT, Int.reduceAdd, Int.reduceSub, Int.reduceToNat, Int.cast_ofNat_Int, vi, getO_i, vt])
      refine CondP.dec (fun h => ?_) (fun h => ?_)
      · have hit : i < total.length := by omega
        have hd : total.drop i = total[i]! :: total.drop (i + 1) := by rw [List.drop_eq_getElem_cons hit, getElem!_pos total i hit]
        rw [hd, pks] at hpk
        have hgt := get8 total hit
        have hne : List.map by8 total ≠ [] := fun e => by rw [List.map_eq_nil_iff] at e; rw [e] at hit; simp at hit
        have hl1 : (List.map by8 out).length = out.length := by simp
        have hsh : (7 : Int) - ((i % 8 : Nat) : Int) = ((7 - i % 8 : Nat) : Int) := by omega
        have hju : (UInt64.ofInt ((7 - i % 8 : Nat) : Int)).toNat = 7 - i % 8 := by rw [UInt64.ofInt]; simp; omega
        (simp -dsimp +decide (disch := omega) only [vt2, vy, vz, vze, vy, vz, vze, va, vc, vu, vl, Tryd.ty, Tryd.en, ↓reduceIte, Nat.reduceSub, Nat.reduceAdd, Nat.reduceMul, Nat.reduceLT, Int.reduceAdd, Int.reduceSub, Int.reduceToNat, Int.cast_ofNat_Int, vi, getO_i, vt])
        refine CondP.dec (fun h0 => ?_) (fun h0 => ?_)
        · have h0 : i % 8 = 0 := by omega
          have hz : List.map by8 out ++ [AV.p (.int .u8 0)] = (out ++ [0]).map by8 := by rw [← app8]; rfl
          have hlo : (out ++ [(0 : UInt8)]).length = out.length + 1 := by simp
          have hg := get8 (out ++ [0]) (k := out.length) (by simp)
          have hne2 : List.map by8 (out ++ [0]) ≠ [] := by simp
          (simp -dsimp +decide (disch := omega) only [vt2, vy, vz, vze, vy, vz, vze, va, vc, vu, vl, Tryd.ty, Tryd.en, ↓reduceIte, Nat.reduceSub, Nat.reduceAdd, Nat.reduceMul, Nat.reduceLT, Int.reduceAdd, Int.reduceSub, Int.reduceToNat, Int.cast_ofNat_Int, vi, getO_i, vt, wt, wi, wo8, hl1])
          refine ⟨by omega, ?_⟩
          refine SemA.drawS (.fl 0 (.fl 1 (.fl 2 (.fl 3 (.fl 4 (.fl 5 (.fl 6 (.fl 7 (.fl 8 (.fl 9 (.fl 10 (.fl 11 (.fl 12 (.fl 13 (.fl 14 (.fl 15 (.fl 16 (.sq 17 .nil)))))))))))))))))) Tryd.mixed (by kernel_rfl) ?_
          (simp -dsimp +decide (disch := omega) only [vt2, vy, vz, vze, vy, vz, vze, va, vc, vu, vl, Tryd.ty, Tryd.en, ↓reduceIte, Nat.reduceSub, Nat.reduceAdd, Nat.reduceMul, Nat.reduceLT, Int.reduceAdd, Int.reduceSub, Int.reduceToNat, Int.cast_ofNat_Int, vi, getO_i, vt, wt, wi, wo8, hz, hlo, hg, hgt, hsh, hju, set8, List.length_map])
          have hpkd : pk out i total[i]! = (out ++ [0]).set out.length ((out ++ [0])[out.length]! ||| u8_shl total[i]! (7 - i % 8)) := by
            unfold pk; simp [h0]
          repeat (refine And.intro (by first | omega | exact ⟨by omega, by omega, hne⟩ | exact ⟨by omega, by omega, hne2⟩) ?_)
          rw [show out.length + 1 - 1 = out.length by omega, ← hpkd]
          have hpl : (pk out i total[i]!).length = out.length + 1 := by rw [pk_len, if_pos h0]
          exact ⟨(i + 1, pk out i total[i]!), ⟨⟨by dsimp only; omega, by dsimp only; omega, hpk⟩, by dsimp only; omega⟩, ⟨by rw [hpl], rfl⟩, rfl⟩
        · have h0 : ¬ i % 8 = 0 := by omega
          have ho' : 0 < out.length := by omega
          have hg := get8 out (k := out.length - 1) (by omega)
          have hne2 : List.map by8 out ≠ [] := fun e => by rw [List.map_eq_nil_iff] at e; rw [e] at ho'; simp at ho'
          have hpkd : pk out i total[i]! = out.set (out.length - 1) (out[out.length - 1]! ||| u8_shl total[i]! (7 - i % 8)) := by
            unfold pk; simp [h0]
          (simp -dsimp +decide (disch := omega) only [vt2, vy, vz, vze, vy, vz, vze, va, vc, vu, vl, Tryd.ty, Tryd.en, ↓reduceIte, Nat.reduceSub, Nat.reduceAdd, Nat.reduceMul, Nat.reduceLT, Int.reduceAdd, Int.reduceSub, Int.reduceToNat, Int.cast_ofNat_Int, vi, getO_i, vt])
          refine SemA.drawS (.fl 0 (.fl 1 (.fl 2 (.fl 3 (.fl 4 (.fl 5 (.fl 6 (.fl 7 (.fl 8 (.fl 9 (.fl 10 (.fl 11 (.fl 12 (.fl 13 (.fl 14 (.fl 15 (.fl 16 (.sq 17 .nil)))))))))))))))))) Tryd.mixed (by kernel_rfl) ?_
          (simp -dsimp +decide (disch := omega) only [vt2, vy, vz, vze, vy, vz, vze, va, vc, vu, vl, Tryd.ty, Tryd.en, ↓reduceIte, Nat.reduceSub, Nat.reduceAdd, Nat.reduceMul, Nat.reduceLT, Int.reduceAdd, Int.reduceSub, Int.reduceToNat, Int.cast_ofNat_Int, vi, getO_i, vt, wt, wi, wo8, hg, hgt, hsh, hju, set8, List.length_map])
          repeat (refine And.intro (by first | omega | exact ⟨by omega, by omega, hne⟩ | exact ⟨by omega, by omega, hne2⟩) ?_)
          rw [← hpkd]
          have hpl : (pk out i total[i]!).length = out.length := by rw [pk_len, if_neg h0]
          exact ⟨(i + 1, pk out i total[i]!), ⟨⟨by dsimp only; omega, by dsimp only; omega, hpk⟩, by dsimp only; omega⟩, ⟨by rw [hpl], rfl⟩, rfl⟩
      · have hi : i = total.length := by omega
        subst hi
        rw [List.drop_length] at hpk
        have hpk : out = filtB L := hpk
        subst hpk
        (simp -dsimp +decide (disch := omega) only [vt2, vy, vz, vze, vy, vz, vze, va, vc, vu, vl, Tryd.ty, Tryd.en, ↓reduceIte, Nat.reduceSub, Nat.reduceAdd, Nat.reduceMul, Nat.reduceLT, Int.reduceAdd, Int.reduceSub, Int.reduceToNat, Int.cast_ofNat_Int, vi, getO_i, vt, wt, wi, wo8])
        exact ⟨(), by first | trivial | rfl⟩
    · rintro ⟨⟩ g2 tmp2 -
      (simp -dsimp +decide (disch := omega) only [vt2, vy, vz, vze, vy, vz, vze, va, vc, vu, vl, Tryd.ty, Tryd.en, ↓reduceIte, Nat.reduceSub, Nat.reduceAdd, Nat.reduceMul, Nat.reduceLT, Int.reduceAdd, Int.reduceSub, Int.reduceToNat, Int.cast_ofNat_Int, vi, getO_i, vt])
      refine Vw.pub (T.length + 2) (o := .buf 5 1 ((filtB L).map by8)) (by (simp -dsimp +decide only [vt2, vy, vz, vze, vy, vz, vze, va, vc, vu, vl, Tryd.ty, Tryd.en, ↓reduceIte, Nat.reduceSub, Nat.reduceAdd, Nat.reduceMul, Nat.reduceLT, Int.reduceAdd, Int.reduceSub, Int.reduceToNat, Int.cast_ofNat_Int])) rfl (clean8 _) ?_
      (simp -dsimp +decide only [vt2, vy, vz, vze, vy, vz, vze, va, vc, vu, vl, Tryd.ty, Tryd.en, ↓reduceIte, Nat.reduceSub, Nat.reduceAdd, Nat.reduceMul, Nat.reduceLT, Int.reduceAdd, Int.reduceSub, Int.reduceToNat, Int.cast_ofNat_Int, vt, wp])
      exact Vw.cut ⟨rfl, rfl, rfl⟩
end Go.Proofs.YtmcbdlefakjpoaaDoor

set_option linter.unusedSimpArgs false
set_option linter.unusedVariables false
set_option linter.unusedSectionVars false
namespace Go.E

/-- slots that are set one behind the other -/
def putsA (n : Nat) : List (Tmp × AV) → List AV → List (Nat × AV) → List AV × List (Nat × AV)
  | [], loc, tmp => (loc, tmp)
  | (t, v) :: r, loc, tmp => if t < n then putsA n r (loc.set t v) tmp else putsA n r loc ((t, v) :: tmp)
/-- what is known of the slots, and no more -/
def recA (n : Nat) (L : List (Nat × AV)) : List AV := mkA (fun _ => .any) L 0 n

/-- one slot, behind what may have moved objects -/
def slot1 (es : Eff) (a : AV) : AV := match still es with
  | true => a
  | false => a.wo (moved es)
theorem slots_map (es : Eff) : (∀ l, slots es l = l.map (slot1 es)) ∧ (∀ l, slotsT es l = l.map fun p => (p.1, slot1 es p.2)) := by
  refine ⟨fun l => ?_, fun l => ?_⟩
  · cases h : still es
    · have : slot1 es = AV.wo (moved es) := by funext a; simp [slot1, h]
      simp [slots, this, h]
    · have : slot1 es = id := by funext a; simp [slot1, h]
      simp [slots, this, h]
  · cases h : still es
    · have : slot1 es = AV.wo (moved es) := by funext a; simp [slot1, h]
      simp [slotsT, this, h]
    · have : slot1 es = id := by funext a; simp [slot1, h]
      simp [slotsT, this, h]
theorem slot1_eq (es : Eff) : (∀ v, slot1 es (.p v) = .p v) ∧ slot1 es .any = .any ∧ (∀ cs o, slot1 es (.vp cs o) = .vp cs o) ∧ (∀ cs k, slot1 es (.vs cs k) = .vs cs k) ∧ (∀ i, moved es i = false → slot1 es (.yl i) = .yl i) ∧ (∀ i o, moved es i = false → slot1 es (.ptr i o) = .ptr i o) := by
  refine ⟨fun v => ?_, ?_, fun cs o => ?_, fun cs k => ?_, fun i h => ?_, fun i o h => ?_⟩ <;> unfold slot1 <;> split <;> first | rfl | (rw [AV.wo]; done) | (rw [AV.wo, h]; rfl)
theorem subE_rec (k : Nat) (es E : Eff) : subE (recE k es E) es = subE E es := by
  refine propext ⟨fun h x hx => h x (recE_mem.2 (.inr hx)), fun h x hx => ?_⟩
  rcases recE_mem.1 hx with h1 | h1
  · exact h1.1
  · exact h x h1
section
variable {P : Program} {G : Nat → AV} {Γ Γ' Γ0 : Heap} {ρ ρ' ρ0 : List BI} {T T' T0 : Tbl} {w w' w0 : World} {a b : AV} {u v : Value} {K : AV → Tbl → Eff → Prop} {cs : List AV} {es E : Eff}
variable {N n m : Nat} {ro : Option Nat} {ds loc : List AV} {tmp : List (Nat × AV)} {Nk R : AKont} {X : Nat → AKont}

theorem putsA_rel {lv : List Value} {tv : List (Nat × Value)} : ∀ (l : List Tmp) {cs : List AV} {vs : List Value} {loc : List AV} {tmp : List (Nat × AV)} {lv : List Value} {tv : List (Nat × Value)}, RelL Γ ρ cs vs → RelL Γ ρ loc lv → RelT Γ ρ tmp tv →
    RelL Γ ρ (putsA n (l.zip cs) loc tmp).1 (putsK n (l.zip vs) lv tv).1 ∧ RelT Γ ρ (putsA n (l.zip cs) loc tmp).2 (putsK n (l.zip vs) lv tv).2
  | [], _, _, _, _, _, _, _, h2, h3 => ⟨h2, h3⟩
  | t :: l, [], vs, _, _, _, _, h1, h2, h3 => by
    cases vs with
    | nil => exact ⟨h2, h3⟩
    | cons v vs => have := h1.1; simp at this
  | t :: l, a :: cs, vs, _, _, _, _, h1, h2, h3 => by
    obtain ⟨v, us, rfl, g1, g2⟩ := h1.uncons
    simp only [List.zip_cons_cons, putsA, putsK]
    split
    · exact putsA_rel (lv := lv) (tv := tv) l g2 (h2.set g1 t) h3
    · exact putsA_rel (lv := lv) (tv := tv) l g2 h2 (.cons g1 h3)
theorem look_or (k : Nat) : ∀ (l : List (Nat × AV)), (∀ d, look k d l = d) ∨ ∃ a, ∀ d, look k d l = a
  | [] => .inl fun _ => rfl
  | (j, a) :: r => by
    by_cases h : k = j
    · exact .inr ⟨a, fun d => by simp [look, h]⟩
    · rcases look_or k r with h1 | ⟨a, h1⟩
      · exact .inl fun d => by simp [look, h, h1]
      · exact .inr ⟨a, fun d => by simp [look, h, h1]⟩
theorem recA_rel {L : List (Nat × AV)} {lv : List Value} (h : Lc n L loc) (hr : RelL Γ ρ loc lv) : RelL Γ ρ (recA n L) lv := by
  refine ⟨by rw [recA, mkA_len, ← hr.1, h.len], fun k x y hx hy => ?_⟩
  have hk : k < n := by
    have := (List.getElem?_eq_some_iff.1 hx).1
    rwa [recA, mkA_len] at this
  rw [recA, mkA_get _ _ _ _ _ hk, Nat.zero_add] at hx
  have h2 := h.get k hk
  rcases look_or k L with h1 | ⟨a, h1⟩
  · rw [h1] at hx; cases hx; exact .any _
  · rw [h1] at hx h2; cases hx; exact hr.2 k _ y h2 hy

theorem YldI.mono {i : Nat} {args : List AV} {K' : AV → Tbl → Eff → Prop} (h : YldI P G i args T K) (hk : ∀ v T E, K v T E → K' v T E) : YldI P G i args T K' :=
  fun Γ ρ w vs x b h1 h2 h3 h4 h5 => (h Γ ρ w vs x b h1 h2 h3 h4 h5).mono fun v w' ⟨Γ', ρ', T', es, a, g1, g2, g3, g4⟩ => ⟨Γ', ρ', T', es, a, g1, g2, g3, hk _ _ _ g4⟩

/-- an iterator's contract: xs come, in this order, or a part of them till a round says no more -/
def Iter {α : Type} (P : Program) (G : Nat → AV) (g : FuncId) (cs : List AV) (A : α → List AV) (xs : List α) (i : Nat) : Prop :=
  ∀ (J Jx : List α → Tbl → Prop) (Ei : Eff) (T : Tbl), moved Ei i = false → J [] T →
    (∀ pre x T, pre ++ [x] <+: xs → J pre T → YldI P G i (A x) T fun v T' E' => E' = Ei ∧ ((v = .p (.bool true) ∧ J (pre ++ [x]) T') ∨ (v = .p (.bool false) ∧ Jx (pre ++ [x]) T'))) →
    CallA P G g (.yl i :: cs) T fun _ T' E' => (∀ x ∈ E', x ∈ Ei) ∧ (J xs T' ∨ ∃ pre, pre <+: xs ∧ Jx pre T')

theorem Frm.setRec {N0 : Nat} {U new : Tbl} {o1 o2 : Obj} {cs : List AV} {vs : List Value} {b : Nat} {x : BI} (h : Frm G Γ0 ρ0 T0 w0 Γ ρ (U ++ (.raw o1 :: .rcd o2 cs vs :: new)) w E) (hU : U.length = N0) (hx : ρ[N0 + 1]? = some x) (hb : x.blk = some b) (o3 : Obj) :
    w.heap[b]? = some o2 ∧ Frm G Γ0 ρ0 T0 w0 Γ ρ (U ++ (.raw o1 :: .rcd o3 cs vs :: new)) (w.putObj b o3) ((N0 + 1, false) :: E) := by
  subst hU
  have hT : (U ++ (.raw o1 :: .rcd o2 cs vs :: new))[U.length + 1]? = some (.rcd o2 cs vs) := by
    rw [List.getElem?_append_right (by omega), show U.length + 1 - U.length = 1 by omega]; rfl
  obtain ⟨b', g1, g2, g3⟩ := h.st.obj _ _ _ hT hx
  rw [hb] at g1; cases g1
  have hb' : b < w.heap.size := (Array.getElem?_eq_some_iff.1 g2).1
  obtain ⟨k1, k2⟩ := h.st.write (w' := w.putObj b o3) hT hx rfl (.rcd o3 cs vs) rfl (fun k hk => World.putObj_heap_other fun e => hk (by rw [e]; exact hb)) ⟨rfl, rfl⟩ ⟨b, hb, World.putObj_heap_same hb', g3⟩
  have e : (U ++ (.raw o1 :: .rcd o2 cs vs :: new)).set (U.length + 1) (.rcd o3 cs vs) = U ++ (.raw o1 :: .rcd o3 cs vs :: new) := by
    rw [List.set_append, if_neg (by omega), show U.length + 1 - U.length = 1 by omega]; rfl
  rw [e] at k1 k2
  have hf' := h.step k1 k2
  exact ⟨g2, hf'.g, hf'.st, hf'.ext.more fun x hx _ => by
    rcases recE_mem.1 hx with ⟨h1, _⟩ | h1
    · simp at h1; simp [h1]
    · simp [h1]⟩

/-- **A RANGE OVER A FUNCTION**, outside every round -/
theorem SemA.range {α ζ : Type} {fo : Operand} {ps : Array Tmp} {assign body : Code} {g : FuncId} {A : α → List AV} {xs : List α}
    (N0 : Nat) (Ls : List (Nat × AV)) (Ei : Eff) (U : List α → ζ → Tbl) (I : List α → ζ → Prop) (Ux : Code → List α → ζ → Tbl) (Ix : Code → List α → ζ → Prop) (z0 : ζ)
    (hfo : evA G n loc tmp fo = .fn g cs) (hg : entered P g = true) (hok : (codeOK m assign && codeOK m body && ps.toList.all (· < m)) = true)
    (hA : ∀ x, (A x).length = ps.size) (hL : Lc n Ls loc) (hT : T = U [] z0) (hI : I [] z0) (hN : N ≤ N0) (hU : ∀ pre z, I pre z → (U pre z).length = N0) (hUx : ∀ c pre z, Ix c pre z → (Ux c pre z).length = N0)
    (hEi : moved Ei N0 = false ∧ moved Ei (N0 + 1) = false ∧ (N0 + 1, false) ∈ Ei) (hit : Iter P G g cs A xs (N0 + 1))
    (round : ∀ (l : Nat) (o1 o2 : Obj) (lv : List Value) pre x z, pre ++ [x] <+: xs → I pre z →
      codeA P G (N0 + 2) (some l) n m assign [] (putsA n (ps.toList.zip (A x)) (recA n Ls) []).1 (putsA n (ps.toList.zip (A x)) (recA n Ls) []).2 (U pre z ++ [.raw o1, .rcd o2 (recA n Ls) lv]) []
        (fun ds1 loc1 tmp1 T1 E1 => ∃ new, T1 = U pre z ++ (.raw o1 :: .rcd o2 (recA n Ls) lv :: new) ∧ E1 = [] ∧ ∀ o3, codeA P G (N0 + 2) (some l) n m body ds1 loc1 tmp1 (U pre z ++ (.raw o1 :: .rcd o3 (recA n Ls) lv :: new)) [(N0 + 1, false)]
          (fun _ _ _ T2 E2 => (∃ z', I (pre ++ [x]) z' ∧ (T2.take (N0 + 2)).map (AObj.wo (N0 + 2 ≤ ·)) = U (pre ++ [x]) z' ++ [.raw o1, .rcd o3 (recA n Ls) lv]) ∧ ∀ e ∈ E2, e ∈ Ei)
          (fun i _ _ _ T2 E2 => (∃ z', Ix (.exit i) (pre ++ [x]) z' ∧ (T2.take (N0 + 2)).map (AObj.wo (N0 + 2 ≤ ·)) = Ux (.exit i) (pre ++ [x]) z' ++ [.raw o1, .rcd o3 (recA n Ls) lv]) ∧ ∀ e ∈ E2, e ∈ Ei)
          (fun _ _ _ T2 E2 => (∃ z', Ix .ret (pre ++ [x]) z' ∧ (T2.take (N0 + 2)).map (AObj.wo (N0 + 2 ≤ ·)) = Ux .ret (pre ++ [x]) z' ++ [.raw o1, .rcd o3 (recA n Ls) lv]) ∧ ∀ e ∈ E2, e ∈ Ei))
        (fun _ _ _ _ _ _ => False) (fun _ _ _ _ _ => False))
    (done : ∀ z' o lv, I xs z' → Nk (.ptr N0 0 :: slots Ei ds) (slots Ei loc) (slotsT Ei tmp) (U xs z' ++ [.raw (.deferred (some [])), .rcd o (recA n Ls) lv]) (recE N Ei E))
    (stopX : ∀ i pre z' o lv, pre <+: xs → Ix (.exit i) pre z' → X i (.ptr N0 0 :: slots Ei ds) (slots Ei loc) (slotsT Ei tmp) (Ux (.exit i) pre z' ++ [.raw (.deferred (some [])), .rcd o (recA n Ls) lv]) (recE N Ei E))
    (stopR : ∀ pre z' o lv, pre <+: xs → Ix .ret pre z' → R (.ptr N0 0 :: slots Ei ds) (slots Ei loc) (slotsT Ei tmp) (Ux .ret pre z' ++ [.raw (.deferred (some [])), .rcd o (recA n Ls) lv]) (recE N Ei E)) :
    SemA P G N none n m (.rangeFunc fo ps assign body) ds loc tmp T E Nk X R := by
  simp only [Bool.and_eq_true] at hok
  obtain ⟨⟨hok1, hok2⟩, hps⟩ := hok
  obtain ⟨hE0, hE1, hE2⟩ := hEi
  have hNE0 : (N0, true) ∉ Ei := fun h => by rw [moved_spec.2 h] at hE0; cases hE0
  have hNE1 : (N0 + 1, true) ∉ Ei := fun h => by rw [moved_spec.2 h] at hE1; cases hE1
  intro Γ0 ρ0 T0 w0 Γ ρ w dv lv tv hN0 hf ha a haa Qs hQs
  refine wpIn_rangeFunc fun fn hfn => ?_
  obtain ⟨base, hbase⟩ := haa.base
  have hTl : T.length = N0 := by rw [hT]; exact hU _ _ hI
  have hρl : ρ.length = N0 := hf.st.len.trans hTl
  -- the iterator's value
  have hrf := evA_rel (n := n) (base := base) hf.g ha.loc ha.tmp fo
  rw [hfo] at hrf
  obtain ⟨caps, hev, hcaps⟩ := hrf.fn_inv
  have hev : a.eval fo = .func (.func g) #[] caps.toArray := by rw [hbase.ev]; exact hev
  obtain ⟨rec, hrec⟩ : ∃ rec : LoopState → Option Code → Loop, rec = fun st pe => { state := st, pending := pe, fn, tmps := a.tmps, params := ps, assign, body, defers := w.heap.size } := ⟨_, rfl⟩
  let l := w.heap.size + 1
  -- two objects more
  have hrl : RelL Γ ρ (recA n Ls) lv := recA_rel hL ha.loc
  obtain ⟨s1, e1⟩ := hf.st.push (w' := w.alloc (.deferred (some []))) ⟨some w.heap.size, 0, false⟩ (.raw (.deferred (some []))) (alloc_of hf.st _) (alloc_old _) ⟨_, rfl, by rw [heap_alloc, if_pos rfl]⟩ (fun b hb => by cases hb; exact Nat.le_refl _)
  obtain ⟨s2, e2⟩ := s1.push (w' := (w.alloc (.deferred (some []))).alloc (.loop (rec .ready none))) ⟨some l, 0, false⟩ (.rcd (.loop (rec .ready none)) (recA n Ls) lv) (alloc_of s1 _) (alloc_old _)
    ⟨_, rfl, by rw [heap_alloc, if_pos (by simp [l])], (hrl.mono (Heap.le_refl _) (snoc_mono _ _)).mono (Heap.le_refl _) (snoc_mono _ _)⟩ (fun b hb => by cases hb; simp [l])
  have hx1 : (ρ ++ [⟨some w.heap.size, 0, false⟩] ++ [⟨some l, 0, false⟩])[N0]? = some ⟨some w.heap.size, 0, false⟩ := by
    rw [List.append_assoc, List.getElem?_append_right (by omega), hρl, Nat.sub_self]; rfl
  have hx2 : (ρ ++ [⟨some w.heap.size, 0, false⟩] ++ [⟨some l, 0, false⟩])[N0 + 1]? = some ⟨some l, 0, false⟩ := by
    rw [List.append_assoc, List.getElem?_append_right (by omega), hρl, show N0 + 1 - N0 = 1 by omega]; rfl
  have hmono : ∀ (i : Nat) (x : BI), ρ[i]? = some x → (ρ ++ [⟨some w.heap.size, 0, false⟩] ++ [⟨some l, 0, false⟩])[i]? = some x := fun i x h => snoc_mono _ _ _ _ (snoc_mono _ _ _ _ h)
  have hf2 := (hf.step s1 e1).step s2 e2
  simp only [recE] at hf2
  have ha2 : At Γ (ρ ++ [⟨some w.heap.size, 0, false⟩] ++ [⟨some l, 0, false⟩]) ds loc tmp dv lv tv := ⟨ha.ds.mono (Heap.le_refl _) hmono, ha.loc.mono (Heap.le_refl _) hmono, ha.tmp.mono fun a v h => h.mono (Heap.le_refl _) hmono⟩
  refine ⟨l, [markOf w.heap.size], (w.alloc (.deferred (some []))).alloc (.loop (rec .ready none)), { target := .fn (.func g) caps.toArray, args := #[.func (.yield l) #[] #[]] }, (w.alloc (.deferred (some []))).alloc (.loop (rec .ready none)), g,
    (.func (.yield l) #[] #[] :: caps).toArray, (w.alloc (.deferred (some []))).alloc (.loop (rec .ready none)), ?_, ?_, fun f' _ => fz_fn f', ?_, fz_depth, ?_⟩
  · rw [hrec]; exact run_enterLoop_outer _ _ _ _ _
  · simp only [resolve, hev, rangeCall]
    simp [Deferred.ofValue, Act.eval]
  · simp only [invoke]
    have := entered_run hg ((.func (.yield l) #[] #[] :: caps).toArray) ((w.alloc (.deferred (some []))).alloc (.loop (rec .ready none)))
    simpa using this
  · let o1 : Obj := .deferred (some [])
    let J : List α → Tbl → Prop := fun pre T' => ∃ z, I pre z ∧ T' = U pre z ++ (.raw o1 :: .rcd (.loop (rec .ready none)) (recA n Ls) lv :: [])
    let Jx : List α → Tbl → Prop := fun pre T' => ∃ c z, (c = .ret ∨ ∃ i, c = .exit i) ∧ Ix c pre z ∧ T' = Ux c pre z ++ (.raw o1 :: .rcd (.loop (rec .done (some c))) (recA n Ls) lv :: [])
    have hJ0 : J [] (T ++ [.raw (.deferred (some []))] ++ [.rcd (.loop (rec .ready none)) (recA n Ls) lv]) := ⟨z0, hI, by rw [hT, List.append_assoc]; rfl⟩
    have hy : ∀ pre x T, pre ++ [x] <+: xs → J pre T → YldI P G (N0 + 1) (A x) T fun v T' E' => E' = Ei ∧ ((v = .p (.bool true) ∧ J (pre ++ [x]) T') ∨ (v = .p (.bool false) ∧ Jx (pre ++ [x]) T')) := by
      rintro pre x T' hpx ⟨z, hz, rfl⟩ Γr ρr wr vs xb b hGr hsr hvs hxr hbr
      have hlz := hU _ _ hz
      have hfr : Frm G Γr ρr (U pre z ++ (.raw o1 :: .rcd (.loop (rec .ready none)) (recA n Ls) lv :: [])) wr Γr ρr (U pre z ++ (.raw o1 :: .rcd (.loop (rec .ready none)) (recA n Ls) lv :: [])) wr [] := ⟨hGr, hsr, Ext.refl rfl⟩
      have hl := (hfr.setRec hlz hxr hbr (.loop (rec .ready none))).1
      have hrl : RelL Γr ρr (recA n Ls) lv := by
        obtain ⟨_, _, _, h3⟩ := hsr.obj (N0 + 1) _ _ (by rw [List.getElem?_append_right (by omega), hlz, show N0 + 1 - N0 = 1 by omega]; rfl) hxr
        exact h3
      have hρr : ρr.length = N0 + 2 := by rw [hsr.len]; simp [hlz]
      have hargs : vs.toArray.size = (rec .ready none).params.size := by rw [hrec]; simp [← hvs.1, hA]
      have hyr := run_yield (P := P) (args := vs.toArray) hl hargs
      refine ⟨_, _, _, _, hyr, ?_⟩
      rw [show (rec .ready none).fn = fn by rw [hrec], show (rec .ready none).params = ps by rw [hrec], show (rec .ready none).tmps = a.tmps by rw [hrec], show (rec .ready none).assign = assign by rw [hrec], show (rec .ready none).body = body by rw [hrec]]
      refine RoundIn.mono (F := Fence.wide) (R := fun e w' => ∃ v, e = .returned v ∧ Post Γr ρr (U pre z ++ (.raw o1 :: .rcd (.loop (rec .ready none)) (recA n Ls) lv :: [])) wr (fun v T' E' => E' = Ei ∧ ((v = .p (.bool true) ∧ J (pre ++ [x]) T') ∨ (v = .p (.bool false) ∧ Jx (pre ++ [x]) T'))) v w') ?_ (fun e w' h => h)
      refine roundIn_of_wpIn (F := Fence.wide) trivial ?_
      have hstart : Fits' n m [] (putsK n (ps.toList.zip vs) lv []).1 (putsK n (ps.toList.zip vs) lv []).2
          { tmps := ((ps.zip vs.toArray).foldl (fun tmps (t, a) => tmps.setIfInBounds t a) a.tmps), defers := [] } := by
        have e : (ps.zip vs.toArray).foldl (fun tmps (t, a) => tmps.setIfInBounds t a) a.tmps = (ps.toList.zip vs).foldl (fun t (p, v) => t.setIfInBounds p v) a.tmps := by
          rw [← Array.foldl_toList]; simp
        rw [e]
        have hb : Agree n (fun t => a.tmps.getD t undef) lv [] ⟨a.tmps, []⟩ := haa.clear
        refine ⟨⟨_, Agree.puts _ hb fun p hp => ?_⟩, (size_puts _ _).trans haa.size, rfl⟩
        have := List.all_eq_true.1 hps p.1 (List.of_mem_zip hp).1
        rw [haa.size]
        simpa using this
      have hput := putsA_rel (lv := []) (tv := []) (n := n) ps.toList hvs hrl (RelT.nil (Γ := Γr) (ρ := ρr))
      have hcA := round b o1 (.loop (rec .ready none)) lv pre x z hpx hz
      have hsem := codeA_sound assign _ _ _ _ _ _ _ _ hcA hok1 _ _ _ _ _ _ _ [] _ _ hρr hfr ⟨.nil, hput.1, hput.2⟩
      refine hsem _ hstart _ ?_
      intro e ds1 loc1 tmp1 w1 a1 ha1 hq
      cases e with
      | normal =>
        obtain ⟨Γ1, ρ1, T1, E1, ds1A, loc1A, tmp1A, hf1, r1, r2, r3, new, rfl, rfl, hbody⟩ := hq
        have hx1 : ρ1[N0 + 1]? = some xb := hf1.ext.place _ _ hxr (by simp)
        obtain ⟨hl1, hf1'⟩ := hf1.setRec hlz hx1 hbr (.loop { (rec .ready none) with state := .busy })
        have hbr1 := run_beginRound (P := P) hl1 (by rw [hrec])
        refine ⟨_, hbr1, ?_⟩
        have hsem2 := codeA_sound body _ _ _ _ _ _ _ _ (hbody (.loop { (rec .ready none) with state := .busy })) hok2 _ _ _ _ _ _ _ _ _ _ hρr hf1' ⟨r1, r2, r3⟩
        refine hsem2 _ ha1 _ ?_
        intro e2 ds2 loc2 tmp2 w3 a3 ha3 hq2
        have fin : ∀ (jump : Option Code) (U' : Tbl) (Γ2 : Heap) (ρ2 : List BI) (T2 : Tbl) (E2 : Eff), U'.length = N0 → Frm G Γr ρr (U pre z ++ (.raw o1 :: .rcd (.loop (rec .ready none)) (recA n Ls) lv :: [])) wr Γ2 ρ2 T2 w3 E2 →
            (T2.take (N0 + 2)).map (AObj.wo (N0 + 2 ≤ ·)) = U' ++ [.raw o1, .rcd (.loop { (rec .ready none) with state := .busy }) (recA n Ls) lv] → (∀ e ∈ E2, e ∈ Ei) →
            ∃ w4 ρ3, (Instr.endRound b jump).run P w3 = .ok (.bool jump.isNone) w4 ∧ Frm G Γr ρr (U pre z ++ (.raw o1 :: .rcd (.loop (rec .ready none)) (recA n Ls) lv :: [])) wr Γ2 ρ3 (U' ++ [.raw o1, .rcd (.loop (rec (if jump.isNone then .ready else .done) jump)) (recA n Ls) lv]) w4 Ei := by
          intro jump U' Γ2 ρ2 T2 E2 hU' hf2 he hsub
          have hc := hf2.cut (N0 + 2) (by omega)
          rw [he] at hc
          have hx2 : (ρ2.take (N0 + 2))[N0 + 1]? = some xb := by
            rw [List.getElem?_take_of_lt (by omega)]; exact hf2.ext.place _ _ hxr fun h => hNE1 (hsub _ h)
          obtain ⟨hl2, hf3⟩ := hc.setRec hU' hx2 hbr (.loop (rec (if jump.isNone then .ready else .done) jump))
          refine ⟨_, _, (run_endRound (P := P) jump hl2).trans ?_, hf3.more fun e he => ?_⟩
          · rw [hrec]
          · rcases List.mem_cons.1 he with rfl | he
            · exact hE2
            · exact hsub _ he
        cases e2 with
        | normal =>
          obtain ⟨Γ2, ρ2, T2, E2, _, _, _, hf2, _, _, _, ⟨z', hz', he⟩, hsub⟩ := hq2
          obtain ⟨w4, ρ3, hr, hf3⟩ := fin none _ _ _ _ _ (hU _ _ hz') hf2 he hsub
          exact ⟨_, w4, hr, _, rfl, Γ2, ρ3, _, Ei, .p (.bool true), hf3.st, hf3.ext, .p _, rfl, .inl ⟨rfl, z', hz', rfl⟩⟩
        | exit i =>
          obtain ⟨Γ2, ρ2, T2, E2, _, _, _, hf2, _, _, _, ⟨z', hz', he⟩, hsub⟩ := hq2
          obtain ⟨w4, ρ3, hr, hf3⟩ := fin (some (.exit i)) _ _ _ _ _ (hUx _ _ _ hz') hf2 he hsub
          exact ⟨_, w4, hr, _, rfl, Γ2, ρ3, _, Ei, .p (.bool false), hf3.st, hf3.ext, .p _, rfl, .inr ⟨rfl, _, z', .inr ⟨i, rfl⟩, hz', rfl⟩⟩
        | ret =>
          obtain ⟨Γ2, ρ2, T2, E2, _, _, _, hf2, _, _, _, ⟨z', hz', he⟩, hsub⟩ := hq2
          obtain ⟨w4, ρ3, hr, hf3⟩ := fin (some .ret) _ _ _ _ _ (hUx _ _ _ hz') hf2 he hsub
          exact ⟨_, w4, hr, _, rfl, Γ2, ρ3, _, Ei, .p (.bool false), hf3.st, hf3.ext, .p _, rfl, .inr ⟨rfl, _, z', .inl rfl, hz', rfl⟩⟩
        | _ => exact hq2.elim
      | exit i => obtain ⟨_, _, _, _, _, _, _, _, _, _, _, hq⟩ := hq; exact hq.elim
      | ret => obtain ⟨_, _, _, _, _, _, _, _, _, _, _, hq⟩ := hq; exact hq.elim
      | _ => exact hq.elim
    have hcall0 := hit J Jx Ei _ hE1 hJ0 hy _ _ _ (.func (.yield l) #[] #[] :: caps) hf2.g hf2.st (.cons (.yl hx2 rfl) (hcaps.mono (Heap.le_refl _) hmono))
    have hcall := callsIn_wide (n := 0 - 1).2 hcall0
    refine CallsIn.mono (F := fz none) hcall fun e w3 hres => ?_
    obtain ⟨v, rfl, Γ3, ρ3, T3, es3, _, s3, e3, _, hsub, hres⟩ := hres
    have e3' := e3.more (e2 := Ei) fun x hx _ => hsub x hx
    have hf3 := hf2.step s3 e3'
    have ha3 := ha2.step e3'
    have hx3 : ρ3[N0 + 1]? = some ⟨some l, 0, false⟩ := e3'.place _ _ hx2 hNE1
    have hx3' : ρ3[N0]? = some ⟨some w.heap.size, 0, false⟩ := e3'.place _ _ hx1 hNE0
    have hfits : Fits' n m (w.heap.size :: dv) lv tv { a with defers := [markOf w.heap.size] ++ a.defers } := ⟨⟨base, hbase⟩, haa.size, by simp [haa.defers]⟩
    have hds : RelL Γ3 ρ3 (.ptr N0 0 :: slots Ei ds) ((w.heap.size :: dv).map fun b => .pointer (some ⟨b, 0, none⟩)) := .cons (.ptr hx3' rfl) ha3.ds
    have hEE : ∀ e ∈ (N0 + 1, false) :: recE ρ0.length Ei E, e.1 < ρ0.length → e ∈ recE N Ei E := by
      intro e he hl
      rcases List.mem_cons.1 he with rfl | he
      · simp only at hl; omega
      · rw [← hN0]; exact he
    rcases hres with ⟨z', hz', rfl⟩ | ⟨pre, hpre, c, z', hcx, hz', rfl⟩
    · obtain ⟨hl3, hf4⟩ := hf3.setRec (hU _ _ hz') hx3 rfl (.loop { (rec .ready none) with state := .exhausted })
      refine ⟨_, _, (run_endLoop (P := P) hl3 (by rw [hrec]; simp)).trans (congrArg (Result.ok · _) (show (rec .ready none).pending = none by rw [hrec])), ?_⟩
      exact hQs .normal _ _ _ _ _ hfits ⟨Γ3, ρ3, _, _, _, _, _, ⟨hf4.g, hf4.st, hf4.ext.more hEE⟩, hds, ha3.loc, ha3.tmp, done z' _ lv hz'⟩
    · obtain ⟨hl3, hf4⟩ := hf3.setRec (hUx _ _ _ hz') hx3 rfl (.loop { (rec .done (some c)) with state := .exhausted })
      refine ⟨_, _, (run_endLoop (P := P) hl3 (by rw [hrec]; simp)).trans (congrArg (Result.ok · _) (show (rec .done (some c)).pending = some c by rw [hrec])), ?_⟩
      rcases hcx with rfl | ⟨i, rfl⟩
      · exact wpIn_ret (hQs .ret _ _ _ _ _ hfits ⟨Γ3, ρ3, _, _, _, _, _, ⟨hf4.g, hf4.st, hf4.ext.more hEE⟩, hds, ha3.loc, ha3.tmp, stopR pre z' _ lv hpre hz'⟩)
      · exact wpIn_exit (hQs (.exit i) _ _ _ _ _ hfits ⟨Γ3, ρ3, _, _, _, _, _, ⟨hf4.g, hf4.st, hf4.ext.more hEE⟩, hds, ha3.loc, ha3.tmp, stopX i pre z' _ lv hpre hz'⟩)
/-- a cell that holds nil holds a slice that may grow -/
theorem SemA.adoptC {c : Code} {i k : Nat} {Ec : TypeId} (El : TypeId) (sz : Nat) (h0 : 0 < sz) (hi : N ≤ i) (hT : T[i]? = some (.cells Ec cs)) (hk : cs[k]? = some (.p (.slice none 0 0)))
    (h : SemA P G N ro n m c ds loc tmp (T.set i (.cells Ec (cs.set k (.sl T.length 0 0))) ++ [.buf El sz []]) E Nk X R) : SemA P G N ro n m c ds loc tmp T E Nk X R := by
  refine SemA.view ?_ h
  intro Γ0 ρ0 T0 w0 Γ ρ w dv lv tv hN hf ha
  obtain ⟨k1, k2⟩ := hf.st.push (w' := w) ⟨none, 0, true⟩ (.buf El sz []) hf.st.of (fun _ _ => rfl) ⟨⟨rfl, h0⟩, 0, by simp, Nat.le_refl _, .inl ⟨rfl, rfl, rfl⟩⟩ (fun b hb => by cases hb)
  have h1 := hf.step k1 k2
  have h2 := ha.step k2
  have hiT := (List.getElem?_eq_some_iff.1 hT).1
  have hT' : (T ++ [.buf El sz []])[i]? = some (.cells Ec cs) := by rw [List.getElem?_append_left hiT]; exact hT
  obtain ⟨x, hx⟩ : ∃ x, (ρ ++ [⟨none, 0, true⟩])[i]? = some x := ⟨_, List.getElem?_eq_getElem (by have := hf.st.len; simp; omega)⟩
  obtain ⟨h3, b, vs, g1, g2, g3⟩ := k1.obj _ _ _ hT' hx
  obtain ⟨v, hv, hr⟩ := g3.get hk
  have := hr.p_inv; subst this
  have h4 := g3.set (a := .sl T.length 0 0) (v := .slice none 0 0) (.sl (x := ⟨none, 0, true⟩) (by rw [← hf.st.len]; simp) (fun _ => rfl) (Nat.le_refl _) (fun _ _ => rfl)) k
  have e : vs.set k (.slice none 0 0) = vs := by
    refine List.ext_getElem? fun j => ?_
    rw [List.getElem?_set]
    by_cases hj : k = j
    · subst hj
      obtain ⟨hl, he⟩ := List.getElem?_eq_some_iff.1 hv
      rw [if_pos rfl, if_pos hl, hv]
    · rw [if_neg hj]
  rw [e] at h4
  obtain ⟨k3, k4⟩ := k1.write (w' := w) hT' hx rfl (.cells Ec (cs.set k (.sl T.length 0 0))) rfl (fun _ _ => rfl) ⟨rfl, rfl⟩ ⟨h3, b, vs, g1, g2, h4⟩
  have e2 : (T ++ [AObj.buf El sz []]).set i (.cells Ec (cs.set k (.sl T.length 0 0))) = T.set i (.cells Ec (cs.set k (.sl T.length 0 0))) ++ [.buf El sz []] := List.set_append_left _ _ hiT
  rw [e2] at k3 k4
  have h5 := h1.step k3 k4
  refine ⟨_, _, ⟨h5.g, h5.st, h5.ext.more fun y hy hl => ?_⟩, h2.step k4⟩
  rcases recE_mem.1 hy with ⟨q1, q2⟩ | q1
  · simp only [List.mem_singleton] at q1
    subst q1
    simp only at q2; omega
  · exact q1
/-- what is turned of new objects alone -/
theorem Vw.new {v : AV} {E' : Eff} (hE : ∀ x ∈ E, x.1 < T0.length → x ∈ E') (h : Vw G T0 K v T E') : Vw G T0 K v T E := fun Γ0 ρ0 w0 Γ ρ w x hs hf hr =>
  h Γ0 ρ0 w0 Γ ρ w x hs ⟨hf.g, hf.st, hf.ext.more fun x hx hl => hE x hx (by rwa [← hs.len])⟩ hr
/-- at a call an object is published -/
theorem CallA.pub {f : FuncId} {args : List AV} {i : Nat} {o : AObj} {K' : AV → Tbl → Eff → Prop} (hT : T[i]? = some o) (hc : o.cs = some cs) (hcl : ∀ a ∈ cs, a.Clean)
    (h : CallA P G f (args.map (AV.pub i cs)) ((T.map (AObj.pub i cs)).set i .gone) K') (hk : ∀ v T' es, K' v T' es → K v T' (es ++ [(i, false)])) : CallA P G f args T K := by
  intro Γ ρ w vs hG hs ha
  obtain ⟨Γ', h1, h2, h3, h4⟩ := hs.publish hT hc hcl
  exact (h Γ' ρ w vs (hG.mono h3.le) h2 (ha.pub' h4)).mono fun v w' ⟨Γ'', ρ', T', es, a, k1, k2, k3, k4⟩ => ⟨Γ'', ρ', T', _, a, k1, h3.trans k2, k3, hk _ _ _ k4⟩
end
end Go.E

set_option linter.unusedSimpArgs false
set_option linter.unusedVariables false
set_option linter.unusedSectionVars false
namespace Go.Proofs.YtmcbdlefakjpoaaDoor
open Go.E
/-- a byte's bits, the highest first -/
def bits8 (x : UInt8) : List UInt64 := (List.range 8).map fun j => (u8_shr x (7 - j) &&& 1).toUInt64
def bitsB (l : List UInt8) : List UInt64 := l.flatMap bits8
theorem bitsB_snoc (l : List UInt8) (k : Nat) {x : UInt8} (h : l[k]? = some x) : bitsB (l.take (k + 1)) = bitsB (l.take k) ++ bits8 x := by
  rw [List.take_add_one, h]; simp [bitsB]
theorem bits8_take (x : UInt8) (j : Nat) (h : j < 8) : (bits8 x).take (j + 1) = (bits8 x).take j ++ [(u8_shr x (7 - j) &&& 1).toUInt64] := by
  rw [List.take_add_one]; congr 1
  simp [bits8, h]
abbrev allF (l : List UInt8) : AV := .fn 43 [.vp [.vs (l.map by8) l.length] 0]
theorem all_ok {T : Tbl} {l : List UInt8} : CallA Tryd.prog Tryd.G 27 [.vs (l.map by8) l.length] T fun v T' es => v = allF l ∧ T' = T ∧ es = [] := by
  refine CallA.wfs fun wf => ?_
  have wt := wf.t
  have wp := wf.p
  refine CallA.enterV 4 Tryd.func27 Tryd.ntmps27 (congrArg Array.toList Tryd.results27) rfl ⟨by simp, by simp⟩ (by kernel_rfl) (by kernel_rfl) ?_
  (simp -dsimp +decide only [vy, vz, vze, vy, vz, vze, vy, vz, vze, va, vc, vu, vl, Tryd.ty, Tryd.en, ↓reduceIte, Nat.reduceSub, Nat.reduceAdd, Nat.reduceMul, Nat.reduceLT, Int.reduceAdd, Int.reduceSub, Int.reduceToNat, Int.cast_ofNat_Int])
  refine Vw.pub T.length (o := .cells 25 [.vs (l.map by8) l.length]) (by (simp -dsimp +decide only [vy, vz, vze, vy, vz, vze, vy, vz, vze, va, vc, vu, vl, Tryd.ty, Tryd.en, ↓reduceIte, Nat.reduceSub, Nat.reduceAdd, Nat.reduceMul, Nat.reduceLT, Int.reduceAdd, Int.reduceSub, Int.reduceToNat, Int.cast_ofNat_Int])) rfl (fun a ha => by simp at ha; rw [ha]; exact .vs _ _) ?_
  (simp -dsimp +decide only [vy, vz, vze, vy, vz, vze, vy, vz, vze, va, vc, vu, vl, Tryd.ty, Tryd.en, ↓reduceIte, Nat.reduceSub, Nat.reduceAdd, Nat.reduceMul, Nat.reduceLT, Int.reduceAdd, Int.reduceSub, Int.reduceToNat, Int.cast_ofNat_Int, vt, wp])
  exact Vw.cut ⟨rfl, rfl, rfl⟩
set_option maxRecDepth 8000 in
theorem iter_ok {l : List UInt8} {i : Nat} (hl : l.length ≤ 1099511627776) : Iter Tryd.prog Tryd.G 43 [.vp [.vs (l.map by8) l.length] 0] (fun x => [w64 x]) (bitsB l) i := by
  intro J Jx Ei T hEi hJ hy
  have hsm := slots_map Ei
  have hs1 := slot1_eq Ei
  have hsi := hs1.2.2.2.2.1 i hEi
  have hbp : ∀ k, k ≤ l.length → bitsB (l.take k) <+: bitsB l := fun k _ => by
    refine ⟨bitsB (l.drop k), ?_⟩
    rw [bitsB, bitsB, ← List.flatMap_append, List.take_append_drop]; rfl
  refine CallA.enterV 9 Tryd.func43 Tryd.ntmps43 (congrArg Array.toList Tryd.results43) rfl ⟨by simp, by simp⟩ (by kernel_rfl) (by kernel_rfl) ?_
  (simp -dsimp +decide only [vy, vz, vze, vy, vz, vze, vy, vz, vze, va, vc, vu, vl, Tryd.ty, Tryd.en, ↓reduceIte, Nat.reduceSub, Nat.reduceAdd, Nat.reduceMul, Nat.reduceLT, Int.reduceAdd, Int.reduceSub, Int.reduceToNat, Int.cast_ofNat_Int])
  refine SemA.loopE (fun s : Nat × Tbl => [(0, .yl i), (6, .vs (l.map by8) l.length), (7, wint (l.length : Int)), (8, wint (s.1 : Int))]) (fun s => s.2) (fun s => s.1 ≤ l.length ∧ J (bitsB (l.take s.1)) s.2) (fun s => l.length - s.1) (0, T) Ei 0 (fun _ : Tbl => []) (fun s => s) (fun s => J (bitsB l) s) ⟨by simp, by simpa [bitsB] using hJ⟩ (by (simp -dsimp +decide (disch := omega) only [vy, vz, vze, vy, vz, vze, vy, vz, vze, va, vc, vu, vl, Tryd.ty, Tryd.en, ↓reduceIte, Nat.reduceSub, Nat.reduceAdd, Nat.reduceMul, Nat.reduceLT, Int.reduceAdd, Int.reduceSub, Int.reduceToNat, Int.cast_ofNat_Int, vi, getO_i])) rfl (by simp) ?_ ?_
  · rintro ⟨k, T1⟩ g ⟨hk, hJ1⟩
    dsimp only at hk hJ1
    refine SemA.of (by kernel_rfl) ?_
    (simp -dsimp +decide (disch := omega) only [vy, vz, vze, vy, vz, vze, vy, vz, vze, va, vc, vu, vl, Tryd.ty, Tryd.en, ↓reduceIte, Nat.reduceSub, Nat.reduceAdd, Nat.reduceMul, Nat.reduceLT, Int.reduceAdd, Int.reduceSub, Int.reduceToNat, Int.cast_ofNat_Int, vi, getO_i])
    refine CondP.dec (fun h => ?_) (fun h => ?_)
    · obtain ⟨x, hx⟩ : ∃ x, l[k]? = some x := ⟨l[k]'(by omega), by simp⟩
      have hxg : (l.map by8)[k]? = some (by8 x) := by rw [List.getElem?_map, hx]; rfl
      have hne : l.map by8 ≠ [] := fun e => by rw [List.map_eq_nil_iff] at e; rw [e] at hx; simp at hx
      have hsn := bitsB_snoc l k hx
      have hp1 := hbp (k + 1) (by omega)
      rw [hsn] at hp1
      (simp -dsimp +decide (disch := omega) only [vy, vz, vze, vy, vz, vze, vy, vz, vze, va, vc, vu, vl, Tryd.ty, Tryd.en, ↓reduceIte, Nat.reduceSub, Nat.reduceAdd, Nat.reduceMul, Nat.reduceLT, Int.reduceAdd, Int.reduceSub, Int.reduceToNat, Int.cast_ofNat_Int, vi, getO_i, hxg])
      refine ⟨⟨by omega, by omega, hne⟩, ?_⟩
      refine SemA.loopE (fun s : Nat × Tbl => [(0, .yl i), (4, by8 x), (5, wint (7 - (s.1 : Int))), (6, .vs (l.map by8) l.length), (7, wint (l.length : Int)), (8, wint (k : Int))]) (fun s => s.2) (fun s => s.1 ≤ 8 ∧ J (bitsB (l.take k) ++ (bits8 x).take s.1) s.2) (fun s => 8 - s.1) (0, T1) Ei 2 (fun _ : Tbl => [(0, .yl i), (6, .vs (l.map by8) l.length), (7, wint (l.length : Int)), (8, wint (k : Int))]) (fun s => s) (fun s => J (bitsB (l.take (k + 1))) s) ⟨by simp, by simpa using hJ1⟩ (by (simp -dsimp +decide (disch := omega) only [vy, vz, vze, vy, vz, vze, vy, vz, vze, va, vc, vu, vl, Tryd.ty, Tryd.en, ↓reduceIte, Nat.reduceSub, Nat.reduceAdd, Nat.reduceMul, Nat.reduceLT, Int.reduceAdd, Int.reduceSub, Int.reduceToNat, Int.cast_ofNat_Int, vi, getO_i])) rfl (by simp) ?_ ?_
      · rintro ⟨j, T2⟩ g2 ⟨hj, hJ2⟩
        dsimp only at hj hJ2
        refine SemA.of (by kernel_rfl) ?_
        (simp -dsimp +decide (disch := omega) only [vy, vz, vze, vy, vz, vze, vy, vz, vze, va, vc, vu, vl, Tryd.ty, Tryd.en, ↓reduceIte, Nat.reduceSub, Nat.reduceAdd, Nat.reduceMul, Nat.reduceLT, Int.reduceAdd, Int.reduceSub, Int.reduceToNat, Int.cast_ofNat_Int, vi, getO_i])
        refine CondP.dec (fun h => ?_) (fun h => ?_)
        · have hj7 : (7 : Int) - (j : Int) = ((7 - j : Nat) : Int) := by omega
          have htk := bits8_take x j (by omega)
          have hp2 : (bitsB (l.take k) ++ (bits8 x).take j) ++ [(u8_shr x (7 - j) &&& 1).toUInt64] <+: bitsB l := by
            rw [List.append_assoc, ← htk]
            exact ((List.prefix_append_right_inj _).2 (List.take_prefix _ _)).trans hp1
          (simp -dsimp +decide (disch := omega) only [vy, vz, vze, vy, vz, vze, vy, vz, vze, va, vc, vu, vl, Tryd.ty, Tryd.en, ↓reduceIte, Nat.reduceSub, Nat.reduceAdd, Nat.reduceMul, Nat.reduceLT, Int.reduceAdd, Int.reduceSub, Int.reduceToNat, Int.cast_ofNat_Int, vi, getO_i, hj7])
          have hp2' := hp2
          refine ⟨by omega, (hy _ _ T2 hp2 hJ2).mono ?_⟩
          rw [List.append_assoc, ← htk]
          rw [List.append_assoc, ← htk] at hp2'
          rintro v T3 E3 ⟨rfl, ⟨rfl, hJ3⟩ | ⟨rfl, hJ3⟩⟩
          · (simp -dsimp +decide (disch := omega) only [vy, vz, vze, vy, vz, vze, vy, vz, vze, va, vc, vu, vl, Tryd.ty, Tryd.en, ↓reduceIte, Nat.reduceSub, Nat.reduceAdd, Nat.reduceMul, Nat.reduceLT, Int.reduceAdd, Int.reduceSub, Int.reduceToNat, Int.cast_ofNat_Int, vi, getO_i, hsm, hs1, hsi, subE_rec])
            exact ⟨(j + 1, T3), ⟨⟨by dsimp only; omega, hJ3⟩, by dsimp only; omega⟩, by rw [show ((7 - j : Nat) : Int) - 1 = 7 - ((j + 1 : Nat) : Int) by omega], rfl⟩
          · (simp -dsimp +decide (disch := omega) only [vy, vz, vze, vy, vz, vze, vy, vz, vze, va, vc, vu, vl, Tryd.ty, Tryd.en, ↓reduceIte, Nat.reduceSub, Nat.reduceAdd, Nat.reduceMul, Nat.reduceLT, Int.reduceAdd, Int.reduceSub, Int.reduceToNat, Int.cast_ofNat_Int, vi, getO_i, hsm, hs1, hsi, subE_rec])
            exact Vw.done ⟨fun y hy => (subE_rec T.length E3 E3 ▸ (fun y hy => hy : subE E3 E3) : subE (recE T.length E3 E3) E3) y hy, .inr ⟨_, hp2', hJ3⟩⟩
        · have : j = 8 := by omega
          subst this
          have h8 : (bits8 x).take 8 = bits8 x := List.take_of_length_le (by simp [bits8])
          (simp -dsimp +decide (disch := omega) only [vy, vz, vze, vy, vz, vze, vy, vz, vze, va, vc, vu, vl, Tryd.ty, Tryd.en, ↓reduceIte, Nat.reduceSub, Nat.reduceAdd, Nat.reduceMul, Nat.reduceLT, Int.reduceAdd, Int.reduceSub, Int.reduceToNat, Int.cast_ofNat_Int, vi, getO_i])
          exact ⟨T2, by rw [hsn, ← h8]; exact hJ2, rfl⟩
      · rintro T2 g2 tmp2 hJ2
        (simp -dsimp +decide (disch := omega) only [vy, vz, vze, vy, vz, vze, vy, vz, vze, va, vc, vu, vl, Tryd.ty, Tryd.en, ↓reduceIte, Nat.reduceSub, Nat.reduceAdd, Nat.reduceMul, Nat.reduceLT, Int.reduceAdd, Int.reduceSub, Int.reduceToNat, Int.cast_ofNat_Int, vi, getO_i])
        exact ⟨(k + 1, T2), ⟨⟨by dsimp only; omega, hJ2⟩, by dsimp only; omega⟩, rfl, rfl⟩
    · have : k = l.length := by omega
      subst this
      (simp -dsimp +decide (disch := omega) only [vy, vz, vze, vy, vz, vze, vy, vz, vze, va, vc, vu, vl, Tryd.ty, Tryd.en, ↓reduceIte, Nat.reduceSub, Nat.reduceAdd, Nat.reduceMul, Nat.reduceLT, Int.reduceAdd, Int.reduceSub, Int.reduceToNat, Int.cast_ofNat_Int, vi, getO_i])
      exact ⟨T1, by rwa [List.take_length] at hJ1, rfl⟩
  · rintro T1 g tmp1 hJ1
    (simp -dsimp +decide (disch := omega) only [vy, vz, vze, vy, vz, vze, vy, vz, vze, va, vc, vu, vl, Tryd.ty, Tryd.en, ↓reduceIte, Nat.reduceSub, Nat.reduceAdd, Nat.reduceMul, Nat.reduceLT, Int.reduceAdd, Int.reduceSub, Int.reduceToNat, Int.cast_ofNat_Int, vi, getO_i])
    exact Vw.done ⟨fun y hy => hy, .inl hJ1⟩
end Go.Proofs.YtmcbdlefakjpoaaDoor

set_option linter.unusedSimpArgs false
set_option linter.unusedVariables false
set_option linter.unusedSectionVars false
namespace Go.Proofs.YtmcbdlefakjpoaaDoor
open Go.E
/-- a reader's state -/
structure RS where
  nums : List UInt64
  sum : UInt64
  q : UInt64
  low : UInt64
  count : Nat
  pad : Nat
  un : Bool
def RS.z : RS := ⟨[], 0, 0, 0, 0, 0, true⟩
/-- one bit more -/
def stp (n : UInt64) (s : RS) (b : UInt64) : Option RS :=
  if s.nums.length = n.toNat then if b = 1 ∨ 7 < s.pad + 1 then none else some { s with pad := s.pad + 1 }
  else if s.un = true then if b = 1 then some { s with q := s.q + 1 } else some { s with un := false }
  else if s.count + 1 < 19 then some { s with low := u64_shl s.low 1 ||| b, count := s.count + 1 }
  else if n * UInt64.ofInt 784931 ≤ s.sum + (u64_shl s.q 19 ||| (u64_shl s.low 1 ||| b)) then none
  else some { s with nums := s.nums ++ [s.sum + (u64_shl s.q 19 ||| (u64_shl s.low 1 ||| b))], sum := s.sum + (u64_shl s.q 19 ||| (u64_shl s.low 1 ||| b)), q := 0, low := 0, count := 0, un := true }
/-- many bits -/
def fo (n : UInt64) : RS → List UInt64 → Option RS
  | s, [] => some s
  | s, b :: r => match stp n s b with
    | none => none
    | some s' => fo n s' r
theorem fo_snoc (n : UInt64) : ∀ (l : List UInt64) (s : RS) (b : UInt64), fo n s (l ++ [b]) = match fo n s l with | none => none | some s' => stp n s' b
  | [], s, b => by
    simp only [List.nil_append, fo]
    cases stp n s b <;> rfl
  | a :: l, s, b => by
    simp only [List.cons_append, fo]
    cases stp n s a with
    | none => rfl
    | some s' => exact fo_snoc n l s' b
theorem fo_none (n : UInt64) : ∀ (l m : List UInt64) (s : RS), fo n s l = none → fo n s (l ++ m) = none
  | [], m, s, h => by simp [fo] at h
  | a :: l, m, s, h => by
    simp only [List.cons_append, fo] at h ⊢
    cases hs : stp n s a with
    | none => rfl
    | some s' => rw [hs] at h; exact fo_none n l m s' h
/-- what is read of bits -/
def rdB (n : UInt64) (bits : List UInt64) : Option (List UInt64) := match fo n RS.z bits with
  | none => none
  | some s => if s.nums.length < n.toNat then none else some s.nums
/-- what is read of a filter -/
def readF (f : List UInt8) : Option (List UInt64) :=
  if 4 ≤ f.length ∧ (le f 0 4).toNat ≤ 4096 then rdB (le f 0 4) (bitsB (f.drop 4)) else none
def rdV : Option (List UInt64) → AV
  | none => .tu [.p (.slice none 0 0), .p (.int .i64 5)]
  | some l => .tu [.vs (l.map w64) l.length, .p (.int .i64 0)]
theorem get_n3 (T : Tbl) (a b c o : AObj) (l : Tbl) : (T ++ a :: b :: c :: o :: l)[T.length + 3]? = some o := by simp
def URd (T : Tbl) (n : UInt64) (e : Int) (z : RS) : Tbl := T ++ [.cells 30 [.p (.slice none 0 0)], .cells 31 [wint e], .cells 46 [w64 n], .cells 30 [.sl (T.length + 10) 0 z.nums.length],
  .cells 46 [w64 z.sum], .cells 46 [w64 z.q], .cells 46 [w64 z.low], .cells 3 [wint (z.count : Int)], .cells 3 [wint (z.pad : Int)], .cells 4 [.p (.bool z.un)], .buf 46 1 (z.nums.map w64)]
def ER (k : Nat) : Eff := [(k + 12, false), (k + 10, true), (k, false), (k + 1, false), (k + 3, false), (k + 4, false), (k + 5, false), (k + 6, false), (k + 7, false), (k + 8, false), (k + 9, false)]
theorem slots_ER (k : Nat) : (∀ l, slots (ER k) l = l.map (AV.wo (· == k + 10))) ∧ (∀ l, slotsT (ER k) l = l.map fun p => (p.1, p.2.wo (· == k + 10))) := by
  have hm : moved (ER k) = (· == k + 10) := by
    funext j
    simp only [ER, moved, Bool.true_and, Bool.false_and, Bool.false_or, Bool.or_false]
    rw [Bool.eq_iff_iff]; simp
  refine ⟨fun l => ?_, fun l => ?_⟩
  · show l.map (AV.wo (moved (ER k))) = _; rw [hm]
  · show (l.map fun p => (p.1, p.2.wo (moved (ER k)))) = _; rw [hm]
theorem rec_ER (k : Nat) (E : Eff) : recE k (ER k) E = E := by
  have h : ∀ j, ¬ k + j < k := fun j => by omega
  have h0 : ¬ k < k := by omega
  simp [ER, recE, rec1, h, h0]
def okR (n : UInt64) (z : RS) : Prop := z.nums.length ≤ n.toNat ∧ z.pad ≤ 7 ∧ z.count < 19
set_option maxRecDepth 8000 in
theorem read_ok {T : Tbl} {f : List UInt8} (hl : f.length ≤ 1099511627776) : CallA Tryd.prog Tryd.G 13 [.vs (f.map by8) f.length] T fun v T' es => v = rdV (readF f) ∧ T' = T ∧ es = [] := by
  refine CallA.wfs fun wf => ?_
  have hw : Wft T := ⟨fun q hq => (wf.wf q hq).1⟩
  have wt := wf.t
  have wp := wf.p
  have hb : Bs T (.vs (f.map by8) f.length) f := Bs.vs f
  refine CallA.enterV 32 Tryd.func13 Tryd.ntmps13 (congrArg Array.toList Tryd.results13) rfl ⟨by simp, by simp⟩ (by kernel_rfl) (by kernel_rfl) ?_
  (simp -dsimp +decide only [va, vc, vu, vl, Tryd.ty, Tryd.en, ↓reduceIte, Nat.reduceSub, Nat.reduceAdd, Nat.reduceMul, Nat.reduceLT, Int.reduceAdd, Int.reduceSub, Int.reduceToNat, Int.cast_ofNat_Int])
  refine (take_ok (at_ := 0) (size := 4) (hb.app _) (by omega) (by omega) (.inr (.inr (.inl rfl)))).det' ?_
  by_cases h4 : 4 ≤ f.length
  · have hif : (0 + 4 ≤ f.length) = True := by simp; omega
    obtain ⟨n, hn⟩ : ∃ n, n = le f 0 4 := ⟨_, rfl⟩
    rw [← hn]
    (simp -dsimp +decide (disch := omega) only [va, vc, vu, vl, Tryd.ty, Tryd.en, ↓reduceIte, Nat.reduceSub, Nat.reduceAdd, Nat.reduceMul, Nat.reduceLT, Int.reduceAdd, Int.reduceSub, Int.reduceToNat, Int.cast_ofNat_Int, vi, getO_i, vt, hif])
    refine CondP.dec (fun h => ?_) (fun h => ?_)
    · have hrd : readF f = none := by rw [readF, if_neg (by rw [← hn]; omega)]
      rw [hrd]
      (simp -dsimp +decide (disch := omega) only [va, vc, vu, vl, Tryd.ty, Tryd.en, ↓reduceIte, Nat.reduceSub, Nat.reduceAdd, Nat.reduceMul, Nat.reduceLT, Int.reduceAdd, Int.reduceSub, Int.reduceToNat, Int.cast_ofNat_Int, vi, getO_i, vt])
      exact Vw.cut ⟨rfl, rfl, rfl⟩
    · have hrd : readF f = rdB n (bitsB (f.drop 4)) := by rw [readF, if_pos (by rw [← hn]; omega), ← hn]
      rw [hrd]
      (simp -dsimp +decide (disch := omega) only [va, vc, vu, vl, Tryd.ty, Tryd.en, ↓reduceIte, Nat.reduceSub, Nat.reduceAdd, Nat.reduceMul, Nat.reduceLT, Int.reduceAdd, Int.reduceSub, Int.reduceToNat, Int.cast_ofNat_Int, vi, getO_i, vt])
      obtain ⟨d, hd⟩ : ∃ d, d = f.drop 4 := ⟨_, rfl⟩
      have hdl : f.length - 4 = d.length := by rw [hd]; simp
      have hdt : List.take d.length d = d := List.take_length
      rw [← hd, hdl, hdt]
      refine ⟨⟨h4, Nat.le_refl _⟩, ?_⟩
      refine (all_ok (l := d)).det' ?_
      (simp -dsimp +decide (disch := omega) only [va, vc, vu, vl, Tryd.ty, Tryd.en, ↓reduceIte, Nat.reduceSub, Nat.reduceAdd, Nat.reduceMul, Nat.reduceLT, Int.reduceAdd, Int.reduceSub, Int.reduceToNat, Int.cast_ofNat_Int, vi, getO_i, vt])
      refine SemA.adoptC (i := T.length + 3) (k := 0) 46 1 (by decide) (by omega) (get_n3 _ _ _ _ _ _) rfl ?_
      (simp -dsimp +decide (disch := omega) only [va, vc, vu, vl, Tryd.ty, Tryd.en, ↓reduceIte, Nat.reduceSub, Nat.reduceAdd, Nat.reduceMul, Nat.reduceLT, Int.reduceAdd, Int.reduceSub, Int.reduceToNat, Int.cast_ofNat_Int, vi, getO_i, vt])
      have wt13 : T.map (AObj.wo (fun j => decide (T.length + 13 ≤ j))) = T := hw.wf _ fun i hi => by simp; omega
      have sE := slots_ER T.length
      have kEq : ∀ k j : Nat, (T.length + k == T.length + j) = (k == j) := fun k j => by rw [Bool.eq_iff_iff]; simp
      refine SemA.range (g := 43) (cs := [.vp [.vs (d.map by8) d.length] 0]) (A := fun x => [w64 x]) (xs := bitsB d) (T.length + 11) [(2, .ptr T.length 0), (3, .ptr (T.length + 1) 0), (4, .ptr (T.length + 2) 0), (7, .ptr (T.length + 3) 0), (8, .ptr (T.length + 4) 0), (9, .ptr (T.length + 5) 0), (10, .ptr (T.length + 6) 0), (11, .ptr (T.length + 7) 0), (12, .ptr (T.length + 8) 0), (13, .ptr (T.length + 9) 0)] (ER T.length) (fun _ z => URd T n 0 z) (fun pre z => fo n RS.z pre = some z ∧ okR n z) (fun _ _ z => URd T n 5 z) (fun c pre _ => c = .ret ∧ fo n RS.z pre = none) RS.z (by (simp -dsimp +decide only [va, vc, vu, vl, Tryd.ty, Tryd.en, ↓reduceIte, Nat.reduceSub, Nat.reduceAdd, Nat.reduceMul, Nat.reduceLT, Int.reduceAdd, Int.reduceSub, Int.reduceToNat, Int.cast_ofNat_Int])) (by (simp -dsimp +decide only [va, vc, vu, vl, Tryd.ty, Tryd.en, ↓reduceIte, Nat.reduceSub, Nat.reduceAdd, Nat.reduceMul, Nat.reduceLT, Int.reduceAdd, Int.reduceSub, Int.reduceToNat, Int.cast_ofNat_Int])) (by kernel_rfl) (fun _ => rfl) (by (simp -dsimp +decide only [va, vc, vu, vl, Tryd.ty, Tryd.en, ↓reduceIte, Nat.reduceSub, Nat.reduceAdd, Nat.reduceMul, Nat.reduceLT, Int.reduceAdd, Int.reduceSub, Int.reduceToNat, Int.cast_ofNat_Int])) rfl ⟨rfl, Nat.zero_le _, Nat.zero_le _, by decide⟩ (by omega) (fun _ _ _ => by simp [URd]) (fun _ _ _ _ => by simp [URd]) (by simp [ER, moved]) (iter_ok (by omega)) ?_ ?_ ?_ ?_
      · rintro l o1 o2 lv pre x z hpx ⟨hfo, hok1, hok2, hok3⟩
        unfold URd recA
        (simp -dsimp +decide (disch := omega) only [va, vc, vu, vl, Tryd.ty, Tryd.en, ↓reduceIte, Nat.reduceSub, Nat.reduceAdd, Nat.reduceMul, Nat.reduceLT, Int.reduceAdd, Int.reduceSub, Int.reduceToNat, Int.cast_ofNat_Int, vi, getO_i, vt, putsA, List.zip_cons_cons, List.zip_nil_left, List.zip_nil_right])
        refine ⟨[], rfl, fun o3 => ?_⟩
        have hnl : (UInt64.ofInt (z.nums.length : Int)).toNat = z.nums.length := by rw [UInt64.ofInt]; simp; omega
        (simp -dsimp +decide (disch := omega) only [va, vc, vu, vl, Tryd.ty, Tryd.en, ↓reduceIte, Nat.reduceSub, Nat.reduceAdd, Nat.reduceMul, Nat.reduceLT, Int.reduceAdd, Int.reduceSub, Int.reduceToNat, Int.cast_ofNat_Int, vi, getO_i, vt, hnl])
        refine CondP.dec (fun hc => ?_) (fun hc => ?_)
        · have hfs : fo n RS.z (pre ++ [x]) = if x = 1 ∨ 7 < z.pad + 1 then none else some { z with pad := z.pad + 1 } := by rw [fo_snoc, hfo]; dsimp only; rw [stp, if_pos (by omega)]
          by_cases hx1 : x = 1
          · have hxI : ((x.toNat : Int) = 1) = True := by subst hx1; simp
            rw [if_pos (.inl hx1)] at hfs
            (simp -dsimp +decide (disch := omega) only [va, vc, vu, vl, Tryd.ty, Tryd.en, ↓reduceIte, Nat.reduceSub, Nat.reduceAdd, Nat.reduceMul, Nat.reduceLT, Int.reduceAdd, Int.reduceSub, Int.reduceToNat, Int.cast_ofNat_Int, vi, getO_i, vt, hxI])
            exact ⟨⟨{ z with pad := z.pad + 1 }, hfs, by first | (rw [wt13]; done) | (rw [wt13]; rfl)⟩, by simp [ER, rec1]⟩
          · have hxI : ((x.toNat : Int) = 1) = False := by
              have : x.toNat ≠ 1 := fun h => hx1 (UInt64.toNat_inj.1 h)
              exact eq_false (by omega)
            (simp -dsimp +decide (disch := omega) only [va, vc, vu, vl, Tryd.ty, Tryd.en, ↓reduceIte, Nat.reduceSub, Nat.reduceAdd, Nat.reduceMul, Nat.reduceLT, Int.reduceAdd, Int.reduceSub, Int.reduceToNat, Int.cast_ofNat_Int, vi, getO_i, vt, hxI])
            refine CondP.dec (fun h7 => ?_) (fun h7 => ?_)
            · rw [if_pos (.inr (by omega))] at hfs
              (simp -dsimp +decide (disch := omega) only [va, vc, vu, vl, Tryd.ty, Tryd.en, ↓reduceIte, Nat.reduceSub, Nat.reduceAdd, Nat.reduceMul, Nat.reduceLT, Int.reduceAdd, Int.reduceSub, Int.reduceToNat, Int.cast_ofNat_Int, vi, getO_i, vt])
              exact ⟨⟨{ z with pad := z.pad + 1 }, hfs, by first | (rw [wt13]; done) | (rw [wt13]; rfl)⟩, by simp [ER, rec1]⟩
            · rw [if_neg (by rintro (h | h); exact hx1 h; omega)] at hfs
              (simp -dsimp +decide (disch := omega) only [va, vc, vu, vl, Tryd.ty, Tryd.en, ↓reduceIte, Nat.reduceSub, Nat.reduceAdd, Nat.reduceMul, Nat.reduceLT, Int.reduceAdd, Int.reduceSub, Int.reduceToNat, Int.cast_ofNat_Int, vi, getO_i, vt])
              exact ⟨⟨_, ⟨hfs, hok1, by dsimp only; omega, hok3⟩, by first | (rw [wt13]; done) | (rw [wt13]; rfl)⟩, by simp [ER, rec1]⟩
        · have hne : ¬ z.nums.length = n.toNat := by omega
          have hfs : fo n RS.z (pre ++ [x]) = stp n z x := by rw [fo_snoc, hfo]
          rw [stp, if_neg hne] at hfs
          rcases hun : z.un with _ | _
          · rw [hun, if_neg (by simp)] at hfs
            (simp -dsimp +decide (disch := omega) only [va, vc, vu, vl, Tryd.ty, Tryd.en, ↓reduceIte, Nat.reduceSub, Nat.reduceAdd, Nat.reduceMul, Nat.reduceLT, Int.reduceAdd, Int.reduceSub, Int.reduceToNat, Int.cast_ofNat_Int, vi, getO_i, vt, hun])
            refine CondP.dec (fun h7 => ?_) (fun h7 => ?_)
            · rw [if_pos (by omega)] at hfs
              (simp -dsimp +decide (disch := omega) only [va, vc, vu, vl, Tryd.ty, Tryd.en, ↓reduceIte, Nat.reduceSub, Nat.reduceAdd, Nat.reduceMul, Nat.reduceLT, Int.reduceAdd, Int.reduceSub, Int.reduceToNat, Int.cast_ofNat_Int, vi, getO_i, vt])
              exact ⟨⟨_, ⟨hfs, hok1, hok2, by dsimp only; omega⟩, by first | (rw [wt13]; done) | (rw [wt13]; rfl)⟩, by simp [ER, rec1]⟩
            · rw [if_neg (by omega)] at hfs
              obtain ⟨sm, hsm⟩ : ∃ sm, sm = z.sum + (u64_shl z.q 19 ||| (u64_shl z.low 1 ||| x)) := ⟨_, rfl⟩
              rw [← hsm] at hfs
              (simp -dsimp +decide (disch := omega) only [va, vc, vu, vl, Tryd.ty, Tryd.en, ↓reduceIte, Nat.reduceSub, Nat.reduceAdd, Nat.reduceMul, Nat.reduceLT, Int.reduceAdd, Int.reduceSub, Int.reduceToNat, Int.cast_ofNat_Int, vi, getO_i, vt, ← hsm])
              refine CondP.dec (fun h8 => ?_) (fun h8 => ?_)
              · rw [if_pos (UInt64.le_iff_toNat_le.2 (by omega))] at hfs
                (simp -dsimp +decide (disch := omega) only [va, vc, vu, vl, Tryd.ty, Tryd.en, ↓reduceIte, Nat.reduceSub, Nat.reduceAdd, Nat.reduceMul, Nat.reduceLT, Int.reduceAdd, Int.reduceSub, Int.reduceToNat, Int.cast_ofNat_Int, vi, getO_i, vt])
                exact ⟨⟨{ z with sum := sm, low := u64_shl z.low 1 ||| x, count := z.count + 1, un := false }, hfs, by first | (rw [wt13]; done) | (rw [wt13]; rfl)⟩, by simp [ER, rec1]⟩
              · rw [if_neg (fun h => h8 (by have := UInt64.le_iff_toNat_le.1 h; omega))] at hfs
                (simp -dsimp +decide (disch := omega) only [va, vc, vu, vl, Tryd.ty, Tryd.en, ↓reduceIte, Nat.reduceSub, Nat.reduceAdd, Nat.reduceMul, Nat.reduceLT, Int.reduceAdd, Int.reduceSub, Int.reduceToNat, Int.cast_ofNat_Int, vi, getO_i, vt, wt, wow])
                refine ⟨by omega, ?_⟩
                exact ⟨⟨_, ⟨hfs, by simp only [List.length_append, List.length_singleton]; omega, hok2, Nat.zero_lt_succ _⟩, by simp only [List.length_append, List.length_singleton]; rfl⟩, by simp [ER, rec1]⟩
          · rw [hun, if_pos rfl] at hfs
            by_cases hx1 : x = 1
            · have hxI : ((x.toNat : Int) = 1) = True := by subst hx1; simp
              rw [if_pos hx1] at hfs
              (simp -dsimp +decide (disch := omega) only [va, vc, vu, vl, Tryd.ty, Tryd.en, ↓reduceIte, Nat.reduceSub, Nat.reduceAdd, Nat.reduceMul, Nat.reduceLT, Int.reduceAdd, Int.reduceSub, Int.reduceToNat, Int.cast_ofNat_Int, vi, getO_i, vt, hun, hxI])
              exact ⟨⟨_, ⟨hfs, hok1, hok2, hok3⟩, by first | (rw [wt13]; done) | (rw [wt13]; rfl)⟩, by simp [ER, rec1]⟩
            · have hxI : ((x.toNat : Int) = 1) = False := by
                have : x.toNat ≠ 1 := fun h => hx1 (UInt64.toNat_inj.1 h)
                exact eq_false (by omega)
              rw [if_neg hx1] at hfs
              (simp -dsimp +decide (disch := omega) only [va, vc, vu, vl, Tryd.ty, Tryd.en, ↓reduceIte, Nat.reduceSub, Nat.reduceAdd, Nat.reduceMul, Nat.reduceLT, Int.reduceAdd, Int.reduceSub, Int.reduceToNat, Int.cast_ofNat_Int, vi, getO_i, vt, hun, hxI])
              exact ⟨⟨_, ⟨hfs, hok1, hok2, hok3⟩, by first | (rw [wt13]; done) | (rw [wt13]; rfl)⟩, by simp [ER, rec1]⟩
      · rintro z o lv ⟨hfo, hok1, hok2, hok3⟩
        have hnl : (UInt64.ofInt (z.nums.length : Int)).toNat = z.nums.length := by rw [UInt64.ofInt]; simp; omega
        unfold URd recA
        (simp -dsimp +decide (disch := omega) only [va, vc, vu, vl, Tryd.ty, Tryd.en, ↓reduceIte, Nat.reduceSub, Nat.reduceAdd, Nat.reduceMul, Nat.reduceLT, Int.reduceAdd, Int.reduceSub, Int.reduceToNat, Int.cast_ofNat_Int, vi, getO_i, vt, sE, kEq, rec_ER, hnl])
        refine CondP.dec (fun hc => ?_) (fun hc => ?_)
        · have hr0 : rdB n (bitsB d) = none := by rw [rdB, hfo]; simp; omega
          rw [hr0]
          (simp -dsimp +decide (disch := omega) only [va, vc, vu, vl, Tryd.ty, Tryd.en, ↓reduceIte, Nat.reduceSub, Nat.reduceAdd, Nat.reduceMul, Nat.reduceLT, Int.reduceAdd, Int.reduceSub, Int.reduceToNat, Int.cast_ofNat_Int, vi, getO_i, vt])
          refine Vw.new (E' := []) (by simp) ?_
          exact Vw.cut ⟨rfl, rfl, rfl⟩
        · have hr0 : rdB n (bitsB d) = some z.nums := by rw [rdB, hfo]; simp; omega
          rw [hr0]
          (simp -dsimp +decide (disch := omega) only [va, vc, vu, vl, Tryd.ty, Tryd.en, ↓reduceIte, Nat.reduceSub, Nat.reduceAdd, Nat.reduceMul, Nat.reduceLT, Int.reduceAdd, Int.reduceSub, Int.reduceToNat, Int.cast_ofNat_Int, vi, getO_i, vt])
          refine Vw.new (E' := []) (by simp) ?_
          refine Vw.pub (T.length + 10) (o := .buf 46 1 (z.nums.map w64)) (by (simp -dsimp +decide only [va, vc, vu, vl, Tryd.ty, Tryd.en, ↓reduceIte, Nat.reduceSub, Nat.reduceAdd, Nat.reduceMul, Nat.reduceLT, Int.reduceAdd, Int.reduceSub, Int.reduceToNat, Int.cast_ofNat_Int, vt])) rfl (cleanw _) ?_
          (simp -dsimp +decide only [va, vc, vu, vl, Tryd.ty, Tryd.en, ↓reduceIte, Nat.reduceSub, Nat.reduceAdd, Nat.reduceMul, Nat.reduceLT, Int.reduceAdd, Int.reduceSub, Int.reduceToNat, Int.cast_ofNat_Int, vt, wp, kEq])
          exact Vw.cut ⟨rfl, rfl, rfl⟩
      · rintro i pre z o lv hp ⟨h1, _⟩; cases h1
      · rintro pre z o lv ⟨suf, hp⟩ ⟨_, h2⟩
        have hr0 : rdB n (bitsB d) = none := by rw [rdB, ← hp, fo_none _ _ _ _ h2]
        rw [hr0]
        unfold URd recA
        (simp -dsimp +decide (disch := omega) only [va, vc, vu, vl, Tryd.ty, Tryd.en, ↓reduceIte, Nat.reduceSub, Nat.reduceAdd, Nat.reduceMul, Nat.reduceLT, Int.reduceAdd, Int.reduceSub, Int.reduceToNat, Int.cast_ofNat_Int, vi, getO_i, vt, sE, kEq, rec_ER])
        refine Vw.new (E' := []) (by simp) ?_
        exact Vw.cut ⟨rfl, rfl, rfl⟩
  · have hif : (0 + 4 ≤ f.length) = False := by simp; omega
    have hrd : readF f = none := by rw [readF, if_neg (by omega)]
    rw [hrd]
    (simp -dsimp +decide (disch := omega) only [va, vc, vu, vl, Tryd.ty, Tryd.en, ↓reduceIte, Nat.reduceSub, Nat.reduceAdd, Nat.reduceMul, Nat.reduceLT, Int.reduceAdd, Int.reduceSub, Int.reduceToNat, Int.cast_ofNat_Int, vi, getO_i, vt, hif])
    exact Vw.cut ⟨rfl, rfl, rfl⟩
end Go.Proofs.YtmcbdlefakjpoaaDoor

set_option linter.unusedSimpArgs false
set_option linter.unusedVariables false
set_option linter.unusedSectionVars false
namespace Go.Proofs.YtmcbdlefakjpoaaDoor
open Go.E
theorem bitsB_get : ∀ (d : List UInt8) (i : Nat), (bitsB d)[i]? = (d[i / 8]?).map fun x => (u8_shr x (7 - i % 8) &&& 1).toUInt64
  | [], i => by simp [bitsB]
  | x :: d, i => by
    rw [show bitsB (x :: d) = bits8 x ++ bitsB d by simp [bitsB], List.getElem?_append]
    have hl : (bits8 x).length = 8 := by simp [bits8]
    rw [hl]
    split
    · rename_i h
      rw [show i / 8 = 0 by omega, show i % 8 = i by omega]
      simp [bits8, h]
    · rename_i h
      rw [bitsB_get d (i - 8), show i / 8 = (i - 8) / 8 + 1 by omega, show i % 8 = (i - 8) % 8 by omega, List.getElem?_cons_succ]
def bitV : Option UInt64 → AV
  | none => .tu [w64 0, .p (.bool false)]
  | some b => .tu [w64 b, .p (.bool true)]
theorem n8 : (∀ a : Nat, (a : Int).tmod 8 = ((a % 8 : Nat) : Int)) ∧ (∀ a : Nat, (a : Int).tdiv 8 = ((a / 8 : Nat) : Int)) := ⟨fun _ => rfl, fun _ => rfl⟩
set_option maxRecDepth 8000 in
theorem bit_ok {T : Tbl} {f : List UInt8} {i : Nat} (hl : f.length ≤ 1099511627776) (hi : i ≤ 9895604649984) : CallA Tryd.prog Tryd.G 29 [.vs (f.map by8) f.length, wint (i : Int)] T fun v T' es => v = bitV (bitsB (f.drop 4))[i]? ∧ T' = T ∧ es = [] := by
  rw [bitsB_get, List.getElem?_drop]
  refine CallA.enterV 6 Tryd.func29 Tryd.ntmps29 (congrArg Array.toList Tryd.results29) rfl ⟨by simp, by simp⟩ (by kernel_rfl) (by kernel_rfl) ?_
  (simp -dsimp +decide only [vt2, vy, vz, vze, vy, vz, vze, va, vc, vu, vl, Tryd.ty, Tryd.en, ↓reduceIte, Nat.reduceSub, Nat.reduceAdd, Nat.reduceMul, Nat.reduceLT, Int.reduceAdd, Int.reduceSub, Int.reduceToNat, Int.cast_ofNat_Int])
  (simp -dsimp +decide (disch := omega) only [vt2, vy, vz, vze, vy, vz, vze, va, vc, vu, vl, Tryd.ty, Tryd.en, ↓reduceIte, Nat.reduceSub, Nat.reduceAdd, Nat.reduceMul, Nat.reduceLT, Int.reduceAdd, Int.reduceSub, Int.reduceToNat, Int.cast_ofNat_Int, vi, getO_i, n8])
  refine CondP.dec (fun h => ?_) (fun h => ?_)
  · rw [List.getElem?_eq_none (by omega)]
    (simp -dsimp +decide (disch := omega) only [vt2, vy, vz, vze, vy, vz, vze, va, vc, vu, vl, Tryd.ty, Tryd.en, ↓reduceIte, Nat.reduceSub, Nat.reduceAdd, Nat.reduceMul, Nat.reduceLT, Int.reduceAdd, Int.reduceSub, Int.reduceToNat, Int.cast_ofNat_Int, vi, getO_i, n8])
    exact Vw.done ⟨rfl, rfl, rfl⟩
  · obtain ⟨x, hx⟩ : ∃ x, f[4 + i / 8]? = some x := ⟨f[4 + i / 8]'(by omega), by simp⟩
    have hxg : (f.map by8)[4 + i / 8]? = some (by8 x) := by rw [List.getElem?_map, hx]; rfl
    have hne : f.map by8 ≠ [] := fun e => by rw [List.map_eq_nil_iff] at e; rw [e] at hx; simp at hx
    rw [hx]
    (simp -dsimp +decide (disch := omega) only [vt2, vy, vz, vze, vy, vz, vze, va, vc, vu, vl, Tryd.ty, Tryd.en, ↓reduceIte, Nat.reduceSub, Nat.reduceAdd, Nat.reduceMul, Nat.reduceLT, Int.reduceAdd, Int.reduceSub, Int.reduceToNat, Int.cast_ofNat_Int, vi, getO_i, n8, hxg])
    refine ⟨⟨by omega, by omega, hne⟩, ?_⟩
    rw [(show ∀ r : Nat, r < 8 → (UInt64.ofInt 7 - UInt64.ofInt (r : Int)).toNat = 7 - r by decide) (i % 8) (by omega)]
    exact Vw.done ⟨rfl, rfl, rfl⟩
/-- from a state on, to the end -/
def run (n : UInt64) (s : RS) (bits : List UInt64) : Option (List UInt64) := match fo n s bits with
  | none => none
  | some s => if s.nums.length < n.toNat then none else some s.nums
theorem run_cons (n : UInt64) (s : RS) (b : UInt64) (r : List UInt64) : run n s (b :: r) = match stp n s b with | none => none | some s' => run n s' r := by
  rw [run, fo]
  cases stp n s b <;> rfl
theorem run_nil (n : UInt64) (s : RS) : run n s [] = if s.nums.length < n.toNat then none else some s.nums := rfl
theorem bit01 {d : List UInt8} {i : Nat} {b : UInt64} (h : (bitsB d)[i]? = some b) : b = 0 ∨ b = 1 := by
  rw [bitsB_get] at h
  obtain ⟨x, _, rfl⟩ := Option.map_eq_some_iff.1 h
  generalize u8_shr x (7 - i % 8) = y
  have h1 : (y &&& 1).toNat < 2 := by
    rw [UInt8.toNat_and]; exact Nat.lt_of_le_of_lt Nat.and_le_right (by decide)
  have h2 : (y &&& 1).toNat = 0 ∨ (y &&& 1).toNat = 1 := by omega
  rcases h2 with h2 | h2
  · left; rw [← UInt64.toNat_inj]; simpa using h2
  · right; rw [← UInt64.toNat_inj]; simpa using h2
theorem shl1 (x : UInt64) : u64_shl x 1 = x <<< 1 := rfl
theorem shl_or (x y : UInt64) : u64_shl (x ||| y) 1 = u64_shl x 1 ||| u64_shl y 1 := by
  rw [shl1, shl1, shl1]
  apply UInt64.toBitVec_inj.1
  simp [UInt64.toBitVec_shiftLeft, BitVec.shiftLeft_or_distrib]
theorem shl_shl (x : UInt64) (j : Nat) (h : j < 40) : u64_shl (u64_shl x j) 1 = u64_shl x (j + 1) := by
  rw [u64_shl, if_pos (by omega), u64_shl, if_pos (by omega), u64_shl, if_pos (by omega)]
  apply UInt64.toNat_inj.1
  rw [UInt64.toNat_shiftLeft, UInt64.toNat_shiftLeft, UInt64.toNat_shiftLeft]
  simp only [UInt64.toNat_ofNat', Nat.shiftLeft_eq]
  rw [show (j % 2 ^ 64) % 64 = j by omega, show ((j + 1) % 2 ^ 64) % 64 = j + 1 by omega]
  simp only [show (1 % 2 ^ 64) % 64 = 1 from rfl]
  rw [Nat.mod_mul_mod, Nat.mul_assoc, ← Nat.pow_add]
theorem dbl (x b : UInt64) (h : b = 0 ∨ b = 1) : 2 * x + b = u64_shl x 1 ||| b := by
  rcases h with rfl | rfl
  · apply UInt64.toNat_inj.1
    rw [shl1]
    simp [UInt64.toNat_shiftLeft, Nat.shiftLeft_eq, Nat.mul_comm]
  · apply UInt64.toNat_inj.1
    rw [shl1, UInt64.toNat_or, UInt64.toNat_shiftLeft, UInt64.toNat_add, UInt64.toNat_mul]
    show ((2 * x.toNat) % 2 ^ 64 + 1) % 2 ^ 64 = (x.toNat <<< 1 % 2 ^ 64) ||| 1
    rw [Nat.shiftLeft_eq, show x.toNat * 2 ^ 1 % 2 ^ 64 = 2 ^ 1 * (x.toNat % 2 ^ 63) by omega, ← Nat.two_pow_add_eq_or_of_lt (by decide)]
    omega
set_option maxRecDepth 8000 in
theorem rread_ok {T : Tbl} {f : List UInt8} (hl : f.length ≤ 1099511627776) : CallA Tryd.prog Tryd.G 14 [.vs (f.map by8) f.length] T fun v T' es => v = rdV (readF f) ∧ T' = T ∧ es = [] := by
  refine CallA.wfs fun wf => ?_
  have hw : Wft T := ⟨fun q hq => (wf.wf q hq).1⟩
  have wt := wf.t
  have wp := wf.p
  have hb : Bs T (.vs (f.map by8) f.length) f := Bs.vs f
  refine CallA.enterV 21 Tryd.func14 Tryd.ntmps14 (congrArg Array.toList Tryd.results14) rfl ⟨by simp, by simp⟩ (by kernel_rfl) (by kernel_rfl) ?_
  (simp -dsimp +decide only [vt2, vy, vz, vze, vy, vz, vze, va, vc, vu, vl, Tryd.ty, Tryd.en, ↓reduceIte, Nat.reduceSub, Nat.reduceAdd, Nat.reduceMul, Nat.reduceLT, Int.reduceAdd, Int.reduceSub, Int.reduceToNat, Int.cast_ofNat_Int])
  refine (rtake_ok (at_ := 0) (size := 4) hb (by omega) (by omega) (.inr (.inr (.inl rfl)))).det ?_
  rw [hor_eq _ _ _ (by omega)]
  by_cases h4 : 4 ≤ f.length
  · have hif : (0 + 4 ≤ f.length) = True := by simp; omega
    obtain ⟨n, hn⟩ : ∃ n, n = le f 0 4 := ⟨_, rfl⟩
    rw [← hn]
    (simp -dsimp +decide (disch := omega) only [vt2, vy, vz, vze, vy, vz, vze, va, vc, vu, vl, Tryd.ty, Tryd.en, ↓reduceIte, Nat.reduceSub, Nat.reduceAdd, Nat.reduceMul, Nat.reduceLT, Int.reduceAdd, Int.reduceSub, Int.reduceToNat, Int.cast_ofNat_Int, vi, getO_i, vt, hif])
    refine CondP.dec (fun h => ?_) (fun h => ?_)
    · have hrd : readF f = none := by rw [readF, if_neg (by rw [← hn]; omega)]
      rw [hrd]
      (simp -dsimp +decide (disch := omega) only [vt2, vy, vz, vze, vy, vz, vze, va, vc, vu, vl, Tryd.ty, Tryd.en, ↓reduceIte, Nat.reduceSub, Nat.reduceAdd, Nat.reduceMul, Nat.reduceLT, Int.reduceAdd, Int.reduceSub, Int.reduceToNat, Int.cast_ofNat_Int, vi, getO_i, vt])
      exact Vw.done ⟨rfl, rfl, rfl⟩
    · have hrd : readF f = rdB n (bitsB (f.drop 4)) := by rw [readF, if_pos (by rw [← hn]; omega), ← hn]
      rw [hrd]
      obtain ⟨bs, hbs⟩ : ∃ bs, bs = bitsB (f.drop 4) := ⟨_, rfl⟩
      have hbit : ∀ {T : Tbl} {i : Nat}, i ≤ 9895604649984 → CallA Tryd.prog Tryd.G 29 [.vs (f.map by8) f.length, wint (i : Int)] T fun v T' es => v = bitV bs[i]? ∧ T' = T ∧ es = [] := fun h => by rw [hbs]; exact bit_ok hl h
      have h01 : ∀ (i : Nat) (b : UInt64), bs[i]? = some b → b = 0 ∨ b = 1 := fun i b h => bit01 (d := f.drop 4) (i := i) (by rw [← hbs]; exact h)
      obtain ⟨R, hR⟩ : ∃ R, R = rdB n bs := ⟨_, rfl⟩
      rw [← hbs, ← hR]
      (simp -dsimp +decide (disch := omega) only [vt2, vy, vz, vze, vy, vz, vze, va, vc, vu, vl, Tryd.ty, Tryd.en, ↓reduceIte, Nat.reduceSub, Nat.reduceAdd, Nat.reduceMul, Nat.reduceLT, Int.reduceAdd, Int.reduceSub, Int.reduceToNat, Int.cast_ofNat_Int, vi, getO_i, vt])
      refine SemA.adopt 7 46 1 (by decide) rfl ?_
      (simp -dsimp +decide only [vt2, vy, vz, vze, vy, vz, vze, va, vc, vu, vl, Tryd.ty, Tryd.en, ↓reduceIte, Nat.reduceSub, Nat.reduceAdd, Nat.reduceMul, Nat.reduceLT, Int.reduceAdd, Int.reduceSub, Int.reduceToNat, Int.cast_ofNat_Int, vt])
      have hbl : bs.length ≤ 8796093022208 := by
        have : ∀ d : List UInt8, (bitsB d).length = 8 * d.length := by
          intro d
          induction d with
          | nil => rfl
          | cons x d ih => rw [show bitsB (x :: d) = bits8 x ++ bitsB d by simp [bitsB], List.length_append, ih, List.length_cons, show (bits8 x).length = 8 by simp [bits8]]; omega
        rw [hbs, this, List.length_drop]; omega
      have hdr : ∀ {i : Nat} {b : UInt64}, bs[i]? = some b → bs.drop i = b :: bs.drop (i + 1) := fun {i b} h => by
        obtain ⟨h1, rfl⟩ := List.getElem?_eq_some_iff.1 h
        exact List.drop_eq_getElem_cons h1
      have hdn : ∀ {i : Nat}, bs[i]? = none → bs.drop i = [] := fun {i} h => List.drop_eq_nil_of_le (List.getElem?_eq_none_iff.1 h)
      refine SemA.loopK (T.length + 1) (fun s : Nat × UInt64 × List UInt64 => [(0, .vs (f.map by8) f.length), (4, w64 n), (7, .sl T.length 0 s.2.2.length), (8, wint (s.1 : Int)), (9, w64 s.2.1), (10, .p (.int .u64 (s.2.2.length : Int)))]) (fun s => T ++ [.buf 46 1 (s.2.2.map w64)]) (fun s => s.1 ≤ bs.length ∧ s.2.2.length ≤ n.toNat ∧ run n ⟨s.2.2, s.2.1, 0, 0, 0, 0, true⟩ (bs.drop s.1) = R) (fun s => n.toNat - s.2.2.length) (0, 0, []) [] 0 (fun s : Nat × UInt64 × List UInt64 => [(0, .vs (f.map by8) f.length), (7, .sl T.length 0 s.2.2.length), (8, wint (s.1 : Int))]) (fun s => T ++ [.buf 46 1 (s.2.2.map w64)]) (fun s => s.1 ≤ bs.length ∧ s.2.2.length = n.toNat ∧ run n ⟨s.2.2, s.2.1, 0, 0, 0, 0, true⟩ (bs.drop s.1) = R) (by omega) ⟨by simp, by simp, by rw [hR]; rfl⟩ (by (simp -dsimp +decide (disch := omega) only [vt2, vy, vz, vze, vy, vz, vze, va, vc, vu, vl, Tryd.ty, Tryd.en, ↓reduceIte, Nat.reduceSub, Nat.reduceAdd, Nat.reduceMul, Nat.reduceLT, Int.reduceAdd, Int.reduceSub, Int.reduceToNat, Int.cast_ofNat_Int, vi, getO_i]); exact ⟨rfl, rfl, rfl⟩) rfl (by simp) ?_ ?_
      · rintro ⟨at_, sum, nums⟩ g ⟨h1, h2, h3⟩
        dsimp only at h1 h2 h3
        refine SemA.of (by kernel_rfl) ?_
        (simp -dsimp +decide (disch := omega) only [vt2, vy, vz, vze, vy, vz, vze, va, vc, vu, vl, Tryd.ty, Tryd.en, ↓reduceIte, Nat.reduceSub, Nat.reduceAdd, Nat.reduceMul, Nat.reduceLT, Int.reduceAdd, Int.reduceSub, Int.reduceToNat, Int.cast_ofNat_Int, vi, getO_i, vt])
        refine CondP.dec (fun h => ?_) (fun h => ?_)
        · (simp -dsimp +decide (disch := omega) only [vt2, vy, vz, vze, vy, vz, vze, va, vc, vu, vl, Tryd.ty, Tryd.en, ↓reduceIte, Nat.reduceSub, Nat.reduceAdd, Nat.reduceMul, Nat.reduceLT, Int.reduceAdd, Int.reduceSub, Int.reduceToNat, Int.cast_ofNat_Int, vi, getO_i, vt])
          refine SemA.loopK (T.length + 1) (fun s : Nat × UInt64 => [(0, .vs (f.map by8) f.length), (4, w64 n), (7, .sl T.length 0 nums.length), (8, wint (s.1 : Int)), (9, w64 sum), (10, .p (.int .u64 (nums.length : Int))), (11, w64 s.2)]) (fun s => T ++ [.buf 46 1 (nums.map w64)]) (fun s => s.1 ≤ bs.length ∧ run n ⟨nums, sum, s.2, 0, 0, 0, true⟩ (bs.drop s.1) = R) (fun s => bs.length - s.1) (at_, 0) [] 2 (fun s : Nat × UInt64 => [(0, .vs (f.map by8) f.length), (4, w64 n), (7, .sl T.length 0 nums.length), (8, wint (s.1 : Int)), (9, w64 sum), (10, .p (.int .u64 (nums.length : Int))), (11, w64 s.2)]) (fun s => T ++ [.buf 46 1 (nums.map w64)]) (fun s => s.1 ≤ bs.length ∧ run n ⟨nums, sum, s.2, 0, 0, 0, false⟩ (bs.drop s.1) = R) (by omega) ⟨h1, h3⟩ (by (simp -dsimp +decide (disch := omega) only [vt2, vy, vz, vze, vy, vz, vze, va, vc, vu, vl, Tryd.ty, Tryd.en, ↓reduceIte, Nat.reduceSub, Nat.reduceAdd, Nat.reduceMul, Nat.reduceLT, Int.reduceAdd, Int.reduceSub, Int.reduceToNat, Int.cast_ofNat_Int, vi, getO_i]); rfl) rfl (by simp) ?_ ?_
          · rintro ⟨a1, d⟩ g1 ⟨h4, h5⟩
            dsimp only at h4 h5
            refine SemA.of (by kernel_rfl) ?_
            (simp -dsimp +decide (disch := omega) only [vt2, vy, vz, vze, vy, vz, vze, va, vc, vu, vl, Tryd.ty, Tryd.en, ↓reduceIte, Nat.reduceSub, Nat.reduceAdd, Nat.reduceMul, Nat.reduceLT, Int.reduceAdd, Int.reduceSub, Int.reduceToNat, Int.cast_ofNat_Int, vi, getO_i, vt])
            refine (hbit (i := a1) (by omega)).det' ?_
            cases hb1 : bs[a1]? with
            | none =>
              have hR0 : R = none := by rw [← h5, hdn hb1, run_nil, if_pos (by dsimp only; omega)]
              rw [hR0]
              (simp -dsimp +decide (disch := omega) only [vt2, vy, vz, vze, vy, vz, vze, va, vc, vu, vl, Tryd.ty, Tryd.en, ↓reduceIte, Nat.reduceSub, Nat.reduceAdd, Nat.reduceMul, Nat.reduceLT, Int.reduceAdd, Int.reduceSub, Int.reduceToNat, Int.cast_ofNat_Int, vi, getO_i, vt, bitV])
              exact Vw.cut ⟨rfl, rfl, rfl⟩
            | some b =>
              have ha1 : a1 < bs.length := (List.getElem?_eq_some_iff.1 hb1).1
              rw [hdr hb1, run_cons, stp, if_neg (by dsimp only; omega), if_pos rfl] at h5
              rcases h01 _ _ hb1 with rfl | rfl
              · rw [if_neg (by decide)] at h5
                (simp -dsimp +decide (disch := omega) only [vt2, vy, vz, vze, vy, vz, vze, va, vc, vu, vl, Tryd.ty, Tryd.en, ↓reduceIte, Nat.reduceSub, Nat.reduceAdd, Nat.reduceMul, Nat.reduceLT, Int.reduceAdd, Int.reduceSub, Int.reduceToNat, Int.cast_ofNat_Int, vi, getO_i, vt, wt, bitV])
                exact ⟨(a1 + 1, d), ⟨by dsimp only; omega, h5⟩, rfl, rfl⟩
              · rw [if_pos rfl] at h5
                (simp -dsimp +decide (disch := omega) only [vt2, vy, vz, vze, vy, vz, vze, va, vc, vu, vl, Tryd.ty, Tryd.en, ↓reduceIte, Nat.reduceSub, Nat.reduceAdd, Nat.reduceMul, Nat.reduceLT, Int.reduceAdd, Int.reduceSub, Int.reduceToNat, Int.cast_ofNat_Int, vi, getO_i, vt, wt, bitV])
                exact ⟨(a1 + 1, d + 1), ⟨⟨by dsimp only; omega, h5⟩, by dsimp only; omega⟩, rfl, rfl⟩
          · rintro ⟨a1, d⟩ g1 tmp1 ⟨h4, h5⟩
            dsimp only at h4 h5
            (simp -dsimp +decide (disch := omega) only [vt2, vy, vz, vze, vy, vz, vze, va, vc, vu, vl, Tryd.ty, Tryd.en, ↓reduceIte, Nat.reduceSub, Nat.reduceAdd, Nat.reduceMul, Nat.reduceLT, Int.reduceAdd, Int.reduceSub, Int.reduceToNat, Int.cast_ofNat_Int, vi, getO_i, vt, wt])
            obtain ⟨fin, hfin⟩ : ∃ fin : UInt64 → Nat → Prop, fin = fun dd a2 => if n * UInt64.ofInt 784931 ≤ sum + dd then R = none else run n ⟨nums ++ [sum + dd], sum + dd, 0, 0, 0, 0, true⟩ (bs.drop a2) = R := ⟨_, rfl⟩
            have hd0 : d = u64_shl d 0 ||| 0 := by
              rw [u64_shl, if_pos (by omega)]; apply UInt64.toNat_inj.1; simp
            refine SemA.loopK (T.length + 1) (fun s : Nat × Nat × UInt64 => [(0, .vs (f.map by8) f.length), (4, w64 n), (7, .sl T.length 0 nums.length), (8, wint (s.1 : Int)), (9, w64 sum), (10, .p (.int .u64 (nums.length : Int))), (11, w64 s.2.2), (14, wint (s.2.1 : Int))]) (fun s => T ++ [.buf 46 1 (nums.map w64)]) (fun s => s.1 ≤ bs.length ∧ ((s.2.1 < 19 ∧ ∃ low, s.2.2 = u64_shl d s.2.1 ||| low ∧ run n ⟨nums, sum, d, low, s.2.1, 0, false⟩ (bs.drop s.1) = R) ∨ (s.2.1 = 19 ∧ fin s.2.2 s.1))) (fun s => 19 - s.2.1) (a1, 0, d) [] 4 (fun s : Nat × UInt64 => [(0, .vs (f.map by8) f.length), (4, w64 n), (7, .sl T.length 0 nums.length), (8, wint (s.1 : Int)), (9, w64 sum), (10, .p (.int .u64 (nums.length : Int))), (11, w64 s.2)]) (fun s => T ++ [.buf 46 1 (nums.map w64)]) (fun s => s.1 ≤ bs.length ∧ fin s.2 s.1) (by omega) ⟨h4, .inl ⟨by dsimp only; omega, 0, hd0, h5⟩⟩ (by (simp -dsimp +decide (disch := omega) only [vt2, vy, vz, vze, vy, vz, vze, va, vc, vu, vl, Tryd.ty, Tryd.en, ↓reduceIte, Nat.reduceSub, Nat.reduceAdd, Nat.reduceMul, Nat.reduceLT, Int.reduceAdd, Int.reduceSub, Int.reduceToNat, Int.cast_ofNat_Int, vi, getO_i])) rfl (by simp) ?_ ?_
            · rintro ⟨a2, j, dd⟩ g2 ⟨h6, h7⟩
              dsimp only at h6 h7
              refine SemA.of (by kernel_rfl) ?_
              (simp -dsimp +decide (disch := omega) only [vt2, vy, vz, vze, vy, vz, vze, va, vc, vu, vl, Tryd.ty, Tryd.en, ↓reduceIte, Nat.reduceSub, Nat.reduceAdd, Nat.reduceMul, Nat.reduceLT, Int.reduceAdd, Int.reduceSub, Int.reduceToNat, Int.cast_ofNat_Int, vi, getO_i, vt])
              refine CondP.dec (fun h => ?_) (fun h => ?_)
              · (simp -dsimp +decide (disch := omega) only [vt2, vy, vz, vze, vy, vz, vze, va, vc, vu, vl, Tryd.ty, Tryd.en, ↓reduceIte, Nat.reduceSub, Nat.reduceAdd, Nat.reduceMul, Nat.reduceLT, Int.reduceAdd, Int.reduceSub, Int.reduceToNat, Int.cast_ofNat_Int, vi, getO_i, vt])
                obtain ⟨hj, low, hdd, h8⟩ := h7.resolve_right (by rintro ⟨h9, _⟩; omega)
                refine (hbit (i := a2) (by omega)).det' ?_
                cases hb1 : bs[a2]? with
                | none =>
                  have hR0 : R = none := by rw [← h8, hdn hb1, run_nil, if_pos (by dsimp only; omega)]
                  rw [hR0]
                  (simp -dsimp +decide (disch := omega) only [vt2, vy, vz, vze, vy, vz, vze, va, vc, vu, vl, Tryd.ty, Tryd.en, ↓reduceIte, Nat.reduceSub, Nat.reduceAdd, Nat.reduceMul, Nat.reduceLT, Int.reduceAdd, Int.reduceSub, Int.reduceToNat, Int.cast_ofNat_Int, vi, getO_i, vt, bitV])
                  exact Vw.cut ⟨rfl, rfl, rfl⟩
                | some b =>
                  have ha1 : a2 < bs.length := (List.getElem?_eq_some_iff.1 hb1).1
                  rw [hdr hb1, run_cons, stp, if_neg (by dsimp only; omega), if_neg (by simp)] at h8
                  dsimp only at h8
                  have hdd' : UInt64.ofInt 2 * dd + b = u64_shl d (j + 1) ||| (u64_shl low 1 ||| b) := by
                    rw [show UInt64.ofInt 2 = 2 from rfl, dbl _ _ (h01 _ _ hb1), hdd, shl_or, shl_shl _ _ (by omega), UInt64.or_assoc]
                  (simp -dsimp +decide (disch := omega) only [vt2, vy, vz, vze, vy, vz, vze, va, vc, vu, vl, Tryd.ty, Tryd.en, ↓reduceIte, Nat.reduceSub, Nat.reduceAdd, Nat.reduceMul, Nat.reduceLT, Int.reduceAdd, Int.reduceSub, Int.reduceToNat, Int.cast_ofNat_Int, vi, getO_i, vt, wt, bitV])
                  refine ⟨(a2 + 1, j + 1, UInt64.ofInt 2 * dd + b), ⟨⟨by dsimp only; omega, ?_⟩, by dsimp only; omega⟩, rfl, rfl, rfl⟩
                  dsimp only
                  by_cases hj1 : j + 1 < 19
                  · rw [if_pos hj1] at h8
                    exact .inl ⟨hj1, _, hdd', h8⟩
                  · have hj18 : j = 18 := by omega
                    subst hj18
                    rw [if_neg hj1, ← hdd'] at h8
                    refine .inr ⟨rfl, ?_⟩
                    rw [hfin]
                    dsimp only
                    split
                    · rename_i h9; rw [if_pos h9] at h8; exact h8.symm
                    · rename_i h9; rw [if_neg h9] at h8; exact h8
              · obtain ⟨_, h8⟩ := h7.resolve_left (by rintro ⟨h9, _⟩; omega)
                (simp -dsimp +decide (disch := omega) only [vt2, vy, vz, vze, vy, vz, vze, va, vc, vu, vl, Tryd.ty, Tryd.en, ↓reduceIte, Nat.reduceSub, Nat.reduceAdd, Nat.reduceMul, Nat.reduceLT, Int.reduceAdd, Int.reduceSub, Int.reduceToNat, Int.cast_ofNat_Int, vi, getO_i, vt, wt])
                exact ⟨(a2, dd), ⟨h6, h8⟩, rfl, rfl⟩
            · rintro ⟨a2, dd⟩ g2 tmp2 ⟨h6, h7⟩
              dsimp only at h6 h7
              rw [hfin] at h7
              (simp -dsimp +decide (disch := omega) only [vt2, vy, vz, vze, vy, vz, vze, va, vc, vu, vl, Tryd.ty, Tryd.en, ↓reduceIte, Nat.reduceSub, Nat.reduceAdd, Nat.reduceMul, Nat.reduceLT, Int.reduceAdd, Int.reduceSub, Int.reduceToNat, Int.cast_ofNat_Int, vi, getO_i, vt, wt])
              refine CondP.dec (fun h9 => ?_) (fun h9 => ?_)
              · have hR0 : R = none := by
                  have h7' : if n * UInt64.ofInt 784931 ≤ sum + dd then R = none else run n ⟨nums ++ [sum + dd], sum + dd, 0, 0, 0, 0, true⟩ (bs.drop a2) = R := h7
                  rwa [if_pos (UInt64.le_iff_toNat_le.2 (by omega))] at h7'
                rw [hR0]
                (simp -dsimp +decide (disch := omega) only [vt2, vy, vz, vze, vy, vz, vze, va, vc, vu, vl, Tryd.ty, Tryd.en, ↓reduceIte, Nat.reduceSub, Nat.reduceAdd, Nat.reduceMul, Nat.reduceLT, Int.reduceAdd, Int.reduceSub, Int.reduceToNat, Int.cast_ofNat_Int, vi, getO_i, vt])
                exact Vw.cut ⟨rfl, rfl, rfl⟩
              · have h7' : if n * UInt64.ofInt 784931 ≤ sum + dd then R = none else run n ⟨nums ++ [sum + dd], sum + dd, 0, 0, 0, 0, true⟩ (bs.drop a2) = R := h7
                rw [if_neg (fun h => h9 (by have := UInt64.le_iff_toNat_le.1 h; omega))] at h7'
                have hk0 : (UInt64.ofInt (nums.length : Int)).toNat = nums.length := by rw [UInt64.ofInt]; simp; omega
                (simp -dsimp +decide (disch := omega) only [vt2, vy, vz, vze, vy, vz, vze, va, vc, vu, vl, Tryd.ty, Tryd.en, ↓reduceIte, Nat.reduceSub, Nat.reduceAdd, Nat.reduceMul, Nat.reduceLT, Int.reduceAdd, Int.reduceSub, Int.reduceToNat, Int.cast_ofNat_Int, vi, getO_i, vt, wt, wow])
                refine ⟨by omega, ?_⟩
                have hk1 : (UInt64.ofInt (nums.length : Int) + UInt64.ofInt 1).toNat = (nums ++ [sum + dd]).length := by
                  rw [List.length_append, List.length_singleton, UInt64.toNat_add, hk0]
                  show (nums.length + 1) % 2 ^ 64 = _
                  omega
                exact ⟨(a2, sum + dd, nums ++ [sum + dd]), ⟨⟨h6, by dsimp only; rw [List.length_append, List.length_singleton]; omega, h7'⟩, by dsimp only; rw [List.length_append, List.length_singleton]; omega⟩, ⟨by dsimp only; rw [List.length_append, List.length_singleton], rfl, rfl, by rw [hk1]⟩, rfl⟩
        · (simp -dsimp +decide (disch := omega) only [vt2, vy, vz, vze, vy, vz, vze, va, vc, vu, vl, Tryd.ty, Tryd.en, ↓reduceIte, Nat.reduceSub, Nat.reduceAdd, Nat.reduceMul, Nat.reduceLT, Int.reduceAdd, Int.reduceSub, Int.reduceToNat, Int.cast_ofNat_Int, vi, getO_i, vt, wt])
          exact ⟨(at_, sum, nums), ⟨h1, by dsimp only; omega, h3⟩, ⟨rfl, rfl⟩, rfl⟩
      · rintro ⟨at_, sum, nums⟩ g tmp ⟨h1, h2, h3⟩
        dsimp only at h1 h2 h3
        (simp -dsimp +decide (disch := omega) only [vt2, vy, vz, vze, vy, vz, vze, va, vc, vu, vl, Tryd.ty, Tryd.en, ↓reduceIte, Nat.reduceSub, Nat.reduceAdd, Nat.reduceMul, Nat.reduceLT, Int.reduceAdd, Int.reduceSub, Int.reduceToNat, Int.cast_ofNat_Int, vi, getO_i, vt])
        refine SemA.loopE (fun k : Nat => [(0, .vs (f.map by8) f.length), (7, .sl T.length 0 nums.length), (8, wint (at_ : Int)), (17, wint (k : Int))]) (fun _ => T ++ [.buf 46 1 (nums.map w64)]) (fun k => k ≤ 7 ∧ run n ⟨nums, sum, 0, 0, 0, k, true⟩ (bs.drop (at_ + k)) = R) (fun k => 8 - k) 0 [] 6 (fun _ : Nat => []) (fun _ => T) (fun _ => False) ⟨by omega, h3⟩ (by (simp -dsimp +decide (disch := omega) only [vt2, vy, vz, vze, vy, vz, vze, va, vc, vu, vl, Tryd.ty, Tryd.en, ↓reduceIte, Nat.reduceSub, Nat.reduceAdd, Nat.reduceMul, Nat.reduceLT, Int.reduceAdd, Int.reduceSub, Int.reduceToNat, Int.cast_ofNat_Int, vi, getO_i])) rfl (by simp) ?_ ?_
        · rintro k g1 ⟨h4, h5⟩
          refine SemA.of (by kernel_rfl) ?_
          (simp -dsimp +decide (disch := omega) only [vt2, vy, vz, vze, vy, vz, vze, va, vc, vu, vl, Tryd.ty, Tryd.en, ↓reduceIte, Nat.reduceSub, Nat.reduceAdd, Nat.reduceMul, Nat.reduceLT, Int.reduceAdd, Int.reduceSub, Int.reduceToNat, Int.cast_ofNat_Int, vi, getO_i, vt])
          rw [show ((at_ : Int) + (k : Int)) = ((at_ + k : Nat) : Int) by omega]
          refine (hbit (i := at_ + k) (by omega)).det' ?_
          cases hb1 : bs[at_ + k]? with
          | none =>
            have hR0 : R = some nums := by rw [← h5, hdn hb1, run_nil, if_neg (by dsimp only; omega)]
            rw [hR0]
            (simp -dsimp +decide (disch := omega) only [vt2, vy, vz, vze, vy, vz, vze, va, vc, vu, vl, Tryd.ty, Tryd.en, ↓reduceIte, Nat.reduceSub, Nat.reduceAdd, Nat.reduceMul, Nat.reduceLT, Int.reduceAdd, Int.reduceSub, Int.reduceToNat, Int.cast_ofNat_Int, vi, getO_i, vt, bitV])
            refine Vw.pub T.length (o := .buf 46 1 (nums.map w64)) (by (simp -dsimp +decide only [vt2, vy, vz, vze, vy, vz, vze, va, vc, vu, vl, Tryd.ty, Tryd.en, ↓reduceIte, Nat.reduceSub, Nat.reduceAdd, Nat.reduceMul, Nat.reduceLT, Int.reduceAdd, Int.reduceSub, Int.reduceToNat, Int.cast_ofNat_Int, vt])) rfl (cleanw _) ?_
            (simp -dsimp +decide only [vt2, vy, vz, vze, vy, vz, vze, va, vc, vu, vl, Tryd.ty, Tryd.en, ↓reduceIte, Nat.reduceSub, Nat.reduceAdd, Nat.reduceMul, Nat.reduceLT, Int.reduceAdd, Int.reduceSub, Int.reduceToNat, Int.cast_ofNat_Int, vt, wp])
            exact Vw.cut ⟨rfl, rfl, rfl⟩
          | some b =>
            rw [hdr hb1, run_cons, stp, if_pos (by dsimp only; omega)] at h5
            dsimp only at h5
            rcases h01 _ _ hb1 with rfl | rfl
            · (simp -dsimp +decide (disch := omega) only [vt2, vy, vz, vze, vy, vz, vze, va, vc, vu, vl, Tryd.ty, Tryd.en, ↓reduceIte, Nat.reduceSub, Nat.reduceAdd, Nat.reduceMul, Nat.reduceLT, Int.reduceAdd, Int.reduceSub, Int.reduceToNat, Int.cast_ofNat_Int, vi, getO_i, vt, bitV])
              refine CondP.dec (fun h9 => ?_) (fun h9 => ?_)
              · rw [if_pos (.inr (by omega))] at h5
                have hR0 : R = none := h5.symm
                rw [hR0]
                (simp -dsimp +decide (disch := omega) only [vt2, vy, vz, vze, vy, vz, vze, va, vc, vu, vl, Tryd.ty, Tryd.en, ↓reduceIte, Nat.reduceSub, Nat.reduceAdd, Nat.reduceMul, Nat.reduceLT, Int.reduceAdd, Int.reduceSub, Int.reduceToNat, Int.cast_ofNat_Int, vi, getO_i, vt])
                exact Vw.cut ⟨rfl, rfl, rfl⟩
              · rw [if_neg (by rintro (h | h); exact absurd h (by decide); omega)] at h5
                (simp -dsimp +decide (disch := omega) only [vt2, vy, vz, vze, vy, vz, vze, va, vc, vu, vl, Tryd.ty, Tryd.en, ↓reduceIte, Nat.reduceSub, Nat.reduceAdd, Nat.reduceMul, Nat.reduceLT, Int.reduceAdd, Int.reduceSub, Int.reduceToNat, Int.cast_ofNat_Int, vi, getO_i, vt])
                exact ⟨k + 1, ⟨⟨by omega, h5⟩, by omega⟩, rfl⟩
            · rw [if_pos (.inl rfl)] at h5
              have hR0 : R = none := h5.symm
              rw [hR0]
              (simp -dsimp +decide (disch := omega) only [vt2, vy, vz, vze, vy, vz, vze, va, vc, vu, vl, Tryd.ty, Tryd.en, ↓reduceIte, Nat.reduceSub, Nat.reduceAdd, Nat.reduceMul, Nat.reduceLT, Int.reduceAdd, Int.reduceSub, Int.reduceToNat, Int.cast_ofNat_Int, vi, getO_i, vt, bitV])
              exact Vw.cut ⟨rfl, rfl, rfl⟩
        · rintro _ _ _ ⟨⟩
  · have hif : (0 + 4 ≤ f.length) = False := by simp; omega
    have hrd : readF f = none := by rw [readF, if_neg (by omega)]
    rw [hrd]
    (simp -dsimp +decide (disch := omega) only [vt2, vy, vz, vze, vy, vz, vze, va, vc, vu, vl, Tryd.ty, Tryd.en, ↓reduceIte, Nat.reduceSub, Nat.reduceAdd, Nat.reduceMul, Nat.reduceLT, Int.reduceAdd, Int.reduceSub, Int.reduceToNat, Int.cast_ofNat_Int, vi, getO_i, vt, hif])
    exact Vw.done ⟨rfl, rfl, rfl⟩
end Go.Proofs.YtmcbdlefakjpoaaDoor

set_option linter.unusedSimpArgs false
set_option linter.unusedVariables false
set_option linter.unusedSectionVars false
namespace Go.Proofs.YtmcbdlefakjpoaaDoor
open Go.E
/-- rising -/
def Up (l : List UInt64) : Prop := ∀ (i j : Nat) (x y : UInt64), i ≤ j → l[i]? = some x → l[j]? = some y → x.toNat ≤ y.toNat
theorem up_mem {l : List UInt64} {x : UInt64} {i : Nat} (hu : Up l) (h1 : ∀ k y, k < i → l[k]? = some y → y.toNat < x.toNat) (h2 : ∀ k y, i ≤ k → l[k]? = some y → x.toNat ≤ y.toNat) : x ∈ l ↔ l[i]? = some x := by
  constructor
  · intro h
    obtain ⟨k, hk⟩ := List.getElem?_of_mem h
    by_cases hki : k < i
    · have := h1 k x hki hk; omega
    · have hl := (List.getElem?_eq_some_iff.1 hk).1
      obtain ⟨y, hy⟩ : ∃ y, l[i]? = some y := ⟨l[i]'(by omega), by simp⟩
      have g1 := h2 i y (Nat.le_refl _) hy
      have g2 := hu i k y x (by omega) hy hk
      rw [hy, UInt64.toNat_inj.1 (show y.toNat = x.toNat by omega)]
  · exact fun h => List.mem_of_getElem? h
theorem nan_ok {T : Tbl} {x : UInt64} : CallA Tryd.prog Tryd.G 46 [w64 x] T fun v T' es => v = .p (.bool false) ∧ T' = T ∧ es = [] := by
  refine CallA.enterV 3 Tryd.func46 Tryd.ntmps46 (congrArg Array.toList Tryd.results46) rfl ⟨by simp, by simp⟩ (by kernel_rfl) (by kernel_rfl) ?_
  (simp -dsimp +decide only [vy, vz, vze, va, vc, vu, vl, Tryd.ty, Tryd.en, ↓reduceIte, Nat.reduceSub, Nat.reduceAdd, Nat.reduceMul, Nat.reduceLT, Int.reduceAdd, Int.reduceSub, Int.reduceToNat, Int.cast_ofNat_Int])
  exact Vw.done ⟨rfl, rfl, rfl⟩
set_option maxRecDepth 8000 in
theorem find_ok {T : Tbl} {l : List UInt64} {x : UInt64} (hl : l.length ≤ 1099511627776) (hu : Up l) : CallA Tryd.prog Tryd.G 32 [.vs (l.map w64) l.length, w64 x] T fun v T' es => (∃ i : Nat, v = .tu [wint (i : Int), .p (.bool (decide (x ∈ l)))]) ∧ T' = T ∧ es = [] := by
  refine CallA.enterV 10 Tryd.func32 Tryd.ntmps32 (congrArg Array.toList Tryd.results32) rfl ⟨by simp, by simp⟩ (by kernel_rfl) (by kernel_rfl) ?_
  (simp -dsimp +decide only [vy, vz, vze, va, vc, vu, vl, Tryd.ty, Tryd.en, ↓reduceIte, Nat.reduceSub, Nat.reduceAdd, Nat.reduceMul, Nat.reduceLT, Int.reduceAdd, Int.reduceSub, Int.reduceToNat, Int.cast_ofNat_Int])
  refine SemA.loopE (fun s : Nat × Nat => [(0, .vs (l.map w64) l.length), (1, w64 x), (6, wint (l.length : Int)), (7, wint (s.1 : Int)), (8, wint (s.2 : Int))]) (fun _ => T) (fun s => s.1 ≤ s.2 ∧ s.2 ≤ l.length ∧ (∀ k y, k < s.1 → l[k]? = some y → y.toNat < x.toNat) ∧ (∀ k y, s.2 ≤ k → l[k]? = some y → x.toNat ≤ y.toNat)) (fun s => s.2 - s.1) (0, l.length) [] 0 (fun i : Nat => [(0, .vs (l.map w64) l.length), (1, w64 x), (6, wint (l.length : Int)), (7, wint (i : Int))]) (fun _ => T) (fun i => i ≤ l.length ∧ (∀ k y, k < i → l[k]? = some y → y.toNat < x.toNat) ∧ (∀ k y, i ≤ k → l[k]? = some y → x.toNat ≤ y.toNat)) ⟨Nat.zero_le _, Nat.le_refl _, fun k y h => by omega, fun k y h hk => by have := (List.getElem?_eq_some_iff.1 hk).1; omega⟩ (by (simp -dsimp +decide (disch := omega) only [vy, vz, vze, va, vc, vu, vl, Tryd.ty, Tryd.en, ↓reduceIte, Nat.reduceSub, Nat.reduceAdd, Nat.reduceMul, Nat.reduceLT, Int.reduceAdd, Int.reduceSub, Int.reduceToNat, Int.cast_ofNat_Int, vi, getO_i]); first | rfl | done) rfl (by simp) ?_ ?_
  · rintro ⟨i, j⟩ g ⟨h1, h2, h3, h4⟩
    dsimp only at h1 h2 h3 h4
    refine SemA.of (by kernel_rfl) ?_
    (simp -dsimp +decide (disch := omega) only [vy, vz, vze, va, vc, vu, vl, Tryd.ty, Tryd.en, ↓reduceIte, Nat.reduceSub, Nat.reduceAdd, Nat.reduceMul, Nat.reduceLT, Int.reduceAdd, Int.reduceSub, Int.reduceToNat, Int.cast_ofNat_Int, vi, getO_i])
    refine CondP.dec (fun h => ?_) (fun h => ?_)
    · have hi0 : (UInt64.ofInt (i : Int)).toNat = i := by rw [UInt64.ofInt]; simp; omega
      have hj0 : (UInt64.ofInt (j : Int)).toNat = j := by rw [UInt64.ofInt]; simp; omega
      have hmid : (u64_shr (UInt64.ofInt (i : Int) + UInt64.ofInt (j : Int)) 1).toNat = (i + j) / 2 := by
        rw [u64_shr, if_pos (by omega), UInt64.toNat_shiftRight, UInt64.toNat_add, hi0, hj0, Nat.mod_eq_of_lt (by omega)]
        show (i + j) >>> 1 = _
        rw [Nat.shiftRight_eq_div_pow]
      obtain ⟨h, hh⟩ : ∃ h, h = (i + j) / 2 := ⟨_, rfl⟩
      rw [← hh] at hmid
      obtain ⟨y, hy⟩ : ∃ y, l[h]? = some y := ⟨l[h]'(by omega), by simp⟩
      have hne : l.map w64 ≠ [] := fun e => by rw [List.map_eq_nil_iff] at e; rw [e] at hy; simp at hy
      (simp -dsimp +decide (disch := omega) only [vy, vz, vze, va, vc, vu, vl, Tryd.ty, Tryd.en, ↓reduceIte, Nat.reduceSub, Nat.reduceAdd, Nat.reduceMul, Nat.reduceLT, Int.reduceAdd, Int.reduceSub, Int.reduceToNat, Int.cast_ofNat_Int, vi, getO_i, hmid, hy])
      refine ⟨⟨by omega, by omega, hne⟩, ?_⟩
      refine less_ok.det ?_
      by_cases hlt : y.toNat < x.toNat
      · have hb : ltU y x = true := by simp [ltU]; exact UInt64.lt_iff_toNat_lt.2 hlt
        rw [hb]
        (simp -dsimp +decide (disch := omega) only [vy, vz, vze, va, vc, vu, vl, Tryd.ty, Tryd.en, ↓reduceIte, Nat.reduceSub, Nat.reduceAdd, Nat.reduceMul, Nat.reduceLT, Int.reduceAdd, Int.reduceSub, Int.reduceToNat, Int.cast_ofNat_Int, vi, getO_i])
        exact ⟨(h + 1, j), ⟨⟨by dsimp only; omega, h2, fun k z hk hz => by
          have := hu k h z y (by omega) hz hy
          omega, h4⟩, by dsimp only; omega⟩, rfl, rfl⟩
      · have hb : ltU y x = false := by simp [ltU]; exact UInt64.le_iff_toNat_le.2 (by omega)
        rw [hb]
        (simp -dsimp +decide (disch := omega) only [vy, vz, vze, va, vc, vu, vl, Tryd.ty, Tryd.en, ↓reduceIte, Nat.reduceSub, Nat.reduceAdd, Nat.reduceMul, Nat.reduceLT, Int.reduceAdd, Int.reduceSub, Int.reduceToNat, Int.cast_ofNat_Int, vi, getO_i])
        exact ⟨(i, h), ⟨⟨by dsimp only; omega, by dsimp only; omega, h3, fun k z hk hz => by
          have := hu h k y z hk hy hz
          omega⟩, by dsimp only; omega⟩, rfl, rfl⟩
    · (simp -dsimp +decide (disch := omega) only [vy, vz, vze, va, vc, vu, vl, Tryd.ty, Tryd.en, ↓reduceIte, Nat.reduceSub, Nat.reduceAdd, Nat.reduceMul, Nat.reduceLT, Int.reduceAdd, Int.reduceSub, Int.reduceToNat, Int.cast_ofNat_Int, vi, getO_i])
      have hij : i = j := by omega
      subst hij
      exact ⟨i, ⟨h2, h3, h4⟩, rfl⟩
  · rintro i g tmp ⟨h1, h3, h4⟩
    have hmem := up_mem hu h3 h4
    cases hy : l[i]? with
    | none =>
      have hle := List.getElem?_eq_none_iff.1 hy
      have hlt : ((i : Int) < (l.length : Int)) = False := eq_false (by omega)
      rw [hy] at hmem
      have hd : decide (x ∈ l) = false := decide_eq_false (by rw [hmem]; simp)
      rw [hd]
      (simp -dsimp +decide (disch := omega) only [vy, vz, vze, va, vc, vu, vl, Tryd.ty, Tryd.en, ↓reduceIte, Nat.reduceSub, Nat.reduceAdd, Nat.reduceMul, Nat.reduceLT, Int.reduceAdd, Int.reduceSub, Int.reduceToNat, Int.cast_ofNat_Int, vi, getO_i, hlt])
      exact Vw.done ⟨⟨i, rfl⟩, rfl, rfl⟩
    | some y =>
      have hi := (List.getElem?_eq_some_iff.1 hy).1
      have hlt : ((i : Int) < (l.length : Int)) = True := eq_true (by omega)
      have hne : l.map w64 ≠ [] := fun e => by rw [List.map_eq_nil_iff] at e; rw [e] at hy; simp at hy
      rw [hy] at hmem
      by_cases hxy : y = x
      · have hd : decide (x ∈ l) = true := decide_eq_true (by rw [hmem, hxy])
        rw [hd]
        subst hxy
        (simp -dsimp +decide (disch := omega) only [vy, vz, vze, va, vc, vu, vl, Tryd.ty, Tryd.en, ↓reduceIte, Nat.reduceSub, Nat.reduceAdd, Nat.reduceMul, Nat.reduceLT, Int.reduceAdd, Int.reduceSub, Int.reduceToNat, Int.cast_ofNat_Int, vi, getO_i, hlt, hy])
        exact ⟨⟨by omega, hne⟩, Vw.done ⟨⟨i, rfl⟩, rfl, rfl⟩⟩
      · have hd : decide (x ∈ l) = false := decide_eq_false (by rw [hmem]; simp [hxy])
        rw [hd]
        have hI : ((y.toNat : Int) = (x.toNat : Int)) = False := eq_false fun h => hxy (UInt64.toNat_inj.1 (by omega))
        (simp -dsimp +decide (disch := omega) only [vy, vz, vze, va, vc, vu, vl, Tryd.ty, Tryd.en, ↓reduceIte, Nat.reduceSub, Nat.reduceAdd, Nat.reduceMul, Nat.reduceLT, Int.reduceAdd, Int.reduceSub, Int.reduceToNat, Int.cast_ofNat_Int, vi, getO_i, hlt, hy, hI])
        refine ⟨⟨by omega, hne⟩, ⟨by omega, hne⟩, ?_⟩
        refine nan_ok.det ?_
        (simp -dsimp +decide (disch := omega) only [vy, vz, vze, va, vc, vu, vl, Tryd.ty, Tryd.en, ↓reduceIte, Nat.reduceSub, Nat.reduceAdd, Nat.reduceMul, Nat.reduceLT, Int.reduceAdd, Int.reduceSub, Int.reduceToNat, Int.cast_ofNat_Int, vi, getO_i, hlt, hy, hI])
        exact Vw.done ⟨⟨i, rfl⟩, rfl, rfl⟩
end Go.Proofs.YtmcbdlefakjpoaaDoor

set_option linter.unusedSimpArgs false
set_option linter.unusedVariables false
set_option linter.unusedSectionVars false
namespace Go.Proofs.YtmcbdlefakjpoaaDoor
open Go.E
structure RI (s : RS) (k : Nat) : Prop where
  up : Up s.nums
  le : ∀ x ∈ s.nums, x.toNat ≤ s.sum.toNat
  sum : s.sum.toNat < 4294967296
  q : s.q.toNat ≤ k
  low : s.low.toNat < 2 ^ s.count
  count : s.count < 19
theorem up_snoc {l : List UInt64} {x : UInt64} (h : Up l) (hx : ∀ y ∈ l, y.toNat ≤ x.toNat) : Up (l ++ [x]) := by
  intro i j y z hij hy hz
  rw [List.getElem?_append] at hy hz
  split at hy
  · split at hz
    · exact h i j y z hij hy hz
    · have : z = x := by
        have := List.mem_of_getElem? hz
        simpa using this
      rw [this]; exact hx y (List.mem_of_getElem? hy)
  · have h1 : y = x := by
      have := List.mem_of_getElem? hy
      simpa using this
    split at hz
    · omega
    · have h2 : z = x := by
        have := List.mem_of_getElem? hz
        simpa using this
      rw [h1, h2]; exact Nat.le_refl _
theorem stp_inv {n : UInt64} {s s' : RS} {b : UInt64} {k : Nat} (hn : n.toNat ≤ 4096) (hk : k ≤ 8796093022208) (hb : b = 0 ∨ b = 1) (h : RI s k) (hs : stp n s b = some s') : RI s' (k + 1) := by
  have hb1 : b.toNat ≤ 1 := by rcases hb with rfl | rfl <;> decide
  have hlow : (u64_shl s.low 1 ||| b).toNat < 2 ^ (s.count + 1) := by
    have h1 := h.low
    have h2 := h.count
    have h3 : 2 ^ s.count ≤ 2 ^ 19 := Nat.pow_le_pow_right (by decide) (by omega)
    rw [← dbl _ _ hb, UInt64.toNat_add, UInt64.toNat_mul, show (2 : UInt64).toNat = 2 from rfl, Nat.pow_succ, Nat.mod_eq_of_lt (a := 2 * s.low.toNat) (by omega), Nat.mod_eq_of_lt (by omega)]
    omega
  unfold stp at hs
  split at hs
  · split at hs
    · cases hs
    · cases hs; exact ⟨h.up, h.le, h.sum, Nat.le_succ_of_le h.q, h.low, h.count⟩
  · split at hs
    · split at hs
      · cases hs
        refine ⟨h.up, h.le, h.sum, ?_, h.low, h.count⟩
        dsimp only
        have := h.q
        rw [UInt64.toNat_add, show (1 : UInt64).toNat = 1 from rfl]; omega
      · cases hs; exact ⟨h.up, h.le, h.sum, Nat.le_succ_of_le h.q, h.low, h.count⟩
    · split at hs
      · rename_i hc
        cases hs; exact ⟨h.up, h.le, h.sum, Nat.le_succ_of_le h.q, hlow, hc⟩
      · split at hs
        · cases hs
        · rename_i hc hlt
          obtain ⟨d, hd⟩ : ∃ d, d = u64_shl s.q 19 ||| (u64_shl s.low 1 ||| b) := ⟨_, rfl⟩
          rw [← hd] at hs hlt
          have hd63 : d.toNat < 2 ^ 63 := by
            rw [hd, UInt64.toNat_or]
            refine Nat.or_lt_two_pow ?_ ?_
            · rw [u64_shl, if_pos (by omega), UInt64.toNat_shiftLeft]
              show s.q.toNat <<< 19 % 2 ^ 64 < _
              rw [Nat.shiftLeft_eq]
              have := h.q
              omega
            · have h3 : 2 ^ (s.count + 1) ≤ 2 ^ 63 := Nat.pow_le_pow_right (by decide) (by have := h.count; omega)
              omega
          have hs32 := h.sum
          have hsum : (s.sum + d).toNat = s.sum.toNat + d.toNat := by rw [UInt64.toNat_add, Nat.mod_eq_of_lt (by omega)]
          have hlim : (s.sum + d).toNat < 4294967296 := by
            have h1 : (s.sum + d).toNat < (n * UInt64.ofInt 784931).toNat := by
              have := mt UInt64.le_iff_toNat_le.2 hlt
              omega
            rw [UInt64.toNat_mul, show (UInt64.ofInt 784931).toNat = 784931 from rfl, Nat.mod_eq_of_lt (by omega)] at h1
            omega
          cases hs
          have hle : ∀ y ∈ s.nums, y.toNat ≤ (s.sum + d).toNat := fun y hy => by have := h.le y hy; omega
          refine ⟨up_snoc h.up hle, ?_, hlim, Nat.zero_le _, Nat.zero_lt_one, Nat.zero_lt_succ _⟩
          intro y hy
          rcases List.mem_append.1 hy with hy | hy
          · exact hle y hy
          · rw [List.mem_singleton.1 hy]; exact Nat.le_refl _
theorem fo_inv {n : UInt64} (hn : n.toNat ≤ 4096) : ∀ (l : List UInt64) (s s' : RS) (k : Nat), k + l.length ≤ 8796093022208 → (∀ b ∈ l, b = 0 ∨ b = 1) → RI s k → fo n s l = some s' → ∃ k', RI s' k'
  | [], s, s', k, _, _, h, hs => by cases hs; exact ⟨k, h⟩
  | b :: l, s, s', k, hk, hb, h, hs => by
    rw [fo] at hs
    cases h1 : stp n s b with
    | none => rw [h1] at hs; cases hs
    | some s1 =>
      rw [h1] at hs
      simp only [List.length_cons] at hk
      exact fo_inv hn l s1 s' (k + 1) (by omega) (fun b hb' => hb b (by simp [hb'])) (stp_inv hn (by omega) (hb b (by simp)) h h1) hs
theorem RI.z : RI RS.z 0 := ⟨fun i j x y _ h => by simp [RS.z] at h, fun x h => by simp [RS.z] at h, by decide, by decide, by decide, by decide⟩
theorem bitsB_len (d : List UInt8) : (bitsB d).length = 8 * d.length := by
  induction d with
  | nil => rfl
  | cons x d ih => rw [show bitsB (x :: d) = bits8 x ++ bitsB d by simp [bitsB], List.length_append, ih, List.length_cons, show (bits8 x).length = 8 by simp [bits8]]; omega
/-- **WHAT IS READ RISES** -/
theorem readF_up {f : List UInt8} {l : List UInt64} (hl : f.length ≤ 1099511627776) (h : readF f = some l) : Up l := by
  unfold readF at h
  split at h
  · rename_i hc
    unfold rdB at h
    split at h
    · cases h
    · rename_i s hs
      split at h
      · cases h
      · cases h
        obtain ⟨k, hk⟩ := fo_inv hc.2 _ _ _ 0 (by rw [bitsB_len, List.length_drop]; omega) (fun b hb => by
          obtain ⟨i, hi⟩ := List.getElem?_of_mem hb
          exact bit01 hi) RI.z hs
        exact hk.up
  · cases h
end Go.Proofs.YtmcbdlefakjpoaaDoor

set_option linter.unusedSimpArgs false
set_option linter.unusedVariables false
set_option linter.unusedSectionVars false
namespace Go.Proofs.YtmcbdlefakjpoaaDoor
open Go.E
theorem kall (T : Tbl) : keepT (fun _ => true) T = T := by
  refine List.ext_getElem? fun i => ?_
  rw [keepT_get]; cases T[i]? <;> rfl
set_option maxRecDepth 8000 in
theorem mf_ok {T : Tbl} {i j : Nat} {l : List UInt64} {id x : List UInt8} (hid : id.length = 32) (hx : x.length = 32) (hT : T[i]? = some (.cells 30 [.vs (l.map w64) l.length])) (hT2 : T[j]? = some (.cells 23 (id.map by8))) (hl : l.length ≤ 4096) (hu : Up l) :
    CallA Tryd.prog Tryd.G 31 [.ag (x.map by8), .ptr i 0, .ptr j 0] T fun v T' es => v = .p (.bool (decide (nm id l.length x ∈ l))) ∧ T' = T ∧ es = [] := by
  refine CallA.wfs fun wf => ?_
  have wt := wf.t
  have hi : i < T.length := (List.getElem?_eq_some_iff.1 hT).1
  have hj : j < T.length := (List.getElem?_eq_some_iff.1 hT2).1
  have gi : ∀ o, (T ++ [o])[i]? = some (.cells 30 [.vs (l.map w64) l.length]) := fun o => by rw [List.getElem?_append_left hi]; exact hT
  have gj : ∀ o, (T ++ [o])[j]? = some (.cells 23 (id.map by8)) := fun o => by rw [List.getElem?_append_left hj]; exact hT2
  refine CallA.enterV 8 Tryd.func31 Tryd.ntmps31 (congrArg Array.toList Tryd.results31) rfl ⟨by simp, by simp⟩ (by kernel_rfl) (by kernel_rfl) ?_
  (simp -dsimp +decide only [vy, vz, vze, vy, vz, vze, vy, vz, vze, vy, vz, vze, va, vc, vu, vl, Tryd.ty, Tryd.en, ↓reduceIte, Nat.reduceSub, Nat.reduceAdd, Nat.reduceMul, Nat.reduceLT, Int.reduceAdd, Int.reduceSub, Int.reduceToNat, Int.cast_ofNat_Int])
  refine SemA.draw (fun _ => true) [(0, true), (1, true), (2, true), (3, true), (4, true), (5, false), (6, false), (7, true), (8, true), (9, true), (10, true), (11, true)] Tryd.mixed (by kernel_rfl) ?_
  (simp -dsimp +decide (disch := omega) only [vy, vz, vze, vy, vz, vze, vy, vz, vze, vy, vz, vze, va, vc, vu, vl, Tryd.ty, Tryd.en, ↓reduceIte, Nat.reduceSub, Nat.reduceAdd, Nat.reduceMul, Nat.reduceLT, Int.reduceAdd, Int.reduceSub, Int.reduceToNat, Int.cast_ofNat_Int, vi, getO_i, vt, kall, gi, gj, tk32 id hid, tk32 x hx, hid, hx])
  refine (number_ok hid hx (by omega)).det' ?_
  have hk : keepOK (fun _ => true) [] = true := rfl
  (simp -dsimp +decide (disch := omega) only [vy, vz, vze, vy, vz, vze, vy, vz, vze, vy, vz, vze, va, vc, vu, vl, Tryd.ty, Tryd.en, ↓reduceIte, Nat.reduceSub, Nat.reduceAdd, Nat.reduceMul, Nat.reduceLT, Int.reduceAdd, Int.reduceSub, Int.reduceToNat, Int.cast_ofNat_Int, vi, getO_i, vt, kall, hk, true_or, true_and])
  refine (find_ok (x := nm id l.length x) (by omega) hu).mono ?_
  rintro v T' es ⟨⟨q, rfl⟩, rfl, rfl⟩
  (simp -dsimp +decide (disch := omega) only [vy, vz, vze, vy, vz, vze, vy, vz, vze, vy, vz, vze, va, vc, vu, vl, Tryd.ty, Tryd.en, ↓reduceIte, Nat.reduceSub, Nat.reduceAdd, Nat.reduceMul, Nat.reduceLT, Int.reduceAdd, Int.reduceSub, Int.reduceToNat, Int.cast_ofNat_Int, vi, getO_i, vt, kall, hk, true_or, true_and])
  exact Vw.cut ⟨rfl, rfl, rfl⟩
set_option maxRecDepth 8000 in
theorem idx_ok {T : Tbl} {a : AV} {i j : Nat} {hs : List (List UInt8)} {q : List UInt8 → Bool} (hb : Es T 32 H8 a hs) (hl : hs.length ≤ 1099511627776) (hc : ∀ x ∈ hs, CallA Tryd.prog Tryd.G 31 [.ag (x.map by8), .ptr i 0, .ptr j 0] T fun v T' es => v = .p (.bool (q x)) ∧ T' = T ∧ es = []) :
    CallA Tryd.prog Tryd.G 44 [a, .fn 31 [.ptr i 0, .ptr j 0]] T fun v T' es => (∃ k : Int, v = wint k ∧ decide (0 ≤ k) = hs.any q) ∧ T' = T ∧ es = [] := by
  have hr := Sl.rules hb.sl (by decide)
  have hld := hb.ld (P := Tryd.prog) (t := 23) (by (simp -dsimp +decide only [vy, vz, vze, vy, vz, vze, vy, vz, vze, vy, vz, vze, va, vc, vu, vl, Tryd.ty, Tryd.en, ↓reduceIte, Nat.reduceSub, Nat.reduceAdd, Nat.reduceMul, Nat.reduceLT, Int.reduceAdd, Int.reduceSub, Int.reduceToNat, Int.cast_ofNat_Int])) (by (simp -dsimp +decide only [vy, vz, vze, vy, vz, vze, vy, vz, vze, vy, vz, vze, va, vc, vu, vl, Tryd.ty, Tryd.en, ↓reduceIte, Nat.reduceSub, Nat.reduceAdd, Nat.reduceMul, Nat.reduceLT, Int.reduceAdd, Int.reduceSub, Int.reduceToNat, Int.cast_ofNat_Int])) (by decide)
  refine CallA.enterV 10 Tryd.func44 Tryd.ntmps44 (congrArg Array.toList Tryd.results44) rfl ⟨by simp, by simp⟩ (by kernel_rfl) (by kernel_rfl) ?_
  (simp -dsimp +decide only [vy, vz, vze, vy, vz, vze, vy, vz, vze, vy, vz, vze, va, vc, vu, vl, Tryd.ty, Tryd.en, ↓reduceIte, Nat.reduceSub, Nat.reduceAdd, Nat.reduceMul, Nat.reduceLT, Int.reduceAdd, Int.reduceSub, Int.reduceToNat, Int.cast_ofNat_Int])
  (simp -dsimp +decide (disch := omega) only [vy, vz, vze, vy, vz, vze, vy, vz, vze, vy, vz, vze, va, vc, vu, vl, Tryd.ty, Tryd.en, ↓reduceIte, Nat.reduceSub, Nat.reduceAdd, Nat.reduceMul, Nat.reduceLT, Int.reduceAdd, Int.reduceSub, Int.reduceToNat, Int.cast_ofNat_Int, vi, getO_i, hr])
  refine SemA.loopE (fun k : Nat => [(0, a), (1, .fn 31 [.ptr i 0, .ptr j 0]), (7, wint (hs.length : Int)), (8, wint (k : Int))]) (fun _ => T) (fun k => k ≤ hs.length ∧ (hs.take k).any q = false) (fun k => hs.length - k) 0 [] 0 (fun _ : Unit => []) (fun _ => T) (fun _ => hs.any q = false) ⟨by omega, by simp⟩ (by (simp -dsimp +decide (disch := omega) only [vy, vz, vze, vy, vz, vze, vy, vz, vze, vy, vz, vze, va, vc, vu, vl, Tryd.ty, Tryd.en, ↓reduceIte, Nat.reduceSub, Nat.reduceAdd, Nat.reduceMul, Nat.reduceLT, Int.reduceAdd, Int.reduceSub, Int.reduceToNat, Int.cast_ofNat_Int, vi, getO_i]); first | rfl | done) rfl (by simp) ?_ ?_
  · rintro k g ⟨hk, hn⟩
    refine SemA.of (by kernel_rfl) ?_
    (simp -dsimp +decide (disch := omega) only [vy, vz, vze, vy, vz, vze, vy, vz, vze, vy, vz, vze, va, vc, vu, vl, Tryd.ty, Tryd.en, ↓reduceIte, Nat.reduceSub, Nat.reduceAdd, Nat.reduceMul, Nat.reduceLT, Int.reduceAdd, Int.reduceSub, Int.reduceToNat, Int.cast_ofNat_Int, vi, getO_i, hr])
    refine CondP.dec (fun h => ?_) (fun h => ?_)
    · obtain ⟨y, hy⟩ : ∃ y, hs[k]? = some y := ⟨hs[k]'(by omega), by simp⟩
      have hy32 : y.length = 32 := by simpa using hb.wd y (List.mem_of_getElem? hy)
      (simp -dsimp +decide (disch := omega) only [vy, vz, vze, vy, vz, vze, vy, vz, vze, vy, vz, vze, va, vc, vu, vl, Tryd.ty, Tryd.en, ↓reduceIte, Nat.reduceSub, Nat.reduceAdd, Nat.reduceMul, Nat.reduceLT, Int.reduceAdd, Int.reduceSub, Int.reduceToNat, Int.cast_ofNat_Int, vi, getO_i, hr, hld, hy, tk32 y hy32])
      refine ⟨⟨by omega, by omega⟩, ?_⟩
      refine (hc y (List.mem_of_getElem? hy)).det ?_
      cases hq : q y with
      | true =>
        (simp -dsimp +decide (disch := omega) only [vy, vz, vze, vy, vz, vze, vy, vz, vze, vy, vz, vze, va, vc, vu, vl, Tryd.ty, Tryd.en, ↓reduceIte, Nat.reduceSub, Nat.reduceAdd, Nat.reduceMul, Nat.reduceLT, Int.reduceAdd, Int.reduceSub, Int.reduceToNat, Int.cast_ofNat_Int, vi, getO_i])
        exact Vw.done ⟨⟨k, rfl, by rw [List.any_eq_true.2 ⟨y, List.mem_of_getElem? hy, hq⟩]; exact decide_eq_true (by omega)⟩, rfl, rfl⟩
      | false =>
        (simp -dsimp +decide (disch := omega) only [vy, vz, vze, vy, vz, vze, vy, vz, vze, vy, vz, vze, va, vc, vu, vl, Tryd.ty, Tryd.en, ↓reduceIte, Nat.reduceSub, Nat.reduceAdd, Nat.reduceMul, Nat.reduceLT, Int.reduceAdd, Int.reduceSub, Int.reduceToNat, Int.cast_ofNat_Int, vi, getO_i])
        refine ⟨k + 1, ⟨⟨by omega, ?_⟩, by omega⟩, rfl⟩
        rw [List.take_add_one, hy, List.any_append, hn]
        simp [hq]
    · rw [List.take_of_length_le (by omega)] at hn
      (simp -dsimp +decide (disch := omega) only [vy, vz, vze, vy, vz, vze, vy, vz, vze, vy, vz, vze, va, vc, vu, vl, Tryd.ty, Tryd.en, ↓reduceIte, Nat.reduceSub, Nat.reduceAdd, Nat.reduceMul, Nat.reduceLT, Int.reduceAdd, Int.reduceSub, Int.reduceToNat, Int.cast_ofNat_Int, vi, getO_i])
      exact ⟨(), hn⟩
  · rintro _ g tmp hn
    (simp -dsimp +decide (disch := omega) only [vy, vz, vze, vy, vz, vze, vy, vz, vze, vy, vz, vze, va, vc, vu, vl, Tryd.ty, Tryd.en, ↓reduceIte, Nat.reduceSub, Nat.reduceAdd, Nat.reduceMul, Nat.reduceLT, Int.reduceAdd, Int.reduceSub, Int.reduceToNat, Int.cast_ofNat_Int, vi, getO_i])
    exact Vw.done ⟨⟨-1, rfl, by rw [hn]; rfl⟩, rfl, rfl⟩
theorem con_ok {T : Tbl} {a : AV} {i j : Nat} {hs : List (List UInt8)} {q : List UInt8 → Bool} (hb : Es T 32 H8 a hs) (hl : hs.length ≤ 1099511627776) (hc : ∀ x ∈ hs, CallA Tryd.prog Tryd.G 31 [.ag (x.map by8), .ptr i 0, .ptr j 0] T fun v T' es => v = .p (.bool (q x)) ∧ T' = T ∧ es = []) :
    CallA Tryd.prog Tryd.G 30 [a, .fn 31 [.ptr i 0, .ptr j 0]] T fun v T' es => v = .p (.bool (hs.any q)) ∧ T' = T ∧ es = [] := by
  refine CallA.enterV 6 Tryd.func30 Tryd.ntmps30 (congrArg Array.toList Tryd.results30) rfl ⟨by simp, by simp⟩ (by kernel_rfl) (by kernel_rfl) ?_
  (simp -dsimp +decide only [vy, vz, vze, vy, vz, vze, vy, vz, vze, vy, vz, vze, va, vc, vu, vl, Tryd.ty, Tryd.en, ↓reduceIte, Nat.reduceSub, Nat.reduceAdd, Nat.reduceMul, Nat.reduceLT, Int.reduceAdd, Int.reduceSub, Int.reduceToNat, Int.cast_ofNat_Int])
  refine (idx_ok hb hl hc).mono ?_
  rintro v T' es ⟨⟨k, rfl, hk⟩, rfl, rfl⟩
  (simp -dsimp +decide (disch := omega) only [vy, vz, vze, vy, vz, vze, vy, vz, vze, vy, vz, vze, va, vc, vu, vl, Tryd.ty, Tryd.en, ↓reduceIte, Nat.reduceSub, Nat.reduceAdd, Nat.reduceMul, Nat.reduceLT, Int.reduceAdd, Int.reduceSub, Int.reduceToNat, Int.cast_ofNat_Int, vi, getO_i])
  exact Vw.done ⟨by rw [← hk], rfl, rfl⟩
/-- what matching answers -/
def maV (id : List UInt8) (hs : List (List UInt8)) : Option (List UInt64) → AV
  | none => .tu [.p (.bool false), .p (.int .i64 5)]
  | some l => .tu [.p (.bool (hs.any fun x => decide (nm id l.length x ∈ l))), .p (.int .i64 0)]
end Go.Proofs.YtmcbdlefakjpoaaDoor

set_option linter.unusedSimpArgs false
set_option linter.unusedVariables false
set_option linter.unusedSectionVars false
namespace Go.Proofs.YtmcbdlefakjpoaaDoor
open Go.E
theorem stp_len {n : UInt64} {s s' : RS} {b : UInt64} (h : s.nums.length ≤ n.toNat) (hs : stp n s b = some s') : s'.nums.length ≤ n.toNat := by
  unfold stp at hs
  split at hs
  · split at hs
    · cases hs
    · cases hs; exact h
  · split at hs
    · split at hs <;> (cases hs; exact h)
    · split at hs
      · cases hs; exact h
      · split at hs
        · cases hs
        · cases hs; simp only [List.length_append, List.length_singleton]; omega
theorem fo_len {n : UInt64} : ∀ (l : List UInt64) (s s' : RS), s.nums.length ≤ n.toNat → fo n s l = some s' → s'.nums.length ≤ n.toNat
  | [], s, s', h, hs => by cases hs; exact h
  | b :: l, s, s', h, hs => by
    rw [fo] at hs
    cases h1 : stp n s b with
    | none => rw [h1] at hs; cases hs
    | some s1 => rw [h1] at hs; exact fo_len l s1 s' (stp_len h h1) hs
theorem readF_len {f : List UInt8} {l : List UInt64} (h : readF f = some l) : l.length ≤ 4096 := by
  unfold readF at h
  split at h
  · rename_i hc
    unfold rdB at h
    split at h
    · cases h
    · rename_i s hs
      split at h
      · cases h
      · cases h
        exact Nat.le_trans (fo_len _ _ _ (Nat.zero_le _) hs) hc.2
  · cases h
set_option maxRecDepth 8000 in
theorem match_ok {T : Tbl} {a : AV} {f id : List UInt8} {hs : List (List UInt8)} (hl : f.length ≤ 1099511627776) (hid : id.length = 32) (hb : Es T 32 H8 a hs) (hh : hs.length ≤ 1099511627776) :
    CallA Tryd.prog Tryd.G 15 [.vs (f.map by8) f.length, .ag (id.map by8), a] T fun v T' es => v = maV id hs (readF f) ∧ T' = T ∧ es = [] := by
  refine CallA.wfs fun wf => ?_
  have wt := wf.t
  have wa := wf.arg a (by simp)
  refine CallA.enterV 21 Tryd.func15 Tryd.ntmps15 (congrArg Array.toList Tryd.results15) rfl ⟨by simp, by simp⟩ (by kernel_rfl) (by kernel_rfl) ?_
  (simp -dsimp +decide only [va, vc, vu, vl, Tryd.ty, Tryd.en, ↓reduceIte, Nat.reduceSub, Nat.reduceAdd, Nat.reduceMul, Nat.reduceLT, Int.reduceAdd, Int.reduceSub, Int.reduceToNat, Int.cast_ofNat_Int])
  refine (read_ok hl).det' ?_
  cases hr : readF f with
  | none =>
    (simp -dsimp +decide (disch := omega) only [va, vc, vu, vl, Tryd.ty, Tryd.en, ↓reduceIte, Nat.reduceSub, Nat.reduceAdd, Nat.reduceMul, Nat.reduceLT, Int.reduceAdd, Int.reduceSub, Int.reduceToNat, Int.cast_ofNat_Int, vi, getO_i, vt, rdV])
    exact Vw.cut ⟨rfl, rfl, rfl⟩
  | some l =>
    have hll := readF_len hr
    have hup := readF_up hl hr
    (simp -dsimp +decide (disch := omega) only [va, vc, vu, vl, Tryd.ty, Tryd.en, ↓reduceIte, Nat.reduceSub, Nat.reduceAdd, Nat.reduceMul, Nat.reduceLT, Int.reduceAdd, Int.reduceSub, Int.reduceToNat, Int.cast_ofNat_Int, vi, getO_i, vt, rdV])
    refine (con_ok (q := fun x => decide (nm id l.length x ∈ l)) (hb.app _) hh fun x hx => mf_ok hid (by simpa using hb.wd x hx) (by simp) (by simp) hll hup).det' ?_
    (simp -dsimp +decide (disch := omega) only [va, vc, vu, vl, Tryd.ty, Tryd.en, ↓reduceIte, Nat.reduceSub, Nat.reduceAdd, Nat.reduceMul, Nat.reduceLT, Int.reduceAdd, Int.reduceSub, Int.reduceToNat, Int.cast_ofNat_Int, vi, getO_i, vt])
    exact Vw.cut ⟨rfl, rfl, rfl⟩
end Go.Proofs.YtmcbdlefakjpoaaDoor

set_option linter.unusedSimpArgs false
set_option linter.unusedVariables false
set_option linter.unusedSectionVars false
namespace Go.Proofs.YtmcbdlefakjpoaaDoor
open Go.E
set_option maxRecDepth 8000 in
theorem rmatch_ok {T : Tbl} {a : AV} {f id : List UInt8} {hs : List (List UInt8)} (hl : f.length ≤ 1099511627776) (hid : id.length = 32) (hb : Es T 32 H8 a hs) (hh : hs.length ≤ 1099511627776) :
    CallA Tryd.prog Tryd.G 16 [.vs (f.map by8) f.length, .ag (id.map by8), a] T fun v T' es => v = maV id hs (readF f) ∧ T' = T ∧ es = [] := by
  have hr := Sl.rules hb.sl (by decide)
  have hld := hb.ld (P := Tryd.prog) (t := 23) (by (simp -dsimp +decide only [vy, vz, vze, vy, vz, vze, vy, vz, vze, vy, vz, vze, vy, vz, vze, va, vc, vu, vl, Tryd.ty, Tryd.en, ↓reduceIte, Nat.reduceSub, Nat.reduceAdd, Nat.reduceMul, Nat.reduceLT, Int.reduceAdd, Int.reduceSub, Int.reduceToNat, Int.cast_ofNat_Int])) (by (simp -dsimp +decide only [vy, vz, vze, vy, vz, vze, vy, vz, vze, vy, vz, vze, vy, vz, vze, va, vc, vu, vl, Tryd.ty, Tryd.en, ↓reduceIte, Nat.reduceSub, Nat.reduceAdd, Nat.reduceMul, Nat.reduceLT, Int.reduceAdd, Int.reduceSub, Int.reduceToNat, Int.cast_ofNat_Int])) (by decide)
  refine CallA.wfs fun wf => ?_
  have wt := wf.t
  have wa := wf.arg a (by simp)
  refine CallA.enterV 18 Tryd.func16 Tryd.ntmps16 (congrArg Array.toList Tryd.results16) rfl ⟨by simp, by simp⟩ (by kernel_rfl) (by kernel_rfl) ?_
  (simp -dsimp +decide only [vy, vz, vze, vy, vz, vze, vy, vz, vze, vy, vz, vze, vy, vz, vze, va, vc, vu, vl, Tryd.ty, Tryd.en, ↓reduceIte, Nat.reduceSub, Nat.reduceAdd, Nat.reduceMul, Nat.reduceLT, Int.reduceAdd, Int.reduceSub, Int.reduceToNat, Int.cast_ofNat_Int])
  refine (rread_ok hl).det' ?_
  cases hrd : readF f with
  | none =>
    (simp -dsimp +decide (disch := omega) only [vy, vz, vze, vy, vz, vze, vy, vz, vze, vy, vz, vze, vy, vz, vze, va, vc, vu, vl, Tryd.ty, Tryd.en, ↓reduceIte, Nat.reduceSub, Nat.reduceAdd, Nat.reduceMul, Nat.reduceLT, Int.reduceAdd, Int.reduceSub, Int.reduceToNat, Int.cast_ofNat_Int, vi, getO_i, vt, rdV])
    exact Vw.cut ⟨rfl, rfl, rfl⟩
  | some l =>
    have hll := readF_len hrd
    obtain ⟨q, hq⟩ : ∃ q : List UInt8 → Bool, q = fun x => decide (nm id l.length x ∈ l) := ⟨_, rfl⟩
    have hma : maV id hs (some l) = .tu [.p (.bool (hs.any q)), .p (.int .i64 0)] := by rw [hq]; rfl
    rw [hma]
    (simp -dsimp +decide (disch := omega) only [vy, vz, vze, vy, vz, vze, vy, vz, vze, vy, vz, vze, vy, vz, vze, va, vc, vu, vl, Tryd.ty, Tryd.en, ↓reduceIte, Nat.reduceSub, Nat.reduceAdd, Nat.reduceMul, Nat.reduceLT, Int.reduceAdd, Int.reduceSub, Int.reduceToNat, Int.cast_ofNat_Int, vi, getO_i, vt, rdV])
    refine SemA.loopE (fun k : Nat => [(2, a), (4, .ptr T.length 0), (8, .vs (l.map w64) l.length), (10, wint (k : Int))]) (fun _ => T ++ [.cells 23 (id.map by8)]) (fun k => k ≤ hs.length ∧ (hs.take k).any q = false) (fun k => hs.length - k) 0 [] 0 (fun _ : Unit => []) (fun _ => T ++ [.cells 23 (id.map by8)]) (fun _ => hs.any q = false) ⟨by omega, by simp⟩ (by (simp -dsimp +decide (disch := omega) only [vy, vz, vze, vy, vz, vze, vy, vz, vze, vy, vz, vze, vy, vz, vze, va, vc, vu, vl, Tryd.ty, Tryd.en, ↓reduceIte, Nat.reduceSub, Nat.reduceAdd, Nat.reduceMul, Nat.reduceLT, Int.reduceAdd, Int.reduceSub, Int.reduceToNat, Int.cast_ofNat_Int, vi, getO_i]); first | rfl | done) rfl (by simp) ?_ ?_
    · rintro k g ⟨hk, hn⟩
      refine SemA.of (by kernel_rfl) ?_
      (simp -dsimp +decide (disch := omega) only [vy, vz, vze, vy, vz, vze, vy, vz, vze, vy, vz, vze, vy, vz, vze, va, vc, vu, vl, Tryd.ty, Tryd.en, ↓reduceIte, Nat.reduceSub, Nat.reduceAdd, Nat.reduceMul, Nat.reduceLT, Int.reduceAdd, Int.reduceSub, Int.reduceToNat, Int.cast_ofNat_Int, vi, getO_i, hr])
      refine CondP.dec (fun h => ?_) (fun h => ?_)
      · obtain ⟨y, hy⟩ : ∃ y, hs[k]? = some y := ⟨hs[k]'(by omega), by simp⟩
        have hy32 : y.length = 32 := by simpa using hb.wd y (List.mem_of_getElem? hy)
        (simp -dsimp +decide (disch := omega) only [vy, vz, vze, vy, vz, vze, vy, vz, vze, vy, vz, vze, vy, vz, vze, va, vc, vu, vl, Tryd.ty, Tryd.en, ↓reduceIte, Nat.reduceSub, Nat.reduceAdd, Nat.reduceMul, Nat.reduceLT, Int.reduceAdd, Int.reduceSub, Int.reduceToNat, Int.cast_ofNat_Int, vi, getO_i, hr])
        refine SemA.drawS (.fl 0 (.fl 1 (.fl 2 (.fl 3 (.fl 4 (.fl 5 (.fl 6 (.sq 7 (.fl 8 .nil))))))))) Tryd.mixed (by kernel_rfl) ?_
        (simp -dsimp +decide (disch := omega) only [vy, vz, vze, vy, vz, vze, vy, vz, vze, vy, vz, vze, vy, vz, vze, va, vc, vu, vl, Tryd.ty, Tryd.en, ↓reduceIte, Nat.reduceSub, Nat.reduceAdd, Nat.reduceMul, Nat.reduceLT, Int.reduceAdd, Int.reduceSub, Int.reduceToNat, Int.cast_ofNat_Int, vi, getO_i, vt, hr, hld, hy, tk32 y hy32, tk32 id hid, hid, hy32])
        refine ⟨⟨by omega, by omega⟩, ?_⟩
        refine (rnumber_ok hid hy32 (by omega)).det' ?_
        rw [← numS_eq id y l.length (by omega)]
        have hqy : q y = decide (nm id l.length y ∈ l) := by rw [hq]
        obtain ⟨z, hz⟩ : ∃ z, z = nm id l.length y := ⟨_, rfl⟩
        rw [← hz] at hqy
        have hz' : numS id y (UInt64.ofInt (l.length : Int)) = z := hz.symm
        rw [hz']
        (simp -dsimp +decide (disch := omega) only [vy, vz, vze, vy, vz, vze, vy, vz, vze, vy, vz, vze, vy, vz, vze, va, vc, vu, vl, Tryd.ty, Tryd.en, ↓reduceIte, Nat.reduceSub, Nat.reduceAdd, Nat.reduceMul, Nat.reduceLT, Int.reduceAdd, Int.reduceSub, Int.reduceToNat, Int.cast_ofNat_Int, vi, getO_i, vt])
        refine SemA.loopE (fun i : Nat => [(2, a), (4, .ptr T.length 0), (8, .vs (l.map w64) l.length), (10, wint (k : Int)), (11, w64 z), (12, wint (i : Int))]) (fun _ => T ++ [.cells 23 (id.map by8)]) (fun i => i ≤ l.length ∧ z ∉ l.take i) (fun i => l.length - i) 0 [] 2 (fun _ : Unit => [(2, a), (4, .ptr T.length 0), (8, .vs (l.map w64) l.length), (10, wint (k : Int))]) (fun _ => T ++ [.cells 23 (id.map by8)]) (fun _ => z ∉ l) ⟨by omega, by simp⟩ (by (simp -dsimp +decide (disch := omega) only [vy, vz, vze, vy, vz, vze, vy, vz, vze, vy, vz, vze, vy, vz, vze, va, vc, vu, vl, Tryd.ty, Tryd.en, ↓reduceIte, Nat.reduceSub, Nat.reduceAdd, Nat.reduceMul, Nat.reduceLT, Int.reduceAdd, Int.reduceSub, Int.reduceToNat, Int.cast_ofNat_Int, vi, getO_i]); first | rfl | done) rfl (by simp) ?_ ?_
        · rintro i g1 ⟨hi, hni⟩
          refine SemA.of (by kernel_rfl) ?_
          (simp -dsimp +decide (disch := omega) only [vy, vz, vze, vy, vz, vze, vy, vz, vze, vy, vz, vze, vy, vz, vze, va, vc, vu, vl, Tryd.ty, Tryd.en, ↓reduceIte, Nat.reduceSub, Nat.reduceAdd, Nat.reduceMul, Nat.reduceLT, Int.reduceAdd, Int.reduceSub, Int.reduceToNat, Int.cast_ofNat_Int, vi, getO_i])
          refine CondP.dec (fun h2 => ?_) (fun h2 => ?_)
          · obtain ⟨x, hx⟩ : ∃ x, l[i]? = some x := ⟨l[i]'(by omega), by simp⟩
            have hne : l.map w64 ≠ [] := fun e => by rw [List.map_eq_nil_iff] at e; rw [e] at hx; simp at hx
            (simp -dsimp +decide (disch := omega) only [vy, vz, vze, vy, vz, vze, vy, vz, vze, vy, vz, vze, vy, vz, vze, va, vc, vu, vl, Tryd.ty, Tryd.en, ↓reduceIte, Nat.reduceSub, Nat.reduceAdd, Nat.reduceMul, Nat.reduceLT, Int.reduceAdd, Int.reduceSub, Int.reduceToNat, Int.cast_ofNat_Int, vi, getO_i, hx])
            refine ⟨⟨by omega, by omega, hne⟩, ?_⟩
            refine CondP.dec (fun h3 => ?_) (fun h3 => ?_)
            · have hxz : x = z := UInt64.toNat_inj.1 (by omega)
              have hany : hs.any q = true := List.any_eq_true.2 ⟨y, List.mem_of_getElem? hy, by rw [hqy]; exact decide_eq_true (hxz ▸ List.mem_of_getElem? hx)⟩
              rw [hany]
              (simp -dsimp +decide (disch := omega) only [vy, vz, vze, vy, vz, vze, vy, vz, vze, vy, vz, vze, vy, vz, vze, va, vc, vu, vl, Tryd.ty, Tryd.en, ↓reduceIte, Nat.reduceSub, Nat.reduceAdd, Nat.reduceMul, Nat.reduceLT, Int.reduceAdd, Int.reduceSub, Int.reduceToNat, Int.cast_ofNat_Int, vi, getO_i, vt])
              exact Vw.cut ⟨rfl, rfl, rfl⟩
            · (simp -dsimp +decide (disch := omega) only [vy, vz, vze, vy, vz, vze, vy, vz, vze, vy, vz, vze, vy, vz, vze, va, vc, vu, vl, Tryd.ty, Tryd.en, ↓reduceIte, Nat.reduceSub, Nat.reduceAdd, Nat.reduceMul, Nat.reduceLT, Int.reduceAdd, Int.reduceSub, Int.reduceToNat, Int.cast_ofNat_Int, vi, getO_i])
              refine ⟨i + 1, ⟨⟨by omega, ?_⟩, by omega⟩, rfl⟩
              rw [List.take_add_one, hx]
              simp only [List.mem_append, not_or]
              exact ⟨hni, by simpa using fun e => h3 (by rw [e])⟩
          · rw [List.take_of_length_le (by omega)] at hni
            (simp -dsimp +decide (disch := omega) only [vy, vz, vze, vy, vz, vze, vy, vz, vze, vy, vz, vze, vy, vz, vze, va, vc, vu, vl, Tryd.ty, Tryd.en, ↓reduceIte, Nat.reduceSub, Nat.reduceAdd, Nat.reduceMul, Nat.reduceLT, Int.reduceAdd, Int.reduceSub, Int.reduceToNat, Int.cast_ofNat_Int, vi, getO_i])
            exact ⟨(), hni⟩
        · rintro _ g1 tmp1 hni
          (simp -dsimp +decide (disch := omega) only [vy, vz, vze, vy, vz, vze, vy, vz, vze, vy, vz, vze, vy, vz, vze, va, vc, vu, vl, Tryd.ty, Tryd.en, ↓reduceIte, Nat.reduceSub, Nat.reduceAdd, Nat.reduceMul, Nat.reduceLT, Int.reduceAdd, Int.reduceSub, Int.reduceToNat, Int.cast_ofNat_Int, vi, getO_i])
          refine ⟨k + 1, ⟨⟨by omega, ?_⟩, by omega⟩, rfl⟩
          rw [List.take_add_one, hy, List.any_append, hn]
          simp [hqy, hni]
      · rw [List.take_of_length_le (by omega)] at hn
        (simp -dsimp +decide (disch := omega) only [vy, vz, vze, vy, vz, vze, vy, vz, vze, vy, vz, vze, vy, vz, vze, va, vc, vu, vl, Tryd.ty, Tryd.en, ↓reduceIte, Nat.reduceSub, Nat.reduceAdd, Nat.reduceMul, Nat.reduceLT, Int.reduceAdd, Int.reduceSub, Int.reduceToNat, Int.cast_ofNat_Int, vi, getO_i])
        exact ⟨(), hn⟩
    · rintro _ g tmp hn
      rw [hn]
      (simp -dsimp +decide (disch := omega) only [vy, vz, vze, vy, vz, vze, vy, vz, vze, vy, vz, vze, vy, vz, vze, va, vc, vu, vl, Tryd.ty, Tryd.en, ↓reduceIte, Nat.reduceSub, Nat.reduceAdd, Nat.reduceMul, Nat.reduceLT, Int.reduceAdd, Int.reduceSub, Int.reduceToNat, Int.cast_ofNat_Int, vi, getO_i])
      exact Vw.cut ⟨rfl, rfl, rfl⟩
end Go.Proofs.YtmcbdlefakjpoaaDoor

set_option linter.unusedSimpArgs false
set_option linter.unusedVariables false
set_option linter.unusedSectionVars false
namespace Go.Proofs.YtmcbdlefakjpoaaDoor
open Go.E
/-! ### Bits packed -/
abbrev b64 (l : List UInt8) : List UInt64 := l.map UInt8.toUInt64
abbrev zs (k : Nat) : List UInt64 := List.replicate k 0
def b01 (l : List UInt8) : Prop := ∀ b ∈ l, b = 0 ∨ b = 1
theorem bits8_put' : ∀ (x : _root_.Fin 256) (r : _root_.Fin 8) (b : _root_.Fin 2), (bits8 (UInt8.ofNat x.val)).drop r.val = List.replicate (8 - r.val) 0 → bits8 (UInt8.ofNat x.val ||| u8_shl (UInt8.ofNat b.val) (7 - r.val)) = (bits8 (UInt8.ofNat x.val)).take r.val ++ (UInt8.ofNat b.val).toUInt64 :: List.replicate (7 - r.val) 0 := by decide +kernel
theorem bits8_put {x b : UInt8} {r : Nat} (hr : r < 8) (hb : b = 0 ∨ b = 1) (h : (bits8 x).drop r = zs (8 - r)) : bits8 (x ||| u8_shl b (7 - r)) = (bits8 x).take r ++ b.toUInt64 :: zs (7 - r) := by
  have hx : x = UInt8.ofNat x.toNat := by simp
  have hx2 : x.toNat < 256 := x.toNat_lt
  rcases hb with rfl | rfl
  · have := bits8_put' ⟨x.toNat, hx2⟩ ⟨r, hr⟩ 0
    simp only [← hx] at this
    exact this h
  · have := bits8_put' ⟨x.toNat, hx2⟩ ⟨r, hr⟩ 1
    simp only [← hx] at this
    exact this h
theorem bitsB_app (a b : List UInt8) : bitsB (a ++ b) = bitsB a ++ bitsB b := by simp [bitsB]
theorem bitsB_one (x : UInt8) : bitsB [x] = bits8 x := by simp [bitsB]
theorem bits8_len (x : UInt8) : (bits8 x).length = 8 := by simp [bits8]
theorem set_last {α : Type} (l : List α) (x y : α) : (l ++ [x]).set ((l ++ [x]).length - 1) y = l ++ [y] := by simp
theorem last_get (l : List UInt8) (x : UInt8) : (l ++ [x])[(l ++ [x]).length - 1]! = x := by simp
theorem pk_bits {out : List UInt8} {i : Nat} {b : UInt8} {B : List UInt64} (hb : b = 0 ∨ b = 1) (h : bitsB out = B ++ zs ((8 - i % 8) % 8)) (hne : i % 8 = 0 ∨ out ≠ []) :
    bitsB (pk out i b) = B ++ [b.toUInt64] ++ zs ((8 - (i + 1) % 8) % 8) ∧ pk out i b ≠ [] := by
  by_cases h0 : i % 8 = 0
  · rw [h0] at h
    have e : pk out i b = out ++ [0 ||| u8_shl b 7] := by
      simp only [pk, h0, if_true]
      rw [set_last, last_get]
    rw [e, bitsB_app, bitsB_one, h]
    have := bits8_put (x := 0) (b := b) (r := 0) (by omega) hb (by decide)
    rw [this]
    have e2 : (8 - (i + 1) % 8) % 8 = 7 := by omega
    rw [e2]
    simp
  · have hne : out ≠ [] := by rcases hne with h | h <;> simp_all
    obtain ⟨ini, x, rfl⟩ : ∃ ini x, out = ini ++ [x] := ⟨out.dropLast, out.getLast hne, (List.dropLast_concat_getLast hne).symm⟩
    have e : pk (ini ++ [x]) i b = ini ++ [x ||| u8_shl b (7 - i % 8)] := by
      simp only [pk, h0, if_false]
      rw [set_last, last_get]
    have hr : (8 - i % 8) % 8 = 8 - i % 8 := by omega
    rw [hr] at h
    rw [bitsB_app, bitsB_one] at h
    have hlen := congrArg List.length h
    simp only [List.length_append, bits8_len, List.length_replicate] at hlen
    have hd : (bits8 x).drop (i % 8) = zs (8 - i % 8) := by
      have := congrArg (List.drop B.length) h
      rw [List.drop_left, List.drop_append, List.drop_of_length_le (by omega), show B.length - (bitsB ini).length = i % 8 by omega] at this
      simpa using this
    have hB : B = bitsB ini ++ (bits8 x).take (i % 8) := by
      have := congrArg (List.take B.length) h
      rw [List.take_left, List.take_append, List.take_of_length_le (by omega), show B.length - (bitsB ini).length = i % 8 by omega] at this
      exact this.symm
    rw [e, bitsB_app, bitsB_one, bits8_put (by omega) hb hd]
    refine ⟨?_, by simp⟩
    have e2 : (8 - (i + 1) % 8) % 8 = 7 - i % 8 := by omega
    rw [e2, hB]
    simp
theorem pks_bits : ∀ (l out : List UInt8) (i : Nat) (B : List UInt64), b01 l → bitsB out = B ++ zs ((8 - i % 8) % 8) → (i % 8 = 0 ∨ out ≠ []) → bitsB (pks out i l) = B ++ b64 l ++ zs ((8 - (i + l.length) % 8) % 8)
  | [], out, i, B, _, h, _ => by simpa [pks] using h
  | b :: l, out, i, B, hb, h, hne => by
    obtain ⟨h1, h2⟩ := pk_bits (hb b (by simp)) h hne
    rw [pks, pks_bits l _ _ _ (fun x hx => hb x (by simp [hx])) h1 (.inr h2)]
    rw [List.length_cons, show i + 1 + l.length = i + (l.length + 1) by omega]
    simp
theorem pk_pre {out t : List UInt8} {i : Nat} {b : UInt8} (h : i % 8 = 0 ∨ t ≠ []) : ∃ t', pk (out ++ t) i b = out ++ t' ∧ t' ≠ [] := by
  by_cases h0 : i % 8 = 0
  · refine ⟨t ++ [0 ||| u8_shl b 7], ?_, by simp⟩
    simp only [pk, h0, if_true]
    rw [set_last, last_get, List.append_assoc]
  · have hne : t ≠ [] := by rcases h with h | h <;> simp_all
    obtain ⟨ini, x, rfl⟩ : ∃ ini x, t = ini ++ [x] := ⟨t.dropLast, t.getLast hne, (List.dropLast_concat_getLast hne).symm⟩
    refine ⟨ini ++ [x ||| u8_shl b (7 - i % 8)], ?_, by simp⟩
    simp only [pk, h0, if_false]
    rw [← List.append_assoc, set_last, last_get, List.append_assoc]
theorem pks_pre : ∀ (l out t : List UInt8) (i : Nat), (i % 8 = 0 ∨ t ≠ []) → ∃ t', pks (out ++ t) i l = out ++ t'
  | [], out, t, i, _ => ⟨t, rfl⟩
  | b :: l, out, t, i, h => by
    obtain ⟨t', h1, h2⟩ := pk_pre (out := out) (b := b) h
    rw [pks, h1]
    exact pks_pre l out t' (i + 1) (.inr h2)
/-! ### Numbers read -/
theorem fo_app (n : UInt64) : ∀ (a b : List UInt64) (s : RS), fo n s (a ++ b) = match fo n s a with | none => none | some s' => fo n s' b
  | [], b, s => rfl
  | x :: a, b, s => by
    simp only [List.cons_append, fo]
    cases stp n s x with
    | none => rfl
    | some s' => exact fo_app n a b s'
theorem fo_ones (n : UInt64) : ∀ (k : Nat) (s : RS), s.nums.length ≠ n.toNat → s.un = true → fo n s (List.replicate k 1) = some { s with q := s.q + UInt64.ofNat k }
  | 0, s, _, _ => by simp [fo]
  | k + 1, s, h, hu => by
    rw [List.replicate_succ, fo]
    have e : stp n s 1 = some { s with q := s.q + 1 } := by
      unfold stp
      rw [if_neg h, if_pos hu, if_pos rfl]
    rw [e]
    have := fo_ones n k { s with q := s.q + 1 } h hu
    simp only at this ⊢
    rw [this]
    congr 2
    rw [show UInt64.ofNat (k + 1) = UInt64.ofNat k + 1 from UInt64.ofNat_add k 1, UInt64.add_assoc, UInt64.add_comm 1]
theorem and1_cast (x : UInt64) : ((x &&& 1).toUInt8).toUInt64 = x &&& 1 := by
  apply UInt64.toNat_inj.1
  have h1 : (x &&& 1).toNat = x.toNat % 2 := by
    rw [UInt64.toNat_and]; exact Nat.and_one_is_mod _
  simp only [UInt8.toNat_toUInt64, UInt64.toNat_toUInt8, h1]
  omega
theorem shr_and (d : UInt64) (k : Nat) (hk : k < 64) : (u64_shr d k &&& 1).toNat = d.toNat / 2 ^ k % 2 := by
  rw [UInt64.toNat_and, u64_shr, if_pos hk, UInt64.toNat_shiftRight]
  show (d.toNat >>> ((UInt64.ofNat k).toNat % 64)) &&& 1 = _
  rw [UInt64.toNat_ofNat', Nat.mod_eq_of_lt (a := k) (b := 2 ^ 64) (by omega), Nat.mod_eq_of_lt hk, Nat.shiftRight_eq_div_pow, Nat.and_one_is_mod]
def lowj (d : UInt64) (j : Nat) : UInt64 := UInt64.ofNat (d.toNat / 2 ^ (19 - j) % 2 ^ j)
theorem lowj_nat (d : UInt64) {j : Nat} (hj : j ≤ 19) : (lowj d j).toNat = d.toNat / 2 ^ (19 - j) % 2 ^ j := by
  rw [lowj, UInt64.toNat_ofNat']
  refine Nat.mod_eq_of_lt (Nat.lt_of_lt_of_le (Nat.mod_lt _ (Nat.two_pow_pos j)) (Nat.pow_le_pow_right (by decide) (by omega)))
theorem lowj_next (d : UInt64) {j : Nat} (hj : j < 19) : u64_shl (lowj d j) 1 ||| (u64_shr d (18 - j) &&& 1) = lowj d (j + 1) := by
  have hb : (u64_shr d (18 - j) &&& 1) = 0 ∨ (u64_shr d (18 - j) &&& 1) = 1 := by
    have h := shr_and d (18 - j) (by omega)
    have h2 : (u64_shr d (18 - j) &&& 1).toNat = 0 ∨ (u64_shr d (18 - j) &&& 1).toNat = 1 := by omega
    rcases h2 with h2 | h2
    · left; apply UInt64.toNat_inj.1; simpa using h2
    · right; apply UInt64.toNat_inj.1; simpa using h2
  rw [← dbl _ _ hb]
  apply UInt64.toNat_inj.1
  rw [UInt64.toNat_add, UInt64.toNat_mul, shr_and d _ (by omega), lowj_nat d (by omega), lowj_nat d (by omega)]
  have e : 19 - j = (18 - j) + 1 := by omega
  rw [e, Nat.pow_succ, ← Nat.div_div_eq_div_mul, show 19 - (j + 1) = 18 - j by omega]
  generalize d.toNat / 2 ^ (18 - j) = E
  rw [show (2 : UInt64).toNat = 2 from rfl]
  have h1 : E % 2 ^ (j + 1) = E % 2 + 2 * (E / 2 % 2 ^ j) := by rw [Nat.pow_succ, Nat.mul_comm, Nat.mod_mul]
  have h2 : E / 2 % 2 ^ j < 2 ^ j := Nat.mod_lt _ (Nat.two_pow_pos j)
  have h3 : 2 ^ j ≤ 2 ^ 18 := Nat.pow_le_pow_right (by decide) (by omega)
  rw [h1]
  omega
def RSd (nums : List UInt64) (sum : UInt64) : RS := ⟨nums, sum, 0, 0, 0, 0, true⟩
theorem bits_low (d : UInt64) : b64 ((List.range 19).map fun j => (u64_shr d (18 - j) &&& 1).toUInt8) = (List.range 19).map fun j => u64_shr d (18 - j) &&& 1 := by
  rw [b64, List.map_map]
  refine List.map_congr_left fun j _ => ?_
  exact and1_cast _
theorem fo_low {n d sum q : UInt64} {nums : List UInt64} (hlen : nums.length ≠ n.toNat) : ∀ j, j ≤ 18 → fo n ⟨nums, sum, q, 0, 0, 0, false⟩ ((List.range j).map fun j => u64_shr d (18 - j) &&& 1) = some ⟨nums, sum, q, lowj d j, j, 0, false⟩
  | 0, _ => by
    simp only [List.range_zero, List.map_nil, fo]
    congr 2
    apply UInt64.toNat_inj.1
    rw [lowj_nat d (by omega)]
    simp [Nat.mod_one]
  | j + 1, hj => by
    rw [List.range_succ, List.map_append, List.map_singleton, fo_snoc, fo_low hlen j (by omega)]
    simp only
    unfold stp
    rw [if_neg hlen, if_neg (by simp), if_pos (by simp; omega)]
    simp only
    rw [lowj_next d (by omega)]
theorem fo_bitD {n d sum : UInt64} {nums : List UInt64} (hd : d.toNat < 4294967296) (hlen : nums.length < n.toNat) (hlt : sum + d < n * UInt64.ofInt 784931) : fo n (RSd nums sum) (b64 (bitD d)) = some (RSd (nums ++ [sum + d]) (sum + d)) := by
  have hne : nums.length ≠ n.toNat := by omega
  rw [bitD, b64, List.map_append, List.map_cons, ← b64, ← b64, bits_low, show b64 (List.replicate (d.toNat >>> 19) 1) = List.replicate (d.toNat >>> 19) 1 by simp [b64]]
  rw [fo_app, fo_ones n _ _ hne rfl]
  simp only [fo]
  have e : stp n { RSd nums sum with q := (RSd nums sum).q + UInt64.ofNat (d.toNat >>> 19) } (UInt8.toUInt64 0) = some ⟨nums, sum, UInt64.ofNat (d.toNat >>> 19), 0, 0, 0, false⟩ := by
    show stp n ⟨nums, sum, (0 : UInt64) + UInt64.ofNat (d.toNat >>> 19), 0, 0, 0, true⟩ _ = _
    unfold stp
    rw [if_neg hne, if_pos rfl, if_neg (by decide), UInt64.zero_add]
  rw [e]
  simp only
  rw [List.range_succ, List.map_append, List.map_singleton, fo_snoc, fo_low hne 18 (by omega)]
  simp only
  unfold stp
  rw [if_neg hne, if_neg (by simp), if_neg (by simp)]
  simp only
  have hn := lowj_next d (j := 18) (by omega)
  rw [hn]
  have hq : (u64_shl (UInt64.ofNat (d.toNat >>> 19)) 19 ||| lowj d (18 + 1)) = d := by
    apply UInt64.toNat_inj.1
    rw [UInt64.toNat_or, lowj_nat d (by omega), u64_shl, if_pos (by omega), UInt64.toNat_shiftLeft]
    show (UInt64.ofNat (d.toNat >>> 19)).toNat <<< 19 % 2 ^ 64 ||| _ = _
    rw [UInt64.toNat_ofNat', Nat.shiftRight_eq_div_pow, Nat.mod_eq_of_lt (a := d.toNat / 2 ^ 19) (by omega), Nat.shiftLeft_eq, Nat.mod_eq_of_lt (by omega)]
    rw [show 19 - (18 + 1) = 0 from rfl, Nat.pow_zero, Nat.div_one, show 18 + 1 = 19 from rfl]
    rw [Nat.mul_comm, ← Nat.two_pow_add_eq_or_of_lt (Nat.mod_lt _ (by decide))]
    exact Nat.div_add_mod _ _
  rw [hq, if_neg (by rw [UInt64.not_le]; exact hlt)]
  rfl
theorem fo_bitsF {n : UInt64} : ∀ (l nums : List UInt64) (last : UInt64), small last l → (∀ x ∈ l, x < n * UInt64.ofInt 784931) → nums.length + l.length ≤ n.toNat → ∃ sum, fo n (RSd nums last) (b64 (bitsF last l)) = some (RSd (nums ++ l) sum)
  | [], nums, last, _, _, _ => ⟨last, by simp [bitsF, fo]⟩
  | x :: l, nums, last, hs, hx, hl => by
    rw [List.length_cons] at hl
    have e : last + (x - last) = x := by rw [UInt64.add_comm, UInt64.sub_add_cancel]
    have h1 := fo_bitD (n := n) (nums := nums) (sum := last) hs.1 (by omega) (by rw [e]; exact hx x (by simp))
    rw [e] at h1
    obtain ⟨sum, h2⟩ := fo_bitsF l (nums ++ [x]) x hs.2 (fun y hy => hx y (by simp [hy])) (by simp; omega)
    refine ⟨sum, ?_⟩
    rw [bitsF, b64, List.map_append, fo_app, ← b64, h1]
    simp only
    rw [← b64, h2]
    simp
theorem fo_pad {n : UInt64} : ∀ (k : Nat) (s : RS), s.nums.length = n.toNat → fo n s (zs k) = if s.pad + k ≤ 7 ∨ k = 0 then some { s with pad := s.pad + k } else none
  | 0, s, _ => by simp [fo]
  | k + 1, s, h => by
    rw [zs, List.replicate_succ, fo]
    unfold stp
    rw [if_pos h]
    by_cases hp : 7 < s.pad + 1
    · rw [if_pos (.inr hp), if_neg (by omega)]
    · rw [if_neg (by simp; omega)]
      simp only
      rw [fo_pad k { s with pad := s.pad + 1 } h]
      simp only
      by_cases hk : s.pad + 1 + k ≤ 7
      · rw [if_pos (.inl hk), if_pos (by omega), Nat.add_assoc, Nat.add_comm 1 k]
      · rw [if_neg (by omega), if_neg (by omega)]
theorem fo_full {n : UInt64} : ∀ (l : List UInt64) (s s' : RS), s.nums.length = n.toNat → fo n s l = some s' → s'.pad = s.pad + l.length
  | [], s, s', _, h => by cases h; rfl
  | b :: l, s, s', hn, h => by
    rw [fo] at h
    unfold stp at h
    rw [if_pos hn] at h
    split at h
    · cases h
    · rename_i s1 hs
      split at hs
      · cases hs
      · cases hs
        have := fo_full l { s with pad := s.pad + 1 } s' hn h
        simp only at this
        rw [this, List.length_cons]; omega
/-! ### What was built -/
theorem lbs4_le {n : UInt64} (hn : n.toNat < 4294967296) (t : List UInt8) : le (lbs n 4 ++ t) 0 4 = n := by
  apply UInt64.toNat_inj.1
  have hs : ∀ k, k ≤ 3 → (nsh n k).toNat = n.toNat / 2 ^ (8 * k) := by
    intro k
    induction k with
    | zero => intro _; simp [nsh]
    | succ k ih =>
      intro hk
      rw [nsh, u64_shr, if_pos (by omega), UInt64.toNat_shiftRight, ih (by omega)]
      show (n.toNat / 2 ^ (8 * k)) >>> 8 = _
      rw [Nat.shiftRight_eq_div_pow, Nat.div_div_eq_div_mul, ← Nat.pow_add, Nat.mul_succ]
  have hg : ∀ k, k < 4 → ((lbs n 4 ++ t)[0 + k]!).toNat = n.toNat / 2 ^ (8 * k) % 256 := by
    intro k hk
    have : (lbs n 4 ++ t)[k]? = some (nsh n k).toUInt8 := by
      rw [List.getElem?_append_left (by rw [lbs_len]; exact hk)]
      simp [lbs, hk]
    rw [Nat.zero_add, List.getElem!_eq_getElem?_getD, this, Option.getD_some, UInt64.toNat_toUInt8, hs k (by omega)]
  have h0 := (le_nat (lbs n 4 ++ t) 0 0 (by omega)).2 (by omega)
  have h1 := (le_nat (lbs n 4 ++ t) 0 1 (by omega)).2 (by omega)
  have h2 := (le_nat (lbs n 4 ++ t) 0 2 (by omega)).2 (by omega)
  have h3 := (le_nat (lbs n 4 ++ t) 0 3 (by omega)).2 (by omega)
  rw [hg 0 (by omega)] at h0
  rw [hg 1 (by omega)] at h1
  rw [hg 2 (by omega)] at h2
  rw [hg 3 (by omega)] at h3
  have hz : (le (lbs n 4 ++ t) 0 0).toNat = 0 := rfl
  rw [h3, h2, h1, h0, hz]
  omega
theorem ofInt_nat {n : Nat} (h : n ≤ 4096) : (UInt64.ofInt (n : Int)).toNat = n := by
  rw [UInt64.ofInt]; simp; omega
theorem bitD_01 (d : UInt64) : b01 (bitD d) := by
  intro b hb
  simp only [bitD, List.mem_append, List.mem_replicate, List.mem_cons, List.mem_map, List.mem_range] at hb
  rcases hb with ⟨_, rfl⟩ | rfl | ⟨j, hj, rfl⟩
  · exact .inr rfl
  · exact .inl rfl
  · have h1 := shr_and d (18 - j) (by omega)
    have h2 : (u64_shr d (18 - j) &&& 1).toUInt8.toNat = d.toNat / 2 ^ (18 - j) % 2 := by rw [UInt64.toNat_toUInt8, h1]; omega
    have h3 : (u64_shr d (18 - j) &&& 1).toUInt8.toNat = 0 ∨ (u64_shr d (18 - j) &&& 1).toUInt8.toNat = 1 := by omega
    rcases h3 with h3 | h3
    · left; apply UInt8.toNat_inj.1; simpa using h3
    · right; apply UInt8.toNat_inj.1; simpa using h3
theorem bitsF_01 : ∀ (l : List UInt64) (last : UInt64), b01 (bitsF last l)
  | [], _ => fun b hb => by simp [bitsF] at hb
  | x :: l, last => fun b hb => by
    rw [bitsF, List.mem_append] at hb
    rcases hb with hb | hb
    · exact bitD_01 _ b hb
    · exact bitsF_01 l x b hb
/-- a filter: its number, its bits, blanks to fill a byte -/
theorem filt_shape (l : List UInt64) : ∃ t, filtB l = lbs (UInt64.ofInt (l.length : Int)) 4 ++ t ∧ bitsB t = b64 (bitsF 0 l) ++ zs ((8 - (bitsF 0 l).length % 8) % 8) := by
  obtain ⟨t, ht⟩ := pks_pre (bitsF 0 l) (lbs (UInt64.ofInt (l.length : Int)) 4) [] 0 (.inl rfl)
  rw [List.append_nil] at ht
  refine ⟨t, ht, ?_⟩
  have h1 := pks_bits (bitsF 0 l) (lbs (UInt64.ofInt (l.length : Int)) 4) 0 (bitsB (lbs (UInt64.ofInt (l.length : Int)) 4)) (bitsF_01 l 0) (by simp) (.inl rfl)
  rw [ht, bitsB_app, List.append_assoc, Nat.zero_add] at h1
  exact List.append_cancel_left h1
/-- **WHAT WAS BUILT IS READ**; with a byte more, or one less, it is none -/
theorem read_filt {l : List UInt64} (hn : l.length ≤ 4096) (hs : small 0 l) (hx : ∀ x ∈ l, x < UInt64.ofInt (l.length : Int) * UInt64.ofInt 784931) :
    readF (filtB l) = some l ∧ readF (filtB l ++ [0]) = none ∧ readF ((filtB l).take ((filtB l).length - 1)) = none ∧ 4 ≤ (filtB l).length := by
  obtain ⟨t, ht, hb⟩ := filt_shape l
  have hl4 : (lbs (UInt64.ofInt (l.length : Int)) 4).length = 4 := lbs_len _ _
  have hnn := ofInt_nat hn
  obtain ⟨sum, hf⟩ := fo_bitsF (n := UInt64.ofInt (l.length : Int)) l [] 0 hs hx (by rw [hnn]; simp)
  rw [List.nil_append] at hf
  have hrd : ∀ t' : List UInt8, readF (lbs (UInt64.ofInt (l.length : Int)) 4 ++ t') = rdB (UInt64.ofInt (l.length : Int)) (bitsB t') := by
    intro t'
    unfold readF
    rw [lbs4_le (by omega), if_pos ⟨by rw [List.length_append, hl4]; omega, by omega⟩, show List.drop 4 (lbs (UInt64.ofInt (l.length : Int)) 4 ++ t') = t' by have := List.drop_left (l₁ := lbs (UInt64.ofInt (l.length : Int)) 4) (l₂ := t'); rwa [hl4] at this]
  have hz : RS.z = RSd [] 0 := rfl
  have hfin : ∀ k, k ≤ 7 → fo (UInt64.ofInt (l.length : Int)) RS.z (b64 (bitsF 0 l) ++ zs k) = some { RSd l sum with pad := k } := by
    intro k hk
    rw [fo_app, hz, hf]
    simp only
    rw [fo_pad k (RSd l sum) (by rw [hnn]; rfl), if_pos (by left; simp [RSd]; omega)]
    simp [RSd]
  refine ⟨?_, ?_, ?_, by rw [ht, List.length_append, hl4]; omega⟩
  · rw [ht, hrd, hb]
    unfold rdB
    rw [hfin _ (by omega)]
    simp only
    rw [if_neg (by simp [RSd]; omega)]
    rfl
  · rw [ht, List.append_assoc, hrd, bitsB_app, hb, List.append_assoc, show bitsB [0] = zs 8 by decide]
    unfold rdB
    rw [show zs ((8 - (bitsF 0 l).length % 8) % 8) ++ zs 8 = zs ((8 - (bitsF 0 l).length % 8) % 8 + 8) from List.replicate_append_replicate .., fo_app, hz, hf]
    simp only
    rw [fo_pad _ (RSd l sum) (by rw [hnn]; rfl), if_neg (by simp [RSd])]
  · by_cases h0 : l = []
    · subst h0
      have e : filtB ([] : List UInt64) = [0, 0, 0, 0] := by decide
      rw [e]
      decide
    · have hpos : 0 < (bitsF 0 l).length := by
        cases l with
        | nil => exact absurd rfl h0
        | cons x r => simp [bitsF, bitD]; omega
      have hbl := congrArg List.length hb
      rw [bitsB_len, List.length_append, List.length_map, List.length_replicate] at hbl
      have htl : 0 < t.length := by omega
      have e : (filtB l).take ((filtB l).length - 1) = lbs (UInt64.ofInt (l.length : Int)) 4 ++ t.take (t.length - 1) := by
        rw [ht, List.take_append, List.take_of_length_le (by rw [List.length_append]; omega)]
        rw [show (lbs (UInt64.ofInt (l.length : Int)) 4 ++ t).length - 1 - (lbs (UInt64.ofInt (l.length : Int)) 4).length = t.length - 1 by rw [List.length_append]; omega]
      rw [e, hrd]
      have hsplit : bitsB t = bitsB (t.take (t.length - 1)) ++ bitsB (t.drop (t.length - 1)) := by rw [← bitsB_app, List.take_append_drop]
      have hlen : (bitsB (t.take (t.length - 1))).length = 8 * (t.length - 1) := by rw [bitsB_len]; simp
      obtain ⟨p, hp⟩ : ∃ p, p = bitsB (t.take (t.length - 1)) := ⟨_, rfl⟩
      rw [← hp] at hsplit hlen ⊢
      have hpre : b64 (bitsF 0 l) = p ++ (b64 (bitsF 0 l)).drop p.length := by
        have h1 := hb
        rw [hsplit] at h1
        have h2 := congrArg (List.take p.length) h1
        rw [List.take_left, List.take_append, show p.length - (b64 (bitsF 0 l)).length = 0 by rw [b64, List.length_map]; omega, List.take_zero, List.append_nil] at h2
        conv => rhs; arg 1; rw [h2]
        rw [List.take_append_drop]
      have hne : 0 < ((b64 (bitsF 0 l)).drop p.length).length := by rw [List.length_drop, b64, List.length_map]; omega
      have hf' := hf
      rw [hpre, fo_app] at hf'
      unfold rdB
      rw [hz]
      cases hfp : fo (UInt64.ofInt (l.length : Int)) (RSd [] 0) p with
      | none => rfl
      | some s =>
        rw [hfp] at hf'
        simp only at hf' ⊢
        have hle := fo_len p (RSd [] 0) s (by simp [RSd]) hfp
        by_cases hq : s.nums.length = (UInt64.ofInt (l.length : Int)).toNat
        · have := fo_full _ _ _ hq hf'
          simp only [RSd] at this
          omega
        · rw [if_pos (by omega)]
/-! ### Numbers in order -/
theorem srt_mem {l : List UInt64} {x : UInt64} : x ∈ srt l ↔ x ∈ l := by
  obtain ⟨k1, k2⟩ := Sort.sort_sorts ltU swoU l.toArray
  obtain ⟨h1, h2, h3⟩ := k1
  have e1 : (Sort.sort ltU l.toArray).extract 0 l.toArray.size = Sort.sort ltU l.toArray := by rw [← h1]; exact Array.extract_size
  rw [e1, Array.extract_size] at h3
  have := h3.mem_iff (a := x)
  simpa [srt] using this
theorem srt_perm {l m : List UInt64} (h : l.Perm m) : srt l = srt m := by
  obtain ⟨k1, k2⟩ := Sort.sort_sorts ltU swoU l.toArray
  refine congrArg Array.toList (srt_unique (n := m.length) (d := m.toArray) (by simp) ?_ ?_)
  · obtain ⟨h1, h2, h3⟩ := k1
    have hl := h.length_eq
    have e1 : (Sort.sort ltU l.toArray).extract 0 l.toArray.size = Sort.sort ltU l.toArray := by rw [← h1]; exact Array.extract_size
    rw [e1, Array.extract_size] at h3
    simp only [List.size_toArray] at h1
    have e2 : (Sort.sort ltU l.toArray).extract 0 m.length = Sort.sort ltU l.toArray := by rw [← hl, ← h1]; exact Array.extract_size
    have e3 : m.toArray.extract 0 m.length = m.toArray := by
      have : m.length = m.toArray.size := by simp
      rw [this]; exact Array.extract_size
    refine ⟨by simp; omega, fun i hi => ?_, ?_⟩
    · have hi' : m.length ≤ i := by omega
      rw [getElem!_neg _ _ (by omega), getElem!_neg _ _ (by simp; omega)]
    · rw [e2, e3]
      exact h3.trans h
  · have hl := h.length_eq
    simp only [List.size_toArray] at k2
    rw [← hl]; exact k2
theorem srt_up (l : List UInt64) : Up (srt l) := by
  obtain ⟨k1, k2⟩ := Sort.sort_sorts ltU swoU l.toArray
  have hsz := k1.1
  simp only [List.size_toArray] at hsz k2
  intro i j x y hij hx hy
  unfold srt at hx hy
  have hj := (List.getElem?_eq_some_iff.1 hy).1
  simp only [Array.length_toList] at hj
  rcases Nat.lt_or_eq_of_le hij with hlt | rfl
  · have := k2 i j (Nat.zero_le _) hlt (by omega)
    simp only [Array.getElem?_toList] at hx hy
    rw [getElem!_pos _ j hj, getElem!_pos _ i (by omega)] at this
    rw [Array.getElem?_eq_getElem (by omega)] at hx hy
    cases hx; cases hy
    simp only [ltU, decide_eq_false_iff_not, UInt64.lt_iff_toNat_lt] at this
    omega
  · rw [hx] at hy; cases hy; exact Nat.le_refl _
theorem small_up : ∀ (l : List UInt64) (last : UInt64), (∀ x ∈ l, last.toNat ≤ x.toNat ∧ x.toNat < 4294967296) → Up l → small last l
  | [], _, _, _ => trivial
  | x :: l, last, h, hu => by
    have h0 := h x (by simp)
    refine ⟨?_, small_up l x (fun y hy => ⟨?_, (h y (by simp [hy])).2⟩) ?_⟩
    · rw [UInt64.toNat_sub_of_le _ _ (UInt64.le_iff_toNat_le.2 h0.1)]; omega
    · obtain ⟨j, hj⟩ := List.getElem?_of_mem hy
      exact hu 0 (j + 1) x y (by omega) rfl (by simpa using hj)
    · intro i j y z hij hy hz
      exact hu (i + 1) (j + 1) y z (by omega) (by simpa using hy) (by simpa using hz)
theorem nm_lt (id x : List UInt8) {n : Nat} (h0 : 0 < n) (hn : n ≤ 4096) : nm id n x < UInt64.ofInt (n : Int) * UInt64.ofInt 784931 := by
  unfold nm numS
  have hnn := ofInt_nat hn
  obtain ⟨f, hf⟩ : ∃ f, f = UInt64.ofInt (n : Int) * UInt64.ofInt 784931 := ⟨_, rfl⟩
  have hfn : f.toNat = n * 784931 := by
    rw [hf, UInt64.toNat_mul, hnn, show (UInt64.ofInt 784931).toNat = 784931 from rfl, Nat.mod_eq_of_lt (by omega)]
  rw [← hf]
  generalize le (sha (id ++ x)) 0 8 = h
  rw [num_eq h f (by omega), UInt64.lt_iff_toNat_lt, shr32, UInt64.toNat_add, UInt64.toNat_mul, shr32, shr32, UInt64.toNat_mul, and32]
  have hh : h.toNat < 2 ^ 64 := h.toNat_lt
  obtain ⟨a, ha⟩ : ∃ a, a = h.toNat / 4294967296 := ⟨_, rfl⟩
  obtain ⟨b, hb⟩ : ∃ b, b = h.toNat % 4294967296 := ⟨_, rfl⟩
  rw [← ha, ← hb]
  have ha2 : a ≤ 4294967295 := by omega
  have hb2 : b ≤ 4294967295 := by omega
  have h1 : a * f.toNat ≤ 4294967295 * f.toNat := Nat.mul_le_mul_right _ ha2
  have h2 : b * f.toNat ≤ 4294967295 * f.toNat := Nat.mul_le_mul_right _ hb2
  rw [Nat.mod_eq_of_lt (a := a * f.toNat) (by omega), Nat.mod_eq_of_lt (a := b * f.toNat) (by omega)]
  have h3 : b * f.toNat / 4294967296 < f.toNat := by
    rw [Nat.div_lt_iff_lt_mul (by decide)]; omega
  rw [Nat.mod_eq_of_lt (by omega), Nat.div_lt_iff_lt_mul (by decide)]
  omega
theorem nums_lt {id : List UInt8} {hs : List (List UInt8)} (hl : (uniq hs).length ≤ 4096) : ∀ x ∈ nums id hs, x < UInt64.ofInt ((nums id hs).length : Int) * UInt64.ofInt 784931 := by
  intro x hx
  obtain ⟨y, hy, rfl⟩ := List.mem_map.1 hx
  have : (nums id hs).length = (uniq hs).length := by simp [nums]
  rw [this]
  exact nm_lt id y (List.length_pos_of_mem hy) hl
theorem uniq_len (hs : List (List UInt8)) : (uniq hs).length ≤ hs.length := by
  have := uniqF_len hs []; rw [List.length_nil, Nat.zero_add] at this; exact this
theorem small_nums {id : List UInt8} {hs : List (List UInt8)} (hl : hs.length ≤ 4096) : small 0 (srt (nums id hs)) := by
  have hl' : (uniq hs).length ≤ 4096 := Nat.le_trans (uniq_len hs) hl
  refine small_up _ _ (fun x hx => ⟨Nat.zero_le _, ?_⟩) (srt_up _)
  have h1 := nums_lt hl' x (srt_mem.1 hx)
  have h2 : (nums id hs).length = (uniq hs).length := by simp [nums]
  rw [UInt64.lt_iff_toNat_lt, UInt64.toNat_mul, ofInt_nat (by omega), show (UInt64.ofInt 784931).toNat = 784931 from rfl, Nat.mod_eq_of_lt (by omega)] at h1
  omega
/-- a filter of items -/
abbrev flt (id : List UInt8) (hs : List (List UInt8)) : List UInt8 := filtB (srt (nums id hs))
theorem flt_read {id : List UInt8} {hs : List (List UInt8)} (hl : hs.length ≤ 4096) :
    readF (flt id hs) = some (srt (nums id hs)) ∧ readF (flt id hs ++ [0]) = none ∧ readF ((flt id hs).take ((flt id hs).length - 1)) = none ∧ 4 ≤ (flt id hs).length := by
  have hl' : (uniq hs).length ≤ 4096 := Nat.le_trans (uniq_len hs) hl
  have h2 : (srt (nums id hs)).length = (uniq hs).length := by rw [srt_len]; simp [nums]
  refine read_filt (by omega) (small_nums hl) fun x hx => ?_
  have := nums_lt hl' x (srt_mem.1 hx)
  rwa [srt_len]
theorem nodup_perm {l m : List (List UInt8)} (hl : l.Nodup) (hm : m.Nodup) (h : ∀ x, x ∈ l ↔ x ∈ m) : l.Perm m := (List.perm_ext_iff_of_nodup hl hm).2 h
theorem uniq_perm {l m : List (List UInt8)} (h : ∀ x, x ∈ l ↔ x ∈ m) : (uniq l).Perm (uniq m) :=
  nodup_perm (uniqF_nodup l [] List.nodup_nil) (uniqF_nodup m [] List.nodup_nil) fun x => by
    rw [uniq, uniq, uniqF_mem, uniqF_mem]; simpa using h x
theorem flt_same {id : List UInt8} {l m : List (List UInt8)} (h : ∀ x, x ∈ l ↔ x ∈ m) : srt (nums id l) = srt (nums id m) := by
  have hp := uniq_perm h
  refine srt_perm ?_
  unfold nums
  rw [hp.length_eq]
  exact hp.map _
end Go.Proofs.YtmcbdlefakjpoaaDoor

set_option linter.unusedSimpArgs false
set_option linter.unusedVariables false
set_option linter.unusedSectionVars false
namespace Go.E
open Go.ChangeShapes Go.WideShapes Go.ChangeAt Go.RowKit
inductive Dat where
  | b (x : Bool)
  | i (k : IntKind) (n : Int)
  | s (x : ByteArray)
  | sl (l : List Dat)
  | ag (l : List Dat)
instance : Inhabited Dat := ⟨.ag []⟩
mutual
/-- a datum's cells -/
def Dat.avs : Dat → List AV
  | .b x => [.p (.bool x)]
  | .i k n => [.p (.int k n)]
  | .s x => [.p (.string x)]
  | .sl l => [.vs (Dat.avsL l) l.length]
  | .ag l => Dat.avsL l
def Dat.avsL : List Dat → List AV
  | [] => []
  | d :: r => Dat.avs d ++ Dat.avsL r
end
theorem Dat.avsL_eq : ∀ l : List Dat, Dat.avsL l = l.flatMap Dat.avs
  | [] => by rw [Dat.avsL]; rfl
  | d :: r => by rw [Dat.avsL, Dat.avsL_eq r]; rfl
/-- as an argument -/
def Dat.arg : Dat → AV
  | .ag l => .ag (l.flatMap Dat.avs)
  | d => d.avs.headD .any
/-- a datum of a type -/
inductive HasT (P : Program) : TypeId → Dat → Prop
  | b {t : TypeId} (h : P.underlying t = some .bool) (x : Bool) : HasT P t (.b x)
  | i {t : TypeId} {k : IntKind} (h : P.underlying t = some (.int k)) (n : Int) (hw : (Lit.int k n).wf = true) : HasT P t (.i k n)
  | s {t : TypeId} (h : P.underlying t = some .string) (x : ByteArray) (hs : x.size ≤ reachBytes) : HasT P t (.s x)
  | sl {t e : TypeId} (h : P.underlying t = some (.slice e)) (l : List Dat) (hl : l.length * P.bytesOf e ≤ reachBytes) (ha : ∀ d ∈ l, HasT P e d) : HasT P t (.sl l)
  | ar {t e : TypeId} {n : Nat} (h : P.underlying t = some (.array n e)) (l : List Dat) (hl : l.length = n) (ha : ∀ d ∈ l, HasT P e d) : HasT P t (.ag l)
  | st {t : TypeId} {fs : Array Field} (h : P.underlying t = some (.struct fs)) (l : List Dat) (hl : l.length = fs.size) (ha : ∀ (k : Nat) (f : Field) (d : Dat), fs[k]? = some f → l[k]? = some d → HasT P f.type d) : HasT P t (.ag l)
inductive HasTs (P : Program) : List TypeId → List Dat → Prop
  | nil : HasTs P [] []
  | cons {t : TypeId} {ts : List TypeId} {d : Dat} {ds : List Dat} (h : HasT P t d) (hs : HasTs P ts ds) : HasTs P (t :: ts) (d :: ds)
def tilesF (P : Program) : Nat → List Field → Option Nat
  | off, [] => some off
  | off, f :: r => if f.offset = off then tilesF P (off + P.cellsOf f.type) r else none
def argT (P : Program) (t : TypeId) : Bool := match P.underlying t with
  | some .bool => P.cellsOf t == 1
  | some (.int _) => P.cellsOf t == 1
  | some .string => P.cellsOf t == 1
  | some (.slice e) => P.cellsOf t == 1 && decide (0 < P.cellsOf e)
  | some (.array n e) => P.cellsOf t == n * P.cellsOf e
  | some (.struct fs) => tilesF P 0 fs.toList == some (P.cellsOf t)
  | _ => false
def kidsT (P : Program) (t : TypeId) : List TypeId := match P.underlying t with
  | some (.slice e) => [e]
  | some (.array _ e) => [e]
  | some (.struct fs) => fs.toList.map (·.type)
  | _ => []
def closedT (P : Program) (ts : List TypeId) : Bool := ts.all fun t => argT P t && (kidsT P t).all fun k => ts.contains k
/-- all of a world lasts -/
def wholeH (W : World) : Heap := ⟨fun b => W.heap[b]?, W.os, W.output⟩
theorem wholeH_of (W : World) : (wholeH W).of W := ⟨fun _ _ h => h, rfl, rfl⟩
theorem wholeH_whole (W : World) : (whole W).holds (wholeH W) := ⟨fun _ _ h => h, rfl, rfl⟩
theorem rel_row {Γ : Heap} {ρ : List BI} {cs : List AV} {vs : List Value} {a : Option Addr} {n m : Nat} (h : RelL Γ [] cs vs) (hn : n ≤ m) (ha : (arr a vs).holds Γ) : Rel Γ ρ (.vs cs n) (.slice a n m) := by
  rcases ha with rfl | ⟨p, c, T, fr, rfl, h1, h2, h3⟩
  · exact .vs0 (.inl (List.eq_nil_of_length_eq_zero h.1)) hn
  · obtain ⟨b, o, s⟩ := p
    simp only at h1 h2 h3
    subst h1
    refine .vs (f := fun k => vs.getD k undef) hn h2 (fun k hk => ?_) fun k hk => ?_
    · have hk' : k < vs.length := by rw [← h.1]; exact hk
      exact h3 k _ (by simp [List.getD, hk'])
    · have hk' : k < vs.length := by rw [← h.1]; exact hk
      exact h.2 k _ _ (by simp [hk]) (by simp [List.getD, hk'])
theorem rel_vp0 {Γ : Heap} {ρ : List BI} {cs : List AV} {vs : List Value} {b : Nat} (h : RelL Γ [] cs vs) (hne : vs ≠ []) (ha : (arr (some ⟨b, 0, none⟩) vs).holds Γ) : Rel Γ ρ (.vp cs 0) (.pointer (some ⟨b, 0, none⟩)) := by
  rcases ha with rfl | ⟨p, c, T, fr, hp, h1, h2, h3⟩
  · exact absurd rfl hne
  · cases hp
    refine .vp (o := 0) (off := 0) (f := fun k => vs.getD k undef) h2 (fun k hk => ?_) fun k hk => ?_
    · have hk' : k < vs.length := by rw [← h.1]; exact hk
      exact h3 k _ (by simp [List.getD, hk'])
    · have hk' : k < vs.length := by rw [← h.1]; exact hk
      exact h.2 k _ _ (by simp [hk]) (by simp [List.getD, hk'])
section
variable {H : Type} {enc : TypeId × Value → H} {P : Program} {W : World} {base : Nat} {sp : Nat → Bool} {held : Bool}
theorem weightsAll_each {e : TypeId} {l : List (DataW H)} {B : Nat} (h : ∀ n ∈ DataW.weightsAll P e l, n ≤ B) {d : DataW H} (hd : d ∈ l) : ∀ n ∈ d.weights P e, n ≤ B := fun n hn => h n (weightsAll_mem hd n hn)
theorem weightsEach_at : ∀ {ts : List TypeId} {l : List (DataW H)} {k : Nat} {t : TypeId} {d : DataW H}, ts[k]? = some t → l[k]? = some d → ∀ n ∈ d.weights P t, n ∈ DataW.weightsEach P ts l
  | [], _, _, _, _, h, _ => by simp at h
  | _ :: _, [], _, _, _, _, h => by simp at h
  | t :: ts, d :: l, 0, _, _, h, h' => by
    simp at h h'; subst h; subst h'
    intro n hn; simp [DataW.weightsEach, hn]
  | t :: ts, d :: l, k + 1, _, _, h, h' => by
    intro n hn
    simp only [DataW.weightsEach, List.mem_append]
    exact .inr (weightsEach_at (by simpa using h) (by simpa using h') n hn)
theorem RelL.flat {Γ : Heap} {ρ : List BI} : ∀ {l : List Dat} {vss : List (List Value)}, l.length = vss.length → (∀ (k : Nat) (d : Dat) (vs : List Value), l[k]? = some d → vss[k]? = some vs → RelL Γ ρ d.avs vs) → RelL Γ ρ (l.flatMap Dat.avs) vss.flatten
  | [], [], _, _ => by simpa using RelL.nil
  | d :: l, vs :: vss, hl, h => by
    rw [List.flatMap_cons, List.flatten_cons]
    exact (h 0 d vs rfl rfl).append (RelL.flat (by simpa using hl) fun k d' vs' h1 h2 => h (k + 1) d' vs' (by simpa using h1) (by simpa using h2))
theorem trod_dat {ts : List TypeId} (hc : closedT P ts = true) : ∀ (fuel : Nat) (t : TypeId) (cs : List Value) (x : DataW H × List MemPlace), t ∈ ts → DataW.trod enc P W base sp held fuel t cs = some x → (∀ n ∈ x.1.weights P t, n ≤ reachBytes) →
    ∃ d : Dat, HasT P t d ∧ RelL (wholeH W) [] d.avs cs ∧ cs.length = P.cellsOf t := by
  intro fuel
  induction fuel with
  | zero => intro t cs x _ h; simp [DataW.trod] at h
  | succ fuel ih =>
    intro t cs x ht h hz
    have hct := List.all_eq_true.1 hc t ht
    rw [Bool.and_eq_true] at hct
    obtain ⟨hA, hK⟩ := hct
    have hKid : ∀ k ∈ kidsT P t, k ∈ ts := fun k hk => by simpa using List.all_eq_true.1 hK k hk
    unfold argT at hA
    unfold kidsT at hKid
    cases hu : P.underlying t with
    | none => simp [hu] at hA
    | some D =>
      rw [hu] at hA hKid
      cases D with
      | bool =>
        obtain ⟨b, rfl, rfl⟩ := DataW.trod_bool hu h
        exact ⟨.b b, .b hu b, by rw [Dat.avs]; exact .cons (.p _) .nil, by simp at hA; simp [hA]⟩
      | int k =>
        obtain ⟨n, rfl, rfl, hw⟩ := DataW.trod_int hu h
        exact ⟨.i k n, .i hu n hw, by rw [Dat.avs]; exact .cons (.p _) .nil, by simp at hA; simp [hA]⟩
      | string =>
        obtain ⟨s, rfl, rfl, hs⟩ := DataW.trod_string hu h
        refine ⟨.s s, .s hu s ?_, by rw [Dat.avs]; exact .cons (.p _) .nil, by simp at hA; simp [hA]⟩
        have := hz s.data.toList.length (by simp [DataW.weights])
        simpa using this
      | slice e =>
        simp only [Bool.and_eq_true, beq_iff_eq, decide_eq_true_eq] at hA
        have hks := hKid e (by simp)
        rcases DataW.trod_slice hu h with ⟨rfl, rfl⟩ | ⟨a, len, cap, elems, rest, n, hn, rfl, rfl, hb, hlc, hcm, hlen, hel, hsp, hns⟩
        · exact ⟨.sl [], .sl hu [] (by simp) (by simp), by rw [Dat.avs, Dat.avsL]; exact .cons (.vs0 (.inl rfl) (Nat.le_refl _)) .nil, by simp [hA.1]⟩
        · cases hn
          have hw : (elems.length + rest.length) * P.bytesOf e ≤ reachBytes ∧ ∀ d ∈ elems.map (·.1), ∀ n ∈ d.weights P e, n ≤ reachBytes := by
            simp only [DataW.weights, hu, List.mem_cons, List.mem_append] at hz
            refine ⟨?_, fun d hd n hn => hz n (.inr (.inl (weightsAll_mem hd n hn)))⟩
            have := hz _ (.inl rfl)
            simpa using this
          have each : ∀ i, i < len → ∃ y : Dat × List Value, W.cells? base (a.add (i * P.cellsOf e)) (P.cellsOf e) = some y.2 ∧ HasT P e y.1 ∧ RelL (wholeH W) [] y.1.avs y.2 ∧ y.2.length = P.cellsOf e := by
            intro i hi
            have := hel i hi
            rw [List.getElem?_eq_getElem (by omega)] at this
            obtain ⟨cs', h1, h2⟩ := Option.bind_eq_some_iff.1 this
            obtain ⟨d, g1, g2, g3⟩ := ih e cs' _ hks h2 (hw.2 _ (List.mem_map.2 ⟨_, List.getElem_mem _, rfl⟩))
            exact ⟨(d, cs'), h1, g1, g2, g3⟩
          obtain ⟨F, hF⟩ := Deep.choose_lt each
          refine ⟨.sl ((List.range len).map fun i => (F i).1), .sl hu _ ?_ ?_, ?_, by simp [hA.1]⟩
          · refine Nat.le_trans (Nat.mul_le_mul_right _ ?_) hw.1
            simp; omega
          · intro d hd
            obtain ⟨i, hi, rfl⟩ := List.mem_map.1 hd
            exact (hF i (by simpa using hi)).2.1
          · rw [Dat.avs, Dat.avsL_eq]
            have e1 : ((List.range len).map fun i => (F i).1).length = len := by simp
            rw [e1]
            refine .cons (rel_row (vs := ((List.range len).map fun i => (F i).2).flatten) (.flat (by simp) fun k d vs h1 h2 => ?_) hlc (arr_holds (wholeH_whole W) ?_)) .nil
            · simp only [List.getElem?_map, Option.map_eq_some_iff] at h1 h2
              obtain ⟨k1, g1, rfl⟩ := h1
              obtain ⟨k2, g2, rfl⟩ := h2
              rw [g1] at g2; cases g2
              have hk : k1 < len := by
                have := List.mem_of_getElem? g1; simpa using this
              exact (hF k1 hk).2.2.1
            · by_cases hl0 : len = 0
              · subst hl0; exact .inl (by simp)
              · obtain ⟨q1, q2, q3⟩ := World.cells?_some (hF 0 (by omega)).1
                have hspot : a.spot = none := by
                  have := q3 0 hA.2
                  obtain ⟨v, hv⟩ : ∃ v, (F 0).2[0]? = some v := ⟨_, List.getElem?_eq_getElem (by rw [q2]; exact hA.2)⟩
                  rw [hv] at this
                  have := spot_none this
                  simpa [Addr.add] using this
                refine .inr ⟨a, rfl, hspot, fun k v hk => ?_⟩
                have hsz : 0 < P.cellsOf e := hA.2
                have key : ∀ (n : Nat), (∀ i, i < n → ((F i).2).length = P.cellsOf e) → ∀ k : Nat, (((List.range n).map fun i => (F i).2).flatten)[k]? = if k < n * P.cellsOf e then (F (k / P.cellsOf e)).2[k % P.cellsOf e]? else none := by
                  intro n
                  induction n with
                  | zero => intro _ k; simp
                  | succ n ihn =>
                    intro hh k
                    have hl2 : (((List.range n).map fun i => (F i).2).flatten).length = n * P.cellsOf e := by
                      clear ihn
                      induction n with
                      | zero => simp
                      | succ n ihm =>
                        rw [List.range_succ, List.map_append, List.flatten_append, List.length_append, ihm fun i hi => hh i (by omega)]
                        simp [hh n (by omega), Nat.succ_mul]
                    rw [List.range_succ, List.map_append, List.flatten_append, List.getElem?_append, hl2]
                    by_cases hkn : k < n * P.cellsOf e
                    · rw [if_pos hkn, ihn (fun i hi => hh i (by omega)), if_pos hkn, if_pos (by rw [Nat.succ_mul]; omega)]
                    · rw [if_neg hkn]
                      simp only [List.map_cons, List.map_nil, List.flatten_cons, List.flatten_nil, List.append_nil]
                      by_cases hkn2 : k < (n + 1) * P.cellsOf e
                      · rw [if_pos hkn2]
                        rw [Nat.succ_mul] at hkn2
                        have hd : k / P.cellsOf e = n := by
                          refine Nat.div_eq_of_lt_le (by omega) (by rw [Nat.succ_mul]; omega)
                        have hm : k % P.cellsOf e = k - n * P.cellsOf e := by
                          have := Nat.div_add_mod k (P.cellsOf e)
                          rw [hd, Nat.mul_comm] at this; omega
                        rw [hd, hm]
                      · rw [if_neg hkn2, List.getElem?_eq_none]
                        rw [hh n (by omega)]; rw [Nat.succ_mul] at hkn2; omega
                rw [key len (fun i hi => (hF i hi).2.2.2)] at hk
                split at hk
                · rename_i hkl
                  have hi : k / P.cellsOf e < len := Nat.div_lt_of_lt_mul (by rw [Nat.mul_comm]; exact hkl)
                  obtain ⟨_, _, g3⟩ := World.cells?_some (hF _ hi).1
                  have := g3 (k % P.cellsOf e) (Nat.mod_lt _ hsz)
                  rw [hk, Deep.add_add] at this
                  rwa [show k / P.cellsOf e * P.cellsOf e + k % P.cellsOf e = k by rw [Nat.mul_comm]; exact Nat.div_add_mod _ _] at this
                · cases hk
      | array n e =>
        simp only [beq_iff_eq] at hA
        have hks := hKid e (by simp)
        obtain ⟨xs, m, hm, rfl, hl, hlx, hel⟩ := DataW.trod_array hu h
        cases hm
        have hw : ∀ d ∈ xs.map (·.1), ∀ n ∈ d.weights P e, n ≤ reachBytes := by
          simp only [DataW.weights, hu] at hz
          exact fun d hd => weightsAll_each hz hd
        have each : ∀ i, i < n → ∃ d : Dat, HasT P e d ∧ RelL (wholeH W) [] d.avs ((cs.drop (i * P.cellsOf e)).take (P.cellsOf e)) := by
          intro i hi
          have := hel i hi
          rw [List.getElem?_eq_getElem (by omega)] at this
          obtain ⟨d, g1, g2, g3⟩ := ih e _ _ hks this (hw _ (List.mem_map.2 ⟨_, List.getElem_mem _, rfl⟩))
          exact ⟨d, g1, g2⟩
        obtain ⟨F, hF⟩ := Deep.choose_lt each
        refine ⟨.ag ((List.range n).map F), .ar hu _ (by simp) ?_, ?_, hl⟩
        · intro d hd
          obtain ⟨i, hi, rfl⟩ := List.mem_map.1 hd
          exact (hF i (by simpa using hi)).1
        · rw [Dat.avs, Dat.avsL_eq]
          have e2 : cs = ((List.range n).map fun i => (cs.drop (i * P.cellsOf e)).take (P.cellsOf e)).flatten := by
            have : ∀ n : Nat, cs.take (n * P.cellsOf e) = ((List.range n).map fun i => (cs.drop (i * P.cellsOf e)).take (P.cellsOf e)).flatten := by
              intro n
              induction n with
              | zero => simp
              | succ n ihn => rw [List.range_succ, List.map_append, List.flatten_append, ← ihn, Nat.succ_mul, List.take_add]; simp
            rw [← this n, List.take_of_length_le (by omega)]
          rw [e2]
          refine .flat (by simp) fun k d vs h1 h2 => ?_
          simp only [List.getElem?_map, Option.map_eq_some_iff] at h1 h2
          obtain ⟨k1, g1, rfl⟩ := h1
          obtain ⟨k2, g2, rfl⟩ := h2
          rw [g1] at g2; cases g2
          have hk : k1 < n := by
            have := List.mem_of_getElem? g1; simpa using this
          exact (hF k1 hk).2
      | struct fs =>
        simp only [beq_iff_eq] at hA
        obtain ⟨xs, m, hm, rfl, hl, hlx, hel⟩ := DataW.trod_struct hu h
        cases hm
        have hw : ∀ (k : Nat) (f : Field) (d : DataW H), fs[k]? = some f → (xs.map (·.1))[k]? = some d → ∀ n ∈ d.weights P f.type, n ≤ reachBytes := by
          simp only [DataW.weights, hu] at hz
          intro k f d hf hd n hn
          exact hz n (weightsEach_at (k := k) (by rw [List.getElem?_map]; simp [hf]) hd n hn)
        have each : ∀ i, i < fs.size → ∃ d : Dat, ∀ f, fs[i]? = some f → HasT P f.type d ∧ RelL (wholeH W) [] d.avs ((cs.drop f.offset).take (P.cellsOf f.type)) := by
          intro i hi
          have hf : fs[i]? = some fs[i] := by simp [hi]
          have := hel i fs[i] hf
          have hx : xs[i]? = some (xs[i]'(by omega)) := List.getElem?_eq_getElem (by omega)
          rw [hx] at this
          obtain ⟨d, g1, g2, g3⟩ := ih fs[i].type _ _ (hKid _ (List.mem_map.2 ⟨fs[i], by simp, rfl⟩)) this (hw i _ _ hf (by rw [List.getElem?_map, hx]; rfl))
          refine ⟨d, fun f hf' => ?_⟩
          rw [hf] at hf'; cases hf'
          exact ⟨g1, g2⟩
        obtain ⟨F, hF⟩ := Deep.choose_lt each
        refine ⟨.ag ((List.range fs.size).map F), .st hu _ (by simp) ?_, ?_, hl⟩
        · intro k f d hf hd
          simp only [List.getElem?_map, Option.map_eq_some_iff] at hd
          obtain ⟨k1, g1, rfl⟩ := hd
          have hk : k < fs.size := (Array.getElem?_eq_some_iff.1 hf).1
          have : k1 = k := by simpa [hk] using g1.symm
          subst this
          exact (hF k1 hk f hf).1
        · rw [Dat.avs, Dat.avsL_eq]
          have key : ∀ (l : List Field) (F : Nat → Dat) (off : Nat), tilesF P off l = some (P.cellsOf t) → off ≤ cs.length → (∀ (i : Nat) (f : Field), l[i]? = some f → RelL (wholeH W) [] (F i).avs ((cs.drop f.offset).take (P.cellsOf f.type))) →
              RelL (wholeH W) [] (((List.range l.length).map F).flatMap Dat.avs) (cs.drop off) := by
            intro l
            induction l with
            | nil =>
              intro F off ht ho _
              simp only [tilesF, Option.some.injEq] at ht
              rw [List.drop_of_length_le (by omega)]
              simpa using RelL.nil
            | cons f l ihl =>
              intro F off ht ho hh
              simp only [tilesF] at ht
              split at ht
              · rename_i hfo
                have h0 := hh 0 f rfl
                have hle : off + P.cellsOf f.type ≤ cs.length := by
                  have mono : ∀ (l : List Field) (o r : Nat), tilesF P o l = some r → o ≤ r := by
                    intro l
                    induction l with
                    | nil => intro o r h; simp [tilesF] at h; omega
                    | cons g l ihg =>
                      intro o r h
                      simp only [tilesF] at h
                      split at h
                      · have := ihg _ _ h; omega
                      · cases h
                  have := mono _ _ _ ht
                  omega
                have h1 := ihl (fun i => F (i + 1)) _ ht hle fun i f' hf' => hh (i + 1) f' (by simpa using hf')
                rw [List.length_cons, List.range_succ_eq_map, List.map_cons, List.flatMap_cons, List.map_map]
                have e3 : cs.drop off = (cs.drop off).take (P.cellsOf f.type) ++ cs.drop (off + P.cellsOf f.type) := by
                  rw [← List.drop_drop, List.take_append_drop]
                rw [e3]
                rw [hfo] at h0
                exact h0.append h1
              · cases ht
          have := key fs.toList F 0 hA (Nat.zero_le _) fun i f hf => (hF i (by have := (List.getElem?_eq_some_iff.1 hf).1; simpa using this) f (by simpa using hf)).2
          simpa using this
      | _ => simp at hA
theorem arg_dat {ts : List TypeId} (hc : closedT P ts = true) {t : TypeId} {v : Value} {d : DataW H} {p : List MemPlace} {r : Reach} {b0 : Nat} (ht : t ∈ ts) (hv : Value.okWide P W r b0 t v) (h : DataW.Trod enc P W base sp held t v d p)
    (hz : ∀ n ∈ d.weights P t, n ≤ reachBytes) : ∃ x : Dat, HasT P t x ∧ Rel (wholeH W) [] x.arg v := by
  obtain ⟨fuel, h⟩ := h
  obtain ⟨x, h1, h2, h3⟩ := trod_dat hc fuel t _ _ ht h hz
  refine ⟨x, h1, ?_⟩
  have one : ∀ {a : AV}, RelL (wholeH W) [] [a] v.cells.toList → v.cells = #[v] → Rel (wholeH W) [] a v := by
    intro a h e
    rw [e] at h
    exact h.2 0 _ _ rfl rfl
  cases h1 with
  | b hu x => rw [Dat.avs] at h2; obtain ⟨b, rfl⟩ := okWide_bool hu hv; simp only [Dat.arg, Dat.avs]; exact one h2 rfl
  | i hu n hw => rw [Dat.avs] at h2; obtain ⟨b, rfl⟩ := okWide_int hu hv; simp only [Dat.arg, Dat.avs]; exact one h2 rfl
  | s hu x hs => rw [Dat.avs] at h2; obtain ⟨b, rfl⟩ := okWide_string hu hv; simp only [Dat.arg, Dat.avs]; exact one h2 rfl
  | sl hu l hl ha => rw [Dat.avs] at h2; obtain ⟨a, n, c, rfl⟩ := okWide_slice hu hv; simp only [Dat.arg, Dat.avs]; exact one h2 rfl
  | ar hu l hl ha =>
    rw [Dat.avs, Dat.avsL_eq] at h2
    unfold Value.okWide at hv
    rw [hu] at hv
    obtain ⟨cs, rfl, _⟩ := hv
    simp only [Dat.arg]
    have := Rel.ag' h2
    simpa [Value.cells] using this
  | st hu l hl ha =>
    rw [Dat.avs, Dat.avsL_eq] at h2
    unfold Value.okWide at hv
    rw [hu] at hv
    obtain ⟨cs, rfl, _⟩ := hv
    simp only [Dat.arg]
    have := Rel.ag' h2
    simpa [Value.cells] using this
theorem args_dat {tys : List TypeId} (hc : closedT P tys = true) {r : Reach} {b0 : Nat} : ∀ {ts : List TypeId} {vs : List Value} {ds : List (DataW H)} {ps : List MemPlace}, (ts.all fun t => tys.contains t) = true → DataW.TrodAll enc P W base sp held ts vs ds ps →
    (∀ (j : Nat) (t : TypeId) (v : Value), ts[j]? = some t → vs[j]? = some v → Value.okWide P W r b0 t v) → (∀ n ∈ DataW.weightsEach P ts ds, n ≤ reachBytes) → ∃ xs : List Dat, HasTs P ts xs ∧ RelL (wholeH W) [] (xs.map Dat.arg) vs
  | [], vs, ds, ps, _, h, _, _ => by obtain ⟨rfl, rfl, rfl⟩ := trodAll_nil h; exact ⟨[], .nil, .nil⟩
  | t :: ts, vs, ds, ps, hr, h, hv, hz => by
    obtain ⟨v, vs', d, ds', p, q, rfl, rfl, rfl, h0, r0⟩ := trodAll_cons h
    simp only [List.all_cons, Bool.and_eq_true] at hr
    simp only [DataW.weightsEach, List.mem_append] at hz
    obtain ⟨x, g1, g2⟩ := arg_dat hc (by simpa using hr.1) (hv 0 _ _ rfl rfl) h0 fun n hn => hz n (.inl hn)
    obtain ⟨xs, g3, g4⟩ := args_dat hc hr.2 r0 (fun j t' v' h1 h2 => hv (j + 1) t' v' (by simpa using h1) (by simpa using h2)) fun n hn => hz n (.inr hn)
    exact ⟨x :: xs, .cons g1 g3, by simpa using RelL.cons g2 g4⟩
theorem st_begin (W : World) : St (wholeH W) [] [] W := ⟨wholeH_of W, rfl, fun i o x h => by simp at h, fun i o x b h => by simp at h⟩
/-- A LAW's CONTRACT, of an abstract walk -/
theorem law_callsA {f : FuncId} {fn : Func} {s : ChangeSpec} {args : Array Value} {ds gs : List (DataW H)} {before : List MemPlace} {G : Nat → AV} {tys : List TypeId} {r : Reach} {b0 : Nat} (tb : TypeId) (hl : laidOutB P = true) (hr : (fn.params.toList.all fun t => P.readableRec t && decide (t < P.types.size)) = true)
    (hres : fn.resultTypes = #[tb]) (htb : P.underlying tb = some .bool) (hvars : s.vars = []) (hfn : s.fn H (ds ++ gs) = { results := [.lit (.bool true)], args := ds })
    (hW : DataW.Whole enc P fn.params.toList s.vars false W args.toList ds gs before) (hc : closedT P tys = true) (hp : (fn.params.toList.all fun t => tys.contains t) = true)
    (hval : ∀ (j : Nat) t v, fn.params[j]? = some t → args[j]? = some v → Value.okWide P W r b0 t v)
    (hz : (DataW.weightsEach P (fn.params.toList ++ s.plain.varTypes P) (ds ++ gs)).all (· ≤ reachBytes) = true)
    (hG : GOK G (wholeH W)) (h : ∀ xs : List Dat, HasTs P fn.params.toList xs → CallA P G f (xs.map Dat.arg) [] fun v _ _ => v = .p (.bool true)) :
    Calls P f args W fun e W' => ∃ v, e = .returned v ∧ s.post enc P fn false true false false W args v W' := by
  refine law_calls tb hl hr hres htb hvars hfn hW ?_
  obtain ⟨p, q, hA, hV, rfl, hfz, hnd⟩ := hW
  rw [hvars] at hV
  obtain ⟨rfl, rfl⟩ := trodVars_none hV
  have hz' : ∀ n ∈ DataW.weightsEach P fn.params.toList ds, n ≤ reachBytes := by
    have e : s.plain.varTypes P = [] := by
      simp [DataSpec.varTypes, ChangeSpec.plain, hvars]
    rw [e, List.append_nil, List.append_nil] at hz
    intro n hn
    simpa using List.all_eq_true.1 hz n hn
  obtain ⟨xs, h1, h2⟩ := args_dat hc hp hA (fun j t v h1 h2 => hval j t v (by simpa using h1) (by simpa using h2)) hz'
  have := h xs h1 (wholeH W) [] W args.toList hG (st_begin W) h2
  rw [Array.toArray_toList] at this
  refine this.mono ?_
  rintro v w' ⟨Γ', ρ', T', es, a, k1, k2, k3, rfl⟩
  exact ⟨k3.p_inv, [], [whole W], ⟨Γ', [], k1.of, trivial, by simp, by simp, fun φ hφ => by
    simp only [List.mem_singleton] at hφ; subst hφ; exact (whole W).mono _ _ k2.le (wholeH_whole W)⟩, by simp⟩
end
/-! ### Data opened -/
theorem HasT.int {P : Program} {t : TypeId} {k : IntKind} {d : Dat} (h : HasT P t d) (hu : P.underlying t = some (.int k)) : ∃ n : Int, d = .i k n ∧ (Lit.int k n).wf = true := by
  cases h with
  | i h' n hw => rw [hu] at h'; cases h'; exact ⟨n, rfl, hw⟩
  | b h' x => rw [hu] at h'; cases h'
  | s h' x hs => rw [hu] at h'; cases h'
  | sl h' l hl ha => rw [hu] at h'; cases h'
  | ar h' l hl ha => rw [hu] at h'; cases h'
  | st h' l hl ha => rw [hu] at h'; cases h'
theorem HasT.bool {P : Program} {t : TypeId} {d : Dat} (h : HasT P t d) (hu : P.underlying t = some .bool) : ∃ b : Bool, d = .b b := by
  cases h with
  | b h' x => exact ⟨x, rfl⟩
  | i h' n hw => rw [hu] at h'; cases h'
  | s h' x hs => rw [hu] at h'; cases h'
  | sl h' l hl ha => rw [hu] at h'; cases h'
  | ar h' l hl ha => rw [hu] at h'; cases h'
  | st h' l hl ha => rw [hu] at h'; cases h'
theorem HasT.str {P : Program} {t : TypeId} {d : Dat} (h : HasT P t d) (hu : P.underlying t = some .string) : ∃ s : ByteArray, d = .s s ∧ s.size ≤ reachBytes := by
  cases h with
  | s h' x hs => exact ⟨x, rfl, hs⟩
  | b h' x => rw [hu] at h'; cases h'
  | i h' n hw => rw [hu] at h'; cases h'
  | sl h' l hl ha => rw [hu] at h'; cases h'
  | ar h' l hl ha => rw [hu] at h'; cases h'
  | st h' l hl ha => rw [hu] at h'; cases h'
theorem HasT.slice {P : Program} {t e : TypeId} {d : Dat} (h : HasT P t d) (hu : P.underlying t = some (.slice e)) : ∃ l : List Dat, d = .sl l ∧ l.length * P.bytesOf e ≤ reachBytes ∧ ∀ x ∈ l, HasT P e x := by
  cases h with
  | sl h' l hl ha => rw [hu] at h'; cases h'; exact ⟨l, rfl, hl, ha⟩
  | b h' x => rw [hu] at h'; cases h'
  | i h' n hw => rw [hu] at h'; cases h'
  | s h' x hs => rw [hu] at h'; cases h'
  | ar h' l hl ha => rw [hu] at h'; cases h'
  | st h' l hl ha => rw [hu] at h'; cases h'
theorem HasT.array {P : Program} {t e : TypeId} {n : Nat} {d : Dat} (h : HasT P t d) (hu : P.underlying t = some (.array n e)) : ∃ l : List Dat, d = .ag l ∧ l.length = n ∧ ∀ x ∈ l, HasT P e x := by
  cases h with
  | ar h' l hl ha => rw [hu] at h'; cases h'; exact ⟨l, rfl, hl, ha⟩
  | b h' x => rw [hu] at h'; cases h'
  | i h' n hw => rw [hu] at h'; cases h'
  | s h' x hs => rw [hu] at h'; cases h'
  | sl h' l hl ha => rw [hu] at h'; cases h'
  | st h' l hl ha => rw [hu] at h'; cases h'
theorem HasT.struct {P : Program} {t : TypeId} {fs : Array Field} {d : Dat} (h : HasT P t d) (hu : P.underlying t = some (.struct fs)) :
    ∃ l : List Dat, d = .ag l ∧ l.length = fs.size ∧ ∀ (k : Nat) (f : Field) (d : Dat), fs[k]? = some f → l[k]? = some d → HasT P f.type d := by
  cases h with
  | st h' l hl ha => rw [hu] at h'; cases h'; exact ⟨l, rfl, hl, ha⟩
  | b h' x => rw [hu] at h'; cases h'
  | i h' n hw => rw [hu] at h'; cases h'
  | s h' x hs => rw [hu] at h'; cases h'
  | sl h' l hl ha => rw [hu] at h'; cases h'
  | ar h' l hl ha => rw [hu] at h'; cases h'
/-- a list of data, opened one by one -/
theorem open_each {α : Type} {P : Program} {e : TypeId} {f : α → Dat} (h1 : ∀ d, HasT P e d → ∃ a, d = f a) : ∀ {l : List Dat}, (∀ d ∈ l, HasT P e d) → ∃ zs : List α, l = zs.map f
  | [], _ => ⟨[], rfl⟩
  | d :: l, h => by
    obtain ⟨a, rfl⟩ := h1 d (h d (by simp))
    obtain ⟨zs, rfl⟩ := open_each h1 (l := l) fun x hx => h x (by simp [hx])
    exact ⟨a :: zs, rfl⟩
theorem open_u8 {P : Program} {e : TypeId} (hu : P.underlying e = some (.int .u8)) (d : Dat) (h : HasT P e d) : ∃ a : UInt8, d = .i .u8 (a.toNat : Int) := by
  obtain ⟨n, rfl, hw⟩ := h.int hu
  have hz : 0 ≤ n ∧ n ≤ 255 := by simpa [Lit.wf, IntKind.min, IntKind.max, IntKind.signed, IntKind.bits] using hw
  exact ⟨UInt8.ofNat n.toNat, by rw [UInt8.toNat_ofNat']; congr 1; omega⟩
theorem open_u16 {P : Program} {e : TypeId} (hu : P.underlying e = some (.int .u16)) (d : Dat) (h : HasT P e d) : ∃ a : UInt16, d = .i .u16 (a.toNat : Int) := by
  obtain ⟨n, rfl, hw⟩ := h.int hu
  have hz : 0 ≤ n ∧ n ≤ 65535 := by simpa [Lit.wf, IntKind.min, IntKind.max, IntKind.signed, IntKind.bits] using hw
  exact ⟨UInt16.ofNat n.toNat, by rw [UInt16.toNat_ofNat']; congr 1; omega⟩
theorem open_u32 {P : Program} {e : TypeId} (hu : P.underlying e = some (.int .u32)) (d : Dat) (h : HasT P e d) : ∃ a : UInt32, d = .i .u32 (a.toNat : Int) := by
  obtain ⟨n, rfl, hw⟩ := h.int hu
  have hz : 0 ≤ n ∧ n ≤ 4294967295 := by simpa [Lit.wf, IntKind.min, IntKind.max, IntKind.signed, IntKind.bits] using hw
  exact ⟨UInt32.ofNat n.toNat, by rw [UInt32.toNat_ofNat']; congr 1; omega⟩
theorem open_u64 {P : Program} {e : TypeId} (hu : P.underlying e = some (.int .u64)) (d : Dat) (h : HasT P e d) : ∃ a : UInt64, d = .i .u64 (a.toNat : Int) := by
  obtain ⟨n, rfl, hw⟩ := h.int hu
  have hz : 0 ≤ n ∧ n ≤ 18446744073709551615 := by simpa [Lit.wf, IntKind.min, IntKind.max, IntKind.signed, IntKind.bits] using hw
  exact ⟨UInt64.ofNat n.toNat, by rw [UInt64.toNat_ofNat']; congr 1; omega⟩
theorem flat_one {α : Type} (g : α → Dat) (h : α → AV) (hh : ∀ a, (g a).avs = [h a]) (l : List α) : (l.map g).flatMap Dat.avs = l.map h := by
  induction l with
  | nil => rfl
  | cons a l ih => rw [List.map_cons, List.flatMap_cons, ih, hh, List.map_cons]; rfl
/-- an argument: a slice of numbers; its type's underlying ones are known -/
theorem arg_nums {α : Type} {P : Program} {t e : TypeId} {d : Dat} {g : α → Dat} {h : α → AV} (hh : ∀ a, (g a).avs = [h a]) (h1 : ∀ d, HasT P e d → ∃ a, d = g a) (hd : HasT P t d) (hu : P.underlying t = some (.slice e)) :
    ∃ l : List α, d.arg = .vs (l.map h) l.length ∧ l.length * P.bytesOf e ≤ reachBytes := by
  obtain ⟨l, rfl, hl, ha⟩ := hd.slice hu
  obtain ⟨zs, rfl⟩ := open_each h1 ha
  refine ⟨zs, ?_, by simpa using hl⟩
  simp only [Dat.arg, Dat.avs, List.headD_cons, Dat.avsL_eq, flat_one g h hh, List.length_map]
/-- an argument: an array of numbers -/
theorem arg_array {α : Type} {P : Program} {t e : TypeId} {n : Nat} {d : Dat} {g : α → Dat} {h : α → AV} (hh : ∀ a, (g a).avs = [h a]) (h1 : ∀ d, HasT P e d → ∃ a, d = g a) (hd : HasT P t d) (hu : P.underlying t = some (.array n e)) :
    ∃ l : List α, d.arg = .ag (l.map h) ∧ d.avs = l.map h ∧ l.length = n := by
  obtain ⟨l, rfl, hl, ha⟩ := hd.array hu
  obtain ⟨zs, rfl⟩ := open_each h1 ha
  refine ⟨zs, ?_, ?_, by simpa using hl⟩
  · simp only [Dat.arg, flat_one g h hh]
  · rw [Dat.avs, Dat.avsL_eq, flat_one g h hh]
/-- a package-level array of numbers, as its row lists it -/
theorem trod_lits {H : Type} {enc : TypeId × Value → H} {P : Program} {W : World} {base : Nat} {sp : Nat → Bool} {held : Bool} {t e : TypeId} {n : Nat} {k : IntKind} {fuel : Nat} {cs : List Value} {p : List MemPlace} {zs : List Int}
    (hu : P.underlying t = some (.array n e)) (he : P.underlying e = some (.int k)) (hc : P.cellsOf e = 1) (hct : P.cellsOf t = n) (h : DataW.trod enc P W base sp held fuel t cs = some (.agg (zs.map fun z => .lit (.int k z)), p)) : cs = zs.map (Value.int k) := by
  obtain ⟨xs, m, hm, hx, hl, hlx, hel⟩ := DataW.trod_array hu h
  rw [hc] at hel
  simp only [Prod.mk.injEq, DataW.agg.injEq] at hx
  have hzl : zs.length = n := by
    have := congrArg List.length hx.1; simp at this; omega
  refine List.ext_getElem? fun i => ?_
  by_cases hi : i < n
  · have h0 := hel i hi
    rw [List.getElem?_eq_getElem (by omega)] at h0
    obtain ⟨z, e1, e2, _⟩ := DataW.trod_int he h0
    have h3 := congrArg (fun l => l[i]?) hx.1
    simp only [List.getElem?_map, List.getElem?_eq_getElem (show i < zs.length by omega), List.getElem?_eq_getElem (show i < xs.length by omega), Option.map_some, Option.some.injEq] at h3
    rw [e2] at h3
    have hz : zs[i]'(by omega) = z := by simpa using h3
    have h4 := congrArg (fun l => l[0]?) e1
    simp only [Nat.mul_one, List.getElem?_take_of_lt (show 0 < 1 by omega), List.getElem?_drop, Nat.add_zero] at h4
    rw [h4]
    simp [hzl, hi, hz]
  · rw [List.getElem?_eq_none (by omega), List.getElem?_eq_none (by simp; omega)]
end Go.E

set_option linter.unusedSimpArgs false
set_option linter.unusedVariables false
set_option linter.unusedSectionVars false
namespace Go.E
section
variable {P : Program} {t : TypeId}
theorem bytes_beq (a b : ByteArray) : (a.toList == b.toList) = decide (a = b) := by
  rw [ByteArray.toList_eq, ByteArray.toList_eq, Bool.eq_iff_iff, beq_iff_eq, decide_eq_true_iff]
  exact ⟨fun h => WideShapes.bytes_inj h, fun h => by rw [h]⟩
theorem str_eql (a b : ByteArray) (xo yo : Operand) (K : AV → Prop) :
    pureK P K (do eqGuard .eql t xo yo (.string a) (.string b); binOp .eql t (.string a) (.string b)) = K (.p (.bool (decide (a = b)))) :=
  pureK_det fun w => by simp [eqGuard, binOp, Op.stringOp, bytes_beq]
theorem str_neq (a b : ByteArray) (xo yo : Operand) (K : AV → Prop) :
    pureK P K (do eqGuard .neq t xo yo (.string a) (.string b); binOp .neq t (.string a) (.string b)) = K (.p (.bool (!decide (a = b)))) :=
  pureK_det fun w => by simp [eqGuard, binOp, Op.stringOp, bytes_beq, bne]
end
theorem str_inj (l m : List UInt8) : ((⟨l.toArray⟩ : ByteArray) = ⟨m.toArray⟩) = (l = m) := by
  refine propext ⟨fun h => ?_, fun h => by rw [h]⟩
  have := congrArg ByteArray.data h
  simpa using this
/-- the rules of strings -/
theorem vstr (P : Program) :
  (∀ (t : TypeId) (a b : ByteArray) (xo yo : Operand) (K : AV → Prop), pureK P K (do eqGuard .eql t xo yo (.string a) (.string b); binOp .eql t (.string a) (.string b)) = K (.p (.bool (decide (a = b))))) ∧
  (∀ (t : TypeId) (a b : ByteArray) (xo yo : Operand) (K : AV → Prop), pureK P K (do eqGuard .neq t xo yo (.string a) (.string b); binOp .neq t (.string a) (.string b)) = K (.p (.bool (!decide (a = b))))) ∧
  (∀ l m : List UInt8, ((⟨l.toArray⟩ : ByteArray) = ⟨m.toArray⟩) = (l = m)) :=
  ⟨fun _ a b xo yo K => str_eql a b xo yo K, fun _ a b xo yo K => str_neq a b xo yo K, str_inj⟩
/-- a call, its arguments seen otherwise -/
theorem callA_args {P : Program} {G : Nat → AV} {f : FuncId} {args args' : List AV} {T : Tbl} {K : AV → Tbl → Eff → Prop} (h : ∀ (Γ : Heap) (ρ : List BI) (vs : List Value), RelL Γ ρ args vs → RelL Γ ρ args' vs) (hc : CallA P G f args' T K) : CallA P G f args T K :=
  fun Γ ρ w vs hG hs ha => hc Γ ρ w vs hG hs (h Γ ρ vs ha)
theorem rel_nil {Γ : Heap} {ρ : List BI} {v : Value} (h : Rel Γ ρ (.p (.slice none 0 0)) v) : Rel Γ ρ (.vs [] 0) v := by
  rw [h.p_inv]; exact .vs0 (.inl rfl) (Nat.le_refl _)
/-- a contract's end, seen otherwise -/
theorem CallA.andThen {P : Program} {G : Nat → AV} {f : FuncId} {args : List AV} {T : Tbl} {K K' : AV → Tbl → Eff → Prop} (h : CallA P G f args T K') (hk : ∀ v T' es, K' v T' es → Vw G T K v T' es) : CallA P G f args T K :=
  fun Γ ρ w vs hG hs ha => (h Γ ρ w vs hG hs ha).mono fun v w' ⟨Γ', ρ', T', es, a, k1, k2, k3, k4⟩ => hk a T' es k4 Γ ρ w Γ' ρ' w' v hs ⟨hG.mono k2.le, k1, k2⟩ k3
end Go.E

set_option linter.unusedSimpArgs false
set_option linter.unusedVariables false
set_option linter.unusedSectionVars false
namespace Go.Proofs.YtmcbdlefakjpoaaDoor
open Go.E
abbrev w16 (x : UInt16) : AV := .p (.int .u16 (x.toNat : Int))
def hsh (x : UInt16) : List UInt8 := [x.toUInt8, (u16_shr x 8).toUInt8, 7] ++ List.replicate 29 0
def hshs (l : List UInt16) : List (List UInt8) := l.map hsh
theorem hsh_len (x : UInt16) : (hsh x).length = 32 := rfl
theorem hshs_32 (l : List UInt16) : ∀ x ∈ hshs l, (H8 x).length = 32 := by
  intro x hx
  obtain ⟨y, _, rfl⟩ := List.mem_map.1 hx
  rfl
theorem hshs_len (l : List UInt16) : (hshs l).length = l.length := List.length_map ..
theorem hshs_take (l : List UInt16) {k : Nat} {x : UInt16} (h : l[k]? = some x) : hshs (l.take (k + 1)) = hshs (l.take k) ++ [hsh x] := by
  rw [List.take_add_one, h]; simp [hshs]
theorem cleanH (hs : List (List UInt8)) : ∀ a ∈ hs.flatMap H8, a.Clean := by
  intro a ha
  obtain ⟨x, _, hx⟩ := List.mem_flatMap.1 ha
  exact clean8 x a hx
theorem woH (q : Nat → Bool) (hs : List (List UInt8)) : (hs.flatMap H8).map (AV.wo q) = hs.flatMap H8 := by
  rw [List.map_flatMap]
  congr 1
  funext x
  exact wo8 q x
set_option maxRecDepth 8000 in
theorem hashes_own {T : Tbl} {l : List UInt16} (hl : l.length ≤ 1000) : CallA Tryd.prog Tryd.G 7 [.vs (l.map w16) l.length] T fun v T' es => v = .sl T.length 0 l.length ∧ T' = T ++ [.buf 23 32 ((hshs l).flatMap H8)] ∧ es = [] := by
  refine CallA.wfs fun wf => ?_
  have wt := wf.t
  have wp := wf.p
  refine CallA.enterV 5 Tryd.func7 Tryd.ntmps7 (congrArg Array.toList Tryd.results7) rfl ⟨by simp, by simp⟩ (by kernel_rfl) (by kernel_rfl) ?_
  (simp -dsimp +decide only [vt2, vy, vz, vze, vy, vz, vze, va, vc, vu, vl, Tryd.ty, Tryd.en, ↓reduceIte, Nat.reduceSub, Nat.reduceAdd, Nat.reduceMul, Nat.reduceLT, Int.reduceAdd, Int.reduceSub, Int.reduceToNat, Int.cast_ofNat_Int])
  refine SemA.adopt 3 23 32 (by decide) rfl ?_
  (simp -dsimp +decide only [vt2, vy, vz, vze, vy, vz, vze, va, vc, vu, vl, Tryd.ty, Tryd.en, ↓reduceIte, Nat.reduceSub, Nat.reduceAdd, Nat.reduceMul, Nat.reduceLT, Int.reduceAdd, Int.reduceSub, Int.reduceToNat, Int.cast_ofNat_Int, vt])
  refine SemA.loopK (T.length + 1) (fun k : Nat => [(0, .vs (l.map w16) l.length), (3, .sl T.length 0 k), (4, wint (k : Int))]) (fun k => T ++ [.buf 23 32 ((hshs (l.take k)).flatMap H8)]) (fun k => k ≤ l.length) (fun k => l.length - k) 0 [] 0 (fun _ : Unit => [(3, .sl T.length 0 l.length)]) (fun _ => T ++ [.buf 23 32 ((hshs l).flatMap H8)]) (fun _ => True) (by omega) (by omega) (by (simp -dsimp +decide (disch := omega) only [vt2, vy, vz, vze, vy, vz, vze, va, vc, vu, vl, Tryd.ty, Tryd.en, ↓reduceIte, Nat.reduceSub, Nat.reduceAdd, Nat.reduceMul, Nat.reduceLT, Int.reduceAdd, Int.reduceSub, Int.reduceToNat, Int.cast_ofNat_Int, vi, getO_i]); first | rfl | done) rfl (by simp) ?_ ?_
  · rintro k g hk
    refine SemA.of (by kernel_rfl) ?_
    (simp -dsimp +decide (disch := omega) only [vt2, vy, vz, vze, vy, vz, vze, va, vc, vu, vl, Tryd.ty, Tryd.en, ↓reduceIte, Nat.reduceSub, Nat.reduceAdd, Nat.reduceMul, Nat.reduceLT, Int.reduceAdd, Int.reduceSub, Int.reduceToNat, Int.cast_ofNat_Int, vi, getO_i, vt])
    refine CondP.dec (fun h => ?_) (fun h => ?_)
    · obtain ⟨x, hx⟩ : ∃ x, l[k]? = some x := ⟨l[k]'(by omega), by simp⟩
      have hxg : (l.map w16)[k]? = some (w16 x) := by rw [List.getElem?_map, hx]; rfl
      have hne : l.map w16 ≠ [] := fun e => by rw [List.map_eq_nil_iff] at e; rw [e] at hx; simp at hx
      (simp -dsimp +decide (disch := omega) only [vt2, vy, vz, vze, vy, vz, vze, va, vc, vu, vl, Tryd.ty, Tryd.en, ↓reduceIte, Nat.reduceSub, Nat.reduceAdd, Nat.reduceMul, Nat.reduceLT, Int.reduceAdd, Int.reduceSub, Int.reduceToNat, Int.cast_ofNat_Int, vi, getO_i, vt])
      refine SemA.drawS (.fl 0 (.fl 1 (.fl 2 (.fl 3 (.fl 4 (.fl 5 (.fl 6 (.fl 7 (.fl 8 (.fl 9 (.fl 10 (.fl 11 (.sq 12 (.sq 13 (.sq 14 (.fl 15 .nil)))))))))))))))) Tryd.mixed (by kernel_rfl) ?_
      (simp -dsimp +decide (disch := omega) only [vt2, vy, vz, vze, vy, vz, vze, va, vc, vu, vl, Tryd.ty, Tryd.en, ↓reduceIte, Nat.reduceSub, Nat.reduceAdd, Nat.reduceMul, Nat.reduceLT, Int.reduceAdd, Int.reduceSub, Int.reduceToNat, Int.cast_ofNat_Int, vi, getO_i, vt, wt, hxg])
      refine ⟨⟨by omega, by omega, hne⟩, ?_⟩
      refine ⟨⟨by omega, by omega, hne⟩, ?_⟩
      rw [wrA_all (by rfl)]
      refine ⟨Nat.le_refl 32, rfl, ⟨by rw [flat_len (hshs_32 _), hshs_len, List.length_take]; omega, by omega, by omega⟩, k + 1, ⟨by omega, by omega⟩, ⟨rfl, rfl⟩, ?_⟩
      refine congrArg (fun z => T ++ [AObj.buf 23 32 z]) ?_
      rw [woH, woH, hshs_take l hx, List.flatMap_append]
      refine congrArg _ ?_
      show List.map _ (List.map _ (H8 (hsh x))) = H8 (hsh x) ++ []
      rw [wo8, wo8, List.append_nil]
    · have hkl : k = l.length := by omega
      subst hkl
      rw [List.take_length]
      (simp -dsimp +decide (disch := omega) only [vt2, vy, vz, vze, vy, vz, vze, va, vc, vu, vl, Tryd.ty, Tryd.en, ↓reduceIte, Nat.reduceSub, Nat.reduceAdd, Nat.reduceMul, Nat.reduceLT, Int.reduceAdd, Int.reduceSub, Int.reduceToNat, Int.cast_ofNat_Int, vi, getO_i, vt, wt, wo8, woH])
      exact ⟨(), trivial⟩
  · rintro _ g tmp _
    (simp -dsimp +decide (disch := omega) only [vt2, vy, vz, vze, vy, vz, vze, va, vc, vu, vl, Tryd.ty, Tryd.en, ↓reduceIte, Nat.reduceSub, Nat.reduceAdd, Nat.reduceMul, Nat.reduceLT, Int.reduceAdd, Int.reduceSub, Int.reduceToNat, Int.cast_ofNat_Int, vi, getO_i, vt])
    exact Vw.done ⟨rfl, rfl, rfl⟩
theorem bad_len {l : List UInt8} (h : l.length < 4) : readF l = none := by unfold readF; rw [if_neg (by omega)]
/-- a hash of one byte -/
def hK (b : UInt8) : List UInt8 := b :: List.replicate 31 0
theorem hK_len (b : UInt8) : (hK b).length = 32 := rfl
theorem srt_nil : srt [] = [] := List.eq_nil_of_length_eq_zero (by rw [srt_len]; rfl)
theorem flt_nil (id : List UInt8) : flt id [] = [0, 0, 0, 0] := by
  show filtB (srt []) = _
  rw [srt_nil]; decide
theorem nums_len (id : List UInt8) (hs : List (List UInt8)) : (srt (nums id hs)).length = (uniq hs).length := by rw [srt_len]; simp [nums]
theorem in_flt {id x : List UInt8} {hs : List (List UInt8)} (h : x ∈ hs) : nm id (srt (nums id hs)).length x ∈ srt (nums id hs) := by
  rw [nums_len, srt_mem]
  exact List.mem_map.2 ⟨x, (uniqF_mem hs [] x).2 (.inr h), rfl⟩
theorem maV_in {id x : List UInt8} {hs : List (List UInt8)} (h : x ∈ hs) : maV id [x] (some (srt (nums id hs))) = .tu [.p (.bool true), .p (.int .i64 0)] := by
  simp [maV, in_flt h]
theorem flt_head {id : List UInt8} {hs : List (List UInt8)} (h : (uniq hs).length = 2) : (flt id hs)[0]? = some 2 ∧ 4 < (flt id hs).length := by
  have hl : (srt (nums id hs)).length = 2 := by rw [nums_len, h]
  obtain ⟨t, h1, h2⟩ := filt_shape (srt (nums id hs))
  rw [hl] at h1
  have e : lbs (UInt64.ofInt ((2 : Nat) : Int)) 4 = [2, 0, 0, 0] := by decide
  rw [e] at h1
  refine ⟨by show (filtB _)[0]? = _; rw [h1]; rfl, ?_⟩
  show 4 < (filtB _).length
  rw [h1, List.length_append]
  have hb := congrArg List.length h2
  have hne : 0 < (bitsF 0 (srt (nums id hs))).length := by
    cases hs' : srt (nums id hs) with
    | nil => rw [hs'] at hl; simp at hl
    | cons x r => simp [bitsF, bitD]; omega
  rw [bitsB_len, List.length_append, List.length_map, List.length_replicate] at hb
  simp only [List.length_cons, List.length_nil]
  omega
theorem bytes8 : ∀ l : List UInt8, bytesA (l.map by8) = some l
  | [] => rfl
  | x :: l => by
    show (bytesA (l.map by8)).map _ = _
    rw [bytes8 l, Option.map_some]
    congr 2
    simp
theorem filt_le {id : List UInt8} {hs : List (List UInt8)} (h : hs.length ≤ 4096) : (flt id hs).length ≤ 5000000 := by
  obtain ⟨t, h1, h2⟩ := filt_shape (srt (nums id hs))
  show (filtB _).length ≤ _
  have h3 := bitsF_len _ _ (small_nums (id := id) h)
  have h4 : (srt (nums id hs)).length ≤ 4096 := by rw [nums_len]; exact Nat.le_trans (uniq_len hs) h
  have hb := congrArg List.length h2
  rw [bitsB_len, List.length_append, List.length_map, List.length_replicate] at hb
  rw [h1, List.length_append, lbs_len]
  omega
theorem h8K (l : List UInt8) : ∀ x ∈ l.map hK, (H8 x).length = 32 := by
  intro x hx
  obtain ⟨b, _, rfl⟩ := List.mem_map.1 hx
  rfl
set_option maxRecDepth 8000 in
theorem works_ok {T : Tbl} : CallA Tryd.prog Tryd.G 6 [] T fun v T' es => v = .p (.bool true) ∧ T' = T ∧ es = [] := by
  refine CallA.wfs fun wf => ?_
  have wt := wf.t
  refine CallA.enterV 11 Tryd.func6 Tryd.ntmps6 (congrArg Array.toList Tryd.results6) rfl ⟨by simp, by simp⟩ (by kernel_rfl) (by kernel_rfl) ?_
  (simp -dsimp +decide only [vt2, vy, vz, vze, vy, vz, vze, va, vc, vu, vl, Tryd.ty, Tryd.en, ↓reduceIte, Nat.reduceSub, Nat.reduceAdd, Nat.reduceMul, Nat.reduceLT, Int.reduceAdd, Int.reduceSub, Int.reduceToNat, Int.cast_ofNat_Int])
  refine (build_ok (id := hK 1) (hs := []) rfl Es.nil (by simp) (small_nums (by simp))).det' ?_
  rw [show filtB (srt (nums (hK 1) [])) = [0, 0, 0, 0] from flt_nil _]
  (simp -dsimp +decide (disch := omega) only [vt2, vy, vz, vze, vy, vz, vze, va, vc, vu, vl, Tryd.ty, Tryd.en, ↓reduceIte, Nat.reduceSub, Nat.reduceAdd, Nat.reduceMul, Nat.reduceLT, Int.reduceAdd, Int.reduceSub, Int.reduceToNat, Int.cast_ofNat_Int, vi, getO_i, vt])
  refine (build_ok (id := hK 1) (hs := [hK 2, hK 2, hK 3]) rfl (Es.obj (get_n0 T _ []) rfl (h8K [2, 2, 3])) (by simp) (small_nums (by simp))).det' ?_
  have hu : (uniq [hK 2, hK 2, hK 3]).length = 2 := by decide
  obtain ⟨hb0, hb4⟩ := flt_head (id := hK 1) hu
  have hrd := (flt_read (id := hK 1) (hs := [hK 2, hK 2, hK 3]) (by simp)).1
  have hin := maV_in (id := hK 1) (x := hK 3) (hs := [hK 2, hK 2, hK 3]) (by simp)
  have hfl := filt_le (id := hK 1) (hs := [hK 2, hK 2, hK 3]) (by simp)
  unfold flt at hb0 hb4 hrd hfl
  revert hb0 hb4 hrd hfl
  generalize filtB (srt (nums (hK 1) [hK 2, hK 2, hK 3])) = b
  intro hb0 hb4 hrd hfl
  (simp -dsimp +decide (disch := omega) only [vt2, vy, vz, vze, vy, vz, vze, va, vc, vu, vl, Tryd.ty, Tryd.en, ↓reduceIte, Nat.reduceSub, Nat.reduceAdd, Nat.reduceMul, Nat.reduceLT, Int.reduceAdd, Int.reduceSub, Int.reduceToNat, Int.cast_ofNat_Int, vi, getO_i, vt])
  refine (match_ok (f := b) (id := hK 1) (hs := [hK 3]) (by omega) rfl (Es.obj (get_n1 T _ _ []) rfl (h8K [3])) (by simp)).det' ?_
  rw [hrd, hin]
  (simp -dsimp +decide (disch := omega) only [vt2, vy, vz, vze, vy, vz, vze, va, vc, vu, vl, Tryd.ty, Tryd.en, ↓reduceIte, Nat.reduceSub, Nat.reduceAdd, Nat.reduceMul, Nat.reduceLT, Int.reduceAdd, Int.reduceSub, Int.reduceToNat, Int.cast_ofNat_Int, vi, getO_i, vt])
  refine (match_ok (f := [0, 0, 0, 0]) (id := hK 1) (hs := [hK 3]) (by simp) rfl (Es.obj (get_n2 T _ _ _ []) rfl (h8K [3])) (by simp)).det' ?_
  rw [show maV (hK 1) [hK 3] (readF [0, 0, 0, 0]) = .tu [.p (.bool false), .p (.int .i64 0)] by rw [show readF [0, 0, 0, 0] = some [] by decide]; rfl]
  (simp -dsimp +decide (disch := omega) only [vt2, vy, vz, vze, vy, vz, vze, va, vc, vu, vl, Tryd.ty, Tryd.en, ↓reduceIte, Nat.reduceSub, Nat.reduceAdd, Nat.reduceMul, Nat.reduceLT, Int.reduceAdd, Int.reduceSub, Int.reduceToNat, Int.cast_ofNat_Int, vi, getO_i, vt])
  refine callA_args (args' := [.vs ([].map by8) 0, .ag ((hK 0).map by8), .p (.slice none 0 0)]) (fun Γ ρ vs h => ?_) ?_
  · obtain ⟨v, us, rfl, h1, h2⟩ := h.uncons
    exact .cons (rel_nil h1) h2
  refine (match_ok (f := []) (id := hK 0) (hs := []) (by simp) rfl Es.nil (by simp)).det' ?_
  rw [show maV (hK 0) [] (readF []) = .tu [.p (.bool false), .p (.int .i64 5)] by rw [bad_len (by simp)]; rfl]
  have hb4' : ((4 : Int) < (b.length : Int)) = True := by simp; omega
  have hb0' : (b.map by8)[0]? = some (by8 2) := by rw [List.getElem?_map, hb0]; rfl
  have hne : b.map by8 ≠ [] := fun e => by rw [e] at hb0'; simp at hb0'
  (simp -dsimp +decide (disch := omega) only [vt2, vy, vz, vze, vy, vz, vze, va, vc, vu, vl, Tryd.ty, Tryd.en, ↓reduceIte, Nat.reduceSub, Nat.reduceAdd, Nat.reduceMul, Nat.reduceLT, Int.reduceAdd, Int.reduceSub, Int.reduceToNat, Int.cast_ofNat_Int, vi, getO_i, vt, bytes8, vstr, hb4', hb0'])
  refine ⟨⟨by omega, hne⟩, ?_⟩
  exact Vw.cut ⟨rfl, rfl, rfl⟩
theorem es_hn {T l : Tbl} {n : Nat} (L : List UInt16) (h : (T ++ l)[T.length + n]? = some (.buf 23 32 ((hshs L).flatMap H8))) : Es (T ++ l) 32 H8 (.sl (T.length + n) 0 L.length) (hshs L) := by
  have := Es.obj (T := T ++ l) (sz := 32) (f := H8) (xs := hshs L) h rfl (hshs_32 L)
  rwa [hshs_len] at this
theorem es_h {T l : Tbl} (L : List UInt16) : Es (T ++ .buf 23 32 ((hshs L).flatMap H8) :: l) 32 H8 (.sl T.length 0 L.length) (hshs L) := by
  have := Es.obj (T := T ++ .buf 23 32 ((hshs L).flatMap H8) :: l) (sz := 32) (f := H8) (xs := hshs L) (get_n0 T _ l) rfl (hshs_32 L)
  rwa [hshs_len] at this
theorem hf_len (L : List UInt16) : ((hshs L).flatMap H8).length = L.length * 32 := by rw [flat_len (hshs_32 L), hshs_len]
theorem hf_take (L : List UInt16) : ((hshs L).flatMap H8).take (L.length * 32) = (hshs L).flatMap H8 := List.take_of_length_le (Nat.le_of_eq (hf_len L))
theorem onesH (hs : List (List UInt8)) : ones (hs.flatMap H8) = true := by
  refine List.all_eq_true.2 fun a ha => ?_
  obtain ⟨x, _, hx⟩ := List.mem_flatMap.1 ha
  obtain ⟨b, _, rfl⟩ := List.mem_map.1 hx
  rfl
theorem hf_app (L M : List UInt16) : (hshs L).flatMap H8 ++ (hshs M).flatMap H8 = (hshs (L ++ M)).flatMap H8 := by simp [hshs]
theorem kk (T : Tbl) : (∀ k j : Nat, decide (T.length + k < T.length + j) = decide (k < j)) ∧ (∀ j : Nat, decide (T.length < T.length + j) = decide (0 < j)) := ⟨fun k j => by simp, fun j => by simp⟩
def mB (id : List UInt8) (hs : List (List UInt8)) : Option (List UInt64) → Bool
  | none => false
  | some l => hs.any fun x => decide (nm id l.length x ∈ l)
def mE : Option (List UInt64) → Int
  | none => 5
  | some _ => 0
theorem maV_eq (id : List UInt8) (hs : List (List UInt8)) (o : Option (List UInt64)) : maV id hs o = .tu [.p (.bool (mB id hs o)), .p (.int .i64 (mE o))] := by cases o <;> rfl
theorem mB_app (id : List UInt8) (L M : List UInt16) (o : Option (List UInt64)) : mB id (hshs (L ++ M)) o = (mB id (hshs L) o || mB id (hshs M) o) := by cases o <;> simp [mB, hshs]
theorem mB_nil (id : List UInt8) (o : Option (List UInt64)) : mB id [] o = false := by cases o <;> rfl
theorem es_hn' {T l : Tbl} {n m : Nat} (L : List UInt16) (hm : m = L.length) (h : (T ++ l)[T.length + n]? = some (.buf 23 32 ((hshs L).flatMap H8))) : Es (T ++ l) 32 H8 (.sl (T.length + n) 0 m) (hshs L) := by
  subst hm; exact es_hn L h
theorem get_n4 (T : Tbl) (a b c d o : AObj) (l : Tbl) : (T ++ a :: b :: c :: d :: o :: l)[T.length + 4]? = some o := by simp
theorem get_n6 (T : Tbl) (a b c d e f o : AObj) (l : Tbl) : (T ++ a :: b :: c :: d :: e :: f :: o :: l)[T.length + 6]? = some o := by simp
theorem bb : ((false || false) = false) ∧ ((false || true) = true) ∧ ((true || false) = true) ∧ ((true || true) = true) ∧ ((!false) = true) ∧ ((!true) = false) ∧ ((false == false) = true) ∧ ((true == true) = true) ∧ ((true == false) = false) ∧ ((false == true) = false) := by decide
theorem hashes_ok {T : Tbl} {l : List UInt16} (hl : l.length ≤ 1000) : CallA Tryd.prog Tryd.G 7 [.vs (l.map w16) l.length] T fun v T' es => v = .vs ((hshs l).flatMap H8) (hshs l).length ∧ T' = T ∧ es = [] := by
  refine CallA.wfs fun wf => ?_
  have wp := wf.p
  rw [hshs_len]
  refine (hashes_own hl).andThen ?_
  rintro v T' es ⟨rfl, rfl, rfl⟩
  refine Vw.pub T.length (o := .buf 23 32 ((hshs l).flatMap H8)) (get_n0 T _ []) rfl (cleanH _) ?_
  (simp -dsimp +decide only [vt2, vy, vz, vze, vy, vz, vze, va, vc, vu, vl, Tryd.ty, Tryd.en, ↓reduceIte, Nat.reduceSub, Nat.reduceAdd, Nat.reduceMul, Nat.reduceLT, Int.reduceAdd, Int.reduceSub, Int.reduceToNat, Int.cast_ofNat_Int, vt, wp])
  exact Vw.cut ⟨rfl, rfl, rfl⟩
theorem read_own {T : Tbl} {i : Nat} {g : List UInt8} {o : AObj} (hT : T[i]? = some o) (ho : o.cs = some (g.map by8)) (hl : g.length ≤ 1099511627776) :
    CallA Tryd.prog Tryd.G 13 [.sl i 0 g.length] T fun v T' es => v = rdV (readF g) ∧ T' = (T.map (AObj.pub i (g.map by8))).set i .gone ∧ es = [(i, false)] := by
  refine CallA.pub (K' := fun v T' es => v = rdV (readF g) ∧ T' = (T.map (AObj.pub i (g.map by8))).set i .gone ∧ es = []) hT ho (clean8 _) ?_ ?_
  · simp only [List.map_cons, List.map_nil, AV.pub, if_true]
    exact read_ok hl
  · rintro v T' es ⟨rfl, rfl, rfl⟩
    exact ⟨rfl, rfl, rfl⟩
end Go.Proofs.YtmcbdlefakjpoaaDoor

set_option linter.unusedSimpArgs false
set_option linter.unusedVariables false
set_option linter.unusedSectionVars false
namespace Go.Proofs.YtmcbdlefakjpoaaDoor
open Go.E
/-- items, turned, each with the first one behind it -/
def tn (hs : List (List UInt8)) (t i : Nat) : List (List UInt8) := (List.range i).flatMap fun j => [hs[(j + t) % hs.length]!, hs[0]!]
theorem tn_next (hs : List (List UInt8)) (t i : Nat) : tn hs t (i + 1) = tn hs t i ++ [hs[(i + t) % hs.length]!, hs[0]!] := by simp [tn, List.range_succ]
theorem tn_len (hs : List (List UInt8)) (t i : Nat) : (tn hs t i).length = 2 * i := by
  induction i with
  | zero => rfl
  | succ i ih => rw [tn_next, List.length_append, ih]; simp; omega
theorem tn_mem (hs : List (List UInt8)) (t : Nat) (x : List UInt8) : x ∈ tn hs t hs.length ↔ x ∈ hs := by
  simp only [tn, List.mem_flatMap, List.mem_range, List.mem_cons, List.not_mem_nil, or_false]
  constructor
  · rintro ⟨j, hj, rfl | rfl⟩
    · have h := Nat.mod_lt (j + t) (Nat.lt_of_le_of_lt (Nat.zero_le _) hj)
      rw [getElem!_pos hs _ h]; exact List.getElem_mem _
    · rw [getElem!_pos hs 0 (by omega)]; exact List.getElem_mem _
  · intro hx
    obtain ⟨k, hk, rfl⟩ := List.getElem_of_mem hx
    have h0 : 0 < hs.length := by omega
    have hm : t % hs.length < hs.length := Nat.mod_lt _ h0
    refine ⟨(k + (hs.length - t % hs.length)) % hs.length, Nat.mod_lt _ h0, .inl ?_⟩
    have e : ((k + (hs.length - t % hs.length)) % hs.length + t) % hs.length = k := by
      rw [Nat.mod_add_mod, ← Nat.add_mod_mod, Nat.add_assoc, Nat.sub_add_cancel (Nat.le_of_lt hm), Nat.add_mod_right, Nat.mod_eq_of_lt hk]
    rw [e, getElem!_pos hs k hk]
theorem tn_32 {hs : List (List UInt8)} (h : ∀ x ∈ hs, (H8 x).length = 32) (t : Nat) : ∀ i, i ≤ hs.length → ∀ x ∈ tn hs t i, (H8 x).length = 32 := by
  intro i hi x hx
  simp only [tn, List.mem_flatMap, List.mem_range, List.mem_cons, List.not_mem_nil, or_false] at hx
  obtain ⟨j, hj, rfl | rfl⟩ := hx
  · have h2 := Nat.mod_lt (j + t) (show 0 < hs.length by omega)
    rw [getElem!_pos hs _ h2]; exact h _ (List.getElem_mem _)
  · rw [getElem!_pos hs 0 (by omega)]; exact h _ (List.getElem_mem _)
theorem tmodn (a b n : Nat) : ((a : Int) + (b : Int)).tmod (n : Int) = (((a + b) % n : Nat) : Int) := by
  rw [← Int.natCast_add]; rfl
theorem two32 {x y : List UInt8} {K : List AV → Prop} (z : List AV) (hz : z.length = 32) (hx : x.length = 32) (hy : y.length = 32) :
    getO (if x.length = 32 ∧ x.length ≤ (List.replicate 2 z).flatten.length then if y.length = 32 ∧ 32 + y.length ≤ (wrA (List.replicate 2 z).flatten 0 (H8 x)).length then some (wrA (wrA (List.replicate 2 z).flatten 0 (H8 x)) 32 (H8 y)) else none else none) K = K (H8 x ++ H8 y) := by
  have h64 : (List.replicate 2 z).flatten.length = 64 := by simp [hz]
  have hx' : (H8 x).length = 32 := by simp [hx]
  have hy' : (H8 y).length = 32 := by simp [hy]
  have hw : (wrA (List.replicate 2 z).flatten 0 (H8 x)).length = 64 := by rw [wrA_length (by omega), h64]
  rw [if_pos ⟨hx, by omega⟩, if_pos ⟨hy, by omega⟩]
  have e1 : wrA (List.replicate 2 z).flatten 0 (H8 x) = H8 x ++ z := by
    rw [wrA_eq (by omega), hx', List.take_zero, List.nil_append]
    simp [List.replicate_succ, hz]
  have e2 : wrA (H8 x ++ z) 32 (H8 y) = H8 x ++ H8 y := by
    rw [wrA_eq (by simp only [List.length_append]; omega), ← hx', List.take_left, List.drop_of_length_le (by simp only [List.length_append]; omega), List.append_nil]
  rw [e1, e2]; rfl
set_option maxRecDepth 8000 in
theorem finds_ok {T : Tbl} {id : List UInt8} {l : List UInt16} {turn : UInt8} (hid : id.length = 32) :
    CallA Tryd.prog Tryd.G 4 [.ag (id.map by8), .vs (l.map w16) l.length, by8 turn] T fun v _ _ => v = .p (.bool true) := by
  refine CallA.wfs fun wf => ?_
  have wt := wf.t
  have wp := wf.p
  refine CallA.enterV 25 Tryd.func4 Tryd.ntmps4 (congrArg Array.toList Tryd.results4) rfl ⟨by simp, by simp⟩ (by kernel_rfl) (by kernel_rfl) ?_
  (simp -dsimp +decide only [vt2, vy, vz, vze, vy, vz, vze, va, vc, vu, vl, Tryd.ty, Tryd.en, ↓reduceIte, Nat.reduceSub, Nat.reduceAdd, Nat.reduceMul, Nat.reduceLT, Int.reduceAdd, Int.reduceSub, Int.reduceToNat, Int.cast_ofNat_Int])
  by_cases h1 : ((200 : Int) < (l.length : Int))
  · (simp -dsimp +decide (disch := omega) only [vt2, vy, vz, vze, vy, vz, vze, va, vc, vu, vl, Tryd.ty, Tryd.en, ↓reduceIte, Nat.reduceSub, Nat.reduceAdd, Nat.reduceMul, Nat.reduceLT, Int.reduceAdd, Int.reduceSub, Int.reduceToNat, Int.cast_ofNat_Int, vi, getO_i, vt, h1])
    refine works_ok.det' ?_
    (simp -dsimp +decide (disch := omega) only [vt2, vy, vz, vze, vy, vz, vze, va, vc, vu, vl, Tryd.ty, Tryd.en, ↓reduceIte, Nat.reduceSub, Nat.reduceAdd, Nat.reduceMul, Nat.reduceLT, Int.reduceAdd, Int.reduceSub, Int.reduceToNat, Int.cast_ofNat_Int, vi, getO_i, vt])
    exact Vw.cut rfl
  (simp -dsimp +decide (disch := omega) only [vt2, vy, vz, vze, vy, vz, vze, va, vc, vu, vl, Tryd.ty, Tryd.en, ↓reduceIte, Nat.reduceSub, Nat.reduceAdd, Nat.reduceMul, Nat.reduceLT, Int.reduceAdd, Int.reduceSub, Int.reduceToNat, Int.cast_ofNat_Int, vi, getO_i, vt, h1])
  refine (hashes_ok (by omega)).det' ?_
  have hll : (hshs l).length ≤ 200 := by rw [hshs_len]; omega
  have h32 := hshs_32 l
  revert hll h32
  generalize hshs l = hs
  intro hll h32
  have hb0 := Es.vs (T := T) h32
  have hap : ∀ i cs, (AV.vs (hs.flatMap H8) hs.length).pub i cs = .vs (hs.flatMap H8) hs.length := fun i cs => by rw [AV.pub]
  have haw : ∀ q, (AV.vs (hs.flatMap H8) hs.length).wo q = .vs (hs.flatMap H8) hs.length := fun q => by rw [AV.wo]
  revert hb0 haw hap
  generalize AV.vs (hs.flatMap H8) hs.length = a
  intro hb0 hap haw
  have hr := Sl.rules hb0.sl (by decide)
  have hld := hb0.ld (P := Tryd.prog) (t := 23) (by (simp -dsimp +decide only [vt2, vy, vz, vze, vy, vz, vze, va, vc, vu, vl, Tryd.ty, Tryd.en, ↓reduceIte, Nat.reduceSub, Nat.reduceAdd, Nat.reduceMul, Nat.reduceLT, Int.reduceAdd, Int.reduceSub, Int.reduceToNat, Int.cast_ofNat_Int])) (by (simp -dsimp +decide only [vt2, vy, vz, vze, vy, vz, vze, va, vc, vu, vl, Tryd.ty, Tryd.en, ↓reduceIte, Nat.reduceSub, Nat.reduceAdd, Nat.reduceMul, Nat.reduceLT, Int.reduceAdd, Int.reduceSub, Int.reduceToNat, Int.cast_ofNat_Int])) (by decide)
  have g0 : ∀ l, (T ++ (.cells 23 (id.map by8)) :: l)[T.length]? = some (.cells 23 (id.map by8)) := fun l => get_n0 T _ l
  (simp -dsimp +decide (disch := omega) only [vt2, vy, vz, vze, vy, vz, vze, va, vc, vu, vl, Tryd.ty, Tryd.en, ↓reduceIte, Nat.reduceSub, Nat.reduceAdd, Nat.reduceMul, Nat.reduceLT, Int.reduceAdd, Int.reduceSub, Int.reduceToNat, Int.cast_ofNat_Int, vi, getO_i, vt, g0, tk32 id hid, hid])
  refine (build_ok hid (hb0.app _) (by omega) (small_nums (by omega))).det' ?_
  obtain ⟨f, hf⟩ : ∃ f, f = flt id hs := ⟨_, rfl⟩
  obtain ⟨hrd, hrd0, hrd1, hf4⟩ := flt_read (id := id) (hs := hs) (by omega)
  have hfl := filt_le (id := id) (hs := hs) (by omega)
  rw [← hf] at hrd hrd0 hrd1 hf4 hfl
  rw [show filtB (srt (nums id hs)) = f from hf.symm]
  (simp -dsimp +decide (disch := omega) only [vt2, vy, vz, vze, vy, vz, vze, va, vc, vu, vl, Tryd.ty, Tryd.en, ↓reduceIte, Nat.reduceSub, Nat.reduceAdd, Nat.reduceMul, Nat.reduceLT, Int.reduceAdd, Int.reduceSub, Int.reduceToNat, Int.cast_ofNat_Int, vi, getO_i, vt])
  have ht8 : turn.toNat < 256 := turn.toNat_lt
  refine SemA.adopt 10 23 32 (by decide) rfl ?_
  (simp -dsimp +decide only [vt2, vy, vz, vze, vy, vz, vze, va, vc, vu, vl, Tryd.ty, Tryd.en, ↓reduceIte, Nat.reduceSub, Nat.reduceAdd, Nat.reduceMul, Nat.reduceLT, Int.reduceAdd, Int.reduceSub, Int.reduceToNat, Int.cast_ofNat_Int, vt])
  refine SemA.loopK (T.length + 2) (fun i : Nat => [(2, by8 turn), (3, .ptr T.length 0), (7, a), (8, .vs (f.map by8) f.length), (9, .p (.int .i64 0)), (10, .sl (T.length + 1) 0 (2 * i)), (11, wint (i : Int))]) (fun i => T ++ [.cells 23 (id.map by8), .buf 23 32 ((tn hs turn.toNat i).flatMap H8)]) (fun i => i ≤ hs.length) (fun i => hs.length - i) 0 [] 0 (fun _ : Unit => [(3, .ptr T.length 0), (7, a), (8, .vs (f.map by8) f.length), (9, .p (.int .i64 0)), (10, .sl (T.length + 1) 0 (2 * hs.length))]) (fun _ => T ++ [.cells 23 (id.map by8), .buf 23 32 ((tn hs turn.toNat hs.length).flatMap H8)]) (fun _ => True) (by omega) (by omega) (by (simp -dsimp +decide (disch := omega) only [vt2, vy, vz, vze, vy, vz, vze, va, vc, vu, vl, Tryd.ty, Tryd.en, ↓reduceIte, Nat.reduceSub, Nat.reduceAdd, Nat.reduceMul, Nat.reduceLT, Int.reduceAdd, Int.reduceSub, Int.reduceToNat, Int.cast_ofNat_Int, vi, getO_i]); first | rfl | done) rfl (by simp) ?_ ?_
  · rintro i g hi
    refine SemA.of (by kernel_rfl) ?_
    (simp -dsimp +decide (disch := omega) only [vt2, vy, vz, vze, vy, vz, vze, va, vc, vu, vl, Tryd.ty, Tryd.en, ↓reduceIte, Nat.reduceSub, Nat.reduceAdd, Nat.reduceMul, Nat.reduceLT, Int.reduceAdd, Int.reduceSub, Int.reduceToNat, Int.cast_ofNat_Int, vi, getO_i, vt, hr])
    refine CondP.dec (fun h => ?_) (fun h => ?_)
    · have hm : (i + turn.toNat) % hs.length < hs.length := Nat.mod_lt _ (by omega)
      have hx : hs[(i + turn.toNat) % hs.length]? = some hs[(i + turn.toNat) % hs.length]! := by rw [getElem!_pos hs _ hm]; simp [hm]
      have hx0 : hs[0]? = some hs[0]! := by rw [getElem!_pos hs 0 (by omega)]; simp
      (simp -dsimp +decide (disch := omega) only [vt2, vy, vz, vze, vy, vz, vze, va, vc, vu, vl, Tryd.ty, Tryd.en, ↓reduceIte, Nat.reduceSub, Nat.reduceAdd, Nat.reduceMul, Nat.reduceLT, Int.reduceAdd, Int.reduceSub, Int.reduceToNat, Int.cast_ofNat_Int, vi, getO_i, vt, hr])
      refine SemA.drawS (.fl 0 (.fl 1 (.fl 2 (.fl 3 (.fl 4 (.fl 5 (.fl 6 (.fl 7 (.fl 8 (.fl 9 (.fl 10 (.fl 11 (.fl 12 (.fl 13 (.sq 14 (.sq 15 (.fl 16 .nil))))))))))))))))) Tryd.mixed (by kernel_rfl) ?_
      have hlx : (hs[(i + turn.toNat) % hs.length]!).length = 32 := by simpa using h32 _ (List.mem_of_getElem? hx)
      have hl0 : (hs[0]!).length = 32 := by simpa using h32 _ (List.mem_of_getElem? hx0)
      have hld0 : ∀ (l : Tbl) (K : AV → Prop), loadA Tryd.prog 23 (a.pl 0) (T ++ l) K = getO hs[0]? fun x => K (.ag (H8 x)) := fun l K => by
        have := hld.1 l 0 K (by omega)
        rwa [Nat.zero_mul] at this
      (simp -dsimp +decide (disch := omega) only [vt2, vy, vz, vze, vy, vz, vze, va, vc, vu, vl, Tryd.ty, Tryd.en, ↓reduceIte, Nat.reduceSub, Nat.reduceAdd, Nat.reduceMul, Nat.reduceLT, Int.reduceAdd, Int.reduceSub, Int.reduceToNat, Int.cast_ofNat_Int, vi, getO_i, vt, hr, hld, hld0, tmodn, hx, hx0])
      refine ⟨by omega, ⟨by omega, by omega⟩, by omega, ?_⟩
      rw [two32 _ rfl hlx hl0]
      have hfl2 := flat_len (tn_32 h32 turn.toNat i (by omega))
      rw [tn_len] at hfl2
      have hxl : (hs[(i + turn.toNat) % hs.length]! ++ hs[0]!).length = 64 := by rw [List.length_append, hlx, hl0]
      (simp -dsimp +decide (disch := omega) only [vt2, vy, vz, vze, vy, vz, vze, va, vc, vu, vl, Tryd.ty, Tryd.en, ↓reduceIte, Nat.reduceSub, Nat.reduceAdd, Nat.reduceMul, Nat.reduceLT, Int.reduceAdd, Int.reduceSub, Int.reduceToNat, Int.cast_ofNat_Int, vi, getO_i, vt, wt, haw, wo8, woH])
      refine ⟨by omega, ⟨by omega, by omega, by omega⟩, i + 1, ⟨by omega, by omega⟩, ⟨?_, ?_⟩, ?_⟩
      · congr 1
      · rfl
      · rw [tn_next, List.flatMap_append, List.drop_zero, List.take_of_length_le (by omega)]
        simp
    · have hkl : i = hs.length := by omega
      subst hkl
      (simp -dsimp +decide (disch := omega) only [vt2, vy, vz, vze, vy, vz, vze, va, vc, vu, vl, Tryd.ty, Tryd.en, ↓reduceIte, Nat.reduceSub, Nat.reduceAdd, Nat.reduceMul, Nat.reduceLT, Int.reduceAdd, Int.reduceSub, Int.reduceToNat, Int.cast_ofNat_Int, vi, getO_i, vt, wt, haw, wo8, woH])
      exact ⟨(), trivial⟩
  · rintro _ g tmp -
    have hmem := flt_same (id := id) (l := tn hs turn.toNat hs.length) (m := hs) (tn_mem hs turn.toNat)
    have h322 := tn_32 h32 turn.toNat hs.length (Nat.le_refl _)
    have htl := tn_len hs turn.toNat hs.length
    revert hmem h322 htl
    generalize tn hs turn.toNat hs.length = tu
    intro hmem h322 htl
    (simp -dsimp +decide (disch := omega) only [vt2, vy, vz, vze, vy, vz, vze, va, vc, vu, vl, Tryd.ty, Tryd.en, ↓reduceIte, Nat.reduceSub, Nat.reduceAdd, Nat.reduceMul, Nat.reduceLT, Int.reduceAdd, Int.reduceSub, Int.reduceToNat, Int.cast_ofNat_Int, vi, getO_i, vt, g0, tk32 id hid, hid])
    have hbt : Es (T ++ [.cells 23 (id.map by8), .buf 23 32 (tu.flatMap H8)]) 32 H8 (.sl (T.length + 1) 0 (2 * hs.length)) tu := by
      rw [← htl]
      exact Es.obj (get_n1 T _ _ []) rfl h322
    refine (build_ok hid hbt (by omega) (small_nums (by omega))).det' ?_
    rw [hmem, show filtB (srt (nums id hs)) = f from hf.symm]
    (simp -dsimp +decide (disch := omega) only [vt2, vy, vz, vze, vy, vz, vze, va, vc, vu, vl, Tryd.ty, Tryd.en, ↓reduceIte, Nat.reduceSub, Nat.reduceAdd, Nat.reduceMul, Nat.reduceLT, Int.reduceAdd, Int.reduceSub, Int.reduceToNat, Int.cast_ofNat_Int, vi, getO_i, vt])
    refine (read_ok (f := f) (by omega)).det' ?_
    rw [hrd]
    unfold rdV
    (simp -dsimp +decide (disch := omega) only [vt2, vy, vz, vze, vy, vz, vze, va, vc, vu, vl, Tryd.ty, Tryd.en, ↓reduceIte, Nat.reduceSub, Nat.reduceAdd, Nat.reduceMul, Nat.reduceLT, Int.reduceAdd, Int.reduceSub, Int.reduceToNat, Int.cast_ofNat_Int, vi, getO_i, vt, g0, tk32 id hid, hid])
    refine (numbers_ok hid (hb0.app _) (by omega)).det' ?_
    have hsl := srt_len (nums id hs)
    have hnl := nums_len id hs
    rw [← hsl]
    have hul := uniq_len hs
    have hin0 : ∀ x, x ∈ hs → maV id [x] (some (srt (nums id hs))) = .tu [.p (.bool true), .p (.int .i64 0)] := fun x hx => maV_in hx
    generalize srt (nums id hs) = N at *
    (simp -dsimp +decide (disch := omega) only [vt2, vy, vz, vze, vy, vz, vze, va, vc, vu, vl, Tryd.ty, Tryd.en, ↓reduceIte, Nat.reduceSub, Nat.reduceAdd, Nat.reduceMul, Nat.reduceLT, Int.reduceAdd, Int.reduceSub, Int.reduceToNat, Int.cast_ofNat_Int, vi, getO_i, vt, bytes8, vstr, ne_eq, not_true])
    refine (same_ok (Sl.vs _ _ (by simp)) (Sl.vs _ _ (by simp)) (by omega)).det' ?_
    rw [decide_eq_true rfl]
    (simp -dsimp +decide (disch := omega) only [vt2, vy, vz, vze, vy, vz, vze, va, vc, vu, vl, Tryd.ty, Tryd.en, ↓reduceIte, Nat.reduceSub, Nat.reduceAdd, Nat.reduceMul, Nat.reduceLT, Int.reduceAdd, Int.reduceSub, Int.reduceToNat, Int.cast_ofNat_Int, vi, getO_i, vt, bb])
    refine (runlike_ok (hb0.app _) (by omega)).det' ?_
    rw [← hnl]
    have hf4' : ((f.length : Int) < 4) = False := by simp; omega
    (simp -dsimp +decide (disch := omega) only [vt2, vy, vz, vze, vy, vz, vze, va, vc, vu, vl, Tryd.ty, Tryd.en, ↓reduceIte, Nat.reduceSub, Nat.reduceAdd, Nat.reduceMul, Nat.reduceLT, Int.reduceAdd, Int.reduceSub, Int.reduceToNat, Int.cast_ofNat_Int, vi, getO_i, vt, bb, ne_eq, not_true, hf4'])
    refine SemA.loopE (fun k : Nat => [(3, .ptr T.length 0), (7, a), (8, .vs (f.map by8) f.length), (18, wint (k : Int))]) (fun _ => T ++ [.cells 23 (id.map by8), .buf 23 32 (tu.flatMap H8)]) (fun k => k ≤ hs.length) (fun k => hs.length - k) 0 [] 2 (fun _ : Unit => [(8, .vs (f.map by8) f.length)]) (fun _ => T ++ [.cells 23 (id.map by8), .buf 23 32 (tu.flatMap H8)]) (fun _ => True) (by omega) (by (simp -dsimp +decide (disch := omega) only [vt2, vy, vz, vze, vy, vz, vze, va, vc, vu, vl, Tryd.ty, Tryd.en, ↓reduceIte, Nat.reduceSub, Nat.reduceAdd, Nat.reduceMul, Nat.reduceLT, Int.reduceAdd, Int.reduceSub, Int.reduceToNat, Int.cast_ofNat_Int, vi, getO_i]); first | rfl | done) rfl (by simp) ?_ ?_
    · rintro k g1 hk
      refine SemA.of (by kernel_rfl) ?_
      (simp -dsimp +decide (disch := omega) only [vt2, vy, vz, vze, vy, vz, vze, va, vc, vu, vl, Tryd.ty, Tryd.en, ↓reduceIte, Nat.reduceSub, Nat.reduceAdd, Nat.reduceMul, Nat.reduceLT, Int.reduceAdd, Int.reduceSub, Int.reduceToNat, Int.cast_ofNat_Int, vi, getO_i, vt, hr])
      refine CondP.dec (fun h => ?_) (fun h => ?_)
      · obtain ⟨x, hx⟩ : ∃ x, hs[k]? = some x := ⟨hs[k]'(by omega), by simp⟩
        have hsub : (hs.drop k).take (k + 1 - k) = [x] := by
          rw [Nat.add_sub_cancel_left, List.take_one, List.head?_drop, hx]; rfl
        have hes := (hb0.app [.cells 23 (id.map by8), .buf 23 32 (tu.flatMap H8)]).sub (l := k) (m := k + 1) (by omega) (by omega)
        rw [hsub] at hes
        have hin := hin0 x (List.mem_of_getElem? hx)
        (simp -dsimp +decide (disch := omega) only [vt2, vy, vz, vze, vy, vz, vze, va, vc, vu, vl, Tryd.ty, Tryd.en, ↓reduceIte, Nat.reduceSub, Nat.reduceAdd, Nat.reduceMul, Nat.reduceLT, Int.reduceAdd, Int.reduceSub, Int.reduceToNat, Int.cast_ofNat_Int, vi, getO_i, vt, hr])
        refine SemA.draw (fun i => true) [(0, true), (1, true), (2, true), (3, true), (4, true), (5, true), (6, true), (7, false), (8, true), (9, true), (10, true), (11, true), (12, true)] Tryd.mixed (by kernel_rfl) ?_
        have hko : keepOK (fun _ => true) [] = true := rfl
        (simp -dsimp +decide (disch := omega) only [vt2, vy, vz, vze, vy, vz, vze, va, vc, vu, vl, Tryd.ty, Tryd.en, ↓reduceIte, Nat.reduceSub, Nat.reduceAdd, Nat.reduceMul, Nat.reduceLT, Int.reduceAdd, Int.reduceSub, Int.reduceToNat, Int.cast_ofNat_Int, vi, getO_i, vt, kall, hko, true_or, true_and, g0, tk32 id hid, hid, hr])
        refine ⟨by omega, by omega, ⟨by omega, by omega⟩, ?_⟩
        refine (match_ok (f := f) (hs := [x]) (by omega) hid hes (by simp)).det' ?_
        rw [hrd, hin]
        (simp -dsimp +decide (disch := omega) only [vt2, vy, vz, vze, vy, vz, vze, va, vc, vu, vl, Tryd.ty, Tryd.en, ↓reduceIte, Nat.reduceSub, Nat.reduceAdd, Nat.reduceMul, Nat.reduceLT, Int.reduceAdd, Int.reduceSub, Int.reduceToNat, Int.cast_ofNat_Int, vi, getO_i, vt, kall, hko, true_or, true_and, bb])
        exact ⟨k + 1, ⟨by omega, by omega⟩, rfl⟩
      · (simp -dsimp +decide (disch := omega) only [vt2, vy, vz, vze, vy, vz, vze, va, vc, vu, vl, Tryd.ty, Tryd.en, ↓reduceIte, Nat.reduceSub, Nat.reduceAdd, Nat.reduceMul, Nat.reduceLT, Int.reduceAdd, Int.reduceSub, Int.reduceToNat, Int.cast_ofNat_Int, vi, getO_i])
        exact ⟨(), trivial⟩
    · rintro _ g1 tmp1 -
      (simp -dsimp +decide (disch := omega) only [vt2, vy, vz, vze, vy, vz, vze, va, vc, vu, vl, Tryd.ty, Tryd.en, ↓reduceIte, Nat.reduceSub, Nat.reduceAdd, Nat.reduceMul, Nat.reduceLT, Int.reduceAdd, Int.reduceSub, Int.reduceToNat, Int.cast_ofNat_Int, vi, getO_i, vt, wt, wo8, woH])
      refine ⟨⟨by omega, by omega⟩, ⟨by omega, by omega⟩, ?_⟩
      rw [show f.length + 1 = (f ++ [0]).length by simp]
      refine (read_own (get_n2 T _ _ _ _) (by rw [List.map_append]; rfl) (by simp; omega)).det' ?_
      rw [hrd0]
      unfold rdV
      (simp -dsimp +decide (disch := omega) only [vt2, vy, vz, vze, vy, vz, vze, va, vc, vu, vl, Tryd.ty, Tryd.en, ↓reduceIte, Nat.reduceSub, Nat.reduceAdd, Nat.reduceMul, Nat.reduceLT, Int.reduceAdd, Int.reduceSub, Int.reduceToNat, Int.cast_ofNat_Int, vi, getO_i, vt, wt, wp, wo8, woH])
      refine ⟨by omega, ⟨by omega, by omega⟩, ?_⟩
      rw [List.drop_zero, show AV.vs ((f.take (f.length - 1)).map by8) (f.length - 1) = .vs ((f.take (f.length - 1)).map by8) (f.take (f.length - 1)).length by rw [List.length_take, Nat.min_eq_left (by omega)]]
      refine (read_ok (f := f.take (f.length - 1)) (by rw [List.length_take]; omega)).det' ?_
      rw [hrd1]
      unfold rdV
      (simp -dsimp +decide (disch := omega) only [vt2, vy, vz, vze, vy, vz, vze, va, vc, vu, vl, Tryd.ty, Tryd.en, ↓reduceIte, Nat.reduceSub, Nat.reduceAdd, Nat.reduceMul, Nat.reduceLT, Int.reduceAdd, Int.reduceSub, Int.reduceToNat, Int.cast_ofNat_Int, vi, getO_i, vt, wt, wp])
      refine works_ok.det' ?_
      (simp -dsimp +decide (disch := omega) only [vt2, vy, vz, vze, vy, vz, vze, va, vc, vu, vl, Tryd.ty, Tryd.en, ↓reduceIte, Nat.reduceSub, Nat.reduceAdd, Nat.reduceMul, Nat.reduceLT, Int.reduceAdd, Int.reduceSub, Int.reduceToNat, Int.cast_ofNat_Int, vi, getO_i, vt])
      exact Vw.done rfl
end Go.Proofs.YtmcbdlefakjpoaaDoor

set_option linter.unusedSimpArgs false
set_option linter.unusedVariables false
set_option linter.unusedSectionVars false
namespace Go.Proofs.YtmcbdlefakjpoaaDoor
open Go.ChangeShapes Go.WideShapes Go.ChangeAt Go.RowKit Go.E
theorem own : ownKnob Tryd.prog.godebug = none := by kernel_rfl
theorem laidOut : laidOutB Tryd.prog = true := by kernel_rfl
theorem gTable : Tryd.prog.globalNamed "scantling/sha.table" = some 0 := by kernel_rfl
def tblT : TypeId := 111
theorem tTable : (Tryd.prog.globals[0]?).map (·.type) = some tblT := by kernel_rfl
def tblZ : List Int := tbl.map fun x => (x.toNat : Int)
theorem tblD : (Rows.laid_scantling_sha_table : DataW Unit) = .agg (tblZ.map fun z => .lit (.int .u32 z)) := rfl
/-- WHAT THE CONDITION GIVES THE WALKS -/
theorem gok {W : World} (h : laidMetH Tryd.prog [("scantling/sha.table", Rows.laid_scantling_sha_table)] W) : GOK Tryd.G (wholeH W) := by
  rw [MakeChecks.laidMetH_plain _ _ _ (by kernel_rfl)] at h
  obtain ⟨ps, ⟨g0, t0, cs0, f0, p0, q0, hg0, ht0, hv0, hd0, _, _⟩, _, _⟩ := h
  obtain rfl := Option.some.inj (gTable.symm.trans hg0)
  obtain rfl := Option.some.inj (tTable.symm.trans ht0)
  rw [tblD] at hd0
  have hcs := trod_lits (n := 64) Tryd.underlying111 Tryd.underlying79 (by kernel_rfl) (by kernel_rfl) hd0
  have hrd : Rd W (some ⟨0, 0, none⟩) (tblZ.map (Value.int .u32)) := by
    refine .inr ⟨_, rfl, rfl, fun k v hk => ?_⟩
    have := World.var?_cell hg0 hv0 k
    rw [← hcs] at hk
    rw [add_plain rfl]
    simp only [Nat.zero_add]
    rw [this]
    simpa using hk
  intro g
  unfold Tryd.G
  split
  · rename_i h0
    subst h0
    refine rel_vp0 (vs := tblZ.map (Value.int .u32)) ?_ (by decide) (arr_holds (wholeH_whole W) hrd)
    have := RelL.ps (Γ := wholeH W) (ρ := []) (tblZ.map (Value.int .u32))
    rw [List.map_map] at this
    rw [show tbl.map w32 = tblZ.map (AV.p ∘ Value.int .u32) by rw [tblZ, List.map_map]; rfl]
    exact this
  · exact .p _
/-- The door's own heap meets the condition. -/
theorem door_met (os : Os) (args : Array Value) : laidMetH Tryd.prog [("scantling/sha.table", Rows.laid_scantling_sha_table)] ((World.doorLaid Tryd.prog 14 os).forCall (fun _ _ => 0) ⟨#[], args, []⟩).memory :=
  laidMetH_of_parts3 (fuel := 8) (laidMet_of_run' 8 (by kernel_rfl) (by kernel_rfl)) (by kernel_rfl) (by kernel_rfl)
end Go.Proofs.YtmcbdlefakjpoaaDoor

set_option linter.unusedSimpArgs false
set_option linter.unusedVariables false
set_option linter.unusedSectionVars false
namespace Go.Proofs.YtmcbdlefakjpoaaDoor.filterFindsL
open Go.ChangeShapes Go.WideShapes Go.ChangeAt Go.RowKit Go.E
set_option maxRecDepth 100000 in
theorem contract (H : Type) (enc : TypeId × Value → H) (W : World) (base : Nat) (args : Array Value) (ds gs : List (DataW H)) (before : List MemPlace)
    (hval : ∀ (j : Nat) t v, Tryd.f4.params[j]? = some t → args[j]? = some v → Value.okWide Tryd.prog W .any base t v)
    (hW : DataW.Whole enc Tryd.prog Tryd.f4.params.toList Rows.filterFindsSpec.vars false W args.toList ds gs before)
    (hz : (DataW.weightsEach Tryd.prog (Tryd.f4.params.toList ++ Rows.filterFindsSpec.plain.varTypes Tryd.prog) (ds ++ gs)).all (· ≤ reachBytes) = true)
    (hL : laidMetH Tryd.prog [("scantling/sha.table", Rows.laid_scantling_sha_table)] W) :
    Calls Tryd.prog 4 args W fun e W' => ∃ v, e = .returned v ∧ Rows.filterFindsSpec.post enc Tryd.prog Tryd.f4 false true false false W args v W' := by
  have hn : ds.length = 3 := by
    obtain ⟨p, q, hA, _⟩ := hW
    rw [Tryd.params4] at hA
    exact (trodAll_length hA).2
  have hg : gs = [] := by
    obtain ⟨p, q, hA, hV, _⟩ := hW
    exact (trodVars_none hV).1
  subst hg
  refine law_callsA (tys := [23, 5, 24, 26]) 4 laidOut (by kernel_rfl) (by kernel_rfl) Tryd.underlying4 rfl ?_ hW (by kernel_rfl) (by kernel_rfl) hval hz (gok hL) ?_
  · match ds, hn with
    | [_, _, _], _ => rfl
  intro xs hx
  rw [Tryd.params4] at hx
  cases hx with | cons h0 hx =>
  cases hx with | cons h1 hx =>
  cases hx with | cons h2 hx =>
  cases hx
  obtain ⟨a0, e0, _, h0l⟩ := arg_array (fun a : UInt8 => by rw [Dat.avs]) (open_u8 Tryd.underlying5) h0 Tryd.underlying23
  obtain ⟨a1, e1, h1l⟩ := arg_nums (fun a : UInt16 => by rw [Dat.avs]) (open_u16 Tryd.underlying26) h1 Tryd.underlying24
  obtain ⟨a2, rfl⟩ := open_u8 Tryd.underlying5 _ h2
  simp only [List.map_cons, List.map_nil, e0, e1]
  exact finds_ok h0l
set_option maxRecDepth 100000 in
theorem lifted (os : Os) (started : os.Started) (H : Type) (enc : TypeId × Value → H) :
    ReturnsInHanded {} Tryd.checked os 4 .any (fun w args => (Rows.filterFindsSpec.pre enc Tryd.prog Tryd.f4 [] false w args ∧ laidMetH Tryd.prog [("scantling/sha.table", Rows.laid_scantling_sha_table)] w) ∧ sizedMet enc Tryd.prog Tryd.f4 (OpenSpec.ofChange Rows.filterFindsSpec) false w args)
      (Rows.filterFindsSpec.post enc Tryd.prog Tryd.f4 false true false false) := by
  refine returnsInHanded_of_change_and (C := Tryd.checked) (X := fun w _ => laidMetH Tryd.prog [("scantling/sha.table", Rows.laid_scantling_sha_table)] w) (fun _ _ _ hh h => h.of_heap hh) own started (by kernel_rfl) Tryd.func4
    (ChangeSpec.witness_shaped (enc := enc) (C := Tryd.checked) (os := os) (X := fun w _ => laidMetH Tryd.prog [("scantling/sha.table", Rows.laid_scantling_sha_table)] w) false (World.doorLaid Tryd.prog 14 os) #[.agg (Array.replicate 32 (.int .u8 0)), .slice none 0 0, .int .u8 0] 8 rfl (World.shaped_of_RefB (by kernel_rfl) (by kernel_rfl)) (by kernel_rfl) (by kernel_rfl) (by kernel_rfl) (door_met os _)) ?_
  intro W base args ds gs before hval hW _ hz hL _
  exact contract H enc W base args ds gs before hval hW hz hL
theorem said : Rows.FilterFindsSaid :=
  OpenClaim.holds_of_wide 4 Tryd.f4 rfl rfl rfl rfl rfl rfl rfl ⟨rfl, rfl, rfl, rfl, rfl⟩ rfl rfl rfl rfl rfl (by kernel_rfl) Tryd.func4 (by kernel_rfl)
    (of_decide_eq_true (by kernel_rfl)) (by unfold Func.isWrapper; first | (rw [if_pos (by decide +kernel)]; kernel_rfl) | (rw [if_neg (by decide +kernel)]; exact ⟨rfl, rfl⟩))
    (fun os started H enc _ => lifted os started H enc)
theorem proved : Rows.FilterFindsCardSaid :=
  Claim7.holds_tied_plain_at .later [] [.data] true Rows.filterFindsCard.stood.harness false
    said (fun _ h => by cases h) (by kernel_rfl) (fun _ h => by cases h) filterFinds_row_tie rfl ⟨rfl, rfl⟩ (by kernel_rfl) rfl
    (fun f fn hf hfn => by
      obtain rfl : f = 4 := Option.some.inj ((show Tryd.prog.funcNamed "scantling/scantlinglaw29.FilterFinds" = some 4 by kernel_rfl).symm.trans hf) |>.symm
      obtain rfl : fn = Tryd.f4 := (Option.some.inj (Tryd.func4.symm.trans hfn)).symm
      exact ⟨by kernel_rfl, fun j t ht => by
        have hm : t ∈ Tryd.f4.params.toList := by simpa using Array.mem_of_getElem? ht
        have hall : (Tryd.f4.params.toList.all fun u => !Tryd.prog.wantsStandIn u) = true := by kernel_rfl
        exact (show Tryd.prog.wantsStandIn t = false by simpa using List.all_eq_true.1 hall t hm)⟩)
    (by kernel_rfl)
end Go.Proofs.YtmcbdlefakjpoaaDoor.filterFindsL
