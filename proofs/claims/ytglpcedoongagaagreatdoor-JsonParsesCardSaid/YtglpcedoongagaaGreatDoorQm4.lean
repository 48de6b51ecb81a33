/-
  Part 4 of the proof: no statement of its own. No condition but those in each theorem.
-/
import Derived.Test.YtglpcedoongagaaGreatDoorQm3
import Derived.Shelf.Strconv.ParseIntPublic10
import Derived.Shelf.Strconv.Itoa0
import Derived.Shelf.Strconv.Itoa1
import Derived.Shelf.Strconv.Itoa2
import Derived.Lib.ItoaLen
import Derived.Lib.ItoaMem
import Derived.Shelf.Unicode.ValidAny
set_option linter.unusedSimpArgs false
set_option linter.unusedVariables false
set_option linter.unusedSectionVars false
set_option maxRecDepth 8000
set_option maxHeartbeats 4000000
namespace Go.Proofs.YtglpcedoongagaaGreatDoor
open Go.E Go.Proofs.YtglpcedoongagaaGreatDoor.Tryz Go.Proofs.Tryz Go.J
def txtQ (l : B) : Option (B × B) := if l.head? = some 34 then txtF l.tail [] else none
theorem set_app {T l : Tbl} {i : Nat} (h : i < T.length) (o : AObj) : (T ++ l).set i o = T.set i o ++ l := List.set_append_left _ _ h
theorem get_app {T l : Tbl} {i : Nat} (h : i < T.length) : (T ++ l)[i]? = T[i]? := List.getElem?_append_left h
theorem rdr_wo (q : Nat -> Bool) (l : List UInt8) : (rdr l).wo q = rdr l := by rw [rdr, AObj.wo, List.map_cons, List.map_nil, bl_wo]
theorem set_wo {T : Tbl} {q : Nat -> Bool} (h : T.map (AObj.wo q) = T) (i : Nat) (l : List UInt8) : (T.set i (rdr l)).map (AObj.wo q) = T.set i (rdr l) := by rw [List.map_set, h, rdr_wo]
theorem Vw.drop {G : Nat -> AV} {T0 T1 l : Tbl} {E : Eff} {K : AV -> Tbl -> Eff -> Prop} {v : AV} (hlen : T1.length = T0.length) (hw : T1.map (AObj.wo (T0.length <= ·)) = T1) (h : K (v.wo (T0.length <= ·)) T1 E) : Vw G T0 K v (T1 ++ l) E :=
 Vw.cutN T0.length (Nat.le_refl _) (by rw [List.take_left' hlen, hw]; exact Vw.done h)
theorem eno_wo (q : Nat -> Bool) (e : Int) : (eno e).wo q = eno e := by rw [eno, AV.wo, AV.wo]
theorem txtF_bad {m out : B} (h1 : m.head? ≠ some 34) (h2 : m.head? ≠ some 92) (h : (dec m).2 = 0 ∨ (dec m).1 < 32) : txtF m out = none := by rw [txtF_eq, if_neg h1, if_neg h2, if_pos h]
theorem txtF_go {m out : B} (h1 : m.head? ≠ some 34) (h2 : m.head? ≠ some 92) (h : ¬ ((dec m).2 = 0 ∨ (dec m).1 < 32)) : txtF m out = txtF (m.drop (dec m).2) (out ++ m.take (dec m).2) := by rw [txtF_eq, if_neg h1, if_neg h2, if_neg h]
theorem run_bad {m : B} : ((dec m).2 = 0 ∨ (dec m).1 < 32) ↔ ((decR m).2 = 0 ∨ (decR m).1 < 32 ∨ ((decR m).1 = 65533 /\ (decR m).2 <= 1)) := by
 cases m with
 | nil => exact ⟨fun _ => .inl rfl, fun _ => .inl rfl⟩
 | cons a r =>
   by_cases h : (dec (a :: r)).2 = 0
   . have : decR (a :: r) = (65533, 1) := if_pos h
     rw [this]
     exact ⟨fun _ => .inr (.inr ⟨rfl, Nat.le_refl _⟩), fun _ => .inl h⟩
   . rw [decR_ok h]
     refine ⟨fun h' => h'.elim (fun e => .inl e) fun e => .inr (.inl e), ?_⟩
     rintro (e | e | ⟨e1, e2⟩)
     . exact .inl e
     . exact .inr e
     . exfalso
       obtain ⟨ok, hn, -⟩ := dec_spec (l := a :: r) (c := (dec (a :: r)).1) (n := (dec (a :: r)).2) rfl (by omega)
       rcases enc_cases ok with h1 | h1 | h1 | h1 <;> omega
theorem decR_lt (m : B) : (decR m).1 < 2147483648 /\ (decR m).2 <= 4 /\ (decR m).2 <= m.length := by
 cases m with
 | nil => exact ⟨by show 65533 < 2147483648; decide, by show 0 <= 4; decide, Nat.le_refl _⟩
 | cons a r =>
   by_cases h : (dec (a :: r)).2 = 0
   . have : decR (a :: r) = (65533, 1) := if_pos h
     rw [this]
     exact ⟨by show 65533 < 2147483648; decide, by show 1 <= 4; decide, by show 1 <= _; simp⟩
   . rw [decR_ok h]
     obtain ⟨ok, hn, r', hr⟩ := dec_spec (l := a :: r) (c := (dec (a :: r)).1) (n := (dec (a :: r)).2) rfl (by omega)
     have hl := congrArg List.length hr
     rw [List.length_append] at hl
     have := ok.1
     rcases enc_cases ok with h1 | h1 | h1 | h1 <;> exact ⟨by omega, by omega, by omega⟩
theorem set_rb {T l : Tbl} {i : Nat} (h : i < T.length) (a o : AObj) : (T.set i a ++ l).set i o = T.set i o ++ l := by rw [set_app (by rw [List.length_set]; exact h), List.set_set]
theorem get_rb {T l : Tbl} {i : Nat} (h : i < T.length) (a : AObj) : (T.set i a ++ l)[i]? = some a := by rw [get_app (by rw [List.length_set]; exact h), List.getElem?_set_self h]
theorem get_rl {T : Tbl} {i : Nat} (a o : AObj) : (T.set i a ++ [o])[T.length]? = some o := by rw [List.getElem?_append_right (by rw [List.length_set]; exact Nat.le_refl _), List.length_set, Nat.sub_self]; rfl
theorem set_rl {T : Tbl} {i : Nat} (a o x : AObj) : (T.set i a ++ [o]).set T.length x = T.set i a ++ [x] := by rw [List.set_append_right _ _ (by rw [List.length_set]; exact Nat.le_refl _), List.length_set, Nat.sub_self]; rfl
theorem text_ok {T : Tbl} {i : Nat} {l : List UInt8} (hl : l.length <= 1099511627776) (hi : T[i]? = some (rdr l)) : CallP prog G 46 [.ptr i 0] T
 (fun v T' es => ∃ s r, txtQ l = some (s, r) /\ v = str s /\ T' = T.set i (rdr r) /\ es = [(i, false)]) (fun v T' es => txtQ l = none /\ v = eno 5 /\ (∃ m, T' = T.set i (rdr m)) /\ es = [(i, false)]) := by
 refine CallP.wf fun wf => ?_
 have hil := (List.getElem?_eq_some_iff.1 hi).1
 refine CallP.enterV Tryz.mp 7 func46 ntmps46 (congrArg Array.toList results46) rfl ⟨by simp, by simp⟩ (by kernel_rfl) (by kernel_rfl) ?_
 simp -dsimp +decide only [vb, Tryz.mpf, vsk, vr, ty, en, ↓reduceIte, Nat.reduceSub, Nat.reduceAdd, Nat.reduceMul, Nat.reduceLT, Int.reduceAdd, Int.reduceSub, Int.reduceToNat, ci]
 refine (is_ok (c := 34) hi).det' ?_
 simp -dsimp +decide (disch := omega) only [vb, Tryz.mpf, vsk, vr, ty, en, ↓reduceIte, Nat.reduceSub, Nat.reduceAdd, Nat.reduceMul, Nat.reduceLT, Int.reduceAdd, Int.reduceSub, Int.reduceToNat, ci, vi, getO_i, vt]
 by_cases hq : l.head? = some 34
 rotate_left
 . rw [decide_eq_false hq, if_neg hq, set_self hi]
   refine (need_ok _).mono ?_ ?_
   . rintro v T' es ⟨h, -⟩
     cases h
   . rintro v T' es ⟨-, rfl, rfl, rfl⟩
     simp -dsimp +decide (disch := omega) only [vb, Tryz.mpf, vsk, vr, ty, en, ↓reduceIte, Nat.reduceSub, Nat.reduceAdd, Nat.reduceMul, Nat.reduceLT, Int.reduceAdd, Int.reduceSub, Int.reduceToNat, ci, vi, getO_i, vt]
     refine Vw.eff (E' := [(i, false)]) (by simp [rec1_in hil]) (Vw.done ⟨if_neg hq, rfl, ⟨l, (set_self hi).symm⟩, rfl⟩)
 have eq : txtQ l = txtF l.tail [] := if_pos hq
 rw [eq, decide_eq_true hq, if_pos hq]
 refine (need_ok _).mono ?_ ?_
 rotate_left
 . rintro v T' es ⟨h, -⟩
   cases h
 rintro v T' es ⟨-, rfl, rfl, rfl⟩
 simp -dsimp +decide (disch := omega) only [vb, Tryz.mpf, vsk, vr, ty, en, ↓reduceIte, Nat.reduceSub, Nat.reduceAdd, Nat.reduceMul, Nat.reduceLT, Int.reduceAdd, Int.reduceSub, Int.reduceToNat, ci, vi, getO_i, vt]
 have hlt : l.tail.length <= l.length := by rw [List.length_tail]; omega
 have hi0 : (T.set i (rdr l.tail)).length = T.length := List.length_set
 refine SemB.adopt 3 5 1 Nat.one_pos rfl ?_
 simp -dsimp +decide (disch := omega) only [vb, Tryz.mpf, vsk, vr, ty, en, ↓reduceIte, Nat.reduceSub, Nat.reduceAdd, Nat.reduceMul, Nat.reduceLT, Int.reduceAdd, Int.reduceSub, Int.reduceToNat, ci, vi, getO_i, vt]
 refine SemB.loopS (fun s : B × B => [(0, .ptr i 0), (3, .sl T.length 0 s.2.length)]) (fun s => T.set i (rdr s.1) ++ [bf s.2]) (fun s => txtF s.1 s.2 = txtF l.tail [] /\ s.2.length + 4 * s.1.length <= 4 * l.length) (fun s => s.1.length) (l.tail, []) [(i, false)] 0
  (fun s : B × B => [(3, .sl T.length 0 s.2.length)]) (fun s => T.set i (rdr s.1) ++ [bf s.2]) (fun s => txtF l.tail [] = some (s.2, s.1)) ⟨rfl, by simp; omega⟩ ⟨rfl, rfl, rfl⟩ rfl (by simp [rec1_in hil]) ?_ ?_
 . rintro ⟨m, out⟩ g ⟨hm, hlen⟩
   dsimp only at hm hlen
   refine SemB.of (by kernel_rfl) ?_
   have hset := fun (x : List UInt8) (o : AObj) => set_rb (l := [bf out]) hil (rdr x) o
   have hgi := fun (x : List UInt8) => get_rb (l := [bf out]) hil (rdr x)
   have hgi' := fun (x : List UInt8) => (hgi x).trans (congrArg some (show rdr x = .cells 52 [bl x] from rfl))
   have hl0 : ∀ x : B, (T.set i (rdr x)).length = T.length := fun _ => List.length_set
   have hgl := fun (x : List UInt8) => get_rl (T := T) (i := i) (rdr x) (bf out)
   have hgi2 := fun (x : List UInt8) (o : AObj) => (get_rb (l := [o]) hil (rdr x)).trans (congrArg some (show rdr x = .cells 52 [bl x] from rfl))
   have hset2 := fun (x : List UInt8) (b o : AObj) => set_rb (l := [b]) hil (rdr x) o
   have hwm : (T.set i (rdr m)).map (AObj.wo fun x => x == T.length) = T.set i (rdr m) := set_wo (wf _ fun j hj => by simp; omega).1 i m
   have hib : (i == T.length) = false := by simp; omega
   have hglb := fun (x : List UInt8) => (hgl x).trans (congrArg some (show bf out = .buf 5 1 (out.map by8) from rfl))
   have hsl := fun (x : List UInt8) (o : AObj) => set_rl (T := T) (i := i) (rdr x) (bf out) o
   have wc : ∀ x : B, (T.set i (rdr x)).map (AObj.wo (T.length <= ·)) = T.set i (rdr x) := fun x => set_wo (wf _ fun j hj => decide_eq_false (by omega)).1 i x
   have wq : ∀ x : B, (T.set i (rdr x) ++ [bf out]).map (AObj.wo fun x => x == T.length) = T.set i (rdr x) ++ [bf out] := fun x => by
    rw [List.map_append, set_wo (wf _ fun j hj => by simp; omega).1 i x, List.map_cons, List.map_nil, bf_wo]
   simp -dsimp +decide (disch := omega) only [vb, Tryz.mpf, vsk, vr, ty, en, ↓reduceIte, Nat.reduceSub, Nat.reduceAdd, Nat.reduceMul, Nat.reduceLT, Int.reduceAdd, Int.reduceSub, Int.reduceToNat, ci, vi, getO_i, vt]
   refine (is_ok (c := 34) (hgi m)).det' ?_
   rw [hset]
   by_cases h34 : m.head? = some 34
   . rw [if_pos h34, decide_eq_true h34]
     simp -dsimp +decide (disch := omega) only [vb, Tryz.mpf, vsk, vr, ty, en, ↓reduceIte, Nat.reduceSub, Nat.reduceAdd, Nat.reduceMul, Nat.reduceLT, Int.reduceAdd, Int.reduceSub, Int.reduceToNat, ci, vi, getO_i, vt]
     exact ⟨(m.tail, out), by rw [<- hm, txtF_eq, if_pos h34], SeeL.done ⟨rfl, ⟨rfl, rfl⟩, rfl, by simp [rec1_in hil]⟩⟩
   rw [if_neg h34, decide_eq_false h34]
   simp -dsimp +decide (disch := omega) only [vb, Tryz.mpf, vsk, vr, ty, en, ↓reduceIte, Nat.reduceSub, Nat.reduceAdd, Nat.reduceMul, Nat.reduceLT, Int.reduceAdd, Int.reduceSub, Int.reduceToNat, ci, vi, getO_i, vt]
   refine (is_ok (c := 92) (hgi m)).det' ?_
   rw [hset]
   by_cases h92 : m.head? = some 92
   . rw [if_pos h92, decide_eq_true h92]
     have hesc : ∀ c r, esc m.tail = some (c, r) -> txtF m out = txtF r (out ++ enc c) := fun c r h => by rw [txtF_eq, if_neg h34, if_pos h92, h]
     have hesn : esc m.tail = none -> txtF m out = none := fun h => by rw [txtF_eq, if_neg h34, if_pos h92, h]
     have hml : m.tail.length <= m.length := by rw [List.length_tail]; omega
     simp -dsimp +decide (disch := omega) only [vb, Tryz.mpf, vsk, vr, ty, en, ↓reduceIte, Nat.reduceSub, Nat.reduceAdd, Nat.reduceMul, Nat.reduceLT, Int.reduceAdd, Int.reduceSub, Int.reduceToNat, ci, vi, getO_i, vt]
     refine (escape_ok (hgi m.tail)).mono ?_ ?_
     . rintro v T' es ⟨n, r, he, rfl, rfl, rfl⟩
       obtain ⟨ok, hrl⟩ := esc_spec he
       rw [hset]
       simp -dsimp +decide (disch := omega) only [vb, Tryz.mpf, vsk, vr, ty, en, ↓reduceIte, Nat.reduceSub, Nat.reduceAdd, Nat.reduceMul, Nat.reduceLT, Int.reduceAdd, Int.reduceSub, Int.reduceToNat, ci, vi, getO_i, vt]
       refine (arun_ok (hgl r) (by omega) ok (wq r)).mono ?_
       rintro v T' es ⟨rfl, rfl, rfl⟩
       rw [hsl]
       simp -dsimp +decide (disch := omega) only [vb, Tryz.mpf, vsk, vr, ty, en, ↓reduceIte, Nat.reduceSub, Nat.reduceAdd, Nat.reduceMul, Nat.reduceLT, Int.reduceAdd, Int.reduceSub, Int.reduceToNat, ci, vi, getO_i, vt, hib]
       have he4 : (enc n).length <= 4 := by rcases enc_cases ok with h | h | h | h <;> omega
       have hmt : m.tail.length + 1 = m.length := tail_len h92
       exact ⟨(r, out ++ enc n), ⟨⟨by rw [<- hm, hesc n r he], by dsimp only; rw [List.length_append]; omega⟩, by dsimp only; omega⟩, SeeL.done ⟨rfl, ⟨rfl, rfl, rfl⟩, rfl, by simp [rec1_in hil]⟩⟩
     . rintro v T' es ⟨he, rfl, ⟨r, rfl⟩, rfl⟩
       rw [hset]
       simp -dsimp +decide (disch := omega) only [vb, Tryz.mpf, vsk, vr, ty, en, ↓reduceIte, Nat.reduceSub, Nat.reduceAdd, Nat.reduceMul, Nat.reduceLT, Int.reduceAdd, Int.reduceSub, Int.reduceToNat, ci, vi, getO_i, vt]
       exact Vw.eff (E' := [(i, false)]) (by simp [rec1_in hil]) (Vw.drop (hl0 r) (wc r) ⟨by rw [<- hm, hesn he], eno_wo _ _, ⟨r, rfl⟩, rfl⟩)
   rw [if_neg h92, decide_eq_false h92]
   simp -dsimp +decide (disch := omega) only [vb, Tryz.mpf, vsk, vr, ty, en, ↓reduceIte, Nat.reduceSub, Nat.reduceAdd, Nat.reduceMul, Nat.reduceLT, Int.reduceAdd, Int.reduceSub, Int.reduceToNat, ci, vi, getO_i, vt, vbl, hgi']
   refine drune_ok.det ?_
   have hb := run_bad (m := m)
   obtain ⟨hd1, hd2, hd3⟩ := decR_lt m
   have hdd : ¬ ((dec m).2 = 0 ∨ (dec m).1 < 32) -> decR m = dec m := fun h => by
    cases m with
    | nil => exact absurd (.inl rfl) h
    | cons a r => exact decR_ok fun e => h (.inl e)
   generalize decR m = p at hb hd1 hd2 hd3 hdd ⊢
   obtain ⟨c, n⟩ := p
   dsimp only at hb hd1 hd2 hd3 ⊢
   simp -dsimp +decide (disch := omega) only [vb, Tryz.mpf, vsk, vr, ty, en, ↓reduceIte, Nat.reduceSub, Nat.reduceAdd, Nat.reduceMul, Nat.reduceLT, Int.reduceAdd, Int.reduceSub, Int.reduceToNat, ci, vi, getO_i, vt, vres, vone]
   have hx0 : ∀ (b : Bool), b = false -> ((dec m).2 = 0 ∨ (dec m).1 < 32) -> CallP prog G 31 [.p (.bool b)] (T.set i (rdr m) ++ [bf out]) (fun _ _ _ => False) fun v T' es => ((dec m).2 = 0 ∨ (dec m).1 < 32) /\ v = eno 5 /\ T' = T.set i (rdr m) ++ [bf out] /\ es = [] := fun b hb hd => (need_ok b).mono (fun v T' es h => by rw [hb] at h; cases h.1) fun v T' es h => ⟨hd, h.2⟩
   by_cases b1 : n = 0
   . have c1 : ((0 : Int) < (n : Int)) = False := eq_false (by omega)
     simp -dsimp +decide (disch := omega) only [vb, Tryz.mpf, vsk, vr, ty, en, ↓reduceIte, Nat.reduceSub, Nat.reduceAdd, Nat.reduceMul, Nat.reduceLT, Int.reduceAdd, Int.reduceSub, Int.reduceToNat, ci, vi, getO_i, vt, c1, bb2]
     refine (hx0 _ rfl (hb.2 (.inl b1))).mono (fun _ _ _ h => h.elim) ?_
     rintro v T' es ⟨he, rfl, rfl, rfl⟩
     simp -dsimp +decide (disch := omega) only [vb, Tryz.mpf, vsk, vr, ty, en, ↓reduceIte, Nat.reduceSub, Nat.reduceAdd, Nat.reduceMul, Nat.reduceLT, Int.reduceAdd, Int.reduceSub, Int.reduceToNat, ci, vi, getO_i, vt]
     exact Vw.eff (E' := [(i, false)]) (by simp [rec1_in hil]) (Vw.drop (hl0 m) (wc m) ⟨by rw [<- hm, txtF_bad h34 h92 he], eno_wo _ _, ⟨m, rfl⟩, rfl⟩)
   have c1 : ((0 : Int) < (n : Int)) = True := eq_true (by omega)
   by_cases b2 : c < 32
   . have c2 : ((32 : Int) <= (c : Int)) = False := eq_false (by omega)
     simp -dsimp +decide (disch := omega) only [vb, Tryz.mpf, vsk, vr, ty, en, ↓reduceIte, Nat.reduceSub, Nat.reduceAdd, Nat.reduceMul, Nat.reduceLT, Int.reduceAdd, Int.reduceSub, Int.reduceToNat, ci, vi, getO_i, vt, c1, c2, bb2]
     refine (hx0 _ rfl (hb.2 (.inr (.inl b2)))).mono (fun _ _ _ h => h.elim) ?_
     rintro v T' es ⟨he, rfl, rfl, rfl⟩
     simp -dsimp +decide (disch := omega) only [vb, Tryz.mpf, vsk, vr, ty, en, ↓reduceIte, Nat.reduceSub, Nat.reduceAdd, Nat.reduceMul, Nat.reduceLT, Int.reduceAdd, Int.reduceSub, Int.reduceToNat, ci, vi, getO_i, vt]
     exact Vw.eff (E' := [(i, false)]) (by simp [rec1_in hil]) (Vw.drop (hl0 m) (wc m) ⟨by rw [<- hm, txtF_bad h34 h92 he], eno_wo _ _, ⟨m, rfl⟩, rfl⟩)
   have c2 : ((32 : Int) <= (c : Int)) = True := eq_true (by omega)
   by_cases b3 : c = 65533 /\ n <= 1
   . have c3 : ((c : Int) = 65533) = True := eq_true (by omega)
     have c4 : ((1 : Int) < (n : Int)) = False := eq_false (by omega)
     simp -dsimp +decide (disch := omega) only [vb, Tryz.mpf, vsk, vr, ty, en, ↓reduceIte, Nat.reduceSub, Nat.reduceAdd, Nat.reduceMul, Nat.reduceLT, Int.reduceAdd, Int.reduceSub, Int.reduceToNat, ci, vi, getO_i, vt, c1, c2, c3, c4, bb2]
     refine (hx0 _ rfl (hb.2 (.inr (.inr b3)))).mono (fun _ _ _ h => h.elim) ?_
     rintro v T' es ⟨he, rfl, rfl, rfl⟩
     simp -dsimp +decide (disch := omega) only [vb, Tryz.mpf, vsk, vr, ty, en, ↓reduceIte, Nat.reduceSub, Nat.reduceAdd, Nat.reduceMul, Nat.reduceLT, Int.reduceAdd, Int.reduceSub, Int.reduceToNat, ci, vi, getO_i, vt]
     exact Vw.eff (E' := [(i, false)]) (by simp [rec1_in hil]) (Vw.drop (hl0 m) (wc m) ⟨by rw [<- hm, txtF_bad h34 h92 he], eno_wo _ _, ⟨m, rfl⟩, rfl⟩)
   have hgood : ¬ ((dec m).2 = 0 ∨ (dec m).1 < 32) := fun h => by
    rcases hb.1 h with h | h | h
    . exact b1 h
    . exact b2 h
    . exact b3 h
   have hgo := txtF_go (out := out) h34 h92 hgood
   rw [<- hdd hgood] at hgo
   dsimp only at hgo
   have hlt2 : (m.take n).length = n := by rw [List.length_take]; omega
   have hld : (m.drop n).length = m.length - n := List.length_drop
   have hdn : (m.drop n).take (m.length - n) = m.drop n := List.take_of_length_le (by rw [hld]; exact Nat.le_refl _)
   by_cases b4 : c = 65533
   . have c3 : ((c : Int) = 65533) = True := eq_true (by omega)
     have c4 : ((1 : Int) < (n : Int)) = True := eq_true (by omega)
     simp -dsimp +decide (disch := omega) only [vb, Tryz.mpf, vsk, vr, ty, en, ↓reduceIte, Nat.reduceSub, Nat.reduceAdd, Nat.reduceMul, Nat.reduceLT, Int.reduceAdd, Int.reduceSub, Int.reduceToNat, ci, vi, getO_i, vt, c1, c2, c3, c4, bb2]
     refine (need_ok _).mono ?_ ?_
     rotate_left
     . rintro v T' es ⟨h, -⟩
       cases h
     rintro v T' es ⟨-, rfl, rfl, rfl⟩
     simp -dsimp +decide (disch := omega) only [vb, Tryz.mpf, vsk, vr, ty, en, ↓reduceIte, Nat.reduceSub, Nat.reduceAdd, Nat.reduceMul, Nat.reduceLT, Int.reduceAdd, Int.reduceSub, Int.reduceToNat, ci, vi, getO_i, vt, vbl, hgi', hglb, hib, hwm, bf_wo, hsl, hgi2, hset2, Int.toNat_natCast]
     rw [List.drop_zero, hlt2]
     refine ⟨by omega, ⟨Nat.zero_le _, hd3⟩, ⟨by omega, by omega⟩, ?_⟩
     rw [hdn]
     exact ⟨by omega, ⟨hd3, Nat.le_refl _⟩, rfl, (m.drop n, out ++ m.take n), ⟨⟨by rw [<- hm, hgo], by dsimp only; rw [List.length_append, hlt2, hld]; omega⟩, by dsimp only; rw [hld]; omega⟩, SeeL.done ⟨rfl, ⟨rfl, by dsimp only; rw [List.length_append, hlt2]; rfl, rfl⟩, rfl, by simp [rec1_in hil]⟩⟩
   . have c3 : ((c : Int) = 65533) = False := eq_false (by omega)
     simp -dsimp +decide (disch := omega) only [vb, Tryz.mpf, vsk, vr, ty, en, ↓reduceIte, Nat.reduceSub, Nat.reduceAdd, Nat.reduceMul, Nat.reduceLT, Int.reduceAdd, Int.reduceSub, Int.reduceToNat, ci, vi, getO_i, vt, c1, c2, c3, bb2]
     refine (need_ok _).mono ?_ ?_
     rotate_left
     . rintro v T' es ⟨h, -⟩
       cases h
     rintro v T' es ⟨-, rfl, rfl, rfl⟩
     simp -dsimp +decide (disch := omega) only [vb, Tryz.mpf, vsk, vr, ty, en, ↓reduceIte, Nat.reduceSub, Nat.reduceAdd, Nat.reduceMul, Nat.reduceLT, Int.reduceAdd, Int.reduceSub, Int.reduceToNat, ci, vi, getO_i, vt, vbl, hgi', hglb, hib, hwm, bf_wo, hsl, hgi2, hset2, Int.toNat_natCast]
     rw [List.drop_zero, hlt2]
     refine ⟨by omega, ⟨Nat.zero_le _, hd3⟩, ⟨by omega, by omega⟩, ?_⟩
     rw [hdn]
     exact ⟨by omega, ⟨hd3, Nat.le_refl _⟩, rfl, (m.drop n, out ++ m.take n), ⟨⟨by rw [<- hm, hgo], by dsimp only; rw [List.length_append, hlt2, hld]; omega⟩, by dsimp only; rw [hld]; omega⟩, SeeL.done ⟨rfl, ⟨rfl, by dsimp only; rw [List.length_append, hlt2]; rfl, rfl⟩, rfl, by simp [rec1_in hil]⟩⟩
 . rintro ⟨m, out⟩ g tmp hs
   dsimp only at hs
   have hglb := (get_rl (T := T) (i := i) (rdr m) (bf out)).trans (congrArg some (show bf out = .buf 5 1 (out.map by8) from rfl))
   have ht : List.take out.length (List.drop 0 out) = out := by rw [List.drop_zero, List.take_length]
   simp -dsimp +decide (disch := omega) only [vb, Tryz.mpf, vsk, vr, ty, en, ↓reduceIte, Nat.reduceSub, Nat.reduceAdd, Nat.reduceMul, Nat.reduceLT, Int.reduceAdd, Int.reduceSub, Int.reduceToNat, ci, vi, getO_i, vt, hglb, ht, bytes8]
   refine ⟨Nat.le_refl _, ?_⟩
   exact Vw.drop List.length_set (set_wo (wf _ fun j hj => decide_eq_false (by omega)).1 i m) ⟨out, m, hs, str_wo _ _, rfl, rfl⟩
end Go.Proofs.YtglpcedoongagaaGreatDoor
namespace Go.Proofs.YtglpcedoongagaaGreatDoor
open Go.E Go.Proofs.YtglpcedoongagaaGreatDoor.Tryz Go.Proofs.Tryz Go.J
theorem pint_ok {T : Tbl} {l : B} (hl : l.length <= 281474976710656) (hs : Lib.parseIntB 64 l ≠ Lib.NumEnd.syntax) : CallA prog G 71 [str l, wint 10, wint 64] T fun v T' es => ((∃ z, Lib.parseIntB 64 l = .ok z /\ v = .tu [.p (.int .i64 z), .p .nilIface]) ∨ (Lib.parseIntB 64 l = .range /\ v = .tu [.p (.int .i64 (Lib.intSat 64 l)), .ic 119 .any])) /\ T' = T /\ es = [] := by
 refine CallA.ofBelow (K := fun v => (∃ z, Lib.parseIntB 64 l = .ok z /\ v = .tu [.p (.int .i64 z), .p .nilIface]) ∨ (Lib.parseIntB 64 l = .range /\ v = .tu [.p (.int .i64 (Lib.intSat 64 l)), .ic 119 .any])) ?_
 intro Z ρ w vs hG hst ha
 obtain ⟨v1, us, rfl, r1, ha⟩ := ha.uncons
 obtain ⟨v2, us, rfl, r2, ha⟩ := ha.uncons
 obtain ⟨v3, us, rfl, r3, ha⟩ := ha.uncons
 obtain rfl := ha.unnil
 obtain rfl := r1.p_inv
 obtain rfl := r2.p_inv
 obtain rfl := r3.p_inv
 have hsz : (ba l).size = l.length := ba_size l
 cases h : Lib.parseIntB 64 l with
 | ok z =>
   refine Calls.mono (Any.strconv_ParseInt_10_at64_ok sh_LaysCn174 (ba l) (by omega) z h w) ?_
   rintro e w' ⟨rfl, hw⟩
   refine ⟨_, .tu [.p (.int .i64 z), .p .nilIface], rfl, .tu (vs := [.int .i64 z, .nilIface]) rfl (fun k h1 h2 => ?_), .inl ⟨z, rfl, rfl⟩, ?_⟩
   . match k, h1 with
     | 0, _ => exact .p _
     | 1, _ => exact .p _
   . rcases hw with rfl | ⟨t, rfl⟩
     . exact .refl _ _
     . exact Lib.bytesWorld_below _ _ _
 | range =>
   obtain ⟨pe, hpe⟩ := gvar0 hG hst Ger
   refine Calls.mono (Any.strconv_ParseInt_10_at64_range sh_LaysCn174 (ba l) (by omega) h _ w hpe (.inr ⟨_, _, rfl⟩)) ?_
   rintro e w' ⟨N, rfl, -, -, hw⟩
   refine ⟨_, .tu [.p (.int .i64 (Lib.intSat 64 l)), .ic 119 .any], rfl, .tu (vs := [.int .i64 (Lib.intSat 64 l), .iface 119 (.pointer (some ⟨N, 0, none⟩))]) rfl (fun k h1 h2 => ?_), .inr ⟨rfl, rfl⟩, hw⟩
   match k, h1 with
   | 0, _ => exact .p _
   | 1, _ => exact .ic (.any _)
 | _ => exact absurd h hs
theorem dspan_step : ∀ (d : B) (j : Nat), j <= dspan d -> (j < dspan d ↔ ∃ x, d[j]? = some x /\ 48 <= x.toNat /\ x.toNat <= 57)
 | [], j, h => by simp [dspan] at h ⊢
 | x :: r, 0, _ => by
   unfold dspan
   by_cases hx : isD x = true
   . rw [if_pos hx]
     exact ⟨fun _ => ⟨x, rfl, of_decide_eq_true hx⟩, fun _ => Nat.succ_pos _⟩
   . rw [if_neg hx]
     refine ⟨fun h => absurd h (Nat.lt_irrefl 0), ?_⟩
     rintro ⟨y, e, hy⟩
     cases e
     exact absurd (decide_eq_true hy) hx
 | x :: r, j + 1, h => by
   unfold dspan at h ⊢
   by_cases hx : isD x = true
   . rw [if_pos hx] at h ⊢
     rw [List.getElem?_cons_succ, <- dspan_step r j (by omega)]
     omega
   . rw [if_neg hx] at h
     omega
theorem dlen_step (d : B) (j : Nat) (h : j <= dlen d) : j < dlen d ↔ ∃ x, d[j]? = some x /\ 48 <= x.toNat /\ x.toNat <= 57 /\ (j = 0 ∨ d.head? ≠ some 48) := by
 unfold dlen at h ⊢
 by_cases h0 : d.head? = some 48
 . rw [if_pos h0] at h ⊢
   constructor
   . intro hj
     have : j = 0 := by omega
     subst this
     cases d with
     | nil => cases h0
     | cons x r => cases h0; exact ⟨48, rfl, by decide, by decide, .inl rfl⟩
   . rintro ⟨x, -, -, -, rfl | hx⟩
     . exact Nat.one_pos
     . exact absurd h0 hx
 . rw [if_neg h0] at h ⊢
   rw [dspan_step d j h]
   exact ⟨fun ⟨x, a, b, c⟩ => ⟨x, a, b, c, .inr h0⟩, fun ⟨x, a, b, c, _⟩ => ⟨x, a, b, c⟩⟩
theorem number_ok {T : Tbl} {i : Nat} {a : UInt8} {t : List UInt8} (hl : t.length <= 1099511627776) (hi : T[i]? = some (rdr (a :: t))) : CallP prog G 50 [.ptr i 0] T
 (fun v T' es => ∃ z r, num (a :: t) = some (z, r) /\ v = .p (.int .i64 z) /\ T' = T.set i (rdr r) /\ es = [(i, false)]) (fun v T' es => num (a :: t) = none /\ v = eno 5 /\ T' = T /\ es = []) := by
 have hil := (List.getElem?_eq_some_iff.1 hi).1
 have hi' := hi
 rw [rdr] at hi
 have h0 : (0 < (((a :: t).length : Nat) : Int)) = True := eq_true (by simp)
 have hg : ((a :: t).map by8)[0]? = some (by8 a) := rfl
 have hl0 : 0 < (a :: t).length := by simp
 refine CallP.enterV Tryz.mp 7 func50 ntmps50 (congrArg Array.toList results50) rfl ⟨by simp, by simp⟩ (by kernel_rfl) (by kernel_rfl) ?_
 simp -dsimp +decide only [vb, Tryz.mpf, vsk, vr, ty, en, ↓reduceIte, Nat.reduceSub, Nat.reduceAdd, Nat.reduceMul, Nat.reduceLT, Int.reduceAdd, Int.reduceSub, Int.reduceToNat, ci]
 simp -dsimp +decide (disch := omega) only [vb, Tryz.mpf, vsk, vr, ty, en, ↓reduceIte, Nat.reduceSub, Nat.reduceAdd, Nat.reduceMul, Nat.reduceLT, Int.reduceAdd, Int.reduceSub, Int.reduceToNat, ci, vi, getO_i, vt, vbl, hi, h0, hg, hl0]
 have hti : tk prog 94 = .interface #[("Error", 69)] := by kernel_rfl
 refine CondP.dec (fun hc => ?_) (fun hc => ?_)
 . simp -dsimp +decide (disch := omega) only [vb, Tryz.mpf, vsk, vr, ty, en, ↓reduceIte, Nat.reduceSub, Nat.reduceAdd, Nat.reduceMul, Nat.reduceLT, Int.reduceAdd, Int.reduceSub, Int.reduceToNat, ci, vi, getO_i, vt]
   have hst := dlen_step ((a :: t).drop 1)
   have hle := dlen_le ((a :: t).drop 1)
   have hdl : ((a :: t).drop 1).length = t.length + 1 - 1 := by rw [List.length_drop, List.length_cons]
   have hsl : (a :: t).length = t.length + 1 := List.length_cons
   have hnum : num (a :: t) = numD true ((a :: t).drop 1) := by
    have : a = 45 := UInt8.toNat_inj.1 (by show a.toNat = 45; omega)
    subst this; exact if_pos rfl
   have hdig := take_dlen ((a :: t).drop 1)
   generalize hdd : dlen ((a :: t).drop 1) = D at hst hle hdig
   obtain ⟨K, hK⟩ : ∃ K, K = 1 + D := ⟨_, rfl⟩
   refine SemB.loopS (fun k : Nat => [(0, .ptr i 0), (3, wint (k : Int)), (4, wint 1)]) (fun _ => T) (fun k => 1 <= k /\ k <= 1 + D) (fun k => 1 + D - k) 1 [] 0
    (fun _ : Unit => [(0, .ptr i 0), (3, wint (K : Int)), (4, wint 1)]) (fun _ => T) (fun _ => True) ⟨Nat.le_refl _, by omega⟩ ⟨rfl, rfl, rfl, rfl⟩ rfl (by simp) ?_ ?_
   . rintro k g ⟨hk1, hk2⟩
     refine SemB.of (by kernel_rfl) ?_
     have hw : IntKind.i64.wrap ((k : Int) + 1) = ((k + 1 : Nat) : Int) := IntWalk.i64_in _ (by omega)
     have hk0 : (0 : Int) <= (k : Int) := Int.natCast_nonneg k
     have hstk := hst (k - 1) (by omega)
     rw [List.getElem?_drop, show 1 + (k - 1) = k by omega] at hstk
     by_cases hlt : k < (a :: t).length
     rotate_left
     . have hlt' : ((k : Int) < ((a :: t).length : Int)) = False := eq_false (by omega)
       have hkD : k = 1 + D := by omega
       rw [<- hK] at hkD
       subst hkD
       simp -dsimp +decide (disch := omega) only [vb, Tryz.mpf, vsk, vr, ty, en, ↓reduceIte, Nat.reduceSub, Nat.reduceAdd, Nat.reduceMul, Nat.reduceLT, Int.reduceAdd, Int.reduceSub, Int.reduceToNat, ci, vi, getO_i, vt, vbl, hi, hlt', bb2]
       exact ⟨(), SeeL.done ⟨rfl, ⟨rfl, rfl, rfl, rfl⟩, rfl, by simp⟩⟩
     have hlt' : ((k : Int) < ((a :: t).length : Int)) = True := eq_true (by omega)
     obtain ⟨x, hx⟩ : ∃ x, (a :: t)[k]? = some x := ⟨_, List.getElem?_eq_getElem hlt⟩
     have hgx : ((a :: t).map by8)[k]? = some (by8 x) := by rw [List.getElem?_map, hx]; rfl
     by_cases b1 : 48 <= x.toNat
     rotate_left
     . have b1' : ((48 : Int) <= (x.toNat : Int)) = False := eq_false (by omega)
       have hkD : k = 1 + D := by
        have := mt hstk.1 (fun ⟨y, e, c, _⟩ => by rw [hx] at e; cases e; exact b1 c)
        omega
       rw [<- hK] at hkD
       subst hkD
       simp -dsimp +decide (disch := omega) only [vb, Tryz.mpf, vsk, vr, ty, en, ↓reduceIte, Nat.reduceSub, Nat.reduceAdd, Nat.reduceMul, Nat.reduceLT, Int.reduceAdd, Int.reduceSub, Int.reduceToNat, ci, vi, getO_i, vt, vbl, hi, hlt', hk0, hlt, hgx, b1', bb2, Int.toNat_natCast]
       exact ⟨(), SeeL.done ⟨rfl, ⟨rfl, rfl, rfl, rfl⟩, rfl, by simp⟩⟩
     have b1' : ((48 : Int) <= (x.toNat : Int)) = True := eq_true (by omega)
     by_cases b2 : x.toNat <= 57
     rotate_left
     . have b2' : ((x.toNat : Int) <= 57) = False := eq_false (by omega)
       have hkD : k = 1 + D := by
        have := mt hstk.1 (fun ⟨y, e, _, c, _⟩ => by rw [hx] at e; cases e; exact b2 c)
        omega
       rw [<- hK] at hkD
       subst hkD
       simp -dsimp +decide (disch := omega) only [vb, Tryz.mpf, vsk, vr, ty, en, ↓reduceIte, Nat.reduceSub, Nat.reduceAdd, Nat.reduceMul, Nat.reduceLT, Int.reduceAdd, Int.reduceSub, Int.reduceToNat, ci, vi, getO_i, vt, vbl, hi, hlt', hk0, hlt, hgx, b1', b2', bb2, Int.toNat_natCast]
       exact ⟨(), SeeL.done ⟨rfl, ⟨rfl, rfl, rfl, rfl⟩, rfl, by simp⟩⟩
     have b2' : ((x.toNat : Int) <= 57) = True := eq_true (by omega)
     by_cases b3 : k = 1
     . have b3' : ((k : Int) = 1) = True := eq_true (by omega)
       have hkD : k < 1 + D := by have := hstk.2 ⟨x, hx, b1, b2, .inl (by omega)⟩; omega
       simp -dsimp +decide (disch := omega) only [vb, Tryz.mpf, vsk, vr, ty, en, ↓reduceIte, Nat.reduceSub, Nat.reduceAdd, Nat.reduceMul, Nat.reduceLT, Int.reduceAdd, Int.reduceSub, Int.reduceToNat, ci, vi, getO_i, vt, vbl, hi, hlt', hk0, hlt, hgx, b1', b2', b3', bb2, hw, Int.toNat_natCast]
       exact ⟨k + 1, ⟨⟨by omega, by omega⟩, by omega⟩, SeeL.done ⟨rfl, ⟨rfl, rfl, rfl, rfl⟩, rfl, by simp⟩⟩
     have b3' : ((k : Int) = 1) = False := eq_false (by omega)
     have hfl : 1 < (a :: t).length := by omega
     have hfl' : ((1 : Int) < ((a :: t).length : Int)) = True := eq_true (by omega)
     obtain ⟨y, hy⟩ : ∃ y, (a :: t)[1]? = some y := ⟨_, List.getElem?_eq_getElem hfl⟩
     have hgy : ((a :: t).map by8)[1]? = some (by8 y) := by rw [List.getElem?_map, hy]; rfl
     have hhd : ((a :: t).drop 1).head? = some y := by rw [List.head?_drop, hy]
     by_cases b4 : y.toNat = 48
     . have b4' : ((y.toNat : Int) = 48) = True := eq_true (by omega)
       have hkD : k = 1 + D := by
        have := mt hstk.1 (fun ⟨_, _, _, _, c⟩ => c.elim (fun e => b3 (by omega)) fun e => e (by rw [hhd, <- UInt8.toNat_inj.1 (show y.toNat = (48 : UInt8).toNat from b4)]))
        omega
       rw [<- hK] at hkD
       subst hkD
       simp -dsimp +decide (disch := omega) only [vb, Tryz.mpf, vsk, vr, ty, en, ↓reduceIte, Nat.reduceSub, Nat.reduceAdd, Nat.reduceMul, Nat.reduceLT, Int.reduceAdd, Int.reduceSub, Int.reduceToNat, ci, vi, getO_i, vt, vbl, hi, hlt', hk0, hlt, hgx, b1', b2', b3', hfl, hfl', hgy, b4', bb2, Int.toNat_natCast]
       exact ⟨(), SeeL.done ⟨rfl, ⟨rfl, rfl, rfl, rfl⟩, rfl, by simp⟩⟩
     . have b4' : ((y.toNat : Int) = 48) = False := eq_false (by omega)
       have hkD : k < 1 + D := by
        have := hstk.2 ⟨x, hx, b1, b2, .inr (fun e => b4 (by rw [hhd] at e; cases e; rfl))⟩
        omega
       simp -dsimp +decide (disch := omega) only [vb, Tryz.mpf, vsk, vr, ty, en, ↓reduceIte, Nat.reduceSub, Nat.reduceAdd, Nat.reduceMul, Nat.reduceLT, Int.reduceAdd, Int.reduceSub, Int.reduceToNat, ci, vi, getO_i, vt, vbl, hi, hlt', hk0, hlt, hgx, b1', b2', b3', hfl, hfl', hgy, b4', bb2, hw, Int.toNat_natCast]
       exact ⟨k + 1, ⟨⟨by omega, by omega⟩, by omega⟩, SeeL.done ⟨rfl, ⟨rfl, rfl, rfl, rfl⟩, rfl, by simp⟩⟩
   . rintro _ g tmp -
     simp -dsimp +decide (disch := omega) only [vb, Tryz.mpf, vsk, vr, ty, en, ↓reduceIte, Nat.reduceSub, Nat.reduceAdd, Nat.reduceMul, Nat.reduceLT, Int.reduceAdd, Int.reduceSub, Int.reduceToNat, ci, vi, getO_i, vt, vbl]
     refine (need_ok _).mono ?_ ?_
     rotate_left
     . rintro v T' es ⟨hp, rfl, rfl, rfl⟩
       simp -dsimp +decide (disch := omega) only [vb, Tryz.mpf, vsk, vr, ty, en, ↓reduceIte, Nat.reduceSub, Nat.reduceAdd, Nat.reduceMul, Nat.reduceLT, Int.reduceAdd, Int.reduceSub, Int.reduceToNat, ci, vi, getO_i, vt]
       have hD : D = 0 := by have := of_decide_eq_false hp; omega
       exact Vw.done ⟨by rw [hnum, numD, if_pos (by rw [hdd, hD])], rfl, rfl, rfl⟩
     rintro v T es ⟨hp, rfl, rfl, rfl⟩
     have hD : 0 < D := by have := of_decide_eq_true hp; omega
     have hne : ((a :: t).drop 1).take D ≠ [] := fun e => by
      have := congrArg List.length e
      rw [List.length_take, hdl, List.length_nil] at this
      omega
     have hp64 : Lib.parseIntB 64 ((a :: t).take K) = if dval (((a :: t).drop 1).take D) <= 2 ^ 63 then .ok (-(dval (((a :: t).drop 1).take D) : Int)) else .range := by
      have : a = 45 := UInt8.toNat_inj.1 (by show a.toNat = 45; omega)
      subst this
      rw [hK, Nat.add_comm 1 D, List.take_succ_cons]
      exact parseInt_neg hdig hne
     have hnum2 : num (a :: t) = if dval (((a :: t).drop 1).take D) <= 2 ^ 63 then some (-(dval (((a :: t).drop 1).take D) : Int), (a :: t).drop K) else none := by
      rw [hnum, numD, hdd, if_neg (by omega), if_pos rfl, List.drop_drop, hK]
     have hKl : K <= (a :: t).length := by omega
     have htl : ((a :: t).take K).length = K := by rw [List.length_take]; omega
     have hdr : ((a :: t).drop K).take ((a :: t).length - K) = (a :: t).drop K := List.take_of_length_le (by rw [List.length_drop]; omega)
     have hsyn : Lib.parseIntB 64 ((a :: t).take K) ≠ Lib.NumEnd.syntax := by rw [hp64]; split <;> (intro e; cases e)
     simp -dsimp +decide (disch := omega) only [vb, Tryz.mpf, vsk, vr, ty, en, ↓reduceIte, Nat.reduceSub, Nat.reduceAdd, Nat.reduceMul, Nat.reduceLT, Int.reduceAdd, Int.reduceSub, Int.reduceToNat, ci, vi, getO_i, vt, vbl, hi, bytes8, Int.toNat_natCast]
     refine ⟨by omega, ⟨Nat.zero_le _, hKl⟩, ?_⟩
     rw [List.drop_zero]
     refine (pint_ok (l := (a :: t).take K) (by omega) hsyn).mono ?_
     rintro v T' es ⟨⟨z, hz, rfl⟩ | ⟨hz, rfl⟩, rfl, rfl⟩
     . simp -dsimp +decide (disch := omega) only [vb, Tryz.mpf, vsk, vr, ty, en, ↓reduceIte, Nat.reduceSub, Nat.reduceAdd, Nat.reduceMul, Nat.reduceLT, Int.reduceAdd, Int.reduceSub, Int.reduceToNat, ci, vi, getO_i, vt, vbl, hi, vres, vone, vni, vnn hti, hti, bb2]
       refine (need_ok _).mono ?_ ?_
       rotate_left
       . rintro v T' es ⟨h, -⟩
         cases h
       rintro v T' es ⟨-, rfl, rfl, rfl⟩
       simp -dsimp +decide (disch := omega) only [vb, Tryz.mpf, vsk, vr, ty, en, ↓reduceIte, Nat.reduceSub, Nat.reduceAdd, Nat.reduceMul, Nat.reduceLT, Int.reduceAdd, Int.reduceSub, Int.reduceToNat, ci, vi, getO_i, vt, vbl, hi, Int.toNat_natCast]
       refine ⟨by omega, ⟨hKl, Nat.le_refl _⟩, rfl, ?_⟩
       rw [hdr]
       have hcnd : num (a :: t) = some (z, (a :: t).drop K) := by
        rw [hp64] at hz
        rw [hnum2]
        split at hz
        . rename_i hcc; rw [if_pos hcc]; cases hz; rfl
        . cases hz
       exact Vw.done ⟨z, _, hcnd, rfl, rfl, by rw [rec1_in hil]⟩
     . simp -dsimp +decide (disch := omega) only [vb, Tryz.mpf, vsk, vr, ty, en, ↓reduceIte, Nat.reduceSub, Nat.reduceAdd, Nat.reduceMul, Nat.reduceLT, Int.reduceAdd, Int.reduceSub, Int.reduceToNat, ci, vi, getO_i, vt, vbl, hi, vres, vone, vni, vnn hti, hti, bb2]
       refine (need_ok _).mono ?_ ?_
       . rintro v T' es ⟨h, -⟩
         cases h
       rintro v T' es ⟨-, rfl, rfl, rfl⟩
       simp -dsimp +decide (disch := omega) only [vb, Tryz.mpf, vsk, vr, ty, en, ↓reduceIte, Nat.reduceSub, Nat.reduceAdd, Nat.reduceMul, Nat.reduceLT, Int.reduceAdd, Int.reduceSub, Int.reduceToNat, ci, vi, getO_i, vt]
       have hcnd : num (a :: t) = none := by
        rw [hp64] at hz
        rw [hnum2]
        split at hz
        . cases hz
        . rename_i hcc; rw [if_neg hcc]
       exact Vw.done ⟨hcnd, rfl, rfl, rfl⟩
 . simp -dsimp +decide (disch := omega) only [vb, Tryz.mpf, vsk, vr, ty, en, ↓reduceIte, Nat.reduceSub, Nat.reduceAdd, Nat.reduceMul, Nat.reduceLT, Int.reduceAdd, Int.reduceSub, Int.reduceToNat, ci, vi, getO_i, vt]
   have hst := dlen_step ((a :: t).drop 0)
   have hle := dlen_le ((a :: t).drop 0)
   have hdl : ((a :: t).drop 0).length = t.length + 1 - 0 := by rw [List.length_drop, List.length_cons]
   have hsl : (a :: t).length = t.length + 1 := List.length_cons
   have hnum : num (a :: t) = numD false ((a :: t).drop 0) := if_neg (fun e => hc (by cases e; rfl))
   have hdig := take_dlen ((a :: t).drop 0)
   generalize hdd : dlen ((a :: t).drop 0) = D at hst hle hdig
   obtain ⟨K, hK⟩ : ∃ K, K = 0 + D := ⟨_, rfl⟩
   refine SemB.loopS (fun k : Nat => [(0, .ptr i 0), (3, wint (k : Int)), (4, wint 0)]) (fun _ => T) (fun k => 0 <= k /\ k <= 0 + D) (fun k => 0 + D - k) 0 [] 0
    (fun _ : Unit => [(0, .ptr i 0), (3, wint (K : Int)), (4, wint 0)]) (fun _ => T) (fun _ => True) ⟨Nat.le_refl _, by omega⟩ ⟨rfl, rfl, rfl, rfl⟩ rfl (by simp) ?_ ?_
   . rintro k g ⟨hk1, hk2⟩
     refine SemB.of (by kernel_rfl) ?_
     have hw : IntKind.i64.wrap ((k : Int) + 1) = ((k + 1 : Nat) : Int) := IntWalk.i64_in _ (by omega)
     have hk0 : (0 : Int) <= (k : Int) := Int.natCast_nonneg k
     have hstk := hst (k - 0) (by omega)
     rw [List.getElem?_drop, show 0 + (k - 0) = k by omega] at hstk
     by_cases hlt : k < (a :: t).length
     rotate_left
     . have hlt' : ((k : Int) < ((a :: t).length : Int)) = False := eq_false (by omega)
       have hkD : k = 0 + D := by omega
       rw [<- hK] at hkD
       subst hkD
       simp -dsimp +decide (disch := omega) only [vb, Tryz.mpf, vsk, vr, ty, en, ↓reduceIte, Nat.reduceSub, Nat.reduceAdd, Nat.reduceMul, Nat.reduceLT, Int.reduceAdd, Int.reduceSub, Int.reduceToNat, ci, vi, getO_i, vt, vbl, hi, hlt', bb2]
       exact ⟨(), SeeL.done ⟨rfl, ⟨rfl, rfl, rfl, rfl⟩, rfl, by simp⟩⟩
     have hlt' : ((k : Int) < ((a :: t).length : Int)) = True := eq_true (by omega)
     obtain ⟨x, hx⟩ : ∃ x, (a :: t)[k]? = some x := ⟨_, List.getElem?_eq_getElem hlt⟩
     have hgx : ((a :: t).map by8)[k]? = some (by8 x) := by rw [List.getElem?_map, hx]; rfl
     by_cases b1 : 48 <= x.toNat
     rotate_left
     . have b1' : ((48 : Int) <= (x.toNat : Int)) = False := eq_false (by omega)
       have hkD : k = 0 + D := by
        have := mt hstk.1 (fun ⟨y, e, c, _⟩ => by rw [hx] at e; cases e; exact b1 c)
        omega
       rw [<- hK] at hkD
       subst hkD
       simp -dsimp +decide (disch := omega) only [vb, Tryz.mpf, vsk, vr, ty, en, ↓reduceIte, Nat.reduceSub, Nat.reduceAdd, Nat.reduceMul, Nat.reduceLT, Int.reduceAdd, Int.reduceSub, Int.reduceToNat, ci, vi, getO_i, vt, vbl, hi, hlt', hk0, hlt, hgx, b1', bb2, Int.toNat_natCast]
       exact ⟨(), SeeL.done ⟨rfl, ⟨rfl, rfl, rfl, rfl⟩, rfl, by simp⟩⟩
     have b1' : ((48 : Int) <= (x.toNat : Int)) = True := eq_true (by omega)
     by_cases b2 : x.toNat <= 57
     rotate_left
     . have b2' : ((x.toNat : Int) <= 57) = False := eq_false (by omega)
       have hkD : k = 0 + D := by
        have := mt hstk.1 (fun ⟨y, e, _, c, _⟩ => by rw [hx] at e; cases e; exact b2 c)
        omega
       rw [<- hK] at hkD
       subst hkD
       simp -dsimp +decide (disch := omega) only [vb, Tryz.mpf, vsk, vr, ty, en, ↓reduceIte, Nat.reduceSub, Nat.reduceAdd, Nat.reduceMul, Nat.reduceLT, Int.reduceAdd, Int.reduceSub, Int.reduceToNat, ci, vi, getO_i, vt, vbl, hi, hlt', hk0, hlt, hgx, b1', b2', bb2, Int.toNat_natCast]
       exact ⟨(), SeeL.done ⟨rfl, ⟨rfl, rfl, rfl, rfl⟩, rfl, by simp⟩⟩
     have b2' : ((x.toNat : Int) <= 57) = True := eq_true (by omega)
     by_cases b3 : k = 0
     . have b3' : ((k : Int) = 0) = True := eq_true (by omega)
       have hkD : k < 0 + D := by have := hstk.2 ⟨x, hx, b1, b2, .inl (by omega)⟩; omega
       simp -dsimp +decide (disch := omega) only [vb, Tryz.mpf, vsk, vr, ty, en, ↓reduceIte, Nat.reduceSub, Nat.reduceAdd, Nat.reduceMul, Nat.reduceLT, Int.reduceAdd, Int.reduceSub, Int.reduceToNat, ci, vi, getO_i, vt, vbl, hi, hlt', hk0, hlt, hgx, b1', b2', b3', bb2, hw, Int.toNat_natCast]
       exact ⟨k + 1, ⟨⟨by omega, by omega⟩, by omega⟩, SeeL.done ⟨rfl, ⟨rfl, rfl, rfl, rfl⟩, rfl, by simp⟩⟩
     have b3' : ((k : Int) = 0) = False := eq_false (by omega)
     have hfl : 0 < (a :: t).length := by omega
     have hfl' : ((0 : Int) < ((a :: t).length : Int)) = True := eq_true (by omega)
     obtain ⟨y, hy⟩ : ∃ y, (a :: t)[0]? = some y := ⟨_, List.getElem?_eq_getElem hfl⟩
     have hgy : ((a :: t).map by8)[0]? = some (by8 y) := by rw [List.getElem?_map, hy]; rfl
     have hhd : ((a :: t).drop 0).head? = some y := by rw [List.head?_drop, hy]
     by_cases b4 : y.toNat = 48
     . have b4' : ((y.toNat : Int) = 48) = True := eq_true (by omega)
       have hkD : k = 0 + D := by
        have := mt hstk.1 (fun ⟨_, _, _, _, c⟩ => c.elim (fun e => b3 (by omega)) fun e => e (by rw [hhd, <- UInt8.toNat_inj.1 (show y.toNat = (48 : UInt8).toNat from b4)]))
        omega
       rw [<- hK] at hkD
       subst hkD
       simp -dsimp +decide (disch := omega) only [vb, Tryz.mpf, vsk, vr, ty, en, ↓reduceIte, Nat.reduceSub, Nat.reduceAdd, Nat.reduceMul, Nat.reduceLT, Int.reduceAdd, Int.reduceSub, Int.reduceToNat, ci, vi, getO_i, vt, vbl, hi, hlt', hk0, hlt, hgx, b1', b2', b3', hfl, hfl', hgy, b4', bb2, Int.toNat_natCast]
       exact ⟨(), SeeL.done ⟨rfl, ⟨rfl, rfl, rfl, rfl⟩, rfl, by simp⟩⟩
     . have b4' : ((y.toNat : Int) = 48) = False := eq_false (by omega)
       have hkD : k < 0 + D := by
        have := hstk.2 ⟨x, hx, b1, b2, .inr (fun e => b4 (by rw [hhd] at e; cases e; rfl))⟩
        omega
       simp -dsimp +decide (disch := omega) only [vb, Tryz.mpf, vsk, vr, ty, en, ↓reduceIte, Nat.reduceSub, Nat.reduceAdd, Nat.reduceMul, Nat.reduceLT, Int.reduceAdd, Int.reduceSub, Int.reduceToNat, ci, vi, getO_i, vt, vbl, hi, hlt', hk0, hlt, hgx, b1', b2', b3', hfl, hfl', hgy, b4', bb2, hw, Int.toNat_natCast]
       exact ⟨k + 1, ⟨⟨by omega, by omega⟩, by omega⟩, SeeL.done ⟨rfl, ⟨rfl, rfl, rfl, rfl⟩, rfl, by simp⟩⟩
   . rintro _ g tmp -
     simp -dsimp +decide (disch := omega) only [vb, Tryz.mpf, vsk, vr, ty, en, ↓reduceIte, Nat.reduceSub, Nat.reduceAdd, Nat.reduceMul, Nat.reduceLT, Int.reduceAdd, Int.reduceSub, Int.reduceToNat, ci, vi, getO_i, vt, vbl]
     refine (need_ok _).mono ?_ ?_
     rotate_left
     . rintro v T' es ⟨hp, rfl, rfl, rfl⟩
       simp -dsimp +decide (disch := omega) only [vb, Tryz.mpf, vsk, vr, ty, en, ↓reduceIte, Nat.reduceSub, Nat.reduceAdd, Nat.reduceMul, Nat.reduceLT, Int.reduceAdd, Int.reduceSub, Int.reduceToNat, ci, vi, getO_i, vt]
       have hD : D = 0 := by have := of_decide_eq_false hp; omega
       exact Vw.done ⟨by rw [hnum, numD, if_pos (by rw [hdd, hD])], rfl, rfl, rfl⟩
     rintro v T es ⟨hp, rfl, rfl, rfl⟩
     have hD : 0 < D := by have := of_decide_eq_true hp; omega
     have hne : ((a :: t).drop 0).take D ≠ [] := fun e => by
      have := congrArg List.length e
      rw [List.length_take, hdl, List.length_nil] at this
      omega
     have hp64 : Lib.parseIntB 64 ((a :: t).take K) = if dval (((a :: t).drop 0).take D) < 2 ^ 63 then .ok ((dval (((a :: t).drop 0).take D) : Int)) else .range := by
      rw [hK, Nat.zero_add]
      exact parseInt_pos hdig hne
     have hnum2 : num (a :: t) = if dval (((a :: t).drop 0).take D) < 2 ^ 63 then some ((dval (((a :: t).drop 0).take D) : Int), (a :: t).drop K) else none := by
      rw [hnum, numD, hdd, if_neg (by omega), if_neg (by decide), List.drop_drop, hK]
     have hKl : K <= (a :: t).length := by omega
     have htl : ((a :: t).take K).length = K := by rw [List.length_take]; omega
     have hdr : ((a :: t).drop K).take ((a :: t).length - K) = (a :: t).drop K := List.take_of_length_le (by rw [List.length_drop]; omega)
     have hsyn : Lib.parseIntB 64 ((a :: t).take K) ≠ Lib.NumEnd.syntax := by rw [hp64]; split <;> (intro e; cases e)
     simp -dsimp +decide (disch := omega) only [vb, Tryz.mpf, vsk, vr, ty, en, ↓reduceIte, Nat.reduceSub, Nat.reduceAdd, Nat.reduceMul, Nat.reduceLT, Int.reduceAdd, Int.reduceSub, Int.reduceToNat, ci, vi, getO_i, vt, vbl, hi, bytes8, Int.toNat_natCast]
     refine ⟨by omega, ⟨Nat.zero_le _, hKl⟩, ?_⟩
     rw [List.drop_zero]
     refine (pint_ok (l := (a :: t).take K) (by omega) hsyn).mono ?_
     rintro v T' es ⟨⟨z, hz, rfl⟩ | ⟨hz, rfl⟩, rfl, rfl⟩
     . simp -dsimp +decide (disch := omega) only [vb, Tryz.mpf, vsk, vr, ty, en, ↓reduceIte, Nat.reduceSub, Nat.reduceAdd, Nat.reduceMul, Nat.reduceLT, Int.reduceAdd, Int.reduceSub, Int.reduceToNat, ci, vi, getO_i, vt, vbl, hi, vres, vone, vni, vnn hti, hti, bb2]
       refine (need_ok _).mono ?_ ?_
       rotate_left
       . rintro v T' es ⟨h, -⟩
         cases h
       rintro v T' es ⟨-, rfl, rfl, rfl⟩
       simp -dsimp +decide (disch := omega) only [vb, Tryz.mpf, vsk, vr, ty, en, ↓reduceIte, Nat.reduceSub, Nat.reduceAdd, Nat.reduceMul, Nat.reduceLT, Int.reduceAdd, Int.reduceSub, Int.reduceToNat, ci, vi, getO_i, vt, vbl, hi, Int.toNat_natCast]
       refine ⟨by omega, ⟨hKl, Nat.le_refl _⟩, rfl, ?_⟩
       rw [hdr]
       have hcnd : num (a :: t) = some (z, (a :: t).drop K) := by
        rw [hp64] at hz
        rw [hnum2]
        split at hz
        . rename_i hcc; rw [if_pos hcc]; cases hz; rfl
        . cases hz
       exact Vw.done ⟨z, _, hcnd, rfl, rfl, by rw [rec1_in hil]⟩
     . simp -dsimp +decide (disch := omega) only [vb, Tryz.mpf, vsk, vr, ty, en, ↓reduceIte, Nat.reduceSub, Nat.reduceAdd, Nat.reduceMul, Nat.reduceLT, Int.reduceAdd, Int.reduceSub, Int.reduceToNat, ci, vi, getO_i, vt, vbl, hi, vres, vone, vni, vnn hti, hti, bb2]
       refine (need_ok _).mono ?_ ?_
       . rintro v T' es ⟨h, -⟩
         cases h
       rintro v T' es ⟨-, rfl, rfl, rfl⟩
       simp -dsimp +decide (disch := omega) only [vb, Tryz.mpf, vsk, vr, ty, en, ↓reduceIte, Nat.reduceSub, Nat.reduceAdd, Nat.reduceMul, Nat.reduceLT, Int.reduceAdd, Int.reduceSub, Int.reduceToNat, ci, vi, getO_i, vt]
       have hcnd : num (a :: t) = none := by
        rw [hp64] at hz
        rw [hnum2]
        split at hz
        . cases hz
        . rename_i hcc; rw [if_neg hcc]
       exact Vw.done ⟨hcnd, rfl, rfl, rfl⟩
end Go.Proofs.YtglpcedoongagaaGreatDoor
namespace Go.E
theorem cell_at0 {w : World} {b : Nat} {cur : Array Value} {E : TypeId} (h : w.heap[b]? = some (.cells cur E (0, 0))) (j : Nat) : w.cell? ⟨b, j, none⟩ = cur[j]? /\ w.frozen? ⟨b, j, none⟩ = false := by
 constructor
 . simp [World.cell?, h]
 . simp [World.frozen?, h]
theorem put_at {α : Type} [Inhabited α] {enc : α -> Value} {w : World} {b : Nat} {cur : Array Value} {E : TypeId} (h : w.heap[b]? = some (.cells cur E (0, 0))) (q : Nat) (d : Array α) :
 ((Sort.putRow enc w b 0 d).drewN q).heap[b]? = some (.cells (Sort.putCells enc 0 d cur) E (0, 0)) /\ ∀ k, k ≠ b -> ((Sort.putRow enc w b 0 d).drewN q).heap[k]? = w.heap[k]? := by
 have hb := (Array.getElem?_eq_some_iff.1 h).1
 constructor
 . show (w.heap.modify b _)[b]? = _
   rw [Array.getElem?_modify, if_pos rfl, h]; rfl
 . intro k hk
   show (w.heap.modify b _)[k]? = _
   rw [Array.getElem?_modify, if_neg (Ne.symm hk)]
theorem put_list {α : Type} [Inhabited α] {enc : α -> Value} {cur : List Value} {d : List α} (hd : d.length <= cur.length) : (Sort.putCells enc 0 d.toArray cur.toArray).toList = d.map enc ++ cur.drop d.length := by
 refine List.ext_getElem? fun k => ?_
 rw [Array.getElem?_toList, Sort.putCells, Array.getElem?_mapIdx, List.getElem?_toArray]
 by_cases hk : k < d.length
 . rw [List.getElem?_append_left (by rw [List.length_map]; exact hk), List.getElem?_map, List.getElem?_eq_getElem hk, List.getElem?_eq_getElem (show k < cur.length by omega)]
   simp only [Option.map_some, Nat.zero_le, Nat.zero_add, true_and, Nat.sub_zero, List.size_toArray]
   rw [if_pos hk, getElem!_pos d.toArray k (by simpa using hk)]; simp
 . rw [List.getElem?_append_right (by rw [List.length_map]; omega), List.length_map, List.getElem?_drop, show d.length + (k - d.length) = k by omega]
   cases hc : cur[k]? with
   | none => rfl
   | some v =>
     simp only [Option.map_some, Nat.zero_le, Nat.zero_add, true_and, List.size_toArray]
     rw [if_neg (by omega)]
end Go.E
namespace Go.Proofs.YtglpcedoongagaaGreatDoor
open Go.E Go.Proofs.YtglpcedoongagaaGreatDoor.Tryz Go.Proofs.Tryz Go.J Go.Proofs
theorem dd_eq (u : Nat) : Lib.decDigits u = dn u := by
 induction u using Nat.strongRecOn with
 | ind u ih =>
   rw [Lib.decDigits, dn]
   split
   . rfl
   . rw [ih _ (by omega)]
theorem dn_nd (u : Nat) : (dn u).length = Lib.nDigits u := by rw [<- dd_eq, Lib.decDigits_length]
theorem small_ok {T : Tbl} {i : Nat} (h : i < 100) : CallA prog G 90 [wint (i : Int)] T fun v T' es => v = str (dn i) /\ T' = T /\ es = [] := by
 refine CallA.ofBelow (K := fun v => v = str (dn i)) ?_
 intro Z ρ w vs hG hst ha
 obtain ⟨v1, us, rfl, r1, ha⟩ := ha.uncons
 obtain rfl := ha.unnil
 obtain rfl := r1.p_inv
 refine Calls.mono (Any.internal_strconv_small { sh_LaysCn174 with } i h w) ?_
 rintro e w' ⟨rfl, rfl⟩
 rw [dd_eq]
 exact ⟨_, str (dn i), rfl, .p _, rfl, .refl _ _⟩
theorem len64_ok {T : Tbl} {u : UInt64} : CallA prog G 102 [.p (.int .u64 (u.toNat : Int))] T fun v T' es => v = wint (Lib.bitLen u.toNat : Int) /\ T' = T /\ es = [] := by
 refine CallA.ofBelow (K := fun v => v = wint (Lib.bitLen u.toNat : Int)) ?_
 intro Z ρ w vs hG hst ha
 obtain ⟨v1, us, rfl, r1, ha⟩ := ha.uncons
 obtain rfl := ha.unnil
 obtain rfl := r1.p_inv
 have := u.toNat_lt
 refine Calls.mono (Any.bits_Len64 { sh_LaysCn174 with } (u.toNat : Int) w (by omega) (by omega)) ?_
 rintro e w' ⟨rfl, rfl⟩
 exact ⟨_, wint _, rfl, .p _, rfl, .refl _ _⟩
theorem l10_ok {T : Tbl} {x : Nat} (h : x <= 64) : CallA prog G 101 [wint (x : Int)] T fun v T' es => v = wint (Lib.l10 x : Int) /\ T' = T /\ es = [] := by
 refine CallA.ofBelow (K := fun v => v = wint (Lib.l10 x : Int)) ?_
 intro Z ρ w vs hG hst ha
 obtain ⟨v1, us, rfl, r1, ha⟩ := ha.uncons
 obtain rfl := ha.unnil
 obtain rfl := r1.p_inv
 refine Calls.mono (Any.internal_strconv_log10Pow2 { sh_LaysCn174 with } x h w) ?_
 rintro e w' ⟨rfl, rfl⟩
 exact ⟨_, wint _, rfl, .p _, rfl, .refl _ _⟩
theorem b2_ok {T : Tbl} {b : Bool} : CallA prog G 103 [.p (.bool b)] T fun v T' es => v = wint (if b then 1 else 0) /\ T' = T /\ es = [] := by
 refine CallA.ofBelow (K := fun v => v = wint (if b then 1 else 0)) ?_
 intro Z ρ w vs hG hst ha
 obtain ⟨v1, us, rfl, r1, ha⟩ := ha.uncons
 obtain rfl := ha.unnil
 obtain rfl := r1.p_inv
 refine Calls.mono (Any.internal_strconv_bool2_int { sh_LaysCn174 with } b w) ?_
 rintro e w' ⟨rfl, rfl⟩
 exact ⟨_, wint _, rfl, .p _, rfl, .refl _ _⟩
theorem fmt_ok {T : Tbl} {i : Nat} {u : UInt64} {l : List UInt8} {E : TypeId} (hT : T[i]? = some (.cells E (l.map by8))) (hl : Lib.nDigits u.toNat <= l.length) :
 CallA prog G 92 [.sl i 0 (Lib.nDigits u.toNat), .p (.int .u64 (u.toNat : Int))] T fun v T' es => v = .p (.tuple #[]) /\ T' = T.set i (.cells E ((dn u.toNat ++ l.drop (dn u.toNat).length).map by8)) /\ es = [(i, false)] := by
 intro Z ρ w vs hG hs ha
 obtain ⟨v1, us, rfl, r1, ha⟩ := ha.uncons
 obtain ⟨v2, us, rfl, r2, ha⟩ := ha.uncons
 obtain rfl := ha.unnil
 obtain rfl := r2.p_inv
 have hu := u.toNat_lt
 have hnp := Lib.nDigits_pos u.toNat
 obtain ⟨n, hn⟩ : ∃ n, Lib.nDigits u.toNat = n := ⟨_, rfl⟩
 have hdn : (dn u.toNat).length = n := by rw [dn_nd, hn]
 rw [hn] at r1 hl hnp
 cases r1 with
 | @sl _ _ _ _ c x ad hx hae hc h0 =>
 obtain ⟨hg, blk, vs, e1, e2, e3⟩ := hs.obj _ _ x hT hx
 rw [hae (.inr rfl), e1]
 have hvs : vs = l.map fun b => Value.int .u8 (b.toNat : Int) := by
  refine List.ext_getElem? fun k => ?_
  have hlen := e3.1
  rw [List.length_map] at hlen
  by_cases hk : k < l.length
  . have h1 : (l.map by8)[k]? = some (by8 l[k]) := by rw [List.getElem?_map, List.getElem?_eq_getElem hk]; rfl
    have h2 : vs[k]? = some vs[k] := List.getElem?_eq_getElem (by omega)
    have := (e3.2 k _ _ h1 h2).p_inv
    rw [h2, this, List.getElem?_map, List.getElem?_eq_getElem hk]; rfl
  . rw [List.getElem?_eq_none (by omega), List.getElem?_eq_none (by simpa using hk)]
 obtain ⟨d, hd⟩ : ∃ d, d = (l.take n).toArray := ⟨_, rfl⟩
 have hds : d.size = n := by rw [hd, List.size_toArray, List.length_take]; omega
 have hH : Sort.Holds (fun (b : UInt8) => Value.int .u8 (b.toNat : Int)) w blk 0 d := by
  intro j hj
  rw [Nat.zero_add]
  obtain ⟨h1, h2⟩ := cell_at0 e2 j
  refine ⟨?_, h2⟩
  rw [h1, hvs, List.getElem?_toArray, List.getElem?_map, List.getElem?_eq_getElem (show j < l.length by omega), getElem!_pos d j hj]
  simp [hd]
 have hcall := Any.internal_strconv_formatBase10 (P := prog) (ρ := shR) { sh_LaysCn174 with } blk 0 c u.toNat d w hH (by rw [hds, <- hn]; exact Lib.lt_pow_nDigits _) hu (by rw [hds, <- hn]; have := Lib.nDigits_le20 u.toNat hu; omega)
 rw [hds] at hcall
 refine Calls.mono hcall ?_
 rintro e w' ⟨rfl, q, v', dk, rfl, hI⟩
 have hdk : dk.size = n := by rw [hI.size]
 have hnum : dk.toList = dn u.toNat := by
  rw [<- hn] at hI
  refine List.ext_getElem? fun j => ?_
  by_cases hj : j < n
  . have := Lib.row_is_numeral hI j (by rw [dd_eq]; omega)
    rw [Array.getElem?_toList, Array.getElem?_eq_getElem (by omega), <- getElem!_pos dk j (by omega), <- this]
    exact (List.getElem?_eq_getElem _).symm.trans (congrArg (fun x : List UInt8 => x[j]?) (dd_eq _))
  . rw [List.getElem?_eq_none (by rw [Array.length_toList]; omega), List.getElem?_eq_none (by omega)]
 obtain ⟨g1, g2⟩ := put_at (enc := fun (b : UInt8) => Value.int .u8 (b.toNat : Int)) e2 q dk
 have hnew : (Sort.putCells (fun (b : UInt8) => Value.int .u8 (b.toNat : Int)) 0 dk vs.toArray) = (((dn u.toNat ++ l.drop (dn u.toNat).length).map fun b => Value.int .u8 (b.toNat : Int))).toArray := by
  have := put_list (enc := fun (b : UInt8) => Value.int .u8 (b.toNat : Int)) (cur := vs) (d := dk.toList) (by rw [Array.length_toList, hvs, List.length_map]; omega)
  rw [Array.toArray_toList] at this
  rw [<- Array.toArray_toList (xs := Sort.putCells _ 0 dk vs.toArray), this, hnum, hvs]
  simp
 rw [hnew] at g1
 obtain ⟨k1, k2⟩ := hs.write (w' := (Sort.putRow (fun (b : UInt8) => Value.int .u8 (b.toNat : Int)) w blk 0 dk).drewN q) hT hx rfl (.cells E ((dn u.toNat ++ l.drop (dn u.toNat).length).map by8)) rfl (fun b' hb' => g2 b' fun e => hb' (by rw [e1, e])) ⟨rfl, rfl⟩
  ⟨hg, blk, _, e1, g1, ⟨by simp, fun k a v ha hv => by
   rw [List.getElem?_map] at ha hv
   cases hk : (dn u.toNat ++ l.drop (dn u.toNat).length)[k]? with
   | none => rw [hk] at ha; cases ha
   | some y => rw [hk] at ha hv; cases ha; cases hv; exact .p _⟩⟩
 exact ⟨_, rfl, Z, ρ, _, _, .p (.tuple #[]), k1, k2, .p _, rfl, rfl, rfl⟩
theorem pow_get {k : Nat} (h : k < 20) : powL[k]? = some (.p (.int .u64 ((10 ^ k : Nat) : Int))) := by
 have h1 := Lib.pow10Tab_at k h
 have h2 := Lib.pow10Tab_length
 rw [powL, List.getElem?_map, List.getElem?_eq_getElem (by omega)]
 rw [List.getD_eq_getElem?_getD, List.getElem?_eq_getElem (by omega)] at h1
 have h1 : Lib.pow10Tab[k]'(by omega) = ((10 ^ k : Nat) : Int) := h1
 rw [h1]; rfl
theorem nd_ok {T : Tbl} {u : UInt64} (h1 : 1 <= u.toNat) : CallA prog G 91 [.p (.int .u64 (u.toNat : Int))] T fun v T' es => v = wint (Lib.nDigits u.toNat : Int) /\ T' = T /\ es = [] := by
 have hu := u.toNat_lt
 obtain ⟨e1, e2⟩ := Lib.numDigits_eq u.toNat h1 hu
 have hb : Lib.bitLen u.toNat <= 64 := Lib.bitLenAux_le 64 u.toNat 64 hu
 have hp := pow_get (k := Lib.l10 (Lib.bitLen u.toNat)) (by omega)
 refine CallA.eV 4 func91 ntmps91 results91 ?_
 simp -dsimp +decide only [vr, ty, en, ↓reduceIte, Nat.reduceSub, Nat.reduceAdd, Nat.reduceMul, Nat.reduceLT, Int.reduceAdd, Int.reduceSub, Int.reduceToNat, ci]
 refine len64_ok.det' ?_
 simp -dsimp +decide (disch := omega) only [vr, ty, en, ↓reduceIte, Nat.reduceSub, Nat.reduceAdd, Nat.reduceMul, Nat.reduceLT, Int.reduceAdd, Int.reduceSub, Int.reduceToNat, ci, vi, getO_i, vt]
 refine (l10_ok hb).det' ?_
 simp -dsimp +decide (disch := omega) only [vr, ty, en, ↓reduceIte, Nat.reduceSub, Nat.reduceAdd, Nat.reduceMul, Nat.reduceLT, Int.reduceAdd, Int.reduceSub, Int.reduceToNat, ci, vi, getO_i, vt, Gpow, hp]
 refine ⟨⟨by omega, by omega⟩, b2_ok.det' ?_⟩
 have e3 : (if decide (((10 ^ Lib.l10 (Lib.bitLen u.toNat) : Nat) : Int) <= (u.toNat : Int)) = true then (1 : Int) else 0) = ((if 10 ^ Lib.l10 (Lib.bitLen u.toNat) <= u.toNat then 1 else 0 : Nat) : Int) := by
  by_cases h : 10 ^ Lib.l10 (Lib.bitLen u.toNat) <= u.toNat
  . rw [if_pos h, if_pos (decide_eq_true (Int.ofNat_le.2 h))]; rfl
  . rw [if_neg h, if_neg (by rw [decide_eq_true_iff]; exact fun e => h (Int.ofNat_le.1 e))]; rfl
 rw [e3]
 generalize he : (if 10 ^ Lib.l10 (Lib.bitLen u.toNat) <= u.toNat then 1 else 0 : Nat) = q at e1
 have hq : q <= 1 := by rw [<- he]; split <;> omega
 generalize Lib.l10 (Lib.bitLen u.toNat) = p at *
 have ew : IntKind.i64.wrap ((p : Int) + (q : Int)) = ((p + q : Nat) : Int) := by rw [IntWalk.i64_in _ (by omega)]; omega
 simp -dsimp +decide (disch := omega) only [vr, ty, en, ↓reduceIte, Nat.reduceSub, Nat.reduceAdd, Nat.reduceMul, Nat.reduceLT, Int.reduceAdd, Int.reduceSub, Int.reduceToNat, ci, vi, getO_i, vt, ew]
 refine Vw.done ⟨?_, rfl, rfl⟩
 rw [<- e1]; rfl
theorem app_str (q : Nat -> Bool) (A l : List UInt8) : A.map by8 ++ List.map (AV.wo q) (List.map (fun b : UInt8 => AV.p (.int .u8 (b.toNat : Int))) (ba l).data.toList) = (A ++ l).map by8 := by
 rw [ba_data, List.map_append, List.map_map]; congr 1
def zer24 : List UInt8 := List.replicate 24 0
def App (T : Tbl) (j : Nat) (A B : List UInt8) (v : AV) (T' : Tbl) (es : Eff) : Prop := v = .sl j 0 (A ++ B).length /\ T' = T.set j (bf (A ++ B)) /\ es = [(j, true)]
theorem auint_ok {T : Tbl} {j : Nat} {A : List UInt8} {u : UInt64} (hj : T[j]? = some (bf A)) (hA : A.length + 20 <= 140737488355328) (hq : T.map (AObj.wo fun x => x == j) = T) :
 CallA prog G 78 [.sl j 0 A.length, .p (.int .u64 (u.toNat : Int)), wint 10] T (App T j A (dn u.toNat)) := by
 refine CallA.wfs fun wf => ?_
 have wt := wf.t
 have hjl := (List.getElem?_eq_some_iff.1 hj).1
 rw [bf] at hj
 have hj' : ∀ l : Tbl, (T ++ l)[j]? = some (.buf 5 1 (A.map by8)) := fun l => by rw [List.getElem?_append_left hjl]; exact hj
 have hu := u.toNat_lt
 have hd20 : (dn u.toNat).length <= 20 := by rw [dn_nd]; exact Lib.nDigits_le20 _ hu
 refine CallA.eV 10 func78 ntmps78 results78 ?_
 simp -dsimp +decide only [vr, ty, en, ↓reduceIte, Nat.reduceSub, Nat.reduceAdd, Nat.reduceMul, Nat.reduceLT, Int.reduceAdd, Int.reduceSub, Int.reduceToNat, ci]
 by_cases h100 : u.toNat < 100
 . have h1 : ((u.toNat : Int) < 100) = True := eq_true (by omega)
   simp -dsimp +decide (disch := omega) only [vr, ty, en, ↓reduceIte, Nat.reduceSub, Nat.reduceAdd, Nat.reduceMul, Nat.reduceLT, Int.reduceAdd, Int.reduceSub, Int.reduceToNat, ci, vi, getO_i, vt, h1]
   refine (small_ok (i := u.toNat) h100).det' ?_
   simp -dsimp +decide (disch := omega) only [vr, ty, en, ↓reduceIte, Nat.reduceSub, Nat.reduceAdd, Nat.reduceMul, Nat.reduceLT, Int.reduceAdd, Int.reduceSub, Int.reduceToNat, ci, vi, getO_i, vt, hj, hj', str, app_str, ba_size]
   refine ⟨⟨by omega, by omega⟩, ?_⟩
   rw [hq, rec1_in hjl]
   exact Vw.done ⟨by rw [List.length_append], rfl, rfl⟩
 . have h1 : ((u.toNat : Int) < 100) = False := eq_false (by omega)
   simp -dsimp +decide (disch := omega) only [vr, ty, en, ↓reduceIte, Nat.reduceSub, Nat.reduceAdd, Nat.reduceMul, Nat.reduceLT, Int.reduceAdd, Int.reduceSub, Int.reduceToNat, ci, vi, getO_i, vt, h1]
   refine (nd_ok (by omega)).det' ?_
   simp -dsimp +decide (disch := omega) only [vr, ty, en, ↓reduceIte, Nat.reduceSub, Nat.reduceAdd, Nat.reduceMul, Nat.reduceLT, Int.reduceAdd, Int.reduceSub, Int.reduceToNat, ci, vi, getO_i, vt]
   have hn20 : Lib.nDigits u.toNat <= 20 := Lib.nDigits_le20 _ hu
   refine ⟨by omega, ⟨by omega, by omega⟩, ?_⟩
   refine (fmt_ok (l := zer24) (i := T.length) (E := 111) (by rw [List.getElem?_append_right (Nat.le_refl _), Nat.sub_self]; rfl) (by rw [show zer24.length = 24 from rfl]; omega)).det' ?_
   have hset : ∀ o o' : AObj, (T ++ [o]).set T.length o' = T ++ [o'] := fun o o' => by rw [List.set_append_right _ _ (Nat.le_refl _), Nat.sub_self]; rfl
   have hlen : (dn u.toNat ++ zer24.drop (dn u.toNat).length).length = 24 := by rw [List.length_append, List.length_drop, show zer24.length = 24 from rfl]; omega
   rw [hset]
   have htk : ((dn u.toNat ++ zer24.drop (dn u.toNat).length).map by8).take (Lib.nDigits u.toNat) = (dn u.toNat).map by8 := by rw [<- List.map_take, List.take_left' (by rw [dn_nd])]
   simp -dsimp +decide (disch := omega) only [vr, ty, en, ↓reduceIte, Nat.reduceSub, Nat.reduceAdd, Nat.reduceMul, Nat.reduceLT, Int.reduceAdd, Int.reduceSub, Int.reduceToNat, ci, vi, getO_i, vt, hj, hj', htk, hlen]
   refine ⟨by omega, ⟨by omega, by omega⟩, by omega, ⟨by omega, by omega⟩, ?_⟩
   rw [hq, rec1_in hjl, <- dn_nd]
   rw [List.drop_zero, List.take_left' rfl]
   refine Vw.bf (A := A ++ dn u.toNat) wt.2.1 hjl ⟨by rw [List.length_append], rfl, rfl⟩
def absU (z : Int) : UInt64 := if z < 0 then - UInt64.ofInt z else UInt64.ofInt z
theorem absU_nat {z : Int} (h : -2 ^ 63 <= z /\ z < 2 ^ 63) : (absU z).toNat = z.natAbs := by
 have h2 : (2 : Int) ^ 63 = 9223372036854775808 := rfl
 rw [h2] at h
 have h64 : ((UInt64.ofInt z).toNat : Int) = z % 18446744073709551616 := by rw [<- u64_wrap, IntKind.wrap_u64]
 unfold absU
 split
 . have := Int.natAbs_of_nonneg (show 0 <= -z by omega)
   rw [Int.natAbs_neg] at this
   rw [UInt64.toNat_neg, show UInt64.size = 18446744073709551616 from rfl]; omega
 . have := Int.natAbs_of_nonneg (show 0 <= z by omega)
   omega
theorem set_q {T : Tbl} {j : Nat} {X : List UInt8} (h : T.map (AObj.wo fun x => x == j) = T) : (T.set j (bf X)).map (AObj.wo fun x => x == j) = T.set j (bf X) := by rw [List.map_set, bf_wo, h]
theorem aint_ok {T : Tbl} {j : Nat} {A : List UInt8} {z : Int} (hz : -2 ^ 63 <= z /\ z < 2 ^ 63) (hj : T[j]? = some (bf A)) (hA : A.length + 21 <= 140737488355328) (hq : T.map (AObj.wo fun x => x == j) = T) :
 CallA prog G 59 [.sl j 0 A.length, .p (.int .i64 z), wint 10] T (App T j A (numS z)) := by
 refine CallA.wfs fun wf => ?_
 have wt := wf.t
 have hjl := (List.getElem?_eq_some_iff.1 hj).1
 have hj0 := hj
 rw [bf] at hj
 have hnat := absU_nat hz
 refine CallA.eV 8 func59 ntmps59 results59 ?_
 simp -dsimp +decide only [vr, ty, en, ↓reduceIte, Nat.reduceSub, Nat.reduceAdd, Nat.reduceMul, Nat.reduceLT, Int.reduceAdd, Int.reduceSub, Int.reduceToNat, ci]
 have hj' : ∀ l : Tbl, (T ++ l)[j]? = some (.buf 5 1 (A.map by8)) := fun l => by rw [List.getElem?_append_left hjl]; exact hj
 by_cases hneg : z < 0
 . have h1 : (z < 0) = True := eq_true hneg
   have hns : numS z = 45 :: dn (absU z).toNat := by rw [numS, if_pos hneg, hnat]; congr 2; omega
   simp -dsimp +decide (disch := omega) only [vr, ty, en, ↓reduceIte, Nat.reduceSub, Nat.reduceAdd, Nat.reduceMul, Nat.reduceLT, Int.reduceAdd, Int.reduceSub, Int.reduceToNat, ci, vi, getO_i, vt, h1, hj']
   refine ⟨⟨by omega, by omega⟩, ?_⟩
   have hu : UInt64.ofInt 0 - UInt64.ofInt z = absU z := by rw [absU, if_pos hneg]; exact UInt64.zero_sub _
   have hb : AObj.buf 5 1 (List.map by8 A ++ [AV.p (.int .u8 45)]) = bf (A ++ [45]) := by rw [bf, List.map_append]; rfl
   rw [hq, hu, hb, rec1_in hjl]
   have hlen : A.length + 1 = (A ++ [45]).length := by simp
   rw [hlen]
   have hjl2 : j < (T ++ [AObj.buf 5 1 [AV.p (.int .u8 45)]]).length := by rw [List.length_append]; omega
   refine (auint_ok (T := (T ++ [AObj.buf 5 1 [AV.p (.int .u8 45)]]).set j (bf (A ++ [45]))) (by rw [List.getElem?_set_self hjl2]) (by rw [<- hlen]; omega) (set_q (by rw [List.map_append, hq]; rfl))).mono ?_
   rintro v T' es ⟨rfl, rfl, rfl⟩
   rw [List.set_set]
   simp -dsimp +decide (disch := omega) only [vr, ty, en, ↓reduceIte, Nat.reduceSub, Nat.reduceAdd, Nat.reduceMul, Nat.reduceLT, Int.reduceAdd, Int.reduceSub, Int.reduceToNat, ci, vi, getO_i, vt]
   refine Vw.eff (E' := [(j, true)]) (by simp [rec1_in hjl]) ?_
   refine Vw.bf wt.2.1 hjl ⟨?_, ?_, rfl⟩
   . rw [hns]; simp
   . rw [hns, List.append_assoc]; rfl
 . have h1 : (z < 0) = False := eq_false hneg
   have hu : UInt64.ofInt z = absU z := by rw [absU, if_neg hneg]
   have hns : numS z = dn (absU z).toNat := by rw [numS, if_neg hneg, hnat]; congr 1; omega
   simp -dsimp +decide (disch := omega) only [vr, ty, en, ↓reduceIte, Nat.reduceSub, Nat.reduceAdd, Nat.reduceMul, Nat.reduceLT, Int.reduceAdd, Int.reduceSub, Int.reduceToNat, ci, vi, getO_i, vt, h1]
   rw [hu]
   refine (auint_ok hj0 (by omega) hq).mono ?_
   rintro v T' es ⟨rfl, rfl, rfl⟩
   simp -dsimp +decide (disch := omega) only [vr, ty, en, ↓reduceIte, Nat.reduceSub, Nat.reduceAdd, Nat.reduceMul, Nat.reduceLT, Int.reduceAdd, Int.reduceSub, Int.reduceToNat, ci, vi, getO_i, vt]
   refine Vw.done ⟨?_, ?_, rec1_in hjl _ _⟩
   . rw [hns]
   . rw [hns]
end Go.Proofs.YtglpcedoongagaaGreatDoor
namespace Go.Proofs.YtglpcedoongagaaGreatDoor
open Go.E Go.Proofs.YtglpcedoongagaaGreatDoor.Tryz Go.Proofs.Tryz Go.J Go.Proofs
theorem pow2_ok {T : Tbl} : CallA prog G 104 [wint 16] T fun v T' es => v = .p (.bool true) /\ T' = T /\ es = [] := by
 refine CallA.eV 3 func104 ntmps104 results104 ?_
 simp -dsimp +decide only [vy, vz, vze, vr, ty, en, ↓reduceIte, Nat.reduceSub, Nat.reduceAdd, Nat.reduceMul, Nat.reduceLT, Int.reduceAdd, Int.reduceSub, Int.reduceToNat, ci]
 exact Vw.done ⟨rfl, rfl, rfl⟩
theorem tz64_ok {T : Tbl} : CallA prog G 112 [.p (.int .u64 16)] T fun v T' es => v = wint 4 /\ T' = T /\ es = [] := by
 refine CallA.eV 3 func112 ntmps112 results112 ?_
 simp -dsimp +decide only [vy, vz, vze, vr, ty, en, ↓reduceIte, Nat.reduceSub, Nat.reduceAdd, Nat.reduceMul, Nat.reduceLT, Int.reduceAdd, Int.reduceSub, Int.reduceToNat, ci]
 have hk : dbjL[(u64_shr ((UInt64.ofInt 16 &&& UInt64.ofInt (-16)) * UInt64.ofInt 285870213051353865) 58).toNat]? = some 4 := by decide +kernel
 simp -dsimp +decide (disch := omega) only [vy, vz, vze, vr, ty, en, ↓reduceIte, Nat.reduceSub, Nat.reduceAdd, Nat.reduceMul, Nat.reduceLT, Int.reduceAdd, Int.reduceSub, Int.reduceToNat, ci, vi, getO_i, vt, Gdbj, hk]
 exact Vw.done ⟨rfl, rfl, rfl⟩
theorem tz_ok {T : Tbl} : CallA prog G 105 [.p (.int .u64 16)] T fun v T' es => v = wint 4 /\ T' = T /\ es = [] := by
 refine CallA.eV 3 func105 ntmps105 results105 ?_
 simp -dsimp +decide only [vy, vz, vze, vr, ty, en, ↓reduceIte, Nat.reduceSub, Nat.reduceAdd, Nat.reduceMul, Nat.reduceLT, Int.reduceAdd, Int.reduceSub, Int.reduceToNat, ci]
 refine tz64_ok.det' ?_
 simp -dsimp +decide (disch := omega) only [vy, vz, vze, vr, ty, en, ↓reduceIte, Nat.reduceSub, Nat.reduceAdd, Nat.reduceMul, Nat.reduceLT, Int.reduceAdd, Int.reduceSub, Int.reduceToNat, ci, vi, getO_i, vt]
 exact Vw.done ⟨rfl, rfl, rfl⟩
theorem d36 {n : Nat} (h : n < 16) : (ByteArray.mk #[48, 49, 50, 51, 52, 53, 54, 55, 56, 57, 97, 98, 99, 100, 101, 102, 103, 104, 105, 106, 107, 108, 109, 110, 111, 112, 113, 114, 115, 116, 117, 118, 119, 120, 121, 122])[n]? = some (hexd n) := by
 have : ∀ i : Fin 16, (ByteArray.mk #[48, 49, 50, 51, 52, 53, 54, 55, 56, 57, 97, 98, 99, 100, 101, 102, 103, 104, 105, 106, 107, 108, 109, 110, 111, 112, 113, 114, 115, 116, 117, 118, 119, 120, 121, 122])[i.val]? = some (hexd i.val) := by decide +kernel
 exact this ⟨n, h⟩
theorem fb_ok {T : Tbl} {j : Nat} {A : List UInt8} {u : UInt64} (hu : u.toNat < 16) (hj : T[j]? = some (bf A)) (hA : A.length + 20 <= 140737488355328) (hq : T.map (AObj.wo fun x => x == j) = T) :
 CallA prog G 93 [.sl j 0 A.length, .p (.int .u64 (u.toNat : Int)), wint 16, .p (.bool false), .p (.bool true)] T fun v T' es => (∃ s, v = .tu [.sl j 0 (A ++ [hexd u.toNat]).length, .p (.string s)]) /\ T' = T.set j (bf (A ++ [hexd u.toNat])) /\ es = [(j, true)] := by
 refine CallA.wfs fun wf => ?_
 have wt := wf.t
 have hjl := (List.getElem?_eq_some_iff.1 hj).1
 rw [bf] at hj
 have hj' : ∀ l : Tbl, (T ++ l)[j]? = some (.buf 5 1 (A.map by8)) := fun l => by rw [List.getElem?_append_left hjl]; exact hj
 have hz65 : ∃ zs : List AV, zs = List.replicate 65 (.p (.int .u8 0)) := ⟨_, rfl⟩
 obtain ⟨zs, hzs⟩ := hz65
 have h16 : ((16 : Int) <= (u.toNat : Int)) = False := eq_false (by omega)
 refine CallA.eV 19 func93 ntmps93 results93 ?_
 simp -dsimp +decide only [vy, vz, vze, vr, ty, en, ↓reduceIte, Nat.reduceSub, Nat.reduceAdd, Nat.reduceMul, Nat.reduceLT, Int.reduceAdd, Int.reduceSub, Int.reduceToNat, ci]
 have hzl : zs.length = 65 := by rw [hzs]; simp
 have hzs' := hzs
 simp only [List.replicate] at hzs'
 rw [<- hzs']
 refine pow2_ok.det' ?_
 simp -dsimp +decide (disch := omega) only [vy, vz, vze, vr, ty, en, ↓reduceIte, Nat.reduceSub, Nat.reduceAdd, Nat.reduceMul, Nat.reduceLT, Int.reduceAdd, Int.reduceSub, Int.reduceToNat, ci, vi, getO_i, vt]
 refine tz_ok.det' ?_
 simp -dsimp +decide (disch := omega) only [vy, vz, vze, vr, ty, en, ↓reduceIte, Nat.reduceSub, Nat.reduceAdd, Nat.reduceMul, Nat.reduceLT, Int.reduceAdd, Int.reduceSub, Int.reduceToNat, ci, vi, getO_i, vt]
 refine SemA.loopE (fun _ : Unit => [(0, .sl j 0 A.length), (1, .p (.int .u64 (u.toNat : Int))), (3, .p (.bool false)), (4, .p (.bool true)), (11, .p (.string ⟨#[]⟩)), (12, .ptr T.length 0), (13, wint 65), (15, .p (.int .u64 16))]) (fun _ => T ++ [.cells 125 zs]) (fun _ => True) (fun _ => 0) () [] 0 (fun _ : Unit => [(0, .sl j 0 A.length), (1, .p (.int .u64 (u.toNat : Int))), (3, .p (.bool false)), (4, .p (.bool true)), (11, .p (.string ⟨#[]⟩)), (12, .ptr T.length 0), (13, wint 65)]) (fun _ => T ++ [.cells 125 zs]) (fun _ => True) trivial (by (simp -dsimp +decide (disch := omega) only [vy, vz, vze, vr, ty, en, ↓reduceIte, Nat.reduceSub, Nat.reduceAdd, Nat.reduceMul, Nat.reduceLT, Int.reduceAdd, Int.reduceSub, Int.reduceToNat, ci, vi, getO_i]); first | rfl | done) rfl (by simp) ?_ ?_
 . rintro _ g _
   refine SemA.o ?_
   simp -dsimp +decide (disch := omega) only [vy, vz, vze, vr, ty, en, ↓reduceIte, Nat.reduceSub, Nat.reduceAdd, Nat.reduceMul, Nat.reduceLT, Int.reduceAdd, Int.reduceSub, Int.reduceToNat, ci, vi, getO_i, vt, h16]
   exact ⟨(), trivial⟩
 rintro _ g tmp _
 have hd : List.drop 64 (zs.set 64 (.p (.int .u8 ((hexd u.toNat).toNat : Int)))) = [.p (.int .u8 ((hexd u.toNat).toNat : Int))] := by
  rw [List.set_eq_take_append_cons_drop, if_pos (by omega), List.drop_left' (by rw [List.length_take]; omega), List.drop_eq_nil_of_le (by omega)]
 have hon : ones [AV.p (.int .u8 ((hexd u.toNat).toNat : Int))] = true := rfl
 have hls : ∀ x : AV, (zs.set 64 x).length = 65 := fun x => by rw [List.length_set, hzl]
 simp -dsimp +decide (disch := omega) only [vy, vz, vze, vr, ty, en, ↓reduceIte, Nat.reduceSub, Nat.reduceAdd, Nat.reduceMul, Nat.reduceLT, Int.reduceAdd, Int.reduceSub, Int.reduceToNat, ci, vi, getO_i, vt, hj', hzl, d36 hu, hd, hon, hls]
 refine ⟨⟨by omega, by omega⟩, ?_⟩
 rw [hq, rec1_in hjl]
 rw [List.set_append_left _ _ hjl]
 refine Vw.cutN T.length (Nat.le_refl _) ?_
 rw [List.take_left' (by simp), List.map_set, wt.2.1, show AObj.buf 5 1 (List.map by8 (A ++ [hexd u.toNat])) = bf (A ++ [hexd u.toNat]) from rfl, bf_wo]
 have e1 : (AV.sl j 0 (A.length + 1)).wo (fun i => decide (T.length <= i)) = .sl j 0 (A.length + 1) := by
  rw [AV.wo, if_neg (by simp; omega)]
 have e : (AV.tu [AV.sl j 0 (A.length + 1), AV.p (.string ⟨#[]⟩)]).wo (fun i => decide (T.length <= i)) = .tu [AV.sl j 0 (A.length + 1), AV.p (.string ⟨#[]⟩)] := by
  rw [AV.wo, AV.woL_eq, List.map_cons, e1]; rfl
 rw [e]
 exact Vw.done ⟨⟨_, by rw [List.length_append]; rfl⟩, rfl, rfl⟩
theorem au16_ok {T : Tbl} {j : Nat} {A : List UInt8} {u : UInt64} (hu : u.toNat < 16) (hj : T[j]? = some (bf A)) (hA : A.length + 20 <= 140737488355328) (hq : T.map (AObj.wo fun x => x == j) = T) :
 CallA prog G 78 [.sl j 0 A.length, .p (.int .u64 (u.toNat : Int)), wint 16] T (App T j A [hexd u.toNat]) := by
 have hjl := (List.getElem?_eq_some_iff.1 hj).1
 refine CallA.eV 10 func78 ntmps78 results78 ?_
 simp -dsimp +decide only [vy, vz, vze, vr, ty, en, ↓reduceIte, Nat.reduceSub, Nat.reduceAdd, Nat.reduceMul, Nat.reduceLT, Int.reduceAdd, Int.reduceSub, Int.reduceToNat, ci]
 refine (fb_ok hu hj hA hq).mono ?_
 rintro v T' es ⟨⟨s, rfl⟩, rfl, rfl⟩
 simp -dsimp +decide (disch := omega) only [vy, vz, vze, vr, ty, en, ↓reduceIte, Nat.reduceSub, Nat.reduceAdd, Nat.reduceMul, Nat.reduceLT, Int.reduceAdd, Int.reduceSub, Int.reduceToNat, ci, vi, getO_i, vt]
 exact Vw.done ⟨rfl, rfl, rec1_in hjl _ _⟩
theorem AU16_ok {T : Tbl} {j : Nat} {A : List UInt8} {u : UInt64} (hu : u.toNat < 16) (hj : T[j]? = some (bf A)) (hA : A.length + 20 <= 140737488355328) (hq : T.map (AObj.wo fun x => x == j) = T) :
 CallA prog G 61 [.sl j 0 A.length, .p (.int .u64 (u.toNat : Int)), wint 16] T (App T j A [hexd u.toNat]) := by
 have hjl := (List.getElem?_eq_some_iff.1 hj).1
 refine CallA.eV 7 func61 ntmps61 results61 ?_
 simp -dsimp +decide only [vy, vz, vze, vr, ty, en, ↓reduceIte, Nat.reduceSub, Nat.reduceAdd, Nat.reduceMul, Nat.reduceLT, Int.reduceAdd, Int.reduceSub, Int.reduceToNat, ci]
 refine (au16_ok hu hj hA hq).mono ?_
 rintro v T' es ⟨rfl, rfl, rfl⟩
 simp -dsimp +decide (disch := omega) only [vy, vz, vze, vr, ty, en, ↓reduceIte, Nat.reduceSub, Nat.reduceAdd, Nat.reduceMul, Nat.reduceLT, Int.reduceAdd, Int.reduceSub, Int.reduceToNat, ci, vi, getO_i, vt]
 exact Vw.done ⟨rfl, rfl, rec1_in hjl _ _⟩
theorem AI_ok {T : Tbl} {j : Nat} {A : List UInt8} {z : Int} (hz : -2 ^ 63 <= z /\ z < 2 ^ 63) (hj : T[j]? = some (bf A)) (hA : A.length + 21 <= 140737488355328) (hq : T.map (AObj.wo fun x => x == j) = T) :
 CallA prog G 35 [.sl j 0 A.length, .p (.int .i64 z), wint 10] T (App T j A (numS z)) := by
 have hjl := (List.getElem?_eq_some_iff.1 hj).1
 refine CallA.eV 7 func35 ntmps35 results35 ?_
 simp -dsimp +decide only [vy, vz, vze, vr, ty, en, ↓reduceIte, Nat.reduceSub, Nat.reduceAdd, Nat.reduceMul, Nat.reduceLT, Int.reduceAdd, Int.reduceSub, Int.reduceToNat, ci]
 refine (aint_ok hz hj hA hq).mono ?_
 rintro v T' es ⟨rfl, rfl, rfl⟩
 simp -dsimp +decide (disch := omega) only [vy, vz, vze, vr, ty, en, ↓reduceIte, Nat.reduceSub, Nat.reduceAdd, Nat.reduceMul, Nat.reduceLT, Int.reduceAdd, Int.reduceSub, Int.reduceToNat, ci, vi, getO_i, vt]
 exact Vw.done ⟨rfl, rfl, rec1_in hjl _ _⟩
def bws (b : Bool) : List UInt8 := if b then [116, 114, 117, 101] else [102, 97, 108, 115, 101]
theorem ab_ok {T : Tbl} {j : Nat} {A : List UInt8} {b : Bool} (hj : T[j]? = some (bf A)) (hA : A.length + 20 <= 140737488355328) (hq : T.map (AObj.wo fun x => x == j) = T) :
 CallA prog G 58 [.sl j 0 A.length, .p (.bool b)] T (App T j A (bws b)) := by
 have hjl := (List.getElem?_eq_some_iff.1 hj).1
 rw [bf] at hj
 cases b with
 | false =>
   refine CallA.eV 5 func58 ntmps58 results58 ?_
   simp -dsimp +decide only [vy, vz, vze, vr, ty, en, ↓reduceIte, Nat.reduceSub, Nat.reduceAdd, Nat.reduceMul, Nat.reduceLT, Int.reduceAdd, Int.reduceSub, Int.reduceToNat, ci]
   simp -dsimp +decide (disch := omega) only [vy, vz, vze, vr, ty, en, ↓reduceIte, Nat.reduceSub, Nat.reduceAdd, Nat.reduceMul, Nat.reduceLT, Int.reduceAdd, Int.reduceSub, Int.reduceToNat, ci, vi, getO_i, vt, hj]
   refine ⟨⟨by show A.length + 5 <= _; omega, by show A.length + 5 <= _; omega⟩, ?_⟩
   rw [hq, rec1_in hjl]
   refine Vw.done ⟨by rw [List.length_append]; rfl, ?_, rfl⟩
   congr 1
   rw [bf, List.map_append]; rfl
 | true =>
   refine CallA.eV 5 func58 ntmps58 results58 ?_
   simp -dsimp +decide only [vy, vz, vze, vr, ty, en, ↓reduceIte, Nat.reduceSub, Nat.reduceAdd, Nat.reduceMul, Nat.reduceLT, Int.reduceAdd, Int.reduceSub, Int.reduceToNat, ci]
   simp -dsimp +decide (disch := omega) only [vy, vz, vze, vr, ty, en, ↓reduceIte, Nat.reduceSub, Nat.reduceAdd, Nat.reduceMul, Nat.reduceLT, Int.reduceAdd, Int.reduceSub, Int.reduceToNat, ci, vi, getO_i, vt, hj]
   refine ⟨⟨by show A.length + 4 <= _; omega, by show A.length + 4 <= _; omega⟩, ?_⟩
   rw [hq, rec1_in hjl]
   refine Vw.done ⟨by rw [List.length_append]; rfl, ?_, rfl⟩
   congr 1
   rw [bf, List.map_append]; rfl
theorem AB_ok {T : Tbl} {j : Nat} {A : List UInt8} {b : Bool} (hj : T[j]? = some (bf A)) (hA : A.length + 20 <= 140737488355328) (hq : T.map (AObj.wo fun x => x == j) = T) :
 CallA prog G 34 [.sl j 0 A.length, .p (.bool b)] T (App T j A (bws b)) := by
 have hjl := (List.getElem?_eq_some_iff.1 hj).1
 refine CallA.eV 5 func34 ntmps34 results34 ?_
 simp -dsimp +decide only [vy, vz, vze, vr, ty, en, ↓reduceIte, Nat.reduceSub, Nat.reduceAdd, Nat.reduceMul, Nat.reduceLT, Int.reduceAdd, Int.reduceSub, Int.reduceToNat, ci]
 refine (ab_ok hj hA hq).mono ?_
 rintro v T' es ⟨rfl, rfl, rfl⟩
 simp -dsimp +decide (disch := omega) only [vy, vz, vze, vr, ty, en, ↓reduceIte, Nat.reduceSub, Nat.reduceAdd, Nat.reduceMul, Nat.reduceLT, Int.reduceAdd, Int.reduceSub, Int.reduceToNat, ci, vi, getO_i, vt]
 exact Vw.done ⟨rfl, rfl, rec1_in hjl _ _⟩
end Go.Proofs.YtglpcedoongagaaGreatDoor
namespace Go.Proofs.YtglpcedoongagaaGreatDoor
open Go.E Go.Proofs.YtglpcedoongagaaGreatDoor.Tryz Go.Proofs.Tryz Go.J Go.Proofs
def V (T : Tbl) (j : Nat) (o : AObj) : Tbl := T.set j o
theorem V.rules {T : Tbl} {j : Nat} (hjl : j < T.length) (hq : T.map (AObj.wo fun x => x == j) = T) (wt : T.map (AObj.wo fun i => decide (T.length <= i)) = T) (wk : ∀ k, T.map (AObj.wo fun i => decide (T.length + k <= i)) = T) :
 (∀ o, (V T j o).length = T.length) /\ (∀ o, (V T j o)[j]? = some o) /\ (∀ o l, (V T j o ++ l)[j]? = some o) /\
 (∀ o, (V T j o).map (AObj.wo fun x => x == j) = V T j (o.wo fun x => x == j)) /\
 (∀ o o', (V T j o).set j o' = V T j o') /\ (∀ o o' l, (V T j o ++ l).set j o' = V T j o' ++ l) /\
 (∀ o, (V T j o).map (AObj.wo fun i => decide (T.length <= i)) = V T j (o.wo fun i => decide (T.length <= i))) /\
 (∀ o k, (V T j o).map (AObj.wo fun i => decide (T.length + k <= i)) = V T j (o.wo fun i => decide (T.length + k <= i))) /\
 (∀ o l, (V T j o ++ l)[T.length]? = l[0]?) /\ (∀ o l k, (V T j o ++ l)[T.length + k]? = l[k]?) /\
 (∀ o l, (V T j o ++ l).take T.length = V T j o) /\ (∀ o l k, (V T j o ++ l).take (T.length + k) = V T j o ++ l.take k) /\ (∀ o l k o', (V T j o ++ l).set (T.length + k) o' = V T j o ++ l.set k o') /\ (∀ o l o', (V T j o ++ l).set T.length o' = V T j o ++ l.set 0 o') := by
 have hl : ∀ o, (V T j o).length = T.length := fun o => List.length_set
 refine ⟨hl, fun o => List.getElem?_set_self hjl, fun o l => ?_, fun o => ?_, fun o o' => List.set_set .., fun o o' l => ?_, fun o => ?_, fun o k => ?_, fun o l => ?_, fun o l k => ?_, fun o l => ?_, fun o l k => ?_, fun o l k o' => ?_, fun o l o' => ?_⟩
 . rw [List.getElem?_append_left (by rw [hl]; exact hjl)]; exact List.getElem?_set_self hjl
 . rw [V, List.map_set, hq]; rfl
 . rw [List.set_append_left _ _ (by rw [hl]; exact hjl)]; congr 1; exact List.set_set ..
 . rw [V, List.map_set, wt]; rfl
 . rw [V, List.map_set, wk]; rfl
 . rw [List.getElem?_append_right (by rw [hl]; omega), hl, Nat.sub_self]
 . rw [List.getElem?_append_right (by rw [hl]; omega), hl, Nat.add_sub_cancel_left]
 . rw [List.take_left' (hl o)]
 . rw [<- hl o, List.take_length_add_append]
 . rw [List.set_append_right _ _ (by rw [hl]; omega), hl, Nat.add_sub_cancel_left]
 . rw [List.set_append_right _ _ (by rw [hl]; omega), hl, Nat.sub_self]
theorem qb_short (c : UInt8) : (0 <= Lib.indexByte es2 c -> ∃ d, es1[(Lib.indexByte es2 c).toNat]? = some d /\ qb c = [92, d]) /\ (¬ 0 <= Lib.indexByte es2 c -> qb c = if c.toNat < 32 then ([92, 117, 48, 48, UInt8.ofInt 48 + u8_shr c 4, hexd (c &&& UInt8.ofInt 15).toNat] : List UInt8) else [c]) := by
 have h : ∀ i : Fin 256, (0 <= Lib.indexByte es2 (u8 i.val) -> ∃ d, es1[(Lib.indexByte es2 (u8 i.val)).toNat]? = some d /\ qb (u8 i.val) = [92, d]) /\ (¬ 0 <= Lib.indexByte es2 (u8 i.val) -> qb (u8 i.val) = if (u8 i.val).toNat < 32 then ([92, 117, 48, 48, UInt8.ofInt 48 + u8_shr (u8 i.val) 4, hexd ((u8 i.val) &&& UInt8.ofInt 15).toNat] : List UInt8) else [u8 i.val]) := by
  have h : ∀ i : Fin 256, (0 <= Lib.indexByte es2 (u8 i.val) -> qb (u8 i.val) = [92, es1.getD (Lib.indexByte es2 (u8 i.val)).toNat 0] /\ (Lib.indexByte es2 (u8 i.val)).toNat < 7) /\ (¬ 0 <= Lib.indexByte es2 (u8 i.val) -> qb (u8 i.val) = if (u8 i.val).toNat < 32 then ([92, 117, 48, 48, UInt8.ofInt 48 + u8_shr (u8 i.val) 4, hexd ((u8 i.val) &&& UInt8.ofInt 15).toNat] : List UInt8) else [u8 i.val]) := by decide +kernel
  refine fun i => ⟨fun hi => ?_, (h i).2⟩
  obtain ⟨h1, h2⟩ := (h i).1 hi
  refine ⟨_, ?_, h1⟩
  rw [List.getD_eq_getElem?_getD, List.getElem?_eq_getElem (show (Lib.indexByte es2 (u8 i.val)).toNat < es1.length from h2)]; rfl
 have := h ⟨c.toNat, c.toNat_lt⟩
 have e : u8 c.toNat = c := by apply UInt8.toNat_inj.1; rw [u8_toNat c.toNat_lt]
 rw [e] at this; exact this
theorem qb_len6 (c : UInt8) : (qb c).length <= 6 := (qb_len c).1
theorem qbs_len : ∀ l : List UInt8, (l.flatMap qb).length <= 6 * l.length
 | [] => by simp
 | c :: r => by have := qbs_len r; have := qb_len6 c; rw [List.flatMap_cons, List.length_append, List.length_cons]; omega
theorem quoted_ok {T : Tbl} {j : Nat} {A s : List UInt8} (hj : T[j]? = some (bf A)) (hA : A.length + 6 * s.length + 30 <= 140737488355328) (hq : T.map (AObj.wo fun x => x == j) = T) :
 CallA prog G 36 [.sl j 0 A.length, str s] T (App T j A (quote s)) := by
 refine CallA.wfs fun wf => ?_
 have wt := wf.t
 have hjl := (List.getElem?_eq_some_iff.1 hj).1
 have hV := V.rules hjl hq wt.2.1 wt.1
 rw [bf] at hj
 have hj' : ∀ l : Tbl, (T ++ l)[j]? = some (.buf 5 1 (A.map by8)) := fun l => by rw [List.getElem?_append_left hjl]; exact hj
 rw [show str s = .p (.string (ba s)) from rfl]
 refine CallA.eV 15 func36 ntmps36 results36 ?_
 simp -dsimp +decide only [vr, ty, en, ↓reduceIte, Nat.reduceSub, Nat.reduceAdd, Nat.reduceMul, Nat.reduceLT, Int.reduceAdd, Int.reduceSub, Int.reduceToNat, ci]
 simp -dsimp +decide (disch := omega) only [vr, ty, en, ↓reduceIte, Nat.reduceSub, Nat.reduceAdd, Nat.reduceMul, Nat.reduceLT, Int.reduceAdd, Int.reduceSub, Int.reduceToNat, ci, vi, getO_i, vt, hj', ba_size, ba_data]
 refine ⟨⟨by omega, by omega⟩, ?_⟩
 rw [hq, rec1_in hjl]
 have e0 : (T ++ [AObj.buf 5 1 [AV.p (.int .u8 34)]]).set j (.buf 5 1 (List.map by8 A ++ [AV.p (.int .u8 34)])) = V T j (bf (A ++ [34])) ++ [.buf 5 1 [AV.p (.int .u8 34)]] := by
  rw [List.set_append_left _ _ hjl, bf, List.map_append]; rfl
 rw [e0]
 refine SemA.loopC (fun i : Nat => [(0, .sl j 0 (A.length + 1 + ((s.take i).flatMap qb).length)), (12, .vs (s.map by8) s.length), (13, wint (s.length : Int)), (14, wint (i : Int))]) (fun i => V T j (bf (A ++ [34] ++ (s.take i).flatMap qb)) ++ [.buf 5 1 [AV.p (.int .u8 34)]]) (fun i => i <= s.length) (fun i => s.length - i) (T.length + 1) 0 [(j, true)] (by kernel_rfl) (by omega) (by omega) (by (simp -dsimp +decide only [vr, ty, en, ↓reduceIte, Nat.reduceSub, Nat.reduceAdd, Nat.reduceMul, Nat.reduceLT, Int.reduceAdd, Int.reduceSub, Int.reduceToNat, ci, vt]); first | rfl | (and_intros <;> first | rfl | (simp; done))) ?_ (by simp) ?_
 . simp
 . rintro i g hi
   have hlen0 : (A ++ [34] ++ List.flatMap qb (List.take i s)).length = A.length + 1 + (List.flatMap qb (List.take i s)).length := by rw [List.length_append, List.length_append]; rfl
   have hq6 : (List.flatMap qb (List.take i s)).length <= 6 * i := by have := qbs_len (s.take i); rw [List.length_take] at this; omega
   obtain ⟨B, hB⟩ : ∃ B, A ++ [34] ++ List.flatMap qb (List.take i s) = B := ⟨_, rfl⟩
   rw [hB] at hlen0
   rw [hB, <- hlen0, show bf B = .buf 5 1 (B.map by8) from rfl]
   have hr5 : ∀ a : AV, (List.replicate 5 [a]).flatten = [a, a, a, a, a] := fun _ => rfl
   by_cases hlt : i < s.length
   . have hlt' : ((i : Int) < (s.length : Int)) = True := eq_true (by omega)
     obtain ⟨c, hc⟩ : ∃ c, s[i]? = some c := ⟨s[i], List.getElem?_eq_getElem hlt⟩
     have hcm : (s.map by8)[i]? = some (by8 c) := by rw [List.getElem?_map, hc]; rfl
     have htk : (s.take (i + 1)).flatMap qb = (s.take i).flatMap qb ++ qb c := by rw [List.take_add_one, hc]; simp
     simp -dsimp +decide (disch := omega) only [vr, ty, en, ↓reduceIte, Nat.reduceSub, Nat.reduceAdd, Nat.reduceMul, Nat.reduceLT, Int.reduceAdd, Int.reduceSub, Int.reduceToNat, ci, vi, getO_i, vt, hV, hlt', hcm]
     refine ⟨⟨by omega, by intro e; rw [List.map_eq_nil_iff] at e; rw [e] at hlt; cases hlt⟩, ?_⟩
     refine (sti_ok (l := es2) (c := c)).det' ?_
     obtain ⟨g1, g2⟩ := qb_short c
     have hBq : B ++ qb c = A ++ [34] ++ (s.take (i + 1)).flatMap qb := by rw [htk, <- hB]; simp only [List.append_assoc]
     have hLq : B.length + (qb c).length = A.length + (1 + ((s.take (i + 1)).flatMap qb).length) := by
      have := congrArg List.length hBq
      simp only [List.length_append, List.length_cons, List.length_nil] at this; omega
     have hj1 : decide (T.length + 1 <= j) = false := decide_eq_false (by omega)
     have hci : ((i + 1 : Nat) : Int) = (i : Int) + 1 := rfl
     by_cases hs : 0 <= Lib.indexByte es2 c
     . have hs' : (0 <= Lib.indexByte es2 c) = True := eq_true hs
       obtain ⟨d, hd, hqb⟩ := g1 hs
       have hd' : (ByteArray.mk #[34, 92, 98, 102, 110, 114, 116])[(Lib.indexByte es2 c).toNat]? = some d := (ba_get es1 _).trans hd
       simp -dsimp +decide (disch := omega) only [vr, ty, en, ↓reduceIte, Nat.reduceSub, Nat.reduceAdd, Nat.reduceMul, Nat.reduceLT, Int.reduceAdd, Int.reduceSub, Int.reduceToNat, ci, vi, getO_i, vt, hV, hs', hd', rec1_in hjl, repb, List.set_cons_zero, List.set_cons_succ, List.length_cons]
       refine ⟨rfl, ⟨by omega, by omega⟩, ⟨i + 1, by omega, by omega, ⟨?_, by rw [hci]⟩, ?_⟩, by simp⟩
       . rw [hqb] at hLq
         rw [hj1, <- hLq]; rfl
       . rw [<- hBq, hqb, bf, List.map_append]; rfl
     . have hs' : (0 <= Lib.indexByte es2 c) = False := eq_false hs
       have hqb := g2 hs
       by_cases h32 : c.toNat < 32
       . have h32' : ((c.toNat : Int) < 32) = True := eq_true (by omega)
         rw [if_pos h32] at hqb
         simp -dsimp +decide (disch := omega) only [vr, ty, en, ↓reduceIte, Nat.reduceSub, Nat.reduceAdd, Nat.reduceMul, Nat.reduceLT, Int.reduceAdd, Int.reduceSub, Int.reduceToNat, ci, vi, getO_i, vt, hV, hs', h32', rec1_in hjl, repb, hr5, List.set_cons_zero, List.set_cons_succ, List.length_cons]
         refine ⟨rfl, ⟨by omega, by omega⟩, ?_⟩
         obtain ⟨B5, hB5⟩ : ∃ B5, B5 = B ++ [92, 117, 48, 48, UInt8.ofInt 48 + u8_shr c 4] := ⟨_, rfl⟩
         have hl5 : B5.length = B.length + 5 := by rw [hB5, List.length_append]; rfl
         have e5 : (AObj.buf 5 1 (List.map by8 B ++ List.map (AV.wo fun x => x == j) (List.take 5 [AV.p (.int .u8 92), AV.p (.int .u8 117), AV.p (.int .u8 48), AV.p (.int .u8 48), AV.p (.int .u8 ((UInt8.ofInt 48 + u8_shr c 4).toNat : Int))]))) = bf B5 := by rw [hB5, bf, List.map_append]; rfl
         rw [e5, <- hl5]
         have h15 : (c &&& UInt8.ofInt 15).toUInt64.toNat < 16 := by
          have : ∀ i : Fin 256, (u8 i.val &&& UInt8.ofInt 15).toUInt64.toNat < 16 := by decide +kernel
          have := this ⟨c.toNat, c.toNat_lt⟩
          rwa [show u8 c.toNat = c from by apply UInt8.toNat_inj.1; rw [u8_toNat c.toNat_lt]] at this
         have e15 : (c &&& UInt8.ofInt 15).toUInt64.toNat = (c &&& UInt8.ofInt 15).toNat := UInt8.toNat_toUInt64 _
         refine (AU16_ok (T := _) h15 (hV.2.2.1 _ _) (by omega) (by rw [List.map_append, hV.2.2.2.1, bf_wo]; rfl)).mono ?_
         rintro v T' es ⟨rfl, rfl, rfl⟩
         rw [hV.2.2.2.2.2.1, e15, show bf (B5 ++ [hexd (c &&& UInt8.ofInt 15).toNat]) = bf (B ++ qb c) from by rw [hB5, hqb, List.append_assoc]; rfl, show (B5 ++ [hexd (c &&& UInt8.ofInt 15).toNat]).length = (B ++ qb c).length from by rw [hB5, hqb, List.append_assoc]; rfl, show bf (B ++ qb c) = .buf 5 1 ((B ++ qb c).map by8) from rfl]
         simp -dsimp +decide (disch := omega) only [vr, ty, en, ↓reduceIte, Nat.reduceSub, Nat.reduceAdd, Nat.reduceMul, Nat.reduceLT, Int.reduceAdd, Int.reduceSub, Int.reduceToNat, ci, vi, getO_i, vt, hV, rec1_in hjl]
         refine ⟨⟨i + 1, by omega, by omega, ⟨?_, by rw [hci]⟩, ?_⟩, by simp⟩
         . rw [hj1, List.length_append, hLq]; rfl
         . rw [<- hBq]; rfl
       . have h32' : ((c.toNat : Int) < 32) = False := eq_false (by omega)
         rw [if_neg h32] at hqb
         simp -dsimp +decide (disch := omega) only [vr, ty, en, ↓reduceIte, Nat.reduceSub, Nat.reduceAdd, Nat.reduceMul, Nat.reduceLT, Int.reduceAdd, Int.reduceSub, Int.reduceToNat, ci, vi, getO_i, vt, hV, hs', h32', rec1_in hjl, repb, List.set_cons_zero, List.set_cons_succ, List.length_cons]
         refine ⟨⟨by omega, by omega⟩, ⟨i + 1, by omega, by omega, ⟨?_, by rw [hci]⟩, ?_⟩, by simp⟩
         . rw [hqb] at hLq
           rw [hj1, <- hLq]; rfl
         . rw [<- hBq, hqb]; rfl
   . have hlt' : ((i : Int) < (s.length : Int)) = False := eq_false (by omega)
     have hall : s.take i = s := List.take_of_length_le (by omega)
     simp -dsimp +decide (disch := omega) only [vr, ty, en, ↓reduceIte, Nat.reduceSub, Nat.reduceAdd, Nat.reduceMul, Nat.reduceLT, Int.reduceAdd, Int.reduceSub, Int.reduceToNat, ci, vi, getO_i, vt, hV, hlt', rec1_in hjl]
     refine ⟨⟨by omega, by omega⟩, ?_⟩
     have e1 : AObj.buf 5 1 (List.map by8 B ++ [AV.p (.int .u8 34)]) = bf (A ++ quote s) := by
      rw [bf, <- hB, hall, quote]; simp only [List.map_append, List.append_assoc, List.map_cons, List.map_nil, List.cons_append, List.nil_append]; rfl
     have e2 : B.length + 1 = (A ++ quote s).length := by rw [<- hB, hall, quote]; simp only [List.length_append, List.length_cons, List.length_nil]; omega
     rw [e1, e2]
     refine Vw.eff (E' := [(j, true)]) (by simp) ?_
     rw [V, <- List.set_append_left _ _ hjl]
     exact Vw.bf wt.2.1 hjl ⟨rfl, rfl, rfl⟩
end Go.Proofs.YtglpcedoongagaaGreatDoor
namespace Go.J
open Go.Lib
theorem chk2 {c : Nat} (h : c < 2048) : chk c 2 = if 128 <= c then (c, 2) else (0, 0) := by
 have he : (enc c).length = 2 ↔ 128 <= c := by
  by_cases ok : okC c
  . have h1 := ok.1
    have h2 := ok.2
    rcases enc_cases ok with h | h | h | h <;> omega
  . rw [enc_nil ok, List.length_nil]
    unfold okC at ok
    omega
 unfold chk
 by_cases hp : 128 <= c
 . rw [if_pos (he.2 hp), if_pos hp]
 . rw [if_neg (fun e => hp (he.1 e)), if_neg hp]
theorem chk3 {c : Nat} (h : c < 65536) : chk c 3 = if 2048 <= c /\ (c < 55296 ∨ 57344 <= c) then (c, 3) else (0, 0) := by
 have he : (enc c).length = 3 ↔ 2048 <= c /\ (c < 55296 ∨ 57344 <= c) := by
  by_cases ok : okC c
  . have h1 := ok.1
    have h2 := ok.2
    rcases enc_cases ok with h | h | h | h <;> omega
  . rw [enc_nil ok, List.length_nil]
    unfold okC at ok
    omega
 unfold chk
 by_cases hp : 2048 <= c /\ (c < 55296 ∨ 57344 <= c)
 . rw [if_pos (he.2 hp), if_pos hp]
 . rw [if_neg (fun e => hp (he.1 e)), if_neg hp]
theorem chk4 {c : Nat} (h : c < 2097152) : chk c 4 = if 65536 <= c /\ c <= 1114111 then (c, 4) else (0, 0) := by
 have he : (enc c).length = 4 ↔ 65536 <= c /\ c <= 1114111 := by
  by_cases ok : okC c
  . have h1 := ok.1
    have h2 := ok.2
    rcases enc_cases ok with h | h | h | h <;> omega
  . rw [enc_nil ok, List.length_nil]
    unfold okC at ok
    omega
 unfold chk
 by_cases hp : 65536 <= c /\ c <= 1114111
 . rw [if_pos (he.2 hp), if_pos hp]
 . rw [if_neg (fun e => hp (he.1 e)), if_neg hp]
theorem isC_div {x : UInt8} : isC x = decide (x.toNat / 64 = 2) := decide_eq_decide.2 (by omega)
def rR (p : Nat × Nat) : Nat × Nat := if p.2 = 0 then (65533, 1) else p
theorem dec_N (a : UInt8) (r : B) : rR (dec (a :: r)) = decodeN (r.length + 1) a.toNat (r.getD 0 0).toNat (r.getD 1 0).toNat (r.getD 2 0).toNat := by
 have ha := a.toNat_lt
 unfold decodeN
 by_cases h1 : a.toNat < 128
 . rw [if_pos h1, dec, if_pos h1]; rfl
 rw [if_neg h1, dec, if_neg h1]
 by_cases h2 : a.toNat < 192
 . rw [if_pos h2, if_neg (by omega), if_neg (by omega), if_neg (by omega)]; rfl
 rw [if_neg h2]
 by_cases h3 : a.toNat < 224
 . rw [if_pos h3]
   match r with
   | [] => rw [if_neg (by simp), if_neg (by simp), if_neg (by simp)]; rfl
   | x :: t =>
     have hx := x.toNat_lt
     show rR (if isC x then _ else _) = _
     rw [isC_div]
     have e0 : ((x :: t).getD 0 0).toNat = x.toNat := rfl
     have el : 1 < (x :: t).length + 1 := by simp
     rw [e0]
     by_cases c1 : x.toNat / 64 = 2
     . rw [if_pos (decide_eq_true c1), if_pos ⟨by omega, el, c1⟩, chk2 (by omega)]
       by_cases c2 : 128 <= 64 * (a.toNat % 32) + x.toNat % 64
       . rw [if_pos c2, if_pos (by omega), show a.toNat % 32 * 64 = 64 * (a.toNat % 32) by omega]; rfl
       . rw [if_neg c2, if_neg (by omega)]; rfl
     . rw [if_neg (by simpa using c1), if_neg (fun h => c1 h.2.2), if_neg (by omega), if_neg (by omega)]; rfl
 rw [if_neg h3, if_neg (show ¬ (a.toNat / 32 = 6 /\ (1 < r.length + 1 /\ (r.getD 0 0).toNat / 64 = 2)) by omega)]
 by_cases h4 : a.toNat < 240
 . rw [if_pos h4]
   match r with
   | [] => rw [if_neg (by simp), if_neg (by simp)]; rfl
   | [x] => rw [if_neg (by simp), if_neg (by simp)]; rfl
   | x :: y :: t =>
     have hx := x.toNat_lt
     have hy := y.toNat_lt
     show rR (if isC x = true /\ isC y = true then _ else _) = _
     rw [isC_div, isC_div]
     have e0 : ((x :: y :: t).getD 0 0).toNat = x.toNat := rfl
     have e1 : ((x :: y :: t).getD 1 0).toNat = y.toNat := rfl
     have el : 1 < (x :: y :: t).length + 1 := by simp
     have el2 : 2 < (x :: y :: t).length + 1 := by simp
     rw [e0, e1]
     by_cases c1 : x.toNat / 64 = 2 /\ y.toNat / 64 = 2
     . rw [if_pos ⟨decide_eq_true c1.1, decide_eq_true c1.2⟩, if_pos ⟨by omega, ⟨el, c1.1⟩, el2, c1.2⟩, chk3 (by omega)]
       have ev : a.toNat % 16 * 4096 + x.toNat % 64 * 64 + y.toNat % 64 = 64 * (64 * (a.toNat % 16) + x.toNat % 64) + y.toNat % 64 := by omega
       rw [ev]
       by_cases c2 : 2048 <= 64 * (64 * (a.toNat % 16) + x.toNat % 64) + y.toNat % 64 /\ (64 * (64 * (a.toNat % 16) + x.toNat % 64) + y.toNat % 64 < 55296 ∨ 57344 <= 64 * (64 * (a.toNat % 16) + x.toNat % 64) + y.toNat % 64)
       . rw [if_pos c2, if_pos (by omega)]; rfl
       . rw [if_neg c2, if_neg (by omega)]; rfl
     . rw [if_neg (fun h => c1 ⟨of_decide_eq_true h.1, of_decide_eq_true h.2⟩), if_neg (fun h => c1 ⟨h.2.1.2, h.2.2.2⟩), if_neg (by omega)]; rfl
 rw [if_neg h4, if_neg (show ¬ (a.toNat / 16 = 14 /\ (1 < r.length + 1 /\ (r.getD 0 0).toNat / 64 = 2) /\ (2 < r.length + 1 /\ (r.getD 1 0).toNat / 64 = 2)) by omega)]
 by_cases h5 : a.toNat < 248
 . rw [if_pos h5]
   match r with
   | [] => rw [if_neg (by simp)]; rfl
   | [x] => rw [if_neg (by simp)]; rfl
   | [x, y] => rw [if_neg (by simp)]; rfl
   | x :: y :: z :: t =>
     have hx := x.toNat_lt
     have hy := y.toNat_lt
     have hz := z.toNat_lt
     show rR (if isC x = true /\ isC y = true /\ isC z = true then _ else _) = _
     rw [isC_div, isC_div, isC_div]
     have e0 : ((x :: y :: z :: t).getD 0 0).toNat = x.toNat := rfl
     have e1 : ((x :: y :: z :: t).getD 1 0).toNat = y.toNat := rfl
     have e2 : ((x :: y :: z :: t).getD 2 0).toNat = z.toNat := rfl
     have el : 1 < (x :: y :: z :: t).length + 1 := by simp
     have el2 : 2 < (x :: y :: z :: t).length + 1 := by simp
     have el3 : 3 < (x :: y :: z :: t).length + 1 := by simp
     rw [e0, e1, e2]
     by_cases c1 : x.toNat / 64 = 2 /\ y.toNat / 64 = 2 /\ z.toNat / 64 = 2
     . rw [if_pos ⟨decide_eq_true c1.1, decide_eq_true c1.2.1, decide_eq_true c1.2.2⟩, if_pos ⟨by omega, ⟨el, c1.1⟩, ⟨el2, c1.2.1⟩, el3, c1.2.2⟩, chk4 (by omega)]
       have ev : a.toNat % 8 * 262144 + x.toNat % 64 * 4096 + y.toNat % 64 * 64 + z.toNat % 64 = 64 * (64 * (64 * (a.toNat % 8) + x.toNat % 64) + y.toNat % 64) + z.toNat % 64 := by omega
       rw [ev]
       generalize 64 * (64 * (64 * (a.toNat % 8) + x.toNat % 64) + y.toNat % 64) + z.toNat % 64 = c
       by_cases c2 : 65536 <= c /\ c <= 1114111
       . rw [if_pos c2, if_pos (by omega)]; rfl
       . rw [if_neg c2, if_neg (by omega)]; rfl
     . rw [if_neg (fun h => c1 ⟨of_decide_eq_true h.1, of_decide_eq_true h.2.1, of_decide_eq_true h.2.2⟩), if_neg (fun h => c1 ⟨h.2.1.2, h.2.2.1.2, h.2.2.2.2⟩)]; rfl
 . rw [if_neg h5, if_neg (by omega)]; rfl
theorem Valid_inv {l : B} (h : Valid l) : l = [] ∨ ∃ c n, dec l = (c, n) /\ 0 < n /\ Valid (l.drop n) := by
 cases h with
 | nil => exact .inl rfl
 | @cons c r ok hr =>
   refine .inr ⟨c, (enc c).length, dec_enc ok r, ?_, ?_⟩
   . rcases enc_cases ok with h | h | h | h <;> omega
   . rw [List.drop_left' rfl]; exact hr
theorem valid_iff : ∀ (k : Nat) (l : B), l.length <= k -> (validD l = true ↔ Valid l)
 | _, [], _ => ⟨fun _ => .nil, fun _ => rfl⟩
 | 0, a :: r, h => by simp at h
 | k + 1, a :: r, h => by
   have hd : decodeL (a :: r) = rR (dec (a :: r)) := by rw [dec_N, decodeL_N]; rfl
   rw [validD_step _ (by simp), hd]
   obtain ⟨c, n, hcn⟩ : ∃ c n, dec (a :: r) = (c, n) := ⟨_, _, rfl⟩
   rw [hcn]
   by_cases hn : n = 0
   . subst hn
     rw [show rR (c, 0) = (65533, 1) from rfl, if_pos ⟨rfl, rfl⟩]
     refine ⟨(fun h => by cases h), fun hv => ?_⟩
     rcases Valid_inv hv with e | ⟨c', n', h1, h2, _⟩
     . cases e
     . rw [hcn] at h1; simp only [Prod.mk.injEq] at h1; omega
   . have hr : rR (c, n) = (c, n) := if_neg hn
     rw [hr]
     obtain ⟨ok, hln, t, ht⟩ := dec_spec hcn (by omega)
     rw [if_neg (by
      rintro ⟨h1, h2⟩
      dsimp only at h1 h2
      rcases enc_cases ok with h | h | h | h <;> omega)]
     dsimp only
     have hdr : (a :: r).drop n = t := by rw [ht, hln]; exact List.drop_left' rfl
     have hlen : ((a :: r).drop n).length <= k := by rw [List.length_drop]; simp at h ⊢; omega
     rw [valid_iff k _ hlen]
     refine ⟨fun h => by rw [ht, <- hdr]; exact .cons ok h, fun hv => ?_⟩
     rcases Valid_inv hv with e | ⟨c', n', h1, h2, h3⟩
     . cases e
     . rw [hcn] at h1; cases h1; exact h3
end Go.J
namespace Go.Proofs.YtglpcedoongagaaGreatDoor
open Go.E Go.Proofs.YtglpcedoongagaaGreatDoor.Tryz Go.Proofs.Tryz Go.J Go.Proofs
theorem firT_eq (c : Nat) (h : c < 256) : firL[c]? = some (u8 (Lib.firstT c)) := by
 have h' : ∀ i : Fin 256, firL[i.val]? = some (u8 (Lib.firstT i.val)) := by decide +kernel
 exact h' ⟨c, h⟩
theorem accT_eq (i : Nat) (h : i < 16) : accL[2 * i]? = some (u8 (Lib.accLo i)) /\ accL[2 * i + 1]? = some (u8 (Lib.accHi i)) := by
 have h' : ∀ i : Fin 16, accL[2 * i.val]? = some (u8 (Lib.accLo i.val)) /\ accL[2 * i.val + 1]? = some (u8 (Lib.accHi i.val)) := by decide +kernel
 exact h' ⟨i, h⟩
theorem firT_lt (c : Nat) : (u8 (Lib.firstT c)).toNat = Lib.firstT c := by
 refine u8_toNat ?_
 unfold Lib.firstT
 (repeat' split) <;> omega
theorem accLo_lt (c : Nat) : (u8 (Lib.accLo c)).toNat = Lib.accLo c := by
 refine u8_toNat ?_
 unfold Lib.accLo
 (repeat' split) <;> omega
theorem accHi_lt (c : Nat) : (u8 (Lib.accHi c)).toNat = Lib.accHi c := by
 refine u8_toNat ?_
 unfold Lib.accHi
 (repeat' split) <;> omega
theorem valid_ok {T : Tbl} {s : B} (hs : s.length <= 9223372036854775807) : CallA prog G 40 [str s] T fun v T' es => (∃ b : Bool, v = .p (.bool b) /\ (b = true ↔ Valid s)) /\ T' = T /\ es = [] := by
 refine CallA.ofBelow (K := fun v => ∃ b : Bool, v = .p (.bool b) /\ (b = true ↔ Valid s)) ?_
 intro Z ρ w vs hG hst ha
 obtain ⟨v1, us, rfl, r1, ha⟩ := ha.uncons
 obtain rfl := ha.unnil
 obtain rfl := r1.p_inv
 have tabs : Lib.Utf8Tabs (shR.g 3) (shR.g 4) w := by
  obtain ⟨c1, t1, fr1, g1, g2⟩ := gvar hG hst Gfir
  obtain ⟨c2, t2, fr2, g3, g4⟩ := gvar hG hst Gacc
  refine ⟨fun c hc => ?_, fun i hi => ⟨?_, ?_⟩⟩
  . obtain ⟨v, hv, hr⟩ := g2 c (by8 (u8 (Lib.firstT c))) (by rw [List.getElem?_map, firT_eq c hc]; rfl)
    rw [hr.p_inv] at hv
    rw [firT_lt] at hv
    show World.cell? w ⟨0, c, none⟩ = _
    simp [World.cell?, g1, hv]
  . obtain ⟨v, hv, hr⟩ := g4 (2 * i) (by8 (u8 (Lib.accLo i))) (by rw [List.getElem?_map, (accT_eq i hi).1]; rfl)
    rw [hr.p_inv] at hv
    rw [accLo_lt] at hv
    show World.cell? w ⟨1, 2 * i, none⟩ = _
    simp [World.cell?, g3, hv]
  . obtain ⟨v, hv, hr⟩ := g4 (2 * i + 1) (by8 (u8 (Lib.accHi i))) (by rw [List.getElem?_map, (accT_eq i hi).2]; rfl)
    rw [hr.p_inv] at hv
    rw [accHi_lt] at hv
    show World.cell? w ⟨1, 2 * i + 1, none⟩ = _
    simp [World.cell?, g3, hv]
 refine Calls.mono (Any.utf8_ValidString sh_Laysn196 (ba s) w (by rw [ba_size]; exact hs) tabs) ?_
 rintro e w' ⟨rfl, hb⟩
 exact ⟨_, .p (.bool (Lib.validD (ba s).data.toList)), rfl, .p _, ⟨_, rfl, by rw [ba_data]; exact valid_iff _ s (Nat.le_refl _)⟩, hb⟩
end Go.Proofs.YtglpcedoongagaaGreatDoor
namespace Go.Proofs.YtglpcedoongagaaGreatDoor
open Go.E Go.Proofs.YtglpcedoongagaaGreatDoor.Tryz Go.Proofs.Tryz Go.J
def idxS : List B -> B -> Int
 | [], _ => -1
 | x :: r, s => if x = s then 0 else if idxS r s < 0 then -1 else idxS r s + 1
theorem idxS_neg : ∀ (l : List B) (s : B), idxS l s < 0 ↔ s ∉ l
 | [], s => by simp [idxS]
 | x :: r, s => by
   unfold idxS
   have ih := idxS_neg r s
   by_cases h : x = s
   . rw [if_pos h]; subst h; simp
   . rw [if_neg h]
     by_cases h2 : idxS r s < 0
     . rw [if_pos h2]; simp [ih.1 h2, Ne.symm h]
     . rw [if_neg h2]
       have : s ∈ r := by rw [ih] at h2; exact Classical.not_not.1 h2
       simp [this]; omega
theorem idxS_drop (l : List B) (s : B) : ∀ k, k <= l.length -> (∀ j x, j < k -> l[j]? = some x -> x ≠ s) -> idxS l s = if idxS (l.drop k) s < 0 then -1 else idxS (l.drop k) s + k
 | 0, _, _ => by
   rw [List.drop_zero]
   by_cases h : idxS l s < 0
   . rw [if_pos h]
     cases l with
     | nil => rfl
     | cons x r =>
       unfold idxS at h ⊢
       split at h
       . omega
       . rename_i hx
         rw [if_neg hx]
         split at h
         . rename_i h2; rw [if_pos h2]
         . omega
   . rw [if_neg h]; omega
 | k + 1, hk, h => by
   have ih := idxS_drop l s k (by omega) fun j x hj => h j x (by omega)
   rw [ih, List.drop_eq_getElem_cons (show k < l.length by omega), idxS, if_neg (h k _ (by omega) (List.getElem?_eq_getElem (by omega)))]
   by_cases h2 : idxS (l.drop (k + 1)) s < 0
   . rw [if_pos h2, if_pos (by omega), if_pos h2]
   . rw [if_neg h2, if_neg (by omega), if_neg h2]; omega
theorem index_ok {T : Tbl} {a : AV} {ns : List B} {s : B} (hl : ns.length <= 1099511627776) (ha : Sl T 1 a (ns.map str) ns.length) : CallA prog G 23 [a, str s] T fun v T' es => v = wint (idxS ns s) /\ T' = T /\ es = [] := by
 have hr := Sl.rules ha (by decide)
 have hld := Sl.loads ha (P := prog) (t := 9) (by (simp -dsimp +decide only [vsk, vr, ty, en, ↓reduceIte, Nat.reduceSub, Nat.reduceAdd, Nat.reduceMul, Nat.reduceLT, Int.reduceAdd, Int.reduceSub, Int.reduceToNat, ci]))
 rw [show str s = .p (.string (ba s)) from rfl]
 refine CallA.eV 9 func23 ntmps23 results23 ?_
 simp -dsimp +decide only [vsk, vr, ty, en, ↓reduceIte, Nat.reduceSub, Nat.reduceAdd, Nat.reduceMul, Nat.reduceLT, Int.reduceAdd, Int.reduceSub, Int.reduceToNat, ci]
 simp -dsimp +decide (disch := omega) only [vsk, vr, ty, en, ↓reduceIte, Nat.reduceSub, Nat.reduceAdd, Nat.reduceMul, Nat.reduceLT, Int.reduceAdd, Int.reduceSub, Int.reduceToNat, ci, vi, getO_i, vt, hr]
 refine SemA.loopS (fun k : Nat => [(0, a), (1, .p (.string (ba s))), (6, a), (7, wint (ns.length : Int)), (8, wint (k : Int))]) (fun _ => T) (fun k => k <= ns.length /\ ∀ j x, j < k -> ns[j]? = some x -> x ≠ s) (fun k => ns.length - k) 0 [] 0
  (fun _ : Unit => [(0, a)]) (fun _ => T) (fun _ => idxS ns s = -1) ⟨Nat.zero_le _, fun j x h => absurd h (Nat.not_lt_zero j)⟩ ⟨rfl, rfl, rfl, rfl, rfl, rfl⟩ rfl (by simp) ?_ ?_
 . rintro k g ⟨hk, hno⟩
   refine SemA.o ?_
   by_cases hlt : k < ns.length
   . have hlt' : ((k : Int) < (ns.length : Int)) = True := eq_true (by omega)
     have hk0 : (0 : Int) <= (k : Int) := Int.natCast_nonneg k
     have hw : IntKind.i64.wrap ((k : Int) + 1) = ((k + 1 : Nat) : Int) := IntWalk.i64_in _ (by omega)
     obtain ⟨x, hx⟩ : ∃ x, ns[k]? = some x := ⟨_, List.getElem?_eq_getElem hlt⟩
     have hgx : (ns.map str)[k]? = some (.p (.string (ba x))) := by rw [List.getElem?_map, hx]; rfl
     have hdr : idxS ns s = if idxS (ns.drop k) s < 0 then -1 else idxS (ns.drop k) s + k := idxS_drop ns s k hk hno
     rw [List.drop_eq_getElem_cons hlt] at hdr
     have hxe : ns[k] = x := by rw [List.getElem?_eq_getElem hlt] at hx; cases hx; rfl
     rw [hxe] at hdr
     by_cases he : s = x
     . have he' : (ba s = ba x) = True := eq_true (by rw [he])
       simp -dsimp +decide (disch := omega) only [vsk, vr, ty, en, ↓reduceIte, Nat.reduceSub, Nat.reduceAdd, Nat.reduceMul, Nat.reduceLT, Int.reduceAdd, Int.reduceSub, Int.reduceToNat, ci, vi, getO_i, vt, hr, hld, vstr, hlt', hk0, hlt, hgx, he', bb2, Int.toNat_natCast, Nat.mul_one]
       exact Vw.done ⟨by rw [hdr, idxS, if_pos he.symm, if_neg (by omega), Int.zero_add]; rfl, rfl, rfl⟩
     . have he' : (ba s = ba x) = False := eq_false fun h => he (ba_inj.1 h)
       simp -dsimp +decide (disch := omega) only [vsk, vr, ty, en, ↓reduceIte, Nat.reduceSub, Nat.reduceAdd, Nat.reduceMul, Nat.reduceLT, Int.reduceAdd, Int.reduceSub, Int.reduceToNat, ci, vi, getO_i, vt, hr, hld, vstr, hlt', hk0, hlt, hgx, he', bb2, hw, Int.toNat_natCast, Nat.mul_one]
       refine ⟨k + 1, ⟨⟨hlt, fun j y hj hy => ?_⟩, by omega⟩, SeeL.done ⟨rfl, ⟨rfl, rfl, rfl, rfl, rfl, rfl⟩, rfl, by simp⟩⟩
       by_cases hjk : j = k
       . subst hjk; rw [hx] at hy; cases hy; exact fun e => he e.symm
       . exact hno j y (by omega) hy
   . have hlt' : ((k : Int) < (ns.length : Int)) = False := eq_false (by omega)
     have hkn : k = ns.length := by omega
     have hdr : idxS ns s = if idxS (ns.drop k) s < 0 then -1 else idxS (ns.drop k) s + k := idxS_drop ns s k hk hno
     rw [hkn, List.drop_length] at hdr
     simp -dsimp +decide (disch := omega) only [vsk, vr, ty, en, ↓reduceIte, Nat.reduceSub, Nat.reduceAdd, Nat.reduceMul, Nat.reduceLT, Int.reduceAdd, Int.reduceSub, Int.reduceToNat, ci, vi, getO_i, vt, hlt']
     exact ⟨(), hdr, SeeL.done ⟨rfl, ⟨rfl, rfl⟩, rfl, by simp⟩⟩
 . rintro _ g tmp hs
   simp -dsimp +decide (disch := omega) only [vsk, vr, ty, en, ↓reduceIte, Nat.reduceSub, Nat.reduceAdd, Nat.reduceMul, Nat.reduceLT, Int.reduceAdd, Int.reduceSub, Int.reduceToNat, ci, vi, getO_i, vt]
   exact Vw.done ⟨by rw [hs]; rfl, rfl, rfl⟩
theorem contains_ok {T : Tbl} {a : AV} {ns : List B} {s : B} (hl : ns.length <= 1099511627776) (ha : Sl T 1 a (ns.map str) ns.length) : CallA prog G 70 [a, str s] T fun v T' es => v = .p (.bool (decide (s ∈ ns))) /\ T' = T /\ es = [] := by
 rw [show str s = .p (.string (ba s)) from rfl]
 refine CallA.eV 5 func70 ntmps70 results70 ?_
 simp -dsimp +decide only [vsk, vr, ty, en, ↓reduceIte, Nat.reduceSub, Nat.reduceAdd, Nat.reduceMul, Nat.reduceLT, Int.reduceAdd, Int.reduceSub, Int.reduceToNat, ci]
 refine (index_ok (s := s) hl ha).det' ?_
 simp -dsimp +decide (disch := omega) only [vsk, vr, ty, en, ↓reduceIte, Nat.reduceSub, Nat.reduceAdd, Nat.reduceMul, Nat.reduceLT, Int.reduceAdd, Int.reduceSub, Int.reduceToNat, ci, vi, getO_i, vt]
 have h := idxS_neg ns s
 exact Vw.done ⟨by rw [show decide (0 <= idxS ns s) = decide (s ∈ ns) from decide_eq_decide.2 (by rw [<- Classical.not_not (a := s ∈ ns), <- h]; omega)], rfl, rfl⟩
end Go.Proofs.YtglpcedoongagaaGreatDoor
namespace Go.E
section
variable {P : Program} {G : GG} {T : Tbl} {E : Eff} {N n m : Nat} {ro : Option Nat} {ds loc cs : List AV} {tmp : List (Nat × AV)} {Nk R : AKont} {X : Nat -> AKont}
theorem SemB.adoptC {c : Code} {i k : Nat} {Ec : TypeId} (El : TypeId) (sz : Nat) (h0 : 0 < sz) (hi : N <= i) (hT : T[i]? = some (.cells Ec cs)) (hk : cs[k]? = some (.p (.slice none 0 0)))
 (h : SemB P G N ro n m c ds loc tmp (T.set i (.cells Ec (cs.set k (.sl T.length 0 0))) ++ [.buf El sz []]) E Nk X R) : SemB P G N ro n m c ds loc tmp T E Nk X R := by
 refine SemB.view ?_ h
 intro Z0 ρ0 T0 w0 Z ρ w dv lv tv hN hf ha
 obtain ⟨k1, k2⟩ := hf.st.push (w' := w) ⟨none, 0, true⟩ (.buf El sz []) hf.st.of (fun _ _ => rfl) ⟨⟨rfl, h0⟩, 0, by simp, Nat.le_refl _, .inl ⟨rfl, rfl, rfl⟩⟩ (fun b hb => by cases hb)
 have h1 := hf.step k1 k2
 have h2 := ha.step k2
 have hiT := (List.getElem?_eq_some_iff.1 hT).1
 have hT' : (T ++ [.buf El sz []])[i]? = some (.cells Ec cs) := by rw [List.getElem?_append_left hiT]; exact hT
 obtain ⟨x, hx⟩ : ∃ x, (ρ ++ [⟨none, 0, true⟩])[i]? = some x := ⟨_, List.getElem?_eq_getElem (by have := hf.st.len; simp; omega)⟩
 obtain ⟨h3, b, vs, g1, g2, g3⟩ := k1.obj _ _ _ hT' hx
 obtain ⟨v, hv, hr⟩ := g3.get hk
 have := hr.p_inv; subst this
 have h4 := g3.set (a := .sl T.length 0 0) (v := .slice none 0 0) (.sl (x := ⟨none, 0, true⟩) (by rw [<- hf.st.len]; simp) (fun _ => rfl) (Nat.le_refl _) (fun _ _ => rfl)) k
 have e : vs.set k (.slice none 0 0) = vs := by
  refine List.ext_getElem? fun j => ?_
  rw [List.getElem?_set]
  by_cases hj : k = j
  . subst hj
    obtain ⟨hl, he⟩ := List.getElem?_eq_some_iff.1 hv
    rw [if_pos rfl, if_pos hl, hv]
  . rw [if_neg hj]
 rw [e] at h4
 obtain ⟨k3, k4⟩ := k1.write (w' := w) hT' hx rfl (.cells Ec (cs.set k (.sl T.length 0 0))) rfl (fun _ _ => rfl) ⟨rfl, rfl⟩ ⟨h3, b, vs, g1, g2, h4⟩
 have e2 : (T ++ [AObj.buf El sz []]).set i (.cells Ec (cs.set k (.sl T.length 0 0))) = T.set i (.cells Ec (cs.set k (.sl T.length 0 0))) ++ [.buf El sz []] := List.set_append_left _ _ hiT
 rw [e2] at k3 k4
 have h5 := h1.step k3 k4
 refine ⟨_, _, ⟨h5.g, h5.st, h5.ext.more fun y hy hl => ?_⟩, h2.step k4⟩
 rcases recE_mem.1 hy with ⟨q1, q2⟩ | q1
 . simp only [List.mem_singleton] at q1
   subst q1
   simp only at q2; omega
 . exact q1
end
end Go.E
namespace Go.Proofs.YtglpcedoongagaaGreatDoor
open Go.E Go.Proofs.YtglpcedoongagaaGreatDoor.Tryz Go.Proofs.Tryz Go.J
theorem tbs (T : Tbl) (i : Nat) : (∀ x A l, (T.set i x ++ A :: l)[T.length]? = some A) /\ (∀ x A B l, (T.set i x ++ A :: B :: l)[T.length + 1]? = some B) /\ (∀ x A B C l, (T.set i x ++ A :: B :: C :: l)[T.length + 2]? = some C) /\ (∀ x A B C D l, (T.set i x ++ A :: B :: C :: D :: l)[T.length + 3]? = some D) /\
 (∀ x A B C D F l, (T.set i x ++ A :: B :: C :: D :: F :: l)[T.length + 4]? = some F) /\ (∀ x A B C D F H l, (T.set i x ++ A :: B :: C :: D :: F :: H :: l)[T.length + 5]? = some H) /\
 (∀ x A l o, (T.set i x ++ A :: l).set T.length o = T.set i x ++ o :: l) /\ (∀ x A B l o, (T.set i x ++ A :: B :: l).set (T.length + 1) o = T.set i x ++ A :: o :: l) /\ (∀ x A B C l o, (T.set i x ++ A :: B :: C :: l).set (T.length + 2) o = T.set i x ++ A :: B :: o :: l) /\
 (∀ x A B C D l o, (T.set i x ++ A :: B :: C :: D :: l).set (T.length + 3) o = T.set i x ++ A :: B :: C :: o :: l) /\ (∀ x A B C D F l o, (T.set i x ++ A :: B :: C :: D :: F :: l).set (T.length + 4) o = T.set i x ++ A :: B :: C :: D :: o :: l) /\
 (∀ x l, (T.set i x ++ l).length = T.length + l.length) /\ (∀ x l k, List.take (T.length + k) (T.set i x ++ l) = T.set i x ++ l.take k) /\ (∀ x l, List.take T.length (T.set i x ++ l) = T.set i x) /\ (∀ x, (T.set i x).length = T.length) := by
 have h : ∀ x, (T.set i x).length = T.length := fun x => List.length_set
 refine ⟨?_, ?_, ?_, ?_, ?_, ?_, ?_, ?_, ?_, ?_, ?_, ?_, ?_, ?_, h⟩ <;> intros <;> simp [List.getElem?_append_right, List.set_append_right, List.take_append, List.take_of_length_le]
theorem wr5 (a b c d e x y z u v : AV) : wrA [a, b, c, d, e] 0 [x, y, z, u, v] = [x, y, z, u, v] := rfl
theorem tk5 (a b c d e : AV) : List.take 5 [a, b, c, d, e] = [a, b, c, d, e] := rfl
def ValOk (n : Nat) : Prop := ∀ (T : Tbl) (i : Nat) (l : B), l.length <= 1099511627776 -> T[i]? = some (rdr l) -> CallP prog G 29 [.ptr i 0, wint (8 - (n : Int))] T
 (fun v T' es => ∃ u r, val n l = .ok (u, r) /\ v = .ag (vcs u) /\ T' = T.set i (rdr r) /\ es = [(i, false)]) (fun v T' es => ∃ e m, val n l = .error e /\ v = eno e /\ T' = T.set i (rdr m) /\ es = [(i, false)])
theorem blanks_ok' {T : Tbl} {i : Nat} {l : B} (hl : l.length <= 1099511627776) (hi : T[i]? = some (rdr l)) : CallA prog G 30 [.ptr i 0] T fun v T' es => v = .tu [] /\ T' = T.set i (rdr (blk l)) /\ es = [(i, false)] := blanks_ok (by omega) hi
theorem ag5_weak {a b c d e d' e' : AV} (hd : ∀ Z ρ x, Rel Z ρ d x -> Rel Z ρ d' x) (he : ∀ Z ρ x, Rel Z ρ e x -> Rel Z ρ e' x) : ∀ (Z : Heap) (ρ : List BI) (x : Value), Rel Z ρ (.ag [a, b, c, d, e]) x -> Rel Z ρ (.ag [a, b, c, d', e']) x := by
 intro Z ρ x h
 cases h with
 | @ag _ _ vs hl h =>
   refine .ag hl fun k h1 h2 => ?_
   match k, h1 with
   | 0, _ => exact h 0 (by simp) h2
   | 1, _ => exact h 1 (by simp) h2
   | 2, _ => exact h 2 (by simp) h2
   | 3, _ => exact hd _ _ _ (h 3 (by simp) h2)
   | 4, _ => exact he _ _ _ (h 4 (by simp) h2)
theorem lst_end {n : Nat} {l : B} (h : (blk l).head? = some 93) : lst (val n) l = .ok (vList [], (blk l).tail) := if_pos h
theorem vcs_nil (k : UInt8) (z : Int) : AV.ag (vcs (.mk k z [] [] [])) = .ag [by8 k, .p (.int .i64 z), .p (.string ByteArray.empty), .vs [] 0, .vs [] 0] := by rw [vcs, vcsL]; rfl
theorem vcr (u : JV) : (vcs u).length = 5 /\ List.take 5 (vcs u) = vcs u /\ (∀ a b c d e, wrA [a, b, c, d, e] 0 (vcs u) = vcs u) /\ (∀ q, List.map (AV.wo q) (vcs u) = vcs u) /\ ones (vcs u) = true := by
 obtain ⟨k, z, s, ks, ns⟩ := u
 rw [vcs]
 refine ⟨rfl, rfl, fun _ _ _ _ _ => rfl, fun q => ?_, rfl⟩
 simp only [List.map_cons, List.map_nil, AV.wo, str, by8]
theorem vcf : (∀ l : List JV, (l.flatMap vcs).length = l.length * 5) /\ (∀ (l : List JV) q, List.map (AV.wo q) (l.flatMap vcs) = l.flatMap vcs) /\ (∀ (l : List JV) u, l.flatMap vcs ++ vcs u = (l ++ [u]).flatMap vcs) := by
 refine ⟨fun l => ?_, fun l q => ?_, fun l u => ?_⟩
 . induction l with
   | nil => rfl
   | cons v r ih => rw [List.flatMap_cons, List.length_append, ih, vcs_len, List.length_cons]; omega
 . rw [List.map_flatMap]
   exact congrArg (fun f => l.flatMap f) (funext fun v => (vcr v).2.2.2.1 q)
 . rw [List.flatMap_append, List.flatMap_cons, List.flatMap_nil, List.append_nil]
theorem vcs_clean (v : JV) : ∀ a ∈ vcs v, a.Clean := by
 obtain ⟨k, z, s, ks, ns⟩ := v
 rw [vcs]
 intro a ha
 simp only [List.mem_cons, List.not_mem_nil, or_false] at ha
 rcases ha with rfl | rfl | rfl | rfl | rfl
 . exact .p _
 . exact .p _
 . exact .p _
 . exact .vs _ _
 . exact .vs _ _
theorem vcsf_clean (l : List JV) : ∀ a ∈ l.flatMap vcs, a.Clean := by
 intro a ha
 obtain ⟨v, _, hv⟩ := List.mem_flatMap.1 ha
 exact vcs_clean v a hv
theorem Vw.pubDrop {G : Nat -> AV} {T0 T1 U : Tbl} {E : Eff} {K : AV -> Tbl -> Eff -> Prop} {v : AV} {cs : List AV} (j : Nat) {o : AObj} (hlen : T1.length = T0.length) (hw : ∀ q : Nat -> Bool, (∀ i, i < T0.length -> q i = false) -> T1.map (AObj.wo q) = T1) (hj : T0.length <= j)
 (hT : (T1 ++ U)[j]? = some o) (hc : o.cs = some cs) (hcl : ∀ a ∈ cs, a.Clean) (h : K ((v.pub j cs).wo (T0.length <= ·)) T1 E) : Vw G T0 K v (T1 ++ U) E := by
 refine Vw.pub j hT hc hcl ?_
 have hr : rec1 T0.length j false E = E := if_neg (by omega)
 rw [hr]
 refine Vw.cutN T0.length (Nat.le_refl _) ?_
 have hp : T1.map (AObj.pub j cs) = T1 := by
  refine (List.map_congr_left fun o ho => ?_).trans (List.map_id T1)
  refine pub_woO j cs o ?_
  exact List.map_inj_left.1 ((hw (fun i => i == j) fun i hi => by simp; omega).trans (List.map_id T1).symm) o ho
 have e : ((T1 ++ U).map (AObj.pub j cs)).set j .gone = T1 ++ (U.map (AObj.pub j cs)).set (j - T1.length) .gone := by
  rw [List.map_append, hp, List.set_append_right _ _ (by omega)]
 rw [e, List.take_left' hlen, hw _ fun i hi => by simp; omega]
 exact Vw.done h
theorem list_ok {n : Nat} (hv : ValOk n) {T : Tbl} {i : Nat} {l : B} (hl : l.length <= 1099511627776) (hi : T[i]? = some (rdr l)) : CallP prog G 48 [.ptr i 0, wint (8 - (n : Int))] T
 (fun v T' es => ∃ u r, lst (val n) l = .ok (u, r) /\ v = .ag (vcs u) /\ T' = T.set i (rdr r) /\ es = [(i, false)]) (fun v T' es => ∃ e m, lst (val n) l = .error e /\ v = eno e /\ T' = T.set i (rdr m) /\ es = [(i, false)]) := by
 refine CallP.wf fun wf => ?_
 have hil := (List.getElem?_eq_some_iff.1 hi).1
 have hN : ∀ U : Tbl, (T ++ U)[i]? = some (rdr l) := fun U => by rw [get_app hil]; exact hi
 generalize hwi : (8 - (n : Int)) = wi
 refine CallP.enterV Tryz.mp 7 func48 ntmps48 (congrArg Array.toList results48) rfl ⟨by simp, by simp⟩ (by kernel_rfl) (by kernel_rfl) ?_
 simp -dsimp +decide only [vb, Tryz.mpf, vsk, vr, ty, en, ↓reduceIte, Nat.reduceSub, Nat.reduceAdd, Nat.reduceMul, Nat.reduceLT, Int.reduceAdd, Int.reduceSub, Int.reduceToNat, ci]
 refine (blanks_ok' hl (hN _)).det' ?_
 have ht := tbs T i
 have hgi := fun (x : List UInt8) (o : AObj) (U : Tbl) => get_rb (l := o :: U) hil (rdr x)
 have hset := fun (x : List UInt8) (b : AObj) (U : Tbl) (o : AObj) => set_rb (l := b :: U) hil (rdr x) o
 rw [set_app hil, wr5]
 simp -dsimp +decide (disch := omega) only [vb, Tryz.mpf, vsk, vr, ty, en, ↓reduceIte, Nat.reduceSub, Nat.reduceAdd, Nat.reduceMul, Nat.reduceLT, Int.reduceAdd, Int.reduceSub, Int.reduceToNat, ci, vi, getO_i, vt]
 refine (is_ok (c := 93) (hgi (blk l) _ _)).det' ?_
 rw [hset]
 by_cases h93 : (blk l).head? = some 93
 . rw [if_pos h93, decide_eq_true h93]
   simp -dsimp +decide (disch := omega) only [vb, Tryz.mpf, vsk, vr, ty, en, ↓reduceIte, Nat.reduceSub, Nat.reduceAdd, Nat.reduceMul, Nat.reduceLT, Int.reduceAdd, Int.reduceSub, Int.reduceToNat, ci, vi, getO_i, vt, ht, wr5, tk5]
   rw [lst_end h93]
   refine Vw.weak (ag5_weak nil_vs nil_vs) ?_
   exact Vw.eff (E' := [(i, false)]) (by simp [rec1_in hil]) (Vw.drop List.length_set (set_wo (wf _ fun j hj => decide_eq_false (by omega)).1 i _) ⟨_, _, rfl, by rw [vList, vcs_nil]; simp only [AV.wo, AV.woL, by8]; rfl, rfl, rfl⟩)
 rw [if_neg h93, decide_eq_false h93]
 simp -dsimp +decide (disch := omega) only [vb, Tryz.mpf, vsk, vr, ty, en, ↓reduceIte, Nat.reduceSub, Nat.reduceAdd, Nat.reduceMul, Nat.reduceLT, Int.reduceAdd, Int.reduceSub, Int.reduceToNat, ci, vi, getO_i, vt, ht]
 refine SemB.adoptC (i := T.length + 1) (k := 3) 25 5 (by decide) (Nat.le_add_right _ _) (ht.2.1 _ _ _ _) rfl ?_
 simp only [ht]
 have hlst : lst (val n) l = lstL (val n) ((blk l).length + 1) (blk l) [] := if_neg h93
 have hbl := blk_len l
 rw [hlst]
 refine SemB.loopS (fun s : Nat × B × List JV => [(0, .ptr i 0), (1, .p (.int .i64 wi)), (4, .ptr T.length 0), (5, .ptr (T.length + 1) 0)])
  (fun s => T.set i (rdr s.2.1) ++ [.cells 25 [.p (.int .u8 0), .p (.int .i64 0), .p (.string ByteArray.empty), .p (.slice none 0 0), .p (.slice none 0 0)], .cells 25 [.p (.int .u8 4), .p (.int .i64 0), .p (.string ByteArray.empty), .sl (T.length + 2) 0 s.2.2.length, .p (.slice none 0 0)],
   .buf 25 5 (s.2.2.flatMap vcs)])
  (fun s => lstL (val n) s.1 s.2.1 s.2.2 = lstL (val n) ((blk l).length + 1) (blk l) [] /\ s.2.1.length < s.1 /\ s.2.1.length + s.2.2.length <= l.length) (fun s => s.2.1.length) ((blk l).length + 1, blk l, []) [(i, false)] 0
  (fun _ : Unit => []) (fun _ => T) (fun _ => False) ⟨rfl, by simp, by simpa using hbl⟩ ⟨rfl, rfl, rfl, rfl, rfl⟩ (by rw [List.append_assoc]; rfl) (by simp [rec1_in hil]) ?_ (fun _ _ _ h => h.elim)
 rintro ⟨k, m, acc⟩ g ⟨hm, hk, hml⟩
 dsimp only at hm hk hml
 refine SemB.of (by kernel_rfl) ?_
 simp -dsimp +decide (disch := omega) only [vb, Tryz.mpf, vsk, vr, ty, en, ↓reduceIte, Nat.reduceSub, Nat.reduceAdd, Nat.reduceMul, Nat.reduceLT, Int.reduceAdd, Int.reduceSub, Int.reduceToNat, ci, vi, getO_i, vt]
 have wc : ∀ x : B, (T.set i (rdr x)).map (AObj.wo (T.length <= ·)) = T.set i (rdr x) := fun x => set_wo (wf _ fun j hj => decide_eq_false (by omega)).1 i x
 rw [<- hwi]
 refine (hv _ i m (by omega) (hgi m _ _)).mono ?_ ?_
 rotate_left
 . rintro v T' es ⟨e, r, he, rfl, rfl, rfl⟩
   have hlk : lstL (val n) k m acc = .error e := by
    cases k with
    | zero => omega
    | succ k => rw [lstL, he]
   rw [hset]
   simp -dsimp +decide (disch := omega) only [vb, Tryz.mpf, vsk, vr, ty, en, ↓reduceIte, Nat.reduceSub, Nat.reduceAdd, Nat.reduceMul, Nat.reduceLT, Int.reduceAdd, Int.reduceSub, Int.reduceToNat, ci, vi, getO_i, vt]
   exact Vw.eff (E' := [(i, false)]) (by simp [rec1_in hil]) (Vw.drop List.length_set (wc r) ⟨e, r, by rw [<- hm, hlk], eno_wo _ _, rfl, rfl⟩)
 rintro v T' es ⟨u, r, he, rfl, rfl, rfl⟩
 rw [hset, hwi]
 have hvr := vcr u
 have hwq : ∀ x : B, List.map (AObj.wo fun j => j == T.length + 2) (T.set i (rdr x)) = T.set i (rdr x) := fun x => set_wo (wf _ fun j hj => by simp; omega).1 i x
 have hib : (i == T.length + 2) = false := by simp; omega
 simp -dsimp +decide (disch := omega) only [vb, Tryz.mpf, vsk, vr, ty, en, ↓reduceIte, Nat.reduceSub, Nat.reduceAdd, Nat.reduceMul, Nat.reduceLT, Int.reduceAdd, Int.reduceSub, Int.reduceToNat, ci, vi, getO_i, vt, ht, hvr, vcf, hwq, hib, rep1]
 refine ⟨⟨by omega, by omega⟩, ?_⟩
 obtain ⟨k, rfl⟩ : ∃ k', k = k' + 1 := ⟨k - 1, by omega⟩
 have hgood := val_good n m u r he
 have hbr := blk_len r
 rw [lstL, he] at hm
 dsimp only at hm
 refine (blanks_ok' (by omega) (hgi r _ _)).det' ?_
 rw [hset]
 simp -dsimp +decide (disch := omega) only [vb, Tryz.mpf, vsk, vr, ty, en, ↓reduceIte, Nat.reduceSub, Nat.reduceAdd, Nat.reduceMul, Nat.reduceLT, Int.reduceAdd, Int.reduceSub, Int.reduceToNat, ci, vi, getO_i, vt, ht, hvr, vcf, hwq, hib, rep1]
 refine (is_ok (c := 93) (hgi (blk r) _ _)).det' ?_
 rw [hset]
 by_cases h93 : (blk r).head? = some 93
 . rw [if_pos h93, decide_eq_true h93]
   rw [if_pos h93] at hm
   simp -dsimp +decide (disch := omega) only [vb, Tryz.mpf, vsk, vr, ty, en, ↓reduceIte, Nat.reduceSub, Nat.reduceAdd, Nat.reduceMul, Nat.reduceLT, Int.reduceAdd, Int.reduceSub, Int.reduceToNat, ci, vi, getO_i, vt, ht, hvr, vcf, hwq, hib, rep1, wr5, tk5]
   refine Vw.weak (ag5_weak (fun _ _ _ h => h) nil_vs) ?_
   refine Vw.eff (E' := [(i, false)]) (by simp [rec1_in hil]) ?_
   refine Vw.pubDrop (T.length + 2) List.length_set (fun q hq => set_wo (wf q hq).1 i _) (by omega) (ht.2.2.1 _ _ _ _ _) rfl (vcsf_clean _) ?_
   refine ⟨_, _, hm.symm, ?_, rfl, rfl⟩
   rw [vList, vcs_eq]
   simp only [AV.pub, AV.pubL, AV.wo, AV.woL, if_true, by8, JV.kind, JV.num, JV.text, JV.kids, JV.names, List.length_append, List.length_cons, List.length_nil, List.map_nil]
   rfl
 rw [if_neg h93, decide_eq_false h93]
 rw [if_neg h93] at hm
 simp -dsimp +decide (disch := omega) only [vb, Tryz.mpf, vsk, vr, ty, en, ↓reduceIte, Nat.reduceSub, Nat.reduceAdd, Nat.reduceMul, Nat.reduceLT, Int.reduceAdd, Int.reduceSub, Int.reduceToNat, ci, vi, getO_i, vt, ht, hvr, vcf, hwq, hib, rep1]
 refine (is_ok (c := 44) (hgi (blk r) _ _)).det' ?_
 rw [hset]
 by_cases h44 : (blk r).head? = some 44
 rotate_left
 . rw [if_neg h44, decide_eq_false h44]
   rw [if_neg h44] at hm
   simp -dsimp +decide (disch := omega) only [vb, Tryz.mpf, vsk, vr, ty, en, ↓reduceIte, Nat.reduceSub, Nat.reduceAdd, Nat.reduceMul, Nat.reduceLT, Int.reduceAdd, Int.reduceSub, Int.reduceToNat, ci, vi, getO_i, vt, ht]
   refine (need_ok _).mono ?_ ?_
   . rintro v T' es ⟨h, -⟩
     cases h
   . rintro v T' es ⟨-, rfl, rfl, rfl⟩
     simp -dsimp +decide (disch := omega) only [vb, Tryz.mpf, vsk, vr, ty, en, ↓reduceIte, Nat.reduceSub, Nat.reduceAdd, Nat.reduceMul, Nat.reduceLT, Int.reduceAdd, Int.reduceSub, Int.reduceToNat, ci, vi, getO_i, vt]
     exact Vw.eff (E' := [(i, false)]) (by simp [rec1_in hil]) (Vw.drop List.length_set (wc _) ⟨5, _, hm.symm, eno_wo _ _, rfl, rfl⟩)
 rw [if_pos h44, decide_eq_true h44]
 rw [if_pos h44] at hm
 have htl := tail_len h44
 simp -dsimp +decide (disch := omega) only [vb, Tryz.mpf, vsk, vr, ty, en, ↓reduceIte, Nat.reduceSub, Nat.reduceAdd, Nat.reduceMul, Nat.reduceLT, Int.reduceAdd, Int.reduceSub, Int.reduceToNat, ci, vi, getO_i, vt, ht]
 refine (need_ok _).mono ?_ ?_
 rotate_left
 . rintro v T' es ⟨h, -⟩
   cases h
 rintro v T' es ⟨-, rfl, rfl, rfl⟩
 simp -dsimp +decide (disch := omega) only [vb, Tryz.mpf, vsk, vr, ty, en, ↓reduceIte, Nat.reduceSub, Nat.reduceAdd, Nat.reduceMul, Nat.reduceLT, Int.reduceAdd, Int.reduceSub, Int.reduceToNat, ci, vi, getO_i, vt]
 refine ⟨(k, (blk r).tail, acc ++ [u]), ⟨⟨hm, by dsimp only; omega, by dsimp only; rw [List.length_append]; simp; omega⟩, by dsimp only; omega⟩, ?_⟩
 refine SeeL.cut (T.length + 3) (by omega) ?_
 have hwl : ∀ x : B, List.map (AObj.wo fun j => decide (T.length + 3 <= j)) (T.set i (rdr x)) = T.set i (rdr x) := fun x => set_wo (wf _ fun j hj => decide_eq_false (by omega)).1 i x
 have hil3 : decide (T.length + 3 <= i) = false := decide_eq_false (by omega)
 simp -dsimp +decide (disch := omega) only [vb, Tryz.mpf, vsk, vr, ty, en, ↓reduceIte, Nat.reduceSub, Nat.reduceAdd, Nat.reduceMul, Nat.reduceLT, Int.reduceAdd, Int.reduceSub, Int.reduceToNat, ci, vi, getO_i, vt, ht, vcf, hwl, hil3]
 exact SeeL.done ⟨rfl, ⟨rfl, rfl, rfl, rfl, rfl⟩, by simp only [List.length_append, List.length_cons, List.length_nil, vcf], by simp [rec1_in hil]⟩
end Go.Proofs.YtglpcedoongagaaGreatDoor
namespace Go.E
section
variable {P : Program} {G : Nat -> AV} {Z Z' Z0 : Heap} {ρ ρ' ρ0 : List BI} {T T' T0 : Tbl} {w w' w0 : World} {a b : AV} {u v : Value} {K : AV -> Tbl -> Eff -> Prop} {cs : List AV} {es E : Eff}
variable {N n m : Nat} {ro : Option Nat} {ds loc : List AV} {tmp : List (Nat × AV)} {Nk R : AKont} {X : Nat -> AKont}
inductive PU where
 | nil : PU
 | st : Nat -> Bool -> PU -> PU
 | alt : Nat -> PU -> Nat -> PU -> PU
 | al3 : Nat -> PU -> Nat -> PU -> Nat -> PU -> PU
def PU.len : PU -> Nat
 | .nil => 0
 | .st _ _ r => r.len + 1
 | .alt _ r _ _ => r.len + 1
 | .al3 _ r _ _ _ _ => r.len + 1
def PU.isNil : PU -> Bool
 | .nil => true
 | _ => false
def planOKU (ops : Array Oper) (cl : Nat) (o : Option Nat) : PU -> Array Bool -> Bool
 | .nil, listed => (Region.ready .any ops listed).isEmpty
 | .st i fl r, listed =>
   (if fl then (Region.ready .any ops listed).contains i && Region.free .any ops listed i && (cl != i && ((match ops[i]? with | none => false | some oi => pureOp oi.op) || blocks ops cl i listed))
    else Region.ready .any ops listed == [i] && (if r.isNil || some i == o then (i == cl && decide (i < listed.size)) || listed.getD cl false else !(listed.getD cl false) && i != cl)) &&
   planOKU ops cl o r (listed.setIfInBounds i true)
 | .alt i r j s, listed => Region.ready .any ops listed == [i, j] && !(listed.getD cl false) && i != cl && j != cl && r.len == s.len && planOKU ops cl o r (listed.setIfInBounds i true) && planOKU ops cl o s (listed.setIfInBounds j true)
 | .al3 i r j s k t, listed => Region.ready .any ops listed == [i, j, k] && !(listed.getD cl false) && i != cl && j != cl && k != cl && r.len == s.len && r.len == t.len && planOKU ops cl o r (listed.setIfInBounds i true) && planOKU ops cl o s (listed.setIfInBounds j true) && planOKU ops cl o t (listed.setIfInBounds k true)
def planU (P : Program) (n : Nat) (base : Nat -> Value) (ops : List Oper) (cl : Option Nat) (I : World -> Prop) (ds : List Nat) : PU -> List Value -> List (Nat × Value) -> World -> (K : Kont) -> Prop
 | .nil, loc, tmp, w, K => K ds loc tmp w
 | .st i true r, loc, tmp, w, K => planO n base ops ops[i]? loc tmp
   (fun o => floatV P (ev n base loc tmp) o.op o.type I fun v => putK n o.dst v loc tmp fun loc tmp => planU P n base ops cl I ds r loc tmp w K)
   (fun o => putK n o.dst undef loc tmp fun loc tmp => planU P n base ops cl I ds r loc tmp w K)
 | .st i false r, loc, tmp, w, K => planO n base ops ops[i]? loc tmp
   (fun o => opV P (ev n base loc tmp) o.op o.type w fun v w' => putK n o.dst v loc tmp fun loc tmp => ∃ I', (r.isNil = false -> some i ≠ cl -> I' w' /\ ∀ w, I' w -> I w) /\ planU P n base ops cl I' ds r loc tmp w' K)
   (fun o => putK n o.dst undef loc tmp fun loc tmp => planU P n base ops cl I ds r loc tmp w K)
 | .alt i r j s, loc, tmp, w, K =>
   planO n base ops ops[i]? loc tmp
    (fun o => opV P (ev n base loc tmp) o.op o.type w fun v w' => putK n o.dst v loc tmp fun loc tmp => ∃ I', (I' w' /\ ∀ w, I' w -> I w) /\ planU P n base ops cl I' ds r loc tmp w' K)
    (fun o => putK n o.dst undef loc tmp fun loc tmp => planU P n base ops cl I ds r loc tmp w K) /\
   planO n base ops ops[j]? loc tmp
    (fun o => opV P (ev n base loc tmp) o.op o.type w fun v w' => putK n o.dst v loc tmp fun loc tmp => ∃ I', (I' w' /\ ∀ w, I' w -> I w) /\ planU P n base ops cl I' ds s loc tmp w' K)
    (fun o => putK n o.dst undef loc tmp fun loc tmp => planU P n base ops cl I ds s loc tmp w K)
 | .al3 i r j s k t, loc, tmp, w, K =>
   planO n base ops ops[i]? loc tmp
    (fun o => opV P (ev n base loc tmp) o.op o.type w fun v w' => putK n o.dst v loc tmp fun loc tmp => ∃ I', (I' w' /\ ∀ w, I' w -> I w) /\ planU P n base ops cl I' ds r loc tmp w' K)
    (fun o => putK n o.dst undef loc tmp fun loc tmp => planU P n base ops cl I ds r loc tmp w K) /\
   planO n base ops ops[j]? loc tmp
    (fun o => opV P (ev n base loc tmp) o.op o.type w fun v w' => putK n o.dst v loc tmp fun loc tmp => ∃ I', (I' w' /\ ∀ w, I' w -> I w) /\ planU P n base ops cl I' ds s loc tmp w' K)
    (fun o => putK n o.dst undef loc tmp fun loc tmp => planU P n base ops cl I ds s loc tmp w K) /\
   planO n base ops ops[k]? loc tmp
    (fun o => opV P (ev n base loc tmp) o.op o.type w fun v w' => putK n o.dst v loc tmp fun loc tmp => ∃ I', (I' w' /\ ∀ w, I' w -> I w) /\ planU P n base ops cl I' ds t loc tmp w' K)
    (fun o => putK n o.dst undef loc tmp fun loc tmp => planU P n base ops cl I ds t loc tmp w K)
theorem planU_any {Q : Exit -> Act -> World -> Prop} {n m cl : Nat} {oc : Option Nat} {base : Nat -> Value} {l : List Oper} {ds : List Nat} {K : Kont} (hsel : Region.noSelect l.toArray = true) (hdef : noDefer l.toArray = true) (hQ : ∀ c (a a' : Act) w, Q (.panic c) a w -> Q (.panic c) a' w) (hall : l.all (dstIn m) = true) :
 ∀ (pl : PU) (listed : Array Bool) (I : World -> Prop) (loc : List Value) (tmp : List (Nat × Value)) (w : World) (a : Act), planU P n base l oc I ds pl loc tmp w K -> planOKU l.toArray cl oc pl listed = true -> (listed.getD cl false = false -> I w) ->
  Agree n base loc tmp a -> a.tmps.size = m -> a.defers = ds.map markOf ->
  (∀ loc tmp w a, Agree n base loc tmp a -> a.tmps.size = m -> a.defers = ds.map markOf -> K ds loc tmp w -> Q .normal a w) -> AnyI ro P l.toArray Q cl I pl.len listed a w
 | .nil, listed, I, loc, tmp, w, a, h, hpl, hI, ha, hs, hd, hK => by
   simp only [planOKU, List.isEmpty_iff] at hpl
   exact ⟨hI, hpl, hK loc tmp w a ha hs hd h⟩
 | .st i fl r, listed, I, loc, tmp, w, a, h, hpl, hI, ha, hs, hd, hK => by
   rw [planOKU, Bool.and_eq_true] at hpl
   obtain ⟨hpl1, hpl2⟩ := hpl
   cases ho : l[i]? with
   | none => cases fl <;> (simp only [planU, ho, planO] at h)
   | some o =>
     have hoi : l.toArray[i]? = some o := by simpa using ho
     have hmem : o ∈ l := List.mem_of_getElem? ho
     have hd1 : dstIn m o = true := List.all_eq_true.1 hall o hmem
     have hdst : ∀ t, o.dst = some t -> t < a.tmps.size := by rw [hs]; exact dstIn_spec hd1
     have hnext : ∀ (I' : World -> Prop) v w', ((listed.setIfInBounds i true).getD cl false = false -> I' w') -> (putK n o.dst v loc tmp fun loc tmp => planU P n base l oc I' ds r loc tmp w' K) -> AnyI ro P l.toArray Q cl I' r.len (listed.setIfInBounds i true) (a.put o.dst v) w' := by
      intro I' v w' hI' hv
      obtain ⟨loc', tmp', ha', hv'⟩ := ha.put hdst v hv
      exact planU_any hsel hdef hQ hall r _ I' loc' tmp' w' _ hv' hpl2 hI' ha' (by cases o.dst <;> simp [Act.put, hs]) (by cases o.dst <;> simp [Act.put, hd]) hK
     cases fl with
     | true =>
       simp only [planU, ho, planO] at h
       rw [<- ha.ev] at h
       simp only [if_true, Bool.and_eq_true, List.contains_iff_mem, Bool.or_eq_true, Bool.not_eq_true', bne_iff_ne, ne_eq, hoi] at hpl1
       obtain ⟨⟨hp1, hp2⟩, hp4, hp3⟩ := hpl1
       have hnext' : ∀ v, (putK n o.dst v loc tmp fun loc tmp => planU P n base l oc I ds r loc tmp w K) -> AnyI ro P l.toArray Q cl I r.len (listed.setIfInBounds i true) (a.put o.dst v) w := fun v hk =>
        hnext I v w (fun hl => hI (by rw [getD_set_ne false (Ne.symm hp4)] at hl; exact hl)) hk
       rcases hp3 with hp3 | hp3
       . have hgive : ∃ v, GivesI P l.toArray (fun _ => True) o v a /\ putK n o.dst v loc tmp fun loc tmp => planU P n base l oc I ds r loc tmp w K := by
          rcases grdV_wanted h with ⟨hw, h⟩ | ⟨hw, h⟩
          . obtain ⟨v, hv, hk⟩ := floatV_run (floatV_pure hp3 h)
            exact ⟨v, .inl ⟨hw, hv⟩, hk⟩
          . exact ⟨undef, .inr ⟨hw, rfl⟩, h⟩
         obtain ⟨v, hg, hk⟩ := hgive
         exact AnyI_first2 [] (.inl fun _ => trivial) hp4 hoi (Region.noSelect_spec hsel) (noDefer_spec hdef) (fun c a w => hQ c _ _ w) r.len listed a w (fun j oj hj hne hun hno => Region.free_spec hoi hp2 j oj hj hne hun hno) (.inl fun _ => trivial) hp1 hg (hnext' v hk)
       . have hgive : ∃ v, GivesI P l.toArray I o v a /\ putK n o.dst v loc tmp fun loc tmp => planU P n base l oc I ds r loc tmp w K := by
          rcases grdV_wanted h with ⟨hw, h⟩ | ⟨hw, h⟩
          . obtain ⟨v, hv, hk⟩ := floatV_run h
            exact ⟨v, .inl ⟨hw, hv⟩, hk⟩
          . exact ⟨undef, .inr ⟨hw, rfl⟩, h⟩
         obtain ⟨v, hg, hk⟩ := hgive
         simp only [blocks, Bool.and_eq_true, Bool.or_eq_true, Bool.not_eq_true', List.contains_iff_mem, List.all_eq_true] at hp3
         obtain ⟨⟨⟨hb1, hb2⟩, hb3⟩, hb4⟩ := hp3
         refine AnyI_first2 (waitsFor l.toArray i) (.inr ⟨fun _ h => h, ?_, fun j hj oj hoj => ?_⟩) hp4 hoi (Region.noSelect_spec hsel) (noDefer_spec hdef) (fun c a w => hQ c _ _ w) r.len listed a w (fun j oj hj hne hun hno => Region.free_spec hoi hp2 j oj hj hne hun hno) (.inr ⟨hb3, hb4⟩) hp1 hg (hnext' v hk)
         . rcases hb2 with h | h
           . exact .inl h
           . right
             split at h
             . assumption
             . cases h
         . have := List.all_eq_true.1 hb1 j hj
           rw [hoj] at this
           obtain ⟨k, hk, hk'⟩ := Array.any_eq_true.1 this
           simp only [Bool.and_eq_true, Bool.or_eq_true, beq_iff_eq, List.contains_iff_mem] at hk'
           exact ⟨_, Array.getElem_mem hk, hk'⟩
     | false =>
       simp only [Bool.false_eq_true, if_false, beq_iff_eq, Bool.and_eq_true] at hpl1
       obtain ⟨hp1, hp2⟩ := hpl1
       refine ⟨hI, fun e => (by rw [e] at hp1; cases hp1), fun j hj => ?_⟩
       rw [hp1, List.mem_singleton] at hj
       subst hj
       unfold wpOpIn
       simp only [hoi]
       simp only [planU, ho, planO] at h
       rw [<- ha.ev] at h
       by_cases hcl : r.isNil = true ∨ some j = oc
       . have hcl' : (r.isNil || some j == oc) = true := by
          rcases hcl with h | h
          . simp [h]
          . simp [h]
         rw [hcl', if_pos rfl, Bool.or_eq_true, Bool.and_eq_true, beq_iff_eq, decide_eq_true_eq] at hp2
         have hset : (listed.setIfInBounds j true).getD cl false = true := by
          rcases hp2 with hp2 | hp2
          . rw [<- hp2.1]; simp [hp2.2]
          . by_cases hjc : j = cl
            . subst hjc
              simp only [Array.getD_eq_getD_getElem?, Array.getElem?_setIfInBounds] at hp2 ⊢
              by_cases hb : j < listed.size
              . simp [hb]
              . simp [hb] at hp2
            . rw [getD_set_ne false hjc]; exact hp2
         have hfin : ∀ (I' : World -> Prop) v w', (putK n o.dst v loc tmp fun loc tmp => planU P n base l oc I' ds r loc tmp w' K) -> AnyI ro P l.toArray Q cl I r.len (listed.setIfInBounds j true) (a.put o.dst v) w' := fun I' v w' hv =>
          (hnext I' v w' (fun hf => by rw [hset] at hf; cases hf) hv).listed _ _ _ _ hset
         rcases grdV_wanted h with ⟨hw, h⟩ | ⟨hw, h⟩
         . rw [if_pos hw]
           refine (opV_step h).wp fun v w' hv => ?_
           obtain ⟨loc', tmp', ha', I', hI', hv'⟩ := ha.put hdst v hv
           exact (planU_any hsel hdef hQ hall r _ I' loc' tmp' w' _ hv' hpl2 (fun hf => by rw [hset] at hf; cases hf) ha' (by cases o.dst <;> simp [Act.put, hs]) (by cases o.dst <;> simp [Act.put, hd]) hK).listed _ _ _ _ hset
         . rw [if_neg (by rw [hw]; simp)]
           exact ⟨fun f _ => fz_fn f, hfin I _ _ h⟩
       . have hcl' : (r.isNil || some j == oc) = false := by
          rw [not_or] at hcl
          simp [hcl.1, hcl.2]
         rw [hcl'] at hp2
         simp only [Bool.false_eq_true, if_false, Bool.and_eq_true, Bool.not_eq_true', bne_iff_ne, ne_eq] at hp2
         rw [not_or] at hcl
         have hfin : ∀ v w', (putK n o.dst v loc tmp fun loc tmp => ∃ I', (r.isNil = false -> some j ≠ oc -> I' w' /\ ∀ w, I' w -> I w) /\ planU P n base l oc I' ds r loc tmp w' K) -> AnyI ro P l.toArray Q cl I r.len (listed.setIfInBounds j true) (a.put o.dst v) w' := by
          intro v w' hv
          obtain ⟨loc', tmp', ha', I', hI', hv'⟩ := ha.put hdst v hv
          have hi' := hI' (by simpa using hcl.1) hcl.2
          exact (planU_any hsel hdef hQ hall r _ I' loc' tmp' w' (a.put o.dst v) hv' hpl2 (fun _ => hi'.1) ha' (by cases o.dst <;> simp [Act.put, hs]) (by cases o.dst <;> simp [Act.put, hd]) hK).mono hi'.2
         rcases grdV_wanted h with ⟨hw, h⟩ | ⟨hw, h⟩
         . rw [if_pos hw]
           exact (opV_step h).wp hfin
         . rw [if_neg (by rw [hw]; simp)]
           exact ⟨fun f _ => fz_fn f, hnext I _ _ (fun _ => hI hp2.1) h⟩
 | .alt i r j s, listed, I, loc, tmp, w, a, h, hpl, hI, ha, hs, hd, hK => by
   simp only [planOKU, Bool.and_eq_true, beq_iff_eq, Bool.not_eq_true', bne_iff_ne, ne_eq] at hpl
   obtain ⟨⟨⟨⟨⟨⟨hp1, hp2⟩, hp3⟩, hp4⟩, hp5⟩, hp6⟩, hp7⟩ := hpl
   obtain ⟨h1, h2⟩ := h
   refine ⟨hI, fun e => (by rw [e] at hp1; cases hp1), fun k hk => ?_⟩
   rw [hp1] at hk
   rcases List.mem_cons.1 hk with rfl | hk
   . exact stepT hall h1 ha hs hd (hI hp2) (fun I' loc tmp w a hf hi' ha hs hd => planU_any hsel hdef hQ hall r _ I' loc tmp w a hf hp6 (fun _ => hi') ha hs hd hK)
   . rw [List.mem_singleton] at hk
     subst hk
     have := stepT hall h2 ha hs hd (hI hp2) (fun I' loc tmp w a hf hi' ha hs hd => planU_any hsel hdef hQ hall s _ I' loc tmp w a hf hp7 (fun _ => hi') ha hs hd hK)
     rw [hp5]
     exact this
 | .al3 i r j s k2 t, listed, I, loc, tmp, w, a, h, hpl, hI, ha, hs, hd, hK => by
   simp only [planOKU, Bool.and_eq_true, beq_iff_eq, Bool.not_eq_true', bne_iff_ne, ne_eq] at hpl
   obtain ⟨⟨⟨⟨⟨⟨⟨⟨⟨hp1, hp2⟩, hp3⟩, hp4⟩, hp4'⟩, hp5⟩, hp5'⟩, hp6⟩, hp7⟩, hp8⟩ := hpl
   obtain ⟨h1, h2, h3⟩ := h
   refine ⟨hI, fun e => (by rw [e] at hp1; cases hp1), fun k hk => ?_⟩
   rw [hp1] at hk
   rcases List.mem_cons.1 hk with rfl | hk
   . exact stepT hall h1 ha hs hd (hI hp2) (fun I' loc tmp w a hf hi' ha hs hd => planU_any hsel hdef hQ hall r _ I' loc tmp w a hf hp6 (fun _ => hi') ha hs hd hK)
   . rcases List.mem_cons.1 hk with rfl | hk
     . have := stepT hall h2 ha hs hd (hI hp2) (fun I' loc tmp w a hf hi' ha hs hd => planU_any hsel hdef hQ hall s _ I' loc tmp w a hf hp7 (fun _ => hi') ha hs hd hK)
       rw [hp5]
       exact this
     . rw [List.mem_singleton] at hk
       subst hk
       have := stepT hall h3 ha hs hd (hI hp2) (fun I' loc tmp w a hf hi' ha hs hd => planU_any hsel hdef hQ hall t _ I' loc tmp w a hf hp8 (fun _ => hi') ha hs hd hK)
       rw [hp5']
       exact this
def planUA (P : Program) (G : Nat -> AV) (N n : Nat) (ops : List Oper) (cl : Option Nat) (keep : Nat -> Bool) : List AV -> PU -> List AV -> List (Nat × AV) -> Tbl -> Eff -> (K : AKont) -> Prop
 | ds, .nil, loc, tmp, T, E, K => K ds loc tmp T E
 | ds, .st i true r, loc, tmp, T, E, K => planOA ops ops[i]? (evA G n loc tmp)
  (fun o => rdF P (evA G n loc tmp) o.op o.type (keepT keep T) fun v => putA n o.dst v loc tmp fun loc tmp => planUA P G N n ops cl keep ds r loc tmp T E K)
  (fun o => putA n o.dst (.p undef) loc tmp fun loc tmp => planUA P G N n ops cl keep ds r loc tmp T E K)
 | ds, .st i false r, loc, tmp, T, E, K => planOA ops ops[i]? (evA G n loc tmp)
  (fun o => opA P G (evA G n loc tmp) o.op o.type T fun v T' es => putA n o.dst v (slots es loc) (slotsT es tmp) fun loc tmp => (keepOK keep es = true ∨ r.isNil = true ∨ some i = cl) /\ planUA P G N n ops cl keep (slots es ds) r loc tmp T' (recE N es E) K)
  (fun o => putA n o.dst (.p undef) loc tmp fun loc tmp => planUA P G N n ops cl keep ds r loc tmp T E K)
 | ds, .alt i r j s, loc, tmp, T, E, K => planOA ops ops[i]? (evA G n loc tmp)
  (fun o => opA P G (evA G n loc tmp) o.op o.type T fun v T' es => putA n o.dst v (slots es loc) (slotsT es tmp) fun loc tmp => (keepOK keep es = true) /\ planUA P G N n ops cl keep (slots es ds) r loc tmp T' (recE N es E) K)
  (fun o => putA n o.dst (.p undef) loc tmp fun loc tmp => planUA P G N n ops cl keep ds r loc tmp T E K) /\
   planOA ops ops[j]? (evA G n loc tmp)
    (fun o => opA P G (evA G n loc tmp) o.op o.type T fun v T' es => putA n o.dst v (slots es loc) (slotsT es tmp) fun loc tmp => (keepOK keep es = true) /\ planUA P G N n ops cl keep (slots es ds) s loc tmp T' (recE N es E) K)
    (fun o => putA n o.dst (.p undef) loc tmp fun loc tmp => planUA P G N n ops cl keep ds s loc tmp T E K)
 | ds, .al3 i r j s k t, loc, tmp, T, E, K => planOA ops ops[i]? (evA G n loc tmp)
  (fun o => opA P G (evA G n loc tmp) o.op o.type T fun v T' es => putA n o.dst v (slots es loc) (slotsT es tmp) fun loc tmp => (keepOK keep es = true) /\ planUA P G N n ops cl keep (slots es ds) r loc tmp T' (recE N es E) K)
  (fun o => putA n o.dst (.p undef) loc tmp fun loc tmp => planUA P G N n ops cl keep ds r loc tmp T E K) /\
   planOA ops ops[j]? (evA G n loc tmp)
    (fun o => opA P G (evA G n loc tmp) o.op o.type T fun v T' es => putA n o.dst v (slots es loc) (slotsT es tmp) fun loc tmp => (keepOK keep es = true) /\ planUA P G N n ops cl keep (slots es ds) s loc tmp T' (recE N es E) K)
    (fun o => putA n o.dst (.p undef) loc tmp fun loc tmp => planUA P G N n ops cl keep ds s loc tmp T E K) /\
   planOA ops ops[k]? (evA G n loc tmp)
    (fun o => opA P G (evA G n loc tmp) o.op o.type T fun v T' es => putA n o.dst v (slots es loc) (slotsT es tmp) fun loc tmp => (keepOK keep es = true) /\ planUA P G N n ops cl keep (slots es ds) t loc tmp T' (recE N es E) K)
    (fun o => putA n o.dst (.p undef) loc tmp fun loc tmp => planUA P G N n ops cl keep ds t loc tmp T E K)
theorem planUA_sound {n : Nat} {base : Nat -> Value} {ops : List Oper} {cl : Option Nat} {keep : Nat -> Bool} {K : AKont} : ∀ (pl : PU) (ds loc : List AV) (tmp : List (Nat × AV)) (dv : List Nat) (lv : List Value) (tv : List (Nat × Value)) (Z : Heap) (ρ : List BI) (T : Tbl) (w : World) (E : Eff),
 planUA P G ρ0.length n ops cl keep ds pl loc tmp T E K -> Frm G Z0 ρ0 T0 w0 Z ρ T w E -> At Z ρ ds loc tmp dv lv tv -> planU P n base ops cl (Agr Z ρ (keepT keep T) w) dv pl lv tv w (LK G Z0 ρ0 T0 w0 K)
 | .nil, ds, loc, tmp, dv, lv, tv, Z, ρ, T, w, E, h, hf, ha => ⟨Z, ρ, T, E, ds, loc, tmp, hf, ha.ds, ha.loc, ha.tmp, h⟩
 | .st i true r, ds, loc, tmp, dv, lv, tv, Z, ρ, T, w, E, h, hf, ha => by
   simp only [planUA, planOA] at h
   simp only [planU, planO]
   have he := evA_rel (n := n) (base := base) hf.g ha.loc ha.tmp
   cases ho : ops[i]? with
   | none => rw [ho] at h; exact h.elim
   | some o =>
     rw [ho] at h
     simp only at h ⊢
     refine grdA_sound h he (fun h => ?_) (fun h => ?_)
     . refine valV_mono (rdF_sound (hf.st.keepT keep) he h) (fun _ _ h => h) (fun s h => FloatP.mono h (fun _ h => h) ?_) ?_
       all_goals
        rintro v ⟨a, h1, h2⟩
        exact putA_sound h2 h1 ha fun loc tmp lv tv hk hat => planUA_sound r _ _ _ _ _ _ _ _ _ _ _ hk hf hat
     . exact putA_sound h (.p _) ha fun loc tmp lv tv hk hat => planUA_sound r _ _ _ _ _ _ _ _ _ _ _ hk hf hat
 | .st i false r, ds, loc, tmp, dv, lv, tv, Z, ρ, T, w, E, h, hf, ha => by
   simp only [planUA, planOA] at h
   simp only [planU, planO]
   have he := evA_rel (n := n) (base := base) hf.g ha.loc ha.tmp
   cases ho : ops[i]? with
   | none => rw [ho] at h; exact h.elim
   | some o =>
     rw [ho] at h
     simp only at h ⊢
     refine grdA_sound h he (fun h => ?_) (fun h => ?_)
     . refine opV_mono (opA_sound hf.g hf.st he h) fun v w' h2 => ?_
       obtain ⟨Z', ρ', T', es, a, k1, k2, k3, k4⟩ := h2
       refine putA_sound k4 k3 (ha.step k2) fun loc tmp lv tv hk hat => ⟨Agr Z' ρ' (keepT keep T') w', fun hr hc => ?_, planUA_sound r _ _ _ _ _ _ _ _ _ _ _ hk.2 (hf.step k1 k2) hat⟩
       exact ⟨agr_self (k1.keepT keep), agr_step k2 (hk.1.resolve_right (fun h => h.elim (fun h => by rw [hr] at h; cases h) hc))⟩
     . exact putA_sound h (.p _) ha fun loc tmp lv tv hk hat => planUA_sound r _ _ _ _ _ _ _ _ _ _ _ hk hf hat
 | .alt i r j s, ds, loc, tmp, dv, lv, tv, Z, ρ, T, w, E, h, hf, ha => by
   simp only [planUA, planOA] at h
   simp only [planU, planO]
   have he := evA_rel (n := n) (base := base) hf.g ha.loc ha.tmp
   refine ⟨?_, ?_⟩
   . have h := h.1
     cases ho : ops[i]? with
     | none => rw [ho] at h; exact h.elim
     | some o =>
       rw [ho] at h
       simp only at h ⊢
       refine grdA_sound h he (fun h => ?_) (fun h => ?_)
       . refine opV_mono (opA_sound hf.g hf.st he h) fun v w' h2 => ?_
         obtain ⟨Z', ρ', T', es, a, k1, k2, k3, k4⟩ := h2
         refine putA_sound k4 k3 (ha.step k2) fun loc tmp lv tv hk hat => ⟨Agr Z' ρ' (keepT keep T') w', ⟨agr_self (k1.keepT keep), agr_step k2 hk.1⟩, planUA_sound r _ _ _ _ _ _ _ _ _ _ _ hk.2 (hf.step k1 k2) hat⟩
       . exact putA_sound h (.p _) ha fun loc tmp lv tv hk hat => planUA_sound r _ _ _ _ _ _ _ _ _ _ _ hk hf hat
   . have h := h.2
     cases ho : ops[j]? with
     | none => rw [ho] at h; exact h.elim
     | some o =>
       rw [ho] at h
       simp only at h ⊢
       refine grdA_sound h he (fun h => ?_) (fun h => ?_)
       . refine opV_mono (opA_sound hf.g hf.st he h) fun v w' h2 => ?_
         obtain ⟨Z', ρ', T', es, a, k1, k2, k3, k4⟩ := h2
         refine putA_sound k4 k3 (ha.step k2) fun loc tmp lv tv hk hat => ⟨Agr Z' ρ' (keepT keep T') w', ⟨agr_self (k1.keepT keep), agr_step k2 hk.1⟩, planUA_sound s _ _ _ _ _ _ _ _ _ _ _ hk.2 (hf.step k1 k2) hat⟩
       . exact putA_sound h (.p _) ha fun loc tmp lv tv hk hat => planUA_sound s _ _ _ _ _ _ _ _ _ _ _ hk hf hat
 | .al3 i r j s k3 t, ds, loc, tmp, dv, lv, tv, Z, ρ, T, w, E, h, hf, ha => by
   simp only [planUA, planOA] at h
   simp only [planU, planO]
   have he := evA_rel (n := n) (base := base) hf.g ha.loc ha.tmp
   refine ⟨?_, ?_, ?_⟩
   . have h := h.1
     cases ho : ops[i]? with
     | none => rw [ho] at h; exact h.elim
     | some o =>
       rw [ho] at h
       simp only at h ⊢
       refine grdA_sound h he (fun h => ?_) (fun h => ?_)
       . refine opV_mono (opA_sound hf.g hf.st he h) fun v w' h2 => ?_
         obtain ⟨Z', ρ', T', es, a, k1, k2, k3, k4⟩ := h2
         refine putA_sound k4 k3 (ha.step k2) fun loc tmp lv tv hk hat => ⟨Agr Z' ρ' (keepT keep T') w', ⟨agr_self (k1.keepT keep), agr_step k2 hk.1⟩, planUA_sound r _ _ _ _ _ _ _ _ _ _ _ hk.2 (hf.step k1 k2) hat⟩
       . exact putA_sound h (.p _) ha fun loc tmp lv tv hk hat => planUA_sound r _ _ _ _ _ _ _ _ _ _ _ hk hf hat
   . have h := h.2.1
     cases ho : ops[j]? with
     | none => rw [ho] at h; exact h.elim
     | some o =>
       rw [ho] at h
       simp only at h ⊢
       refine grdA_sound h he (fun h => ?_) (fun h => ?_)
       . refine opV_mono (opA_sound hf.g hf.st he h) fun v w' h2 => ?_
         obtain ⟨Z', ρ', T', es, a, k1, k2, k3, k4⟩ := h2
         refine putA_sound k4 k3 (ha.step k2) fun loc tmp lv tv hk hat => ⟨Agr Z' ρ' (keepT keep T') w', ⟨agr_self (k1.keepT keep), agr_step k2 hk.1⟩, planUA_sound s _ _ _ _ _ _ _ _ _ _ _ hk.2 (hf.step k1 k2) hat⟩
       . exact putA_sound h (.p _) ha fun loc tmp lv tv hk hat => planUA_sound s _ _ _ _ _ _ _ _ _ _ _ hk hf hat
   . have h := h.2.2
     cases ho : ops[k3]? with
     | none => rw [ho] at h; exact h.elim
     | some o =>
       rw [ho] at h
       simp only at h ⊢
       refine grdA_sound h he (fun h => ?_) (fun h => ?_)
       . refine opV_mono (opA_sound hf.g hf.st he h) fun v w' h2 => ?_
         obtain ⟨Z', ρ', T', es, a, k1, k2, k3, k4⟩ := h2
         refine putA_sound k4 k3 (ha.step k2) fun loc tmp lv tv hk hat => ⟨Agr Z' ρ' (keepT keep T') w', ⟨agr_self (k1.keepT keep), agr_step k2 hk.1⟩, planUA_sound t _ _ _ _ _ _ _ _ _ _ _ hk.2 (hf.step k1 k2) hat⟩
       . exact putA_sound h (.p _) ha fun loc tmp lv tv hk hat => planUA_sound t _ _ _ _ _ _ _ _ _ _ _ hk hf hat
theorem SemA.drawU0 {id : Nat} {ops : Array Oper} (cl : Nat) (oc : Option Nat) (keep : Nat -> Bool) (pl : PU) (hm : P.follows .mixedOrders = true)
 (hok : (Region.noSelect ops && noDefer ops && ops.toList.all (dstIn m) && pl.len == ops.size && planOKU ops cl oc pl (Array.replicate ops.size false)) = true)
 (h : planUA P G N n ops.toList oc keep ds pl loc [] T E Nk) : SemA P G N ro n m (.region id ops true) ds loc tmp T E Nk X R := by
 simp only [Bool.and_eq_true, beq_iff_eq] at hok
 obtain ⟨⟨⟨⟨h1, h0⟩, h2⟩, h3⟩, h4⟩ := hok
 intro Z0 ρ0 T0 w0 Z ρ w dv lv tv hN hf ha
 refine SemV.cleared ?_
 intro a haa Qs hQs
 refine wpIn_mono (Q := fun e a w => ∃ dv lv tv, Fits' n m dv lv tv a /\ mkQ (LK G Z0 ρ0 T0 w0 Nk) (fun i => LK G Z0 ρ0 T0 w0 (X i)) (LK G Z0 ρ0 T0 w0 R) e dv lv tv w) ?_ (fun e a w ⟨ds, loc, tmp, hf, hq⟩ => hQs _ _ _ _ _ _ hf hq)
 have hdr : Alike { w with drawn := w.drawn + 1 } w := ⟨rfl, rfl, rfl⟩
 have hf' := hf.same hdr
 subst hN
 refine wpIn_region_any hm (AnyI.any (cl := cl) (I := Agr Z ρ (keepT keep T) { w with drawn := w.drawn + 1 }) _ _ _ _ ?_)
 have := planU_any (P := P) (cl := cl) (oc := oc) (ro := ro) (Q := fun e a w => ∃ dv lv tv, Fits' n m dv lv tv a /\ mkQ (LK G Z0 ρ0 T0 w0 Nk) (fun i => LK G Z0 ρ0 T0 w0 (X i)) (LK G Z0 ρ0 T0 w0 R) e dv lv tv w) (l := ops.toList) (K := LK G Z0 ρ0 T0 w0 Nk) (by simpa using h1) (by simpa using h0) (fun c a a' w ⟨ds, loc, tmp, _, hq⟩ => hq.elim) h2 pl
  (Array.replicate ops.size false) (Agr Z ρ (keepT keep T) { w with drawn := w.drawn + 1 }) lv [] { w with drawn := w.drawn + 1 } a (planUA_sound pl ds loc [] dv lv [] Z ρ T _ E h hf' ha.clear) (by simpa using h4) (fun _ => agr_self (hf'.st.keepT keep)) haa.clear haa.size haa.defers
  (fun loc tmp w a h1 h2 h3 hk => ⟨dv, loc, tmp, ⟨⟨_, h1⟩, h2, h3⟩, hk⟩)
 rw [h3] at this
 simpa using this
theorem SemA.drawU {id : Nat} {ops : Array Oper} (L : List (Nat × AV)) (Tb : Tbl) (Ei : Eff) (cl : Nat) (keep : Nat -> Bool) (pl : PU) (hm : P.follows .mixedOrders = true)
 (hok : (Region.noSelect ops && noDefer ops && ops.toList.all (dstIn m) && pl.len == ops.size && planOKU ops cl (some cl) pl (Array.replicate ops.size false)) = true)
 (h : planUA P G N n ops.toList (some cl) keep ds pl loc [] T E (fun ds' loc' _ T' E' => SeeL G N n ds' loc' T' E' ds L Tb Ei)) (next : ∀ g tmp, Nk ds (mkA g L 0 n) tmp Tb Ei) : SemA P G N ro n m (.region id ops true) ds loc tmp T E Nk X R := by
 have h0 := SemA.drawU0 (ro := ro) (X := X) (R := R) (tmp := tmp) (id := id) cl (some cl) keep pl hm hok h
 intro Z0 ρ0 T0 w0 Z ρ w dv lv tv hN hf ha
 refine (h0 Z0 ρ0 T0 w0 Z ρ w dv lv tv hN hf ha).mono fun e dv lv tv w hq => ?_
 cases e with
 | normal =>
   obtain ⟨Z1, ρ1, T1, E1, ds1, loc1, tmp1, g1, g2, g3, g4, hv⟩ := hq
   obtain ⟨Z2, ρ2, loc2, k1, k2, k3⟩ := hv Z0 ρ0 T0 w0 Z1 ρ1 w dv lv hN g1 ⟨g2, g3, .nil⟩
   obtain ⟨g, rfl⟩ := k3.elim
   exact ⟨Z2, ρ2, Tb, Ei, ds, _, _, k1, k2.ds, k2.loc, RelT.all tv, next g _⟩
 | exit i => exact hq
 | ret => exact hq
 | _ => exact hq.elim
theorem vpu :
 (∀ (P : Program) (G : Nat -> AV) (N n : Nat) (ops : List Oper) (cl : Option Nat) (keep : Nat -> Bool) (ds : List AV) (loc : List AV) (tmp : List (Nat × AV)) (T : Tbl) (E : Eff) (K : AKont), planUA P G N n ops cl keep ds .nil loc tmp T E K = K ds loc tmp T E) /\
 (∀ (P : Program) (G : Nat -> AV) (N n : Nat) (ops : List Oper) (cl : Option Nat) (keep : Nat -> Bool) (ds : List AV) (loc : List AV) (tmp : List (Nat × AV)) (T : Tbl) (E : Eff) (K : AKont) (i : Nat) (r : PU), planUA P G N n ops cl keep ds (.st i true r) loc tmp T E K = (planOA ops ops[i]? (evA G n loc tmp)
     (fun o => rdF P (evA G n loc tmp) o.op o.type (keepT keep T) fun v => putA n o.dst v loc tmp fun loc tmp => planUA P G N n ops cl keep ds r loc tmp T E K)
     (fun o => putA n o.dst (.p undef) loc tmp fun loc tmp => planUA P G N n ops cl keep ds r loc tmp T E K))) /\
 (∀ (P : Program) (G : Nat -> AV) (N n : Nat) (ops : List Oper) (cl : Option Nat) (keep : Nat -> Bool) (ds : List AV) (loc : List AV) (tmp : List (Nat × AV)) (T : Tbl) (E : Eff) (K : AKont) (i : Nat) (r : PU), planUA P G N n ops cl keep ds (.st i false r) loc tmp T E K = (planOA ops ops[i]? (evA G n loc tmp)
     (fun o => opA P G (evA G n loc tmp) o.op o.type T fun v T' es => putA n o.dst v (slots es loc) (slotsT es tmp) fun loc tmp => (keepOK keep es = true ∨ r.isNil = true ∨ some i = cl) /\ planUA P G N n ops cl keep (slots es ds) r loc tmp T' (recE N es E) K)
     (fun o => putA n o.dst (.p undef) loc tmp fun loc tmp => planUA P G N n ops cl keep ds r loc tmp T E K))) /\
 (∀ (P : Program) (G : Nat -> AV) (N n : Nat) (ops : List Oper) (cl : Option Nat) (keep : Nat -> Bool) (ds : List AV) (loc : List AV) (tmp : List (Nat × AV)) (T : Tbl) (E : Eff) (K : AKont) (i : Nat) (r : PU) (j : Nat) (s : PU), planUA P G N n ops cl keep ds (.alt i r j s) loc tmp T E K = (planOA ops ops[i]? (evA G n loc tmp)
     (fun o => opA P G (evA G n loc tmp) o.op o.type T fun v T' es => putA n o.dst v (slots es loc) (slotsT es tmp) fun loc tmp => (keepOK keep es = true) /\ planUA P G N n ops cl keep (slots es ds) r loc tmp T' (recE N es E) K)
     (fun o => putA n o.dst (.p undef) loc tmp fun loc tmp => planUA P G N n ops cl keep ds r loc tmp T E K) /\
  planOA ops ops[j]? (evA G n loc tmp)
   (fun o => opA P G (evA G n loc tmp) o.op o.type T fun v T' es => putA n o.dst v (slots es loc) (slotsT es tmp) fun loc tmp => (keepOK keep es = true) /\ planUA P G N n ops cl keep (slots es ds) s loc tmp T' (recE N es E) K)
   (fun o => putA n o.dst (.p undef) loc tmp fun loc tmp => planUA P G N n ops cl keep ds s loc tmp T E K))) /\
  (∀ (P : Program) (G : Nat -> AV) (N n : Nat) (ops : List Oper) (cl : Option Nat) (keep : Nat -> Bool) (ds : List AV) (loc : List AV) (tmp : List (Nat × AV)) (T : Tbl) (E : Eff) (K : AKont) (i : Nat) (r : PU) (j : Nat) (s : PU) (k : Nat) (t : PU), planUA P G N n ops cl keep ds (.al3 i r j s k t) loc tmp T E K = (planOA ops ops[i]? (evA G n loc tmp)
   (fun o => opA P G (evA G n loc tmp) o.op o.type T fun v T' es => putA n o.dst v (slots es loc) (slotsT es tmp) fun loc tmp => (keepOK keep es = true) /\ planUA P G N n ops cl keep (slots es ds) r loc tmp T' (recE N es E) K)
   (fun o => putA n o.dst (.p undef) loc tmp fun loc tmp => planUA P G N n ops cl keep ds r loc tmp T E K) /\
  planOA ops ops[j]? (evA G n loc tmp)
   (fun o => opA P G (evA G n loc tmp) o.op o.type T fun v T' es => putA n o.dst v (slots es loc) (slotsT es tmp) fun loc tmp => (keepOK keep es = true) /\ planUA P G N n ops cl keep (slots es ds) s loc tmp T' (recE N es E) K)
   (fun o => putA n o.dst (.p undef) loc tmp fun loc tmp => planUA P G N n ops cl keep ds s loc tmp T E K) /\
  planOA ops ops[k]? (evA G n loc tmp)
   (fun o => opA P G (evA G n loc tmp) o.op o.type T fun v T' es => putA n o.dst v (slots es loc) (slotsT es tmp) fun loc tmp => (keepOK keep es = true) /\ planUA P G N n ops cl keep (slots es ds) t loc tmp T' (recE N es E) K)
   (fun o => putA n o.dst (.p undef) loc tmp fun loc tmp => planUA P G N n ops cl keep ds t loc tmp T E K))) /\ (PU.nil.isNil = true) /\ (∀ i b r, (PU.st i b r).isNil = false) /\ (∀ i r j s, (PU.alt i r j s).isNil = false) /\ (∀ i r j s k t, (PU.al3 i r j s k t).isNil = false) :=
 ⟨fun _ _ _ _ _ _ _ _ _ _ _ _ _ => rfl, fun _ _ _ _ _ _ _ _ _ _ _ _ _ _ _ => rfl, fun _ _ _ _ _ _ _ _ _ _ _ _ _ _ _ => rfl, fun _ _ _ _ _ _ _ _ _ _ _ _ _ _ _ _ _ => rfl, fun _ _ _ _ _ _ _ _ _ _ _ _ _ _ _ _ _ _ _ => rfl, rfl, fun _ _ _ => rfl, fun _ _ _ _ => rfl, fun _ _ _ _ _ _ => rfl⟩
end
end Go.E
namespace Go.Proofs.YtglpcedoongagaaGreatDoor
open Go.E Go.Proofs.YtglpcedoongagaaGreatDoor.Tryz Go.Proofs.Tryz Go.J
theorem obj_end {n : Nat} {l : B} (h : (blk l).head? = some 125) : obj (val n) l = .ok (vObj [] [], (blk l).tail) := if_pos h
theorem nam_none {ns : List B} {l : B} (h : txtQ (blk l) = none) : nam ns l = none := by
 unfold nam
 unfold txtQ at h
 split at h
 . rename_i h1; rw [if_pos h1, h]
 . rename_i h1; rw [if_neg h1]
theorem nam_some {ns : List B} {l s r : B} (h : txtQ (blk l) = some (s, r)) : nam ns l = if s ∈ ns then none else if (blk r).head? = some 58 then some (s, (blk r).tail) else none := by
 unfold nam
 unfold txtQ at h
 split at h
 . rename_i h1
   rw [if_pos h1, h]
 . cases h
theorem txtQ_len {l s r : B} (h : txtQ l = some (s, r)) : r.length + 1 < l.length := by
 unfold txtQ at h
 split at h
 . rename_i h1
   have := txtF_len l.tail.length l.tail [] s r (Nat.le_refl _) h
   have h2 := tail_len h1
   simp only [List.flatMap_nil, List.length_nil] at this
   omega
 . cases h
theorem strf : (∀ (l : List B) q, List.map (AV.wo q) (l.map str) = l.map str) /\ (∀ (l : List B) s, l.map str ++ [.p (.string (ba s))] = (l ++ [s]).map str) /\ (∀ l : List B, (l.map str).length = l.length) := by
 refine ⟨fun l q => ?_, fun l s => ?_, fun l => List.length_map _⟩
 . rw [List.map_map]; exact List.map_congr_left fun s _ => str_wo q s
 . rw [List.map_append]; rfl
theorem tbs6 (T : Tbl) (i : Nat) (x A B C D F H J : AObj) (l : Tbl) : (T.set i x ++ A :: B :: C :: D :: F :: H :: J :: l)[T.length + 6]? = some J := by simp [List.getElem?_append_right]
def keep5 (n i : Nat) : Bool := decide (i < n + 2) || i == n + 4
theorem kN (n : Nat) : keep5 n n = true /\ keep5 n (n + 1) = true /\ keep5 n (n + 2) = false /\ keep5 n (n + 3) = false /\ keep5 n (n + 4) = true /\ keep5 n (n + 5) = false /\ keep5 n (n + 6) = false /\ (∀ a b : Nat, (n + a == n + b) = (a == b)) /\ (∀ b : Nat, (n == n + b) = (0 == b)) /\ (∀ a : Nat, (n + a == n) = (a == 0)) := by
 unfold keep5
 refine ⟨by simp, by simp, by simp, by simp, by simp, by simp, by simp, fun a b => ?_, fun b => ?_, fun a => ?_⟩ <;> rw [Bool.eq_iff_iff, beq_iff_eq, beq_iff_eq] <;> omega
theorem Vw.pubU {G : Nat -> AV} {T0 T1 U : Tbl} {E : Eff} {K : AV -> Tbl -> Eff -> Prop} {v : AV} {cs : List AV} (j : Nat) {o : AObj} (hlen : T1.length = T0.length) (hw : ∀ q : Nat -> Bool, (∀ i, i < T0.length -> q i = false) -> T1.map (AObj.wo q) = T1) (hj : T0.length <= j)
 (hT : (T1 ++ U)[j]? = some o) (hc : o.cs = some cs) (hcl : ∀ a ∈ cs, a.Clean) (h : Vw G T0 K (v.pub j cs) (T1 ++ (U.map (AObj.pub j cs)).set (j - T1.length) .gone) E) : Vw G T0 K v (T1 ++ U) E := by
 refine Vw.pub j hT hc hcl ?_
 have hr : rec1 T0.length j false E = E := if_neg (by omega)
 have hp : T1.map (AObj.pub j cs) = T1 := by
  refine (List.map_congr_left fun o ho => ?_).trans (List.map_id T1)
  refine pub_woO j cs o ?_
  exact List.map_inj_left.1 ((hw (fun i => i == j) fun i hi => by simp; omega).trans (List.map_id T1).symm) o ho
 rw [hr, List.map_append, hp, List.set_append_right _ _ (by omega)]
 exact h
theorem str_pub (j : Nat) (cs : List AV) (l : List B) : (l.map str).map (AV.pub j cs) = l.map str := by
 rw [List.map_map]; exact List.map_congr_left fun s _ => by rw [Function.comp, str, AV.pub]
theorem str_clean (l : List B) : ∀ a ∈ l.map str, a.Clean := by
 intro a ha
 obtain ⟨s, _, rfl⟩ := List.mem_map.1 ha
 exact .p _
theorem object_ok {n : Nat} (hv : ValOk n) {T : Tbl} {i : Nat} {l : B} (hl : l.length <= 1099511627776) (hi : T[i]? = some (rdr l)) : CallP prog G 49 [.ptr i 0, wint (8 - (n : Int))] T
 (fun v T' es => ∃ u r, obj (val n) l = .ok (u, r) /\ v = .ag (vcs u) /\ T' = T.set i (rdr r) /\ es = [(i, false)]) (fun v T' es => ∃ e m, obj (val n) l = .error e /\ v = eno e /\ T' = T.set i (rdr m) /\ es = [(i, false)]) := by
 refine CallP.wf fun wf => ?_
 have hil := (List.getElem?_eq_some_iff.1 hi).1
 have hN : ∀ U : Tbl, (T ++ U)[i]? = some (rdr l) := fun U => by rw [get_app hil]; exact hi
 have wc : ∀ x : B, (T.set i (rdr x)).map (AObj.wo (T.length <= ·)) = T.set i (rdr x) := fun x => set_wo (wf _ fun j hj => decide_eq_false (by omega)).1 i x
 generalize hwi : (8 - (n : Int)) = wi
 refine CallP.enterV Tryz.mp 8 func49 ntmps49 (congrArg Array.toList results49) rfl ⟨by simp, by simp⟩ (by kernel_rfl) (by kernel_rfl) ?_
 simp -dsimp +decide only [vb, Tryz.mpf, vsk, vr, ty, en, ↓reduceIte, Nat.reduceSub, Nat.reduceAdd, Nat.reduceMul, Nat.reduceLT, Int.reduceAdd, Int.reduceSub, Int.reduceToNat, ci]
 refine (blanks_ok' hl (hN _)).det' ?_
 have ht := tbs T i
 have hgi := fun (x : List UInt8) (o : AObj) (U : Tbl) => get_rb (l := o :: U) hil (rdr x)
 have hset := fun (x : List UInt8) (b : AObj) (U : Tbl) (o : AObj) => set_rb (l := b :: U) hil (rdr x) o
 rw [set_app hil, wr5]
 simp -dsimp +decide (disch := omega) only [vb, Tryz.mpf, vsk, vr, ty, en, ↓reduceIte, Nat.reduceSub, Nat.reduceAdd, Nat.reduceMul, Nat.reduceLT, Int.reduceAdd, Int.reduceSub, Int.reduceToNat, ci, vi, getO_i, vt]
 refine (is_ok (c := 125) (hgi (blk l) _ _)).det' ?_
 rw [hset]
 by_cases h125 : (blk l).head? = some 125
 . rw [if_pos h125, decide_eq_true h125]
   simp -dsimp +decide (disch := omega) only [vb, Tryz.mpf, vsk, vr, ty, en, ↓reduceIte, Nat.reduceSub, Nat.reduceAdd, Nat.reduceMul, Nat.reduceLT, Int.reduceAdd, Int.reduceSub, Int.reduceToNat, ci, vi, getO_i, vt, ht, wr5, tk5]
   rw [obj_end h125]
   refine Vw.weak (ag5_weak nil_vs nil_vs) ?_
   exact Vw.eff (E' := [(i, false)]) (by simp [rec1_in hil]) (Vw.drop List.length_set (wc _) ⟨_, _, rfl, by rw [vObj, vcs_nil]; simp only [AV.wo, AV.woL, by8]; rfl, rfl, rfl⟩)
 rw [if_neg h125, decide_eq_false h125]
 simp -dsimp +decide (disch := omega) only [vb, Tryz.mpf, vsk, vr, ty, en, ↓reduceIte, Nat.reduceSub, Nat.reduceAdd, Nat.reduceMul, Nat.reduceLT, Int.reduceAdd, Int.reduceSub, Int.reduceToNat, ci, vi, getO_i, vt, ht]
 refine SemB.adoptC (i := T.length + 1) (k := 3) 25 5 (by decide) (Nat.le_add_right _ _) (ht.2.1 _ _ _ _) rfl ?_
 simp only [ht, List.append_assoc, List.cons_append, List.nil_append]
 refine SemB.adoptC (i := T.length + 1) (k := 4) 9 1 (by decide) (Nat.le_add_right _ _) (ht.2.1 _ _ _ _) rfl ?_
 simp only [ht, List.append_assoc, List.cons_append, List.nil_append]
 have hobj : obj (val n) l = objL (val n) ((blk l).length + 1) (blk l) [] [] := if_neg h125
 have hbl := blk_len l
 rw [hobj]
 refine SemB.loopS (fun s : Nat × B × List B × List JV => [(0, .ptr i 0), (1, .p (.int .i64 wi)), (4, .ptr T.length 0), (5, .ptr (T.length + 1) 0)])
  (fun s => T.set i (rdr s.2.1) ++ [.cells 25 [.p (.int .u8 0), .p (.int .i64 0), .p (.string ByteArray.empty), .p (.slice none 0 0), .p (.slice none 0 0)], .cells 25 [.p (.int .u8 5), .p (.int .i64 0), .p (.string ByteArray.empty), .sl (T.length + 2) 0 s.2.2.2.length, .sl (T.length + 3) 0 s.2.2.1.length],
   .buf 25 5 (s.2.2.2.flatMap vcs), .buf 9 1 (s.2.2.1.map str)])
  (fun s => objL (val n) s.1 s.2.1 s.2.2.1 s.2.2.2 = objL (val n) ((blk l).length + 1) (blk l) [] [] /\ s.2.1.length < s.1 /\ s.2.1.length + s.2.2.2.length <= l.length /\ s.2.2.1.length = s.2.2.2.length) (fun s => s.2.1.length) ((blk l).length + 1, blk l, [], []) [(i, false)] 0
  (fun _ : Unit => []) (fun _ => T) (fun _ => False) ⟨rfl, by simp, by simpa using hbl, rfl⟩ ⟨rfl, rfl, rfl, rfl, rfl⟩ rfl (by simp [rec1_in hil]) ?_ (fun _ _ _ h => h.elim)
 rintro ⟨k, m, ns, acc⟩ g ⟨hm, hk, hml, hna⟩
 dsimp only at hm hk hml hna
 refine SemB.of (by kernel_rfl) ?_
 obtain ⟨k, rfl⟩ : ∃ k', k = k' + 1 := ⟨k - 1, by omega⟩
 have hbm := blk_len m
 rw [objL] at hm
 simp -dsimp +decide (disch := omega) only [vb, Tryz.mpf, vsk, vr, ty, en, ↓reduceIte, Nat.reduceSub, Nat.reduceAdd, Nat.reduceMul, Nat.reduceLT, Int.reduceAdd, Int.reduceSub, Int.reduceToNat, ci, vi, getO_i, vt]
 refine (blanks_ok' (by omega) (hgi m _ _)).det' ?_
 rw [hset]
 simp -dsimp +decide (disch := omega) only [vb, Tryz.mpf, vsk, vr, ty, en, ↓reduceIte, Nat.reduceSub, Nat.reduceAdd, Nat.reduceMul, Nat.reduceLT, Int.reduceAdd, Int.reduceSub, Int.reduceToNat, ci, vi, getO_i, vt]
 refine (text_ok (by omega) (hgi (blk m) _ _)).mono ?_ ?_
 rotate_left
 . rintro v T' es ⟨he, rfl, ⟨r, rfl⟩, rfl⟩
   rw [nam_none he] at hm
   rw [hset]
   simp -dsimp +decide (disch := omega) only [vb, Tryz.mpf, vsk, vr, ty, en, ↓reduceIte, Nat.reduceSub, Nat.reduceAdd, Nat.reduceMul, Nat.reduceLT, Int.reduceAdd, Int.reduceSub, Int.reduceToNat, ci, vi, getO_i, vt]
   exact Vw.eff (E' := [(i, false)]) (by simp [rec1_in hil]) (Vw.drop List.length_set (wc r) ⟨5, r, hm.symm, eno_wo _ _, rfl, rfl⟩)
 rintro v T' es ⟨s, r, he, rfl, rfl, rfl⟩
 rw [nam_some he] at hm
 rw [hset]
 simp -dsimp +decide (disch := omega) only [vb, Tryz.mpf, vsk, vr, ty, en, ↓reduceIte, Nat.reduceSub, Nat.reduceAdd, Nat.reduceMul, Nat.reduceLT, Int.reduceAdd, Int.reduceSub, Int.reduceToNat, ci, vi, getO_i, vt, ht]
 refine (contains_ok (ns := ns) (s := s) (by omega) (Sl.obj (ht.2.2.2.1 _ _ _ _ _ _) rfl (by rw [List.length_map, Nat.mul_one]))).det' ?_
 simp -dsimp +decide (disch := omega) only [vb, Tryz.mpf, vsk, vr, ty, en, ↓reduceIte, Nat.reduceSub, Nat.reduceAdd, Nat.reduceMul, Nat.reduceLT, Int.reduceAdd, Int.reduceSub, Int.reduceToNat, ci, vi, getO_i, vt]
 by_cases hs : s ∈ ns
 . rw [decide_eq_true hs]
   rw [if_pos hs] at hm
   refine (need_ok _).mono ?_ ?_
   . rintro v T' es ⟨h, -⟩
     cases h
   . rintro v T' es ⟨-, rfl, rfl, rfl⟩
     simp -dsimp +decide (disch := omega) only [vb, Tryz.mpf, vsk, vr, ty, en, ↓reduceIte, Nat.reduceSub, Nat.reduceAdd, Nat.reduceMul, Nat.reduceLT, Int.reduceAdd, Int.reduceSub, Int.reduceToNat, ci, vi, getO_i, vt]
     exact Vw.eff (E' := [(i, false)]) (by simp [rec1_in hil]) (Vw.drop List.length_set (wc _) ⟨5, _, hm.symm, eno_wo _ _, rfl, rfl⟩)
 rw [decide_eq_false hs]
 rw [if_neg hs] at hm
 refine (need_ok _).mono ?_ ?_
 rotate_left
 . rintro v T' es ⟨h, -⟩
   cases h
 rintro v T' es ⟨-, rfl, rfl, rfl⟩
 simp -dsimp +decide (disch := omega) only [vb, Tryz.mpf, vsk, vr, ty, en, ↓reduceIte, Nat.reduceSub, Nat.reduceAdd, Nat.reduceMul, Nat.reduceLT, Int.reduceAdd, Int.reduceSub, Int.reduceToNat, ci, vi, getO_i, vt]
 have hrl := txtQ_len he
 refine (blanks_ok' (by omega) (hgi r _ _)).det' ?_
 rw [hset]
 simp -dsimp +decide (disch := omega) only [vb, Tryz.mpf, vsk, vr, ty, en, ↓reduceIte, Nat.reduceSub, Nat.reduceAdd, Nat.reduceMul, Nat.reduceLT, Int.reduceAdd, Int.reduceSub, Int.reduceToNat, ci, vi, getO_i, vt]
 have hbr := blk_len r
 refine (is_ok (c := 58) (hgi (blk r) _ _)).det' ?_
 rw [hset]
 by_cases h58 : (blk r).head? = some 58
 rotate_left
 . rw [if_neg h58, decide_eq_false h58]
   rw [if_neg h58] at hm
   simp -dsimp +decide (disch := omega) only [vb, Tryz.mpf, vsk, vr, ty, en, ↓reduceIte, Nat.reduceSub, Nat.reduceAdd, Nat.reduceMul, Nat.reduceLT, Int.reduceAdd, Int.reduceSub, Int.reduceToNat, ci, vi, getO_i, vt, ht]
   refine (need_ok _).mono ?_ ?_
   . rintro v T' es ⟨h, -⟩
     cases h
   . rintro v T' es ⟨-, rfl, rfl, rfl⟩
     simp -dsimp +decide (disch := omega) only [vb, Tryz.mpf, vsk, vr, ty, en, ↓reduceIte, Nat.reduceSub, Nat.reduceAdd, Nat.reduceMul, Nat.reduceLT, Int.reduceAdd, Int.reduceSub, Int.reduceToNat, ci, vi, getO_i, vt]
     exact Vw.eff (E' := [(i, false)]) (by simp [rec1_in hil]) (Vw.drop List.length_set (wc _) ⟨5, _, hm.symm, eno_wo _ _, rfl, rfl⟩)
 rw [if_pos h58, decide_eq_true h58]
 rw [if_pos h58] at hm
 dsimp only at hm
 have htl := tail_len h58
 simp -dsimp +decide (disch := omega) only [vb, Tryz.mpf, vsk, vr, ty, en, ↓reduceIte, Nat.reduceSub, Nat.reduceAdd, Nat.reduceMul, Nat.reduceLT, Int.reduceAdd, Int.reduceSub, Int.reduceToNat, ci, vi, getO_i, vt, ht]
 refine (need_ok _).mono ?_ ?_
 rotate_left
 . rintro v T' es ⟨h, -⟩
   cases h
 rintro v T' es ⟨-, rfl, rfl, rfl⟩
 simp -dsimp +decide (disch := omega) only [vb, Tryz.mpf, vsk, vr, ty, en, ↓reduceIte, Nat.reduceSub, Nat.reduceAdd, Nat.reduceMul, Nat.reduceLT, Int.reduceAdd, Int.reduceSub, Int.reduceToNat, ci, vi, getO_i, vt]
 rw [<- hwi]
 refine (hv _ i (blk r).tail (by omega) (hgi _ _ _)).mono ?_ ?_
 rotate_left
 . rintro v T' es ⟨e, r', he', rfl, rfl, rfl⟩
   rw [he'] at hm
   rw [hset]
   simp -dsimp +decide (disch := omega) only [vb, Tryz.mpf, vsk, vr, ty, en, ↓reduceIte, Nat.reduceSub, Nat.reduceAdd, Nat.reduceMul, Nat.reduceLT, Int.reduceAdd, Int.reduceSub, Int.reduceToNat, ci, vi, getO_i, vt]
   exact Vw.eff (E' := [(i, false)]) (by simp [rec1_in hil]) (Vw.drop List.length_set (wc r') ⟨e, r', hm.symm, eno_wo _ _, rfl, rfl⟩)
 rintro v T' es ⟨u, r', he', rfl, rfl, rfl⟩
 rw [hset, hwi]
 rw [he'] at hm
 dsimp only at hm
 have hgood := val_good n _ u r' he'
 have hvr := vcr u
 have hib2 : (i == T.length + 2) = false := by simp; omega
 have hib3 : (i == T.length + 3) = false := by simp; omega
 simp -dsimp +decide (disch := omega) only [vb, Tryz.mpf, vsk, vr, ty, en, ↓reduceIte, Nat.reduceSub, Nat.reduceAdd, Nat.reduceMul, Nat.reduceLT, Int.reduceAdd, Int.reduceSub, Int.reduceToNat, ci, vi, getO_i, vt, ht, hvr, vcf, strf, rep1]
 refine SemB.lift rfl ?_
 refine SemA.drawU [(0, .ptr i 0), (1, .p (.int .i64 wi)), (4, .ptr T.length 0), (5, .ptr (T.length + 1) 0)] (T.set i (rdr r') ++ [.cells 25 [.p (.int .u8 0), .p (.int .i64 0), .p (.string ByteArray.empty), .p (.slice none 0 0), .p (.slice none 0 0)], .cells 25 [.p (.int .u8 5), .p (.int .i64 0), .p (.string ByteArray.empty), .sl (T.length + 2) 0 (acc.length + 1), .sl (T.length + 3) 0 (ns.length + 1)],
  .buf 25 5 ((acc ++ [u]).flatMap vcs), .buf 9 1 ((ns ++ [s]).map str)]) [(i, false)] 11 (fun i => keep5 T.length i) (.st 0 true (.st 1 true (.st 2 true (.st 5 true (.st 6 true (.st 7 true (.alt 3 (.alt 4 (.st 10 true (.st 8 false (.st 9 false (.st 11 false (.st 12 true (.st 13 false .nil)))))) 8 (.st 4 false (.st 10 true (.st 9 false (.st 11 false (.st 12 true (.st 13 false .nil))))))) 8 (.st 3 false (.st 4 false (.st 10 true (.st 9 false (.st 11 false (.st 12 true (.st 13 false .nil)))))))))))))) mixed (by kernel_rfl) ?_ ?_
 . have hwq2 : ∀ x : B, List.map (AObj.wo fun j => j == T.length + 2) (T.set i (rdr x)) = T.set i (rdr x) := fun x => set_wo (wf _ fun j hj => by simp; omega).1 i x
   have hwq3 : ∀ x : B, List.map (AObj.wo fun j => j == T.length + 3) (T.set i (rdr x)) = T.set i (rdr x) := fun x => set_wo (wf _ fun j hj => by simp; omega).1 i x
   have hstr : str s = .p (.string (ba s)) := rfl
   simp -dsimp +decide (disch := omega) only [vb, Tryz.mpf, vsk, vr, ty, en, ↓reduceIte, Nat.reduceSub, Nat.reduceAdd, Nat.reduceMul, Nat.reduceLT, Int.reduceAdd, Int.reduceSub, Int.reduceToNat, ci, vi, getO_i, vpu, vt, hstr, ht, hvr, vcf, strf, rep1, hwq2, hwq3, hib2, hib3, keepT_get, keepO, kN, tbs6]
   have hwl : ∀ x : B, List.map (AObj.wo fun j => decide (T.length + 4 <= j)) (T.set i (rdr x)) = T.set i (rdr x) := fun x => set_wo (wf _ fun j hj => decide_eq_false (by omega)).1 i x
   have hil4 : decide (T.length + 4 <= i) = false := decide_eq_false (by omega)
   have fin : ∀ (A B C D A' B' C' : AObj) (E : Eff) (a2 a3 : AV), AObj.wo (fun j => decide (T.length + 4 <= j)) A = A -> AObj.wo (fun j => decide (T.length + 4 <= j)) B = B -> AObj.wo (fun j => decide (T.length + 4 <= j)) C = C -> AObj.wo (fun j => decide (T.length + 4 <= j)) D = D -> (∀ x ∈ E, x ∈ [(i, false)]) ->
    SeeL G T.length 8 [] [.ptr i 0, .p (.int .i64 wi), a2, a3, .ptr T.length 0, .ptr (T.length + 1) 0, .p (.string (ba s)), .ptr (T.length + 4) 0] (T.set i (rdr r') ++ [A, B, C, D, A', B', C']) E [] [(0, .ptr i 0), (1, .p (.int .i64 wi)), (4, .ptr T.length 0), (5, .ptr (T.length + 1) 0)] (T.set i (rdr r') ++ [A, B, C, D]) [(i, false)] := by
    intro A B C D A' B' C' E a2 a3 hA hB hC hD hE
    refine SeeL.cut (T.length + 4) (by omega) ?_
    simp -dsimp +decide (disch := omega) only [vb, Tryz.mpf, vsk, vr, ty, en, ↓reduceIte, Nat.reduceSub, Nat.reduceAdd, Nat.reduceMul, Nat.reduceLT, Int.reduceAdd, Int.reduceSub, Int.reduceToNat, ci, vi, getO_i, vt, ht, hwl, hil4]
    exact SeeL.done ⟨rfl, ⟨rfl, rfl, rfl, rfl, rfl⟩, by simp only [List.take, List.map, hA, hB, hC, hD], hE⟩
   have hEE : ∀ x ∈ rec1 T.length i false (rec1 T.length i false (rec1 T.length i false (rec1 T.length i false (rec1 T.length i false [(i, false)])))), x ∈ [(i, false)] := by simp [rec1_in hil]
   have hbw : ∀ l : List JV, AObj.wo (fun j => decide (T.length + 4 <= j)) (.buf 25 5 (l.flatMap vcs)) = .buf 25 5 (l.flatMap vcs) := fun l => by rw [AObj.wo, vcf.2.1]
   have hsw : ∀ l : List B, AObj.wo (fun j => decide (T.length + 4 <= j)) (.buf 9 1 (l.map str)) = .buf 9 1 (l.map str) := fun l => by rw [AObj.wo, strf.1]
   have h23 : decide (T.length + 4 <= T.length + 2) = false /\ decide (T.length + 4 <= T.length + 3) = false := ⟨decide_eq_false (by omega), decide_eq_false (by omega)⟩
   refine ⟨⟨⟨⟨by omega, by omega⟩, ⟨by omega, by omega⟩, fin _ _ _ _ _ _ _ _ _ _ ?_ ?_ (hbw _) (hsw _) hEE⟩, ⟨by omega, by omega⟩, ⟨by omega, by omega⟩, fin _ _ _ _ _ _ _ _ _ _ ?_ ?_ (hbw _) (hsw _) hEE⟩, ⟨by omega, by omega⟩, ⟨by omega, by omega⟩, fin _ _ _ _ _ _ _ _ _ _ ?_ ?_ (hbw _) (hsw _) hEE⟩
   all_goals simp only [AObj.wo, List.map_cons, List.map_nil, AV.wo, h23, Bool.false_eq_true, if_false]
 intro g tmp
 have hbr' := blk_len r'
 simp -dsimp +decide (disch := omega) only [vb, Tryz.mpf, vsk, vr, ty, en, ↓reduceIte, Nat.reduceSub, Nat.reduceAdd, Nat.reduceMul, Nat.reduceLT, Int.reduceAdd, Int.reduceSub, Int.reduceToNat, ci, vi, getO_i, vt, ht]
 refine (blanks_ok' (by omega) (hgi r' _ _)).det' ?_
 rw [hset]
 simp -dsimp +decide (disch := omega) only [vb, Tryz.mpf, vsk, vr, ty, en, ↓reduceIte, Nat.reduceSub, Nat.reduceAdd, Nat.reduceMul, Nat.reduceLT, Int.reduceAdd, Int.reduceSub, Int.reduceToNat, ci, vi, getO_i, vt, ht]
 refine (is_ok (c := 125) (hgi (blk r') _ _)).det' ?_
 rw [hset]
 by_cases h125 : (blk r').head? = some 125
 . rw [if_pos h125, decide_eq_true h125]
   rw [if_pos h125] at hm
   simp -dsimp +decide (disch := omega) only [vb, Tryz.mpf, vsk, vr, ty, en, ↓reduceIte, Nat.reduceSub, Nat.reduceAdd, Nat.reduceMul, Nat.reduceLT, Int.reduceAdd, Int.reduceSub, Int.reduceToNat, ci, vi, getO_i, vt, ht, wr5, tk5]
   refine Vw.eff (E' := [(i, false)]) (by simp [rec1_in hil]) ?_
   refine Vw.pubU (T.length + 2) List.length_set (fun q hq => set_wo (wf q hq).1 i _) (by omega) (ht.2.2.1 _ _ _ _ _) rfl (vcsf_clean _) ?_
   rw [List.length_set, Nat.add_sub_cancel_left]
   simp only [List.map_cons, List.map_nil, List.set_cons_succ, List.set_cons_zero]
   refine Vw.pubDrop (cs := (ns ++ [s]).map str) (T.length + 3) List.length_set (fun q hq => set_wo (wf q hq).1 i _) (by omega) (ht.2.2.2.1 _ _ _ _ _ _) (by simp only [AObj.pub, AObj.cs, str_pub]) (str_clean _) ?_
   refine ⟨_, _, hm.symm, ?_, rfl, rfl⟩
   have h32 : ¬ (T.length + 3 = T.length + 2) := by omega
   rw [vObj, vcs_eq]
   simp only [AV.pub, AV.pubL, AV.wo, AV.woL, if_true, h32, if_false, by8, JV.kind, JV.num, JV.text, JV.kids, JV.names, List.length_append, List.length_cons, List.length_nil]
   rfl
 rw [if_neg h125, decide_eq_false h125]
 rw [if_neg h125] at hm
 simp -dsimp +decide (disch := omega) only [vb, Tryz.mpf, vsk, vr, ty, en, ↓reduceIte, Nat.reduceSub, Nat.reduceAdd, Nat.reduceMul, Nat.reduceLT, Int.reduceAdd, Int.reduceSub, Int.reduceToNat, ci, vi, getO_i, vt, ht]
 refine (is_ok (c := 44) (hgi (blk r') _ _)).det' ?_
 rw [hset]
 by_cases h44 : (blk r').head? = some 44
 rotate_left
 . rw [if_neg h44, decide_eq_false h44]
   rw [if_neg h44] at hm
   simp -dsimp +decide (disch := omega) only [vb, Tryz.mpf, vsk, vr, ty, en, ↓reduceIte, Nat.reduceSub, Nat.reduceAdd, Nat.reduceMul, Nat.reduceLT, Int.reduceAdd, Int.reduceSub, Int.reduceToNat, ci, vi, getO_i, vt, ht]
   refine (need_ok _).mono ?_ ?_
   . rintro v T' es ⟨h, -⟩
     cases h
   . rintro v T' es ⟨-, rfl, rfl, rfl⟩
     simp -dsimp +decide (disch := omega) only [vb, Tryz.mpf, vsk, vr, ty, en, ↓reduceIte, Nat.reduceSub, Nat.reduceAdd, Nat.reduceMul, Nat.reduceLT, Int.reduceAdd, Int.reduceSub, Int.reduceToNat, ci, vi, getO_i, vt]
     exact Vw.eff (E' := [(i, false)]) (by simp [rec1_in hil]) (Vw.drop List.length_set (wc _) ⟨5, _, hm.symm, eno_wo _ _, rfl, rfl⟩)
 rw [if_pos h44, decide_eq_true h44]
 rw [if_pos h44] at hm
 have htl' := tail_len h44
 simp -dsimp +decide (disch := omega) only [vb, Tryz.mpf, vsk, vr, ty, en, ↓reduceIte, Nat.reduceSub, Nat.reduceAdd, Nat.reduceMul, Nat.reduceLT, Int.reduceAdd, Int.reduceSub, Int.reduceToNat, ci, vi, getO_i, vt, ht]
 refine (need_ok _).mono ?_ ?_
 rotate_left
 . rintro v T' es ⟨h, -⟩
   cases h
 rintro v T' es ⟨-, rfl, rfl, rfl⟩
 simp -dsimp +decide (disch := omega) only [vb, Tryz.mpf, vsk, vr, ty, en, ↓reduceIte, Nat.reduceSub, Nat.reduceAdd, Nat.reduceMul, Nat.reduceLT, Int.reduceAdd, Int.reduceSub, Int.reduceToNat, ci, vi, getO_i, vt]
 exact ⟨(k, (blk r').tail, ns ++ [s], acc ++ [u]), ⟨⟨hm, by dsimp only; omega, by dsimp only; rw [List.length_append, List.length_cons, List.length_nil]; omega, by simp [hna]⟩, by dsimp only; omega⟩,
  SeeL.done ⟨rfl, ⟨rfl, rfl, rfl, rfl, rfl⟩, by simp only [List.length_append, List.length_cons, List.length_nil], by simp [rec1_in hil]⟩⟩
end Go.Proofs.YtglpcedoongagaaGreatDoor
namespace Go.Proofs.YtglpcedoongagaaGreatDoor
open Go.E Go.Proofs.YtglpcedoongagaaGreatDoor.Tryz Go.Proofs.Tryz Go.J
theorem val_leaf {n : Nat} {l : B} (h1 : (blk l).head? ≠ some 91) (h2 : (blk l).head? ≠ some 123) : val n l = valL (blk l) := by
 cases n with
 | zero => rw [val, if_neg (by rintro (h | h); exact h1 h; exact h2 h)]
 | succ n => rw [val, if_neg h1, if_neg h2]
theorem u8ne {a b : UInt8} (h : a ≠ b) {z : Int} (hz : z = (b.toNat : Int)) : ((a.toNat : Int) = z) = False := eq_false fun e => h (UInt8.toNat_inj.1 (by omega))
theorem value_ok (n : Nat) (hn : n <= 8) (hrec : ∀ m, n = m + 1 -> ValOk m) : ValOk n := by
 intro T i l hl hi
 refine CallP.wf fun wf => ?_
 have hil := (List.getElem?_eq_some_iff.1 hi).1
 have hN : ∀ U : Tbl, (T ++ U)[i]? = some (rdr l) := fun U => by rw [get_app hil]; exact hi
 have wc : ∀ x : B, (T.set i (rdr x)).map (AObj.wo (T.length <= ·)) = T.set i (rdr x) := fun x => set_wo (wf _ fun j hj => decide_eq_false (by omega)).1 i x
 obtain ⟨wi, hwi⟩ : ∃ wi : Int, 8 - (n : Int) = wi := ⟨_, rfl⟩
 rw [hwi]
 refine CallP.enterV Tryz.mp 41 func29 ntmps29 (congrArg Array.toList results29) rfl ⟨by simp, by simp⟩ (by kernel_rfl) (by kernel_rfl) ?_
 simp -dsimp +decide only [vb, Tryz.mpf, vr, ty, en, ↓reduceIte, Nat.reduceSub, Nat.reduceAdd, Nat.reduceMul, Nat.reduceLT, Int.reduceAdd, Int.reduceSub, Int.reduceToNat, ci]
 refine (blanks_ok' hl (hN _)).det' ?_
 have ht := tbs T i
 have hgi := fun (x : List UInt8) (o : AObj) (U : Tbl) => get_rb (l := o :: U) hil (rdr x)
 have hgi' := fun (x : List UInt8) (o : AObj) (U : Tbl) => (hgi x o U).trans (congrArg some (show rdr x = .cells 52 [bl x] from rfl))
 have hset := fun (x : List UInt8) (b : AObj) (U : Tbl) (o : AObj) => set_rb (l := b :: U) hil (rdr x) o
 have hbl := blk_len l
 rw [set_app hil]
 simp -dsimp +decide (disch := omega) only [vb, Tryz.mpf, vr, ty, en, ↓reduceIte, Nat.reduceSub, Nat.reduceAdd, Nat.reduceMul, Nat.reduceLT, Int.reduceAdd, Int.reduceSub, Int.reduceToNat, ci, vi, getO_i, vt, vbl, hgi']
 refine (need_ok _).mono ?_ ?_
 rotate_left
 . rintro v T' es ⟨hp, rfl, rfl, rfl⟩
   simp -dsimp +decide (disch := omega) only [vb, Tryz.mpf, vr, ty, en, ↓reduceIte, Nat.reduceSub, Nat.reduceAdd, Nat.reduceMul, Nat.reduceLT, Int.reduceAdd, Int.reduceSub, Int.reduceToNat, ci, vi, getO_i, vt]
   have he : blk l = [] := by
    have := of_decide_eq_false hp
    cases h : blk l with
    | nil => rfl
    | cons => rw [h] at this; simp at this
   exact Vw.eff (E' := [(i, false)]) (by simp [rec1_in hil]) (Vw.drop List.length_set (wc _) ⟨5, _, by rw [val_leaf (by rw [he]; simp) (by rw [he]; simp), he]; rfl, eno_wo _ _, rfl, rfl⟩)
 rintro v T' es ⟨hp, rfl, rfl, rfl⟩
 obtain ⟨c, t, hm⟩ : ∃ c t, blk l = c :: t := by
  cases h : blk l with
  | nil => rw [h] at hp; have := of_decide_eq_true hp; simp at this
  | cons c t => exact ⟨c, t, rfl⟩
 rw [hm]
 have h0 : (0 < (((c :: t).length : Nat) : Int)) = True := eq_true (by simp)
 have hg : ((c :: t).map by8)[0]? = some (by8 c) := rfl
 have hl0 : 0 < (c :: t).length := by simp
 have hlt : t.length + 1 <= l.length := by rw [hm] at hbl; simpa using hbl
 have hd : (c :: t).drop 1 = t := rfl
 have hleaf : c ≠ 91 -> c ≠ 123 -> val n l = valL (c :: t) := fun h1 h2 => by rw [val_leaf (by rw [hm]; intro e; cases e; exact h1 rfl) (by rw [hm]; intro e; cases e; exact h2 rfl), hm]
 simp -dsimp +decide (disch := omega) only [vb, Tryz.mpf, vr, ty, en, ↓reduceIte, Nat.reduceSub, Nat.reduceAdd, Nat.reduceMul, Nat.reduceLT, Int.reduceAdd, Int.reduceSub, Int.reduceToNat, ci, vi, getO_i, vt, vbl, hgi', h0, hg, hl0]
 by_cases c110 : c = 110
 . subst c110
   simp -dsimp +decide (disch := omega) only [vb, Tryz.mpf, vr, ty, en, ↓reduceIte, Nat.reduceSub, Nat.reduceAdd, Nat.reduceMul, Nat.reduceLT, Int.reduceAdd, Int.reduceSub, Int.reduceToNat, ci, vi, getO_i, vt, bb2]
   refine (word_ok (p := [110, 117, 108, 108]) (hgi _ _ _)).mono ?_ ?_
   rotate_left
   . rintro v T' es ⟨hp, rfl, rfl, rfl⟩
     simp -dsimp +decide (disch := omega) only [vb, Tryz.mpf, vr, ty, en, ↓reduceIte, Nat.reduceSub, Nat.reduceAdd, Nat.reduceMul, Nat.reduceLT, Int.reduceAdd, Int.reduceSub, Int.reduceToNat, ci, vi, getO_i, vt]
     exact Vw.eff (E' := [(i, false)]) (by simp [rec1_in hil]) (Vw.drop List.length_set (wc _) ⟨5, _, by rw [hleaf (by decide) (by decide)]; exact if_neg (by rw [hp]; decide), eno_wo _ _, rfl, rfl⟩)
   rintro v T' es ⟨hp, rfl, rfl, rfl⟩
   rw [hset]
   simp -dsimp +decide (disch := omega) only [vb, Tryz.mpf, vr, ty, en, ↓reduceIte, Nat.reduceSub, Nat.reduceAdd, Nat.reduceMul, Nat.reduceLT, Int.reduceAdd, Int.reduceSub, Int.reduceToNat, ci, vi, getO_i, vt, ht, tk5, wr5]
   refine Vw.weak (ag5_weak nil_vs nil_vs) ?_
   exact Vw.eff (E' := [(i, false)]) (by simp [rec1_in hil]) (Vw.drop List.length_set (wc _) ⟨vNull, _, by rw [hleaf (by decide) (by decide)]; exact if_pos hp, by rw [vNull, vcs_nil]; simp only [AV.wo, AV.woL, by8]; rfl, rfl, rfl⟩)
 have n110 := u8ne c110 (z := 110) rfl
 by_cases c116 : c = 116
 . subst c116
   simp -dsimp +decide (disch := omega) only [vb, Tryz.mpf, vr, ty, en, ↓reduceIte, Nat.reduceSub, Nat.reduceAdd, Nat.reduceMul, Nat.reduceLT, Int.reduceAdd, Int.reduceSub, Int.reduceToNat, ci, vi, getO_i, vt, bb2]
   refine (word_ok (p := [116, 114, 117, 101]) (hgi _ _ _)).mono ?_ ?_
   rotate_left
   . rintro v T' es ⟨hp, rfl, rfl, rfl⟩
     simp -dsimp +decide (disch := omega) only [vb, Tryz.mpf, vr, ty, en, ↓reduceIte, Nat.reduceSub, Nat.reduceAdd, Nat.reduceMul, Nat.reduceLT, Int.reduceAdd, Int.reduceSub, Int.reduceToNat, ci, vi, getO_i, vt]
     exact Vw.eff (E' := [(i, false)]) (by simp [rec1_in hil]) (Vw.drop List.length_set (wc _) ⟨5, _, by rw [hleaf (by decide) (by decide)]; exact if_neg (by rw [hp]; decide), eno_wo _ _, rfl, rfl⟩)
   rintro v T' es ⟨hp, rfl, rfl, rfl⟩
   rw [hset]
   simp -dsimp +decide (disch := omega) only [vb, Tryz.mpf, vr, ty, en, ↓reduceIte, Nat.reduceSub, Nat.reduceAdd, Nat.reduceMul, Nat.reduceLT, Int.reduceAdd, Int.reduceSub, Int.reduceToNat, ci, vi, getO_i, vt, ht, tk5, wr5]
   refine Vw.weak (ag5_weak nil_vs nil_vs) ?_
   exact Vw.eff (E' := [(i, false)]) (by simp [rec1_in hil]) (Vw.drop List.length_set (wc _) ⟨vBool 1, _, by rw [hleaf (by decide) (by decide)]; exact if_pos hp, by rw [vBool, vcs_nil]; simp only [AV.wo, AV.woL, by8]; rfl, rfl, rfl⟩)
 have n116 := u8ne c116 (z := 116) rfl
 by_cases c102 : c = 102
 . subst c102
   simp -dsimp +decide (disch := omega) only [vb, Tryz.mpf, vr, ty, en, ↓reduceIte, Nat.reduceSub, Nat.reduceAdd, Nat.reduceMul, Nat.reduceLT, Int.reduceAdd, Int.reduceSub, Int.reduceToNat, ci, vi, getO_i, vt, bb2]
   refine (word_ok (p := [102, 97, 108, 115, 101]) (hgi _ _ _)).mono ?_ ?_
   rotate_left
   . rintro v T' es ⟨hp, rfl, rfl, rfl⟩
     simp -dsimp +decide (disch := omega) only [vb, Tryz.mpf, vr, ty, en, ↓reduceIte, Nat.reduceSub, Nat.reduceAdd, Nat.reduceMul, Nat.reduceLT, Int.reduceAdd, Int.reduceSub, Int.reduceToNat, ci, vi, getO_i, vt]
     exact Vw.eff (E' := [(i, false)]) (by simp [rec1_in hil]) (Vw.drop List.length_set (wc _) ⟨5, _, by rw [hleaf (by decide) (by decide)]; exact if_neg (by rw [hp]; decide), eno_wo _ _, rfl, rfl⟩)
   rintro v T' es ⟨hp, rfl, rfl, rfl⟩
   rw [hset]
   simp -dsimp +decide (disch := omega) only [vb, Tryz.mpf, vr, ty, en, ↓reduceIte, Nat.reduceSub, Nat.reduceAdd, Nat.reduceMul, Nat.reduceLT, Int.reduceAdd, Int.reduceSub, Int.reduceToNat, ci, vi, getO_i, vt, ht, tk5, wr5]
   refine Vw.weak (ag5_weak nil_vs nil_vs) ?_
   exact Vw.eff (E' := [(i, false)]) (by simp [rec1_in hil]) (Vw.drop List.length_set (wc _) ⟨vBool 0, _, by rw [hleaf (by decide) (by decide)]; exact if_pos hp, by rw [vBool, vcs_nil]; simp only [AV.wo, AV.woL, by8]; rfl, rfl, rfl⟩)
 have n102 := u8ne c102 (z := 102) rfl
 by_cases c34 : c = 34
 . subst c34
   have hq : txtQ (34 :: t) = txtF t [] := if_pos rfl
   have hvl : val n l = match txtF t [] with
    | some (s, r) => .ok (vText s, r)
    | none => .error 5 := (hleaf (by decide) (by decide)).trans rfl
   simp -dsimp +decide (disch := omega) only [vb, Tryz.mpf, vr, ty, en, ↓reduceIte, Nat.reduceSub, Nat.reduceAdd, Nat.reduceMul, Nat.reduceLT, Int.reduceAdd, Int.reduceSub, Int.reduceToNat, ci, vi, getO_i, vt, bb2]
   refine (text_ok (by rw [List.length_cons]; omega) (hgi _ _ _)).mono ?_ ?_
   rotate_left
   . rintro v T' es ⟨hp, rfl, ⟨r, rfl⟩, rfl⟩
     rw [hq] at hp
     rw [hp] at hvl
     rw [hset]
     simp -dsimp +decide (disch := omega) only [vb, Tryz.mpf, vr, ty, en, ↓reduceIte, Nat.reduceSub, Nat.reduceAdd, Nat.reduceMul, Nat.reduceLT, Int.reduceAdd, Int.reduceSub, Int.reduceToNat, ci, vi, getO_i, vt]
     exact Vw.eff (E' := [(i, false)]) (by simp [rec1_in hil]) (Vw.drop List.length_set (wc _) ⟨5, _, hvl, eno_wo _ _, rfl, rfl⟩)
   rintro v T' es ⟨s, r, hp, rfl, rfl, rfl⟩
   rw [hq] at hp
   rw [hp] at hvl
   rw [hset, show str s = .p (.string (ba s)) from rfl]
   simp -dsimp +decide (disch := omega) only [vb, Tryz.mpf, vr, ty, en, ↓reduceIte, Nat.reduceSub, Nat.reduceAdd, Nat.reduceMul, Nat.reduceLT, Int.reduceAdd, Int.reduceSub, Int.reduceToNat, ci, vi, getO_i, vt, ht, tk5, wr5]
   refine Vw.weak (ag5_weak nil_vs nil_vs) ?_
   exact Vw.eff (E' := [(i, false)]) (by simp [rec1_in hil]) (Vw.drop List.length_set (wc _) ⟨vText s, r, hvl, by rw [vText, vcs, vcsL]; simp only [AV.wo, AV.woL, by8]; rfl, rfl, rfl⟩)
 have n34 := u8ne c34 (z := 34) rfl
 by_cases c91 : c = 91
 . subst c91
   simp -dsimp +decide (disch := omega) only [vb, Tryz.mpf, vr, ty, en, ↓reduceIte, Nat.reduceSub, Nat.reduceAdd, Nat.reduceMul, Nat.reduceLT, Int.reduceAdd, Int.reduceSub, Int.reduceToNat, ci, vi, getO_i, vt, bb2]
   cases n with
   | zero =>
     have hw8 : (wi = 8) = True := eq_true (by omega)
     simp -dsimp +decide (disch := omega) only [vb, Tryz.mpf, vr, ty, en, ↓reduceIte, Nat.reduceSub, Nat.reduceAdd, Nat.reduceMul, Nat.reduceLT, Int.reduceAdd, Int.reduceSub, Int.reduceToNat, ci, vi, getO_i, vt, hw8]
     exact Vw.eff (E' := [(i, false)]) (by simp [rec1_in hil]) (Vw.drop List.length_set (wc _) ⟨6, _, by rw [val, hm]; exact if_pos (.inl rfl), eno_wo _ 6, rfl, rfl⟩)
   | succ n =>
     have hw8 : (wi = 8) = False := eq_false (by omega)
     have hw9 : IntKind.i64.wrap (wi + 1) = 8 - (n : Int) := by rw [IntWalk.i64_in _ (by omega)]; omega
     have hvl : val (n + 1) l = lst (val n) t := by rw [val, hm]; exact if_pos rfl
     simp -dsimp +decide (disch := omega) only [vb, Tryz.mpf, vr, ty, en, ↓reduceIte, Nat.reduceSub, Nat.reduceAdd, Nat.reduceMul, Nat.reduceLT, Int.reduceAdd, Int.reduceSub, Int.reduceToNat, ci, vi, getO_i, vt, hw8]
     refine (is_ok (c := 91) (hgi _ _ _)).det' ?_
     have hh : (91 :: t).head? = some (91 : UInt8) := rfl
     rw [hset, if_pos hh, decide_eq_true hh]
     simp -dsimp +decide (disch := omega) only [vb, Tryz.mpf, vr, ty, en, ↓reduceIte, Nat.reduceSub, Nat.reduceAdd, Nat.reduceMul, Nat.reduceLT, Int.reduceAdd, Int.reduceSub, Int.reduceToNat, ci, vi, getO_i, vt, hw9]
     refine (list_ok (hrec n rfl) (by rw [List.tail_cons]; omega) (hgi _ _ _)).mono ?_ ?_
     . rintro v T' es ⟨u, r, hp, rfl, rfl, rfl⟩
       have hvr := vcr u
       rw [hset]
       simp -dsimp +decide (disch := omega) only [vb, Tryz.mpf, vr, ty, en, ↓reduceIte, Nat.reduceSub, Nat.reduceAdd, Nat.reduceMul, Nat.reduceLT, Int.reduceAdd, Int.reduceSub, Int.reduceToNat, ci, vi, getO_i, vt, ht, hvr]
       exact Vw.eff (E' := [(i, false)]) (by simp [rec1_in hil]) (Vw.drop List.length_set (wc _) ⟨u, r, hvl.trans hp, by rw [AV.wo, AV.woL_eq, hvr.2.2.2.1], rfl, rfl⟩)
     . rintro v T' es ⟨e, r, hp, rfl, rfl, rfl⟩
       rw [hset]
       simp -dsimp +decide (disch := omega) only [vb, Tryz.mpf, vr, ty, en, ↓reduceIte, Nat.reduceSub, Nat.reduceAdd, Nat.reduceMul, Nat.reduceLT, Int.reduceAdd, Int.reduceSub, Int.reduceToNat, ci, vi, getO_i, vt]
       exact Vw.eff (E' := [(i, false)]) (by simp [rec1_in hil]) (Vw.drop List.length_set (wc _) ⟨e, r, hvl.trans hp, eno_wo _ _, rfl, rfl⟩)
 have n91 := u8ne c91 (z := 91) rfl
 by_cases c123 : c = 123
 . subst c123
   simp -dsimp +decide (disch := omega) only [vb, Tryz.mpf, vr, ty, en, ↓reduceIte, Nat.reduceSub, Nat.reduceAdd, Nat.reduceMul, Nat.reduceLT, Int.reduceAdd, Int.reduceSub, Int.reduceToNat, ci, vi, getO_i, vt, bb2]
   cases n with
   | zero =>
     have hw8 : (wi = 8) = True := eq_true (by omega)
     simp -dsimp +decide (disch := omega) only [vb, Tryz.mpf, vr, ty, en, ↓reduceIte, Nat.reduceSub, Nat.reduceAdd, Nat.reduceMul, Nat.reduceLT, Int.reduceAdd, Int.reduceSub, Int.reduceToNat, ci, vi, getO_i, vt, hw8]
     exact Vw.eff (E' := [(i, false)]) (by simp [rec1_in hil]) (Vw.drop List.length_set (wc _) ⟨6, _, by rw [val, hm]; exact if_pos (.inr rfl), eno_wo _ 6, rfl, rfl⟩)
   | succ n =>
     have hw8 : (wi = 8) = False := eq_false (by omega)
     have hw9 : IntKind.i64.wrap (wi + 1) = 8 - (n : Int) := by rw [IntWalk.i64_in _ (by omega)]; omega
     have hh : ¬ (123 :: t).head? = some (91 : UInt8) := fun e => by cases e
     have hvl : val (n + 1) l = obj (val n) t := by rw [val, hm, if_neg hh]; exact if_pos rfl
     simp -dsimp +decide (disch := omega) only [vb, Tryz.mpf, vr, ty, en, ↓reduceIte, Nat.reduceSub, Nat.reduceAdd, Nat.reduceMul, Nat.reduceLT, Int.reduceAdd, Int.reduceSub, Int.reduceToNat, ci, vi, getO_i, vt, hw8]
     refine (is_ok (c := 91) (hgi _ _ _)).det' ?_
     rw [hset, if_neg hh, decide_eq_false hh]
     simp -dsimp +decide (disch := omega) only [vb, Tryz.mpf, vr, ty, en, ↓reduceIte, Nat.reduceSub, Nat.reduceAdd, Nat.reduceMul, Nat.reduceLT, Int.reduceAdd, Int.reduceSub, Int.reduceToNat, ci, vi, getO_i, vt]
     refine (word_ok (p := [123]) (hgi _ _ _)).mono ?_ ?_
     rotate_left
     . rintro v T' es ⟨hp, -⟩
       exact absurd hp (by simp [List.isPrefixOf])
     rintro v T' es ⟨-, rfl, rfl, rfl⟩
     rw [hset, show List.drop [(123 : UInt8)].length (123 :: t) = t from rfl]
     simp -dsimp +decide (disch := omega) only [vb, Tryz.mpf, vr, ty, en, ↓reduceIte, Nat.reduceSub, Nat.reduceAdd, Nat.reduceMul, Nat.reduceLT, Int.reduceAdd, Int.reduceSub, Int.reduceToNat, ci, vi, getO_i, vt, hw9]
     refine (object_ok (hrec n rfl) (by omega) (hgi _ _ _)).mono ?_ ?_
     . rintro v T' es ⟨u, r, hp, rfl, rfl, rfl⟩
       have hvr := vcr u
       rw [hset]
       simp -dsimp +decide (disch := omega) only [vb, Tryz.mpf, vr, ty, en, ↓reduceIte, Nat.reduceSub, Nat.reduceAdd, Nat.reduceMul, Nat.reduceLT, Int.reduceAdd, Int.reduceSub, Int.reduceToNat, ci, vi, getO_i, vt, ht, hvr]
       exact Vw.eff (E' := [(i, false)]) (by simp [rec1_in hil]) (Vw.drop List.length_set (wc _) ⟨u, r, hvl.trans hp, by rw [AV.wo, AV.woL_eq, hvr.2.2.2.1], rfl, rfl⟩)
     . rintro v T' es ⟨e, r, hp, rfl, rfl, rfl⟩
       rw [hset]
       simp -dsimp +decide (disch := omega) only [vb, Tryz.mpf, vr, ty, en, ↓reduceIte, Nat.reduceSub, Nat.reduceAdd, Nat.reduceMul, Nat.reduceLT, Int.reduceAdd, Int.reduceSub, Int.reduceToNat, ci, vi, getO_i, vt]
       exact Vw.eff (E' := [(i, false)]) (by simp [rec1_in hil]) (Vw.drop List.length_set (wc _) ⟨e, r, hvl.trans hp, eno_wo _ _, rfl, rfl⟩)
 have n123 := u8ne c123 (z := 123) rfl
 simp -dsimp +decide (disch := omega) only [vb, Tryz.mpf, vr, ty, en, ↓reduceIte, Nat.reduceSub, Nat.reduceAdd, Nat.reduceMul, Nat.reduceLT, Int.reduceAdd, Int.reduceSub, Int.reduceToNat, ci, vi, getO_i, vt, n110, n116, n102, n34, n91, n123, bb2]
 have hvl : val n l = match num (c :: t) with
  | some (z, r) => .ok (vNum z, r)
  | none => .error 5 := by rw [hleaf c91 c123, valL, if_neg c110, if_neg c116, if_neg c102, if_neg c34]; rfl
 refine (number_ok (by omega) (hgi _ _ _)).mono ?_ ?_
 . rintro v T' es ⟨z, r, hp, rfl, rfl, rfl⟩
   rw [hp] at hvl
   rw [hset]
   simp -dsimp +decide (disch := omega) only [vb, Tryz.mpf, vr, ty, en, ↓reduceIte, Nat.reduceSub, Nat.reduceAdd, Nat.reduceMul, Nat.reduceLT, Int.reduceAdd, Int.reduceSub, Int.reduceToNat, ci, vi, getO_i, vt, ht, tk5, wr5]
   refine Vw.weak (ag5_weak nil_vs nil_vs) ?_
   exact Vw.eff (E' := [(i, false)]) (by simp [rec1_in hil]) (Vw.drop List.length_set (wc _) ⟨vNum z, r, hvl, by rw [vNum, vcs, vcsL]; simp only [AV.wo, AV.woL, by8]; rfl, rfl, rfl⟩)
 . rintro v T' es ⟨hp, rfl, rfl, rfl⟩
   rw [hp] at hvl
   simp -dsimp +decide (disch := omega) only [vb, Tryz.mpf, vr, ty, en, ↓reduceIte, Nat.reduceSub, Nat.reduceAdd, Nat.reduceMul, Nat.reduceLT, Int.reduceAdd, Int.reduceSub, Int.reduceToNat, ci, vi, getO_i, vt]
   exact Vw.eff (E' := [(i, false)]) (by simp [rec1_in hil]) (Vw.drop List.length_set (wc _) ⟨5, _, hvl, eno_wo _ _, rfl, rfl⟩)
theorem val_all : ∀ n, n <= 8 -> ValOk n
 | 0, h => value_ok 0 h fun m e => by omega
 | n + 1, h => value_ok (n + 1) h fun m e => by
   obtain rfl : m = n := by omega
   exact val_all m (by omega)
end Go.Proofs.YtglpcedoongagaaGreatDoor
namespace Go.Proofs.YtglpcedoongagaaGreatDoor
open Go.E Go.Proofs.YtglpcedoongagaaGreatDoor.Tryz Go.Proofs.Tryz Go.J
theorem u8_num {k : UInt8} {n : Nat} (hn : n < 256) : ((k.toNat : Int) = (n : Int)) ↔ k = u8 n := ⟨fun h => UInt8.toNat_inj.1 (by rw [u8_toNat hn]; omega), fun h => by rw [h, u8_toNat hn]⟩
theorem kcase (k : UInt8) : k = 0 ∨ k = 1 ∨ k = 2 ∨ k = 3 ∨ k = 4 ∨ k = 5 ∨ (k ≠ 0 /\ k ≠ 1 /\ k ≠ 2 /\ k ≠ 3 /\ k ≠ 4 /\ k ≠ 5) := by
 by_cases h0 : k = 0; · exact .inl h0
 by_cases h1 : k = 1; · exact .inr (.inl h1)
 by_cases h2 : k = 2; · exact .inr (.inr (.inl h2))
 by_cases h3 : k = 3; · exact .inr (.inr (.inr (.inl h3)))
 by_cases h4 : k = 4; · exact .inr (.inr (.inr (.inr (.inl h4))))
 by_cases h5 : k = 5; · exact .inr (.inr (.inr (.inr (.inr (.inl h5)))))
 exact .inr (.inr (.inr (.inr (.inr (.inr ⟨h0, h1, h2, h3, h4, h5⟩)))))
theorem bare_ok {T : Tbl} (v : JV) : CallA prog G 39 [.ag (vcs v)] T fun r T' es => (∃ b : Bool, r = .p (.bool b) /\ (b = true ↔ bare v)) /\ T' = T /\ es = [] := by
 obtain ⟨k, z, s, ks, ns⟩ := v
 rw [vcs, show str s = .p (.string (ba s)) from rfl]
 refine CallA.enterZ 18 func39 ntmps39 (congrArg Array.toList results39) rfl ⟨by simp, by simp⟩ (by kernel_rfl) ?_
 refine SemA.cutS [] (fun q : Int × B × Nat × Nat => [(1, .ptr T.length 0), (3, .ptr (T.length + 1) 0), (4, wint (q.2.2.1 : Nat)), (5, wint (q.2.2.2 : Nat))])
  (fun q => T ++ [.cells 25 [by8 k, .p (.int .i64 z), .p (.string (ba s)), .vs (vcsL ks) ks.length, .vs (ns.map str) ns.length], .cells 25 [by8 k, .p (.int .i64 q.1), .p (.string (ba q.2.1)), .p (.slice none 0 0), .p (.slice none 0 0)]])
  (fun q => q.1 = (if k = 1 ∨ k = 2 then z else 0) /\ q.2.1 = (if k = 3 then s else []) /\ q.2.2.1 = (if k = 4 ∨ k = 5 then ks.length else 0) /\ q.2.2.2 = (if k = 5 then ks.length else 0)) [] 6 rfl (by kernel_rfl) ?_ ?_
 . rcases kcase k with rfl | rfl | rfl | rfl | rfl | rfl | ⟨h0, h1, h2, h3, h4, h5⟩
   . simp -dsimp +decide (disch := omega) only [vsk, vy, vz, vze, vr, ty, en, ↓reduceIte, Nat.reduceSub, Nat.reduceAdd, Nat.reduceMul, Nat.reduceLT, Int.reduceAdd, Int.reduceSub, Int.reduceToNat, ci, vi, getO_i, vt, gn0, gn1, wr5, tk5]
     exact ⟨(0, [], 0, 0), ⟨rfl, rfl, rfl, rfl⟩, SeeL.done ⟨rfl, ⟨rfl, rfl, rfl, rfl, rfl⟩, rfl, by simp⟩⟩
   . simp -dsimp +decide (disch := omega) only [vsk, vy, vz, vze, vr, ty, en, ↓reduceIte, Nat.reduceSub, Nat.reduceAdd, Nat.reduceMul, Nat.reduceLT, Int.reduceAdd, Int.reduceSub, Int.reduceToNat, ci, vi, getO_i, vt, gn0, gn1, wr5, tk5]
     exact ⟨(z, [], 0, 0), ⟨rfl, rfl, rfl, rfl⟩, SeeL.done ⟨rfl, ⟨rfl, rfl, rfl, rfl, rfl⟩, rfl, by simp⟩⟩
   . simp -dsimp +decide (disch := omega) only [vsk, vy, vz, vze, vr, ty, en, ↓reduceIte, Nat.reduceSub, Nat.reduceAdd, Nat.reduceMul, Nat.reduceLT, Int.reduceAdd, Int.reduceSub, Int.reduceToNat, ci, vi, getO_i, vt, gn0, gn1, wr5, tk5]
     exact ⟨(z, [], 0, 0), ⟨rfl, rfl, rfl, rfl⟩, SeeL.done ⟨rfl, ⟨rfl, rfl, rfl, rfl, rfl⟩, rfl, by simp⟩⟩
   . simp -dsimp +decide (disch := omega) only [vsk, vy, vz, vze, vr, ty, en, ↓reduceIte, Nat.reduceSub, Nat.reduceAdd, Nat.reduceMul, Nat.reduceLT, Int.reduceAdd, Int.reduceSub, Int.reduceToNat, ci, vi, getO_i, vt, gn0, gn1, wr5, tk5]
     exact ⟨(0, s, 0, 0), ⟨rfl, rfl, rfl, rfl⟩, SeeL.done ⟨rfl, ⟨rfl, rfl, rfl, rfl, rfl⟩, rfl, by simp⟩⟩
   . simp -dsimp +decide (disch := omega) only [vsk, vy, vz, vze, vr, ty, en, ↓reduceIte, Nat.reduceSub, Nat.reduceAdd, Nat.reduceMul, Nat.reduceLT, Int.reduceAdd, Int.reduceSub, Int.reduceToNat, ci, vi, getO_i, vt, gn0, gn1, wr5, tk5]
     exact ⟨(0, [], ks.length, 0), ⟨rfl, rfl, rfl, rfl⟩, SeeL.done ⟨rfl, ⟨rfl, rfl, rfl, rfl, rfl⟩, rfl, by simp⟩⟩
   . simp -dsimp +decide (disch := omega) only [vsk, vy, vz, vze, vr, ty, en, ↓reduceIte, Nat.reduceSub, Nat.reduceAdd, Nat.reduceMul, Nat.reduceLT, Int.reduceAdd, Int.reduceSub, Int.reduceToNat, ci, vi, getO_i, vt, gn0, gn1, wr5, tk5]
     exact ⟨(0, [], ks.length, ks.length), ⟨rfl, rfl, rfl, rfl⟩, SeeL.done ⟨rfl, ⟨rfl, rfl, rfl, rfl, rfl⟩, rfl, by simp⟩⟩
   . have q0 := u8_num (k := k) (n := 0) (by decide)
     have q1 := u8_num (k := k) (n := 1) (by decide)
     have q2 := u8_num (k := k) (n := 2) (by decide)
     have q3 := u8_num (k := k) (n := 3) (by decide)
     have q4 := u8_num (k := k) (n := 4) (by decide)
     have q5 := u8_num (k := k) (n := 5) (by decide)
     have n1 : ((k.toNat : Int) = 1) = False := eq_false (fun h => h1 (q1.1 h))
     have n2 : ((k.toNat : Int) = 2) = False := eq_false (fun h => h2 (q2.1 h))
     have n3 : ((k.toNat : Int) = 3) = False := eq_false (fun h => h3 (q3.1 h))
     have n4 : ((k.toNat : Int) = 4) = False := eq_false (fun h => h4 (q4.1 h))
     have n5 : ((k.toNat : Int) = 5) = False := eq_false (fun h => h5 (q5.1 h))
     simp -dsimp +decide (disch := omega) only [vsk, vy, vz, vze, vr, ty, en, ↓reduceIte, Nat.reduceSub, Nat.reduceAdd, Nat.reduceMul, Nat.reduceLT, Int.reduceAdd, Int.reduceSub, Int.reduceToNat, ci, vi, getO_i, vt, gn0, gn1, wr5, tk5, n1, n2, n3, n4, n5]
     exact ⟨(0, [], 0, 0), ⟨by simp [h1, h2], by simp [h3], by simp [h4, h5], by simp [h5]⟩, SeeL.done ⟨rfl, ⟨rfl, rfl, rfl, rfl, rfl⟩, rfl, by simp⟩⟩
 . rintro ⟨wn, wt, mo, nm⟩ g tmp ⟨e1, e2, e3, e4⟩
   dsimp only at e1 e2 e3 e4
   refine SemA.o ?_
   have hB : bare (JV.mk k z s ks ns) ↔ z = wn /\ s = wt /\ ks.length = mo /\ ns.length = nm := by
    rw [e1, e2, e3, e4]
    show ((z = 0 ∨ k = 1 ∨ k = 2) /\ (s = [] ∨ k = 3) /\ (ks = [] ∨ k = 4 ∨ k = 5) /\ ns.length = (if k = 5 then ks.length else 0)) ↔ _
    have a1 : (z = 0 ∨ k = 1 ∨ k = 2) ↔ z = (if k = 1 ∨ k = 2 then z else 0) := by split <;> simp_all
    have a2 : (s = [] ∨ k = 3) ↔ s = (if k = 3 then s else []) := by split <;> simp_all
    have a3 : (ks = [] ∨ k = 4 ∨ k = 5) ↔ ks.length = (if k = 4 ∨ k = 5 then ks.length else 0) := by split <;> simp_all
    rw [a1, a2, a3]
   by_cases p1 : z = wn
   . have p1' : (z = wn) = True := eq_true p1
     by_cases p2 : s = wt
     . have p2' : (ba s = ba wt) = True := eq_true (by rw [p2])
       by_cases p3 : ks.length = mo
       . have p3' : ((ks.length : Int) = (mo : Int)) = True := eq_true (by omega)
         simp -dsimp +decide (disch := omega) only [vsk, vy, vz, vze, vr, ty, en, ↓reduceIte, Nat.reduceSub, Nat.reduceAdd, Nat.reduceMul, Nat.reduceLT, Int.reduceAdd, Int.reduceSub, Int.reduceToNat, ci, vi, getO_i, vt, vstr, gn0, gn1, p1', p2', p3', bb2]
         exact Vw.cut ⟨⟨_, rfl, by rw [hB]; simp [p1, p2, p3]; omega⟩, rfl, rfl⟩
       . have p3' : ((ks.length : Int) = (mo : Int)) = False := eq_false (by omega)
         simp -dsimp +decide (disch := omega) only [vsk, vy, vz, vze, vr, ty, en, ↓reduceIte, Nat.reduceSub, Nat.reduceAdd, Nat.reduceMul, Nat.reduceLT, Int.reduceAdd, Int.reduceSub, Int.reduceToNat, ci, vi, getO_i, vt, vstr, gn0, gn1, p1', p2', p3', bb2]
         exact Vw.cut ⟨⟨_, rfl, by rw [hB]; simp [p3]⟩, rfl, rfl⟩
     . have p2' : (ba s = ba wt) = False := eq_false (fun h => p2 (by have := congrArg (·.toList) h; simpa [ba] using this))
       simp -dsimp +decide (disch := omega) only [vsk, vy, vz, vze, vr, ty, en, ↓reduceIte, Nat.reduceSub, Nat.reduceAdd, Nat.reduceMul, Nat.reduceLT, Int.reduceAdd, Int.reduceSub, Int.reduceToNat, ci, vi, getO_i, vt, vstr, gn0, gn1, p1', p2', bb2]
       exact Vw.cut ⟨⟨_, rfl, by rw [hB]; simp [p2]⟩, rfl, rfl⟩
   . have p1' : (z = wn) = False := eq_false p1
     simp -dsimp +decide (disch := omega) only [vsk, vy, vz, vze, vr, ty, en, ↓reduceIte, Nat.reduceSub, Nat.reduceAdd, Nat.reduceMul, Nat.reduceLT, Int.reduceAdd, Int.reduceSub, Int.reduceToNat, ci, vi, getO_i, vt, vstr, gn0, gn1, p1', bb2]
     exact Vw.cut ⟨⟨_, rfl, by rw [hB]; simp [p1]⟩, rfl, rfl⟩
end Go.Proofs.YtglpcedoongagaaGreatDoor
namespace Go.Proofs.YtglpcedoongagaaGreatDoor
open Go.E Go.Proofs.YtglpcedoongagaaGreatDoor.Tryz Go.Proofs.Tryz Go.J
mutual
def vsz : JV -> Nat
 | .mk _ _ s ks ns => 1 + s.length + (ns.map fun x => 1 + x.length).sum + vszL ks
def vszL : List JV -> Nat
 | [] => 0
 | v :: r => vsz v + vszL r
end
theorem vsz_eq (v : JV) : vsz v = 1 + v.text.length + (v.names.map fun x => 1 + x.length).sum + vszL v.kids := by cases v; rw [vsz]; rfl
theorem vszL_mem : ∀ {l : List JV} {x : JV}, x ∈ l -> vsz x <= vszL l
 | y :: r, x, h => by
   rw [vszL]
   rcases List.mem_cons.1 h with rfl | h
   . omega
   . have := vszL_mem h; omega
theorem vszL_len : ∀ l : List JV, l.length <= vszL l
 | [] => Nat.zero_le _
 | y :: r => by
   have := vszL_len r
   have h1 : 1 <= vsz y := by rw [vsz_eq]; omega
   rw [vszL, List.length_cons]; omega
theorem nsz_mem : ∀ {l : List B} {x : B}, x ∈ l -> 1 + x.length <= (l.map fun x => 1 + x.length).sum
 | y :: r, x, h => by
   rw [List.map_cons, List.sum_cons]
   rcases List.mem_cons.1 h with rfl | h
   . omega
   . have := nsz_mem h; omega
theorem nsz_len : ∀ l : List B, l.length <= (l.map fun x => 1 + x.length).sum
 | [] => Nat.zero_le _
 | y :: r => by have := nsz_len r; rw [List.map_cons, List.sum_cons, List.length_cons]; omega
theorem Es_vcs (T : Tbl) (ks : List JV) : Es T 5 vcs (.vs (vcsL ks) ks.length) ks := by rw [vcsL_eq]; exact Es.vs fun x _ => vcs_len x
def nmE (l : List B) : List (Value × AV) := l.zipIdx.map fun p => (.string (ba p.1), wint (p.2 : Int))
theorem nmE_snoc (l : List B) (s : B) : nmE (l ++ [s]) = nmE l ++ [(.string (ba s), wint (l.length : Int))] := by
 unfold nmE; rw [List.zipIdx_append, List.map_append]; simp
open Classical in
theorem mfind_cons {a : List (Value × AV)} {x : Value × AV} {k : Value} : mfind (x :: a) k = if x.1 = k then some x.2 else mfind a k := by
 unfold mfind
 rw [List.find?_cons]
 by_cases hx : x.1 = k
 . simp [hx]
 . simp [hx]
theorem mfind_zip (s : B) : ∀ (l : List B) (k : Nat), (s ∉ l -> mfind ((l.zipIdx k).map fun p => (Value.string (ba p.1), wint (p.2 : Int))) (.string (ba s)) = none) /\ (s ∈ l -> ∃ j, j < k + l.length /\ mfind ((l.zipIdx k).map fun p => (Value.string (ba p.1), wint (p.2 : Int))) (.string (ba s)) = some (wint (j : Int)))
 | [], k => ⟨fun _ => rfl, fun h => nomatch h⟩
 | x :: r, k => by
   have ih := mfind_zip s r (k + 1)
   rw [List.zipIdx_cons, List.map_cons, mfind_cons]
   by_cases hx : x = s
   . subst hx
     exact ⟨fun h => absurd (by simp) h, fun _ => ⟨k, by simp, if_pos rfl⟩⟩
   . have hx' : ¬ (Value.string (ba x)) = .string (ba s) := fun e => hx (ba_inj.1 (Value.string.inj e))
     refine ⟨fun h => (if_neg hx').trans (ih.1 fun h' => h (by simp [h'])), fun h => ?_⟩
     obtain ⟨j, hj, e⟩ := ih.2 (by rcases List.mem_cons.1 h with h | h; · exact absurd h.symm hx
                                   . exact h)
     exact ⟨j, by simp; omega, (if_neg hx').trans e⟩
theorem mfind_nmE (l : List B) (s : B) : (s ∉ l -> mfind (nmE l) (.string (ba s)) = none) /\ (s ∈ l -> ∃ j, j < l.length /\ mfind (nmE l) (.string (ba s)) = some (wint (j : Int))) := by
 have := mfind_zip s l 0
 rw [Nat.zero_add] at this; exact this
theorem mset_nmE (l : List B) (s : B) (h : s ∉ l) : mset (nmE l) (.string (ba s)) (wint (l.length : Int)) = nmE (l ++ [s]) := by
 unfold mset
 rw [(mfind_nmE l s).1 h, nmE_snoc]
theorem mapKO_nmE (l : List B) (s : B) : mapKO prog 9 (nmE l) (.string (ba s)) = True := by
 refine eq_true ⟨_, KL.string (k := 9) (by (simp -dsimp +decide only [vy, vz, vze, vr, ty, en, ↓reduceIte, Nat.reduceSub, Nat.reduceAdd, Nat.reduceMul, Nat.reduceLT, Int.reduceAdd, Int.reduceSub, Int.reduceToNat, ci])), ⟨_, rfl⟩, fun e he => ?_⟩
 obtain ⟨x, hx, rfl⟩ := List.mem_map.1 he
 exact ⟨_, rfl⟩
theorem wo_nmE (q : Nat -> Bool) (l : List B) : (nmE l).map (fun e => (e.1, AV.wo q e.2)) = nmE l := by
 unfold nmE
 rw [List.map_map]
 refine List.map_congr_left fun x _ => ?_
 show (_, AV.wo q (.p _)) = _
 rw [AV.wo]; rfl
theorem bv_andNot1 (x : BitVec 64) : (x &&& ~~~(1#64)).toNat = x.toNat / 2 * 2 := by
 have : x &&& ~~~(1#64) = (x >>> 1) <<< 1 := by
  ext i hi
  by_cases h0 : i = 0
  . subst h0; simp
  . have hb : ∀ i : Fin 64, (i : Nat) ≠ 0 -> (18446744073709551614#64).getLsbD i = true := by decide
    have := hb ⟨i, hi⟩ h0
    rw [BitVec.getLsbD_eq_getElem hi] at this
    simp [h0, show 1 + (i - 1) = i by omega, this, BitVec.getLsbD_eq_getElem hi]
 rw [this, BitVec.toNat_shiftLeft, BitVec.toNat_ushiftRight, Nat.shiftLeft_eq, Nat.shiftRight_eq_div_pow]
 have := x.isLt
 omega
theorem an_one {z : Int} (h : -2 ^ 63 <= z /\ z < 2 ^ 63) : IntKind.i64.wrap ((BitVec.ofInt IntKind.i64.bits z &&& ~~~BitVec.ofInt IntKind.i64.bits 1).toNat : Int) = 0 ↔ z = 0 ∨ z = 1 := by
 show IntKind.i64.wrap ((BitVec.ofInt 64 z &&& ~~~(1#64)).toNat : Int) = 0 ↔ _
 rw [bv_andNot1, BitVec.toNat_ofInt]
 have e : ((2 ^ 64 : Nat) : Int) = 18446744073709551616 := rfl
 rw [e]
 have h2 : (2 : Int) ^ 63 = 9223372036854775808 := rfl
 rw [h2] at h
 rw [IntKind.wrap, show ((2 : Int) ^ IntKind.i64.bits) = 18446744073709551616 from rfl, show ((2 : Int) ^ (IntKind.i64.bits - 1)) = 9223372036854775808 from rfl, show IntKind.i64.signed = true from rfl, Bool.true_and]
 split
 . rename_i h3
   have h3 := of_decide_eq_true h3
   omega
 . rename_i h3
   have h3 := of_decide_eq_false (eq_false_of_ne_true h3)
   omega
theorem kcase3 (k : UInt8) : k = 0 ∨ k = 1 ∨ k = 2 ∨ k = 3 ∨ (k = 4 ∨ k = 5) ∨ (k ≠ 0 /\ k ≠ 1 /\ k ≠ 2 /\ k ≠ 3 /\ k ≠ 4 /\ k ≠ 5) := by
 rcases kcase k with h | h | h | h | h | h | h
 . exact .inl h
 . exact .inr (.inl h)
 . exact .inr (.inr (.inl h))
 . exact .inr (.inr (.inr (.inl h)))
 . exact .inr (.inr (.inr (.inr (.inl (.inl h)))))
 . exact .inr (.inr (.inr (.inr (.inl (.inr h)))))
 . exact .inr (.inr (.inr (.inr (.inr h))))
def MayOk (n : Nat) : Prop := ∀ (T : Tbl) (v : JV), vsz v <= 1099511627776 -> fits n v -> CallA prog G 24 [.ag (vcs v), wint (n : Int)] T fun r T' es => (∃ b : Bool, r = .p (.bool b) /\ (b = true ↔ may n v)) /\ T' = T /\ es = []
def AskOk (T : Tbl) (j : Nat) (q : JV -> Prop) (x : JV) : Prop := CallA prog G 42 [.ag (vcs x), .ptr j 0] T fun r T' es => (∃ b : Bool, r = .p (.bool b) /\ (b = true ↔ q x)) /\ T' = T /\ es = []
theorem ask_ok {n : Nat} (h : MayOk n) (hn : n <= 100) {T : Tbl} {j : Nat} (hj : T[j]? = some (.cells 3 [wint ((n : Int) + 1)])) {x : JV} (hx : vsz x <= 1099511627776) (hf : fits n x) : AskOk T j (fun x => ¬ may n x) x := by
 unfold AskOk
 have hjl := (List.getElem?_eq_some_iff.1 hj).1
 have gj : ∀ o, (T ++ [o])[j]? = some (.cells 3 [wint ((n : Int) + 1)]) := fun o => by rw [List.getElem?_append_left hjl]; exact hj
 obtain ⟨k, z, s, ks, ns⟩ := x
 rw [vcs, show str s = .p (.string (ba s)) from rfl]
 refine CallA.eV 9 func42 ntmps42 results42 ?_
 simp -dsimp +decide only [vy, vz, vze, vr, ty, en, ↓reduceIte, Nat.reduceSub, Nat.reduceAdd, Nat.reduceMul, Nat.reduceLT, Int.reduceAdd, Int.reduceSub, Int.reduceToNat, ci]
 have hn1 : (n : Int) + 1 - 1 = (n : Int) := by omega
 simp -dsimp +decide (disch := omega) only [vy, vz, vze, vr, ty, en, ↓reduceIte, Nat.reduceSub, Nat.reduceAdd, Nat.reduceMul, Nat.reduceLT, Int.reduceAdd, Int.reduceSub, Int.reduceToNat, ci, vi, getO_i, vt, gj, hn1, tk5]
 refine (h _ _ hx hf).mono ?_
 rintro r T' es ⟨⟨b, rfl, hb⟩, rfl, rfl⟩
 simp -dsimp +decide (disch := omega) only [vy, vz, vze, vr, ty, en, ↓reduceIte, Nat.reduceSub, Nat.reduceAdd, Nat.reduceMul, Nat.reduceLT, Int.reduceAdd, Int.reduceSub, Int.reduceToNat, ci, vi, getO_i, vt]
 exact Vw.cut ⟨⟨_, rfl, by show _ ↔ ¬ may n _; rw [<- hb]; simp⟩, rfl, rfl⟩
theorem idxf_ok {T : Tbl} {a : AV} {j : Nat} {ks : List JV} {q : JV -> Prop} (ha : Es T 5 vcs a ks) (hl : ks.length <= 1099511627776) (hc : ∀ x ∈ ks, AskOk T j q x) :
 CallA prog G 64 [a, .fn 42 [.ptr j 0]] T fun v T' es => (∃ k : Int, v = wint k /\ (0 <= k ↔ ∃ x ∈ ks, q x)) /\ T' = T /\ es = [] := by
 have hr := Sl.rules ha.sl (by decide)
 have hld := ha.ld (P := prog) (t := 25) (by (simp -dsimp +decide only [vy, vz, vze, vr, ty, en, ↓reduceIte, Nat.reduceSub, Nat.reduceAdd, Nat.reduceMul, Nat.reduceLT, Int.reduceAdd, Int.reduceSub, Int.reduceToNat, ci])) (by (simp -dsimp +decide only [vy, vz, vze, vr, ty, en, ↓reduceIte, Nat.reduceSub, Nat.reduceAdd, Nat.reduceMul, Nat.reduceLT, Int.reduceAdd, Int.reduceSub, Int.reduceToNat, ci])) (by decide)
 refine CallA.eV 10 func64 ntmps64 results64 ?_
 simp -dsimp +decide only [vy, vz, vze, vr, ty, en, ↓reduceIte, Nat.reduceSub, Nat.reduceAdd, Nat.reduceMul, Nat.reduceLT, Int.reduceAdd, Int.reduceSub, Int.reduceToNat, ci]
 simp -dsimp +decide (disch := omega) only [vy, vz, vze, vr, ty, en, ↓reduceIte, Nat.reduceSub, Nat.reduceAdd, Nat.reduceMul, Nat.reduceLT, Int.reduceAdd, Int.reduceSub, Int.reduceToNat, ci, vi, getO_i, hr]
 refine SemA.loopE (fun k : Nat => [(0, a), (1, .fn 42 [.ptr j 0]), (7, wint (ks.length : Int)), (8, wint (k : Int))]) (fun _ => T) (fun k => k <= ks.length /\ ∀ x ∈ ks.take k, ¬ q x) (fun k => ks.length - k) 0 [] 0 (fun _ : Unit => []) (fun _ => T) (fun _ => ∀ x ∈ ks, ¬ q x) ⟨by omega, by simp⟩ (by (simp -dsimp +decide (disch := omega) only [vy, vz, vze, vr, ty, en, ↓reduceIte, Nat.reduceSub, Nat.reduceAdd, Nat.reduceMul, Nat.reduceLT, Int.reduceAdd, Int.reduceSub, Int.reduceToNat, ci, vi, getO_i]); first | rfl | done) rfl (by simp) ?_ ?_
 . rintro k g ⟨hk, hn⟩
   refine SemA.o ?_
   simp -dsimp +decide (disch := omega) only [vy, vz, vze, vr, ty, en, ↓reduceIte, Nat.reduceSub, Nat.reduceAdd, Nat.reduceMul, Nat.reduceLT, Int.reduceAdd, Int.reduceSub, Int.reduceToNat, ci, vi, getO_i, hr]
   refine CondP.dec (fun h => ?_) (fun h => ?_)
   . obtain ⟨y, hy⟩ : ∃ y, ks[k]? = some y := ⟨ks[k]'(by omega), by simp⟩
     simp -dsimp +decide (disch := omega) only [vy, vz, vze, vr, ty, en, ↓reduceIte, Nat.reduceSub, Nat.reduceAdd, Nat.reduceMul, Nat.reduceLT, Int.reduceAdd, Int.reduceSub, Int.reduceToNat, ci, vi, getO_i, hr, hld, hy]
     refine ⟨⟨by omega, by omega⟩, ?_⟩
     refine (hc y (List.mem_of_getElem? hy)).mono ?_
     rintro v T' es ⟨⟨b, rfl, hb⟩, rfl, rfl⟩
     cases b with
     | true =>
       simp -dsimp +decide (disch := omega) only [vy, vz, vze, vr, ty, en, ↓reduceIte, Nat.reduceSub, Nat.reduceAdd, Nat.reduceMul, Nat.reduceLT, Int.reduceAdd, Int.reduceSub, Int.reduceToNat, ci, vi, getO_i]
       exact Vw.done ⟨⟨k, rfl, ⟨fun _ => ⟨y, List.mem_of_getElem? hy, hb.1 rfl⟩, fun _ => by omega⟩⟩, rfl, rfl⟩
     | false =>
       simp -dsimp +decide (disch := omega) only [vy, vz, vze, vr, ty, en, ↓reduceIte, Nat.reduceSub, Nat.reduceAdd, Nat.reduceMul, Nat.reduceLT, Int.reduceAdd, Int.reduceSub, Int.reduceToNat, ci, vi, getO_i]
       refine ⟨k + 1, ⟨⟨by omega, ?_⟩, by omega⟩, rfl⟩
       rw [List.take_add_one, hy]
       intro x hx
       rcases List.mem_append.1 hx with hx | hx
       . exact hn x hx
       . have : x = y := by simpa using hx
         subst this
         exact fun h => by have := hb.2 h; cases this
   . rw [List.take_of_length_le (by omega)] at hn
     simp -dsimp +decide (disch := omega) only [vy, vz, vze, vr, ty, en, ↓reduceIte, Nat.reduceSub, Nat.reduceAdd, Nat.reduceMul, Nat.reduceLT, Int.reduceAdd, Int.reduceSub, Int.reduceToNat, ci, vi, getO_i]
     exact ⟨(), hn⟩
 . rintro _ g tmp hn
   simp -dsimp +decide (disch := omega) only [vy, vz, vze, vr, ty, en, ↓reduceIte, Nat.reduceSub, Nat.reduceAdd, Nat.reduceMul, Nat.reduceLT, Int.reduceAdd, Int.reduceSub, Int.reduceToNat, ci, vi, getO_i]
   exact Vw.done ⟨⟨-1, rfl, ⟨fun h => by omega, fun ⟨x, hx, h⟩ => absurd h (hn x hx)⟩⟩, rfl, rfl⟩
theorem conf_ok {T : Tbl} {a : AV} {j : Nat} {ks : List JV} {q : JV -> Prop} (ha : Es T 5 vcs a ks) (hl : ks.length <= 1099511627776) (hc : ∀ x ∈ ks, AskOk T j q x) :
 CallA prog G 41 [a, .fn 42 [.ptr j 0]] T fun v T' es => (∃ b : Bool, v = .p (.bool b) /\ (b = true ↔ ∃ x ∈ ks, q x)) /\ T' = T /\ es = [] := by
 refine CallA.eV 6 func41 ntmps41 results41 ?_
 simp -dsimp +decide only [vy, vz, vze, vr, ty, en, ↓reduceIte, Nat.reduceSub, Nat.reduceAdd, Nat.reduceMul, Nat.reduceLT, Int.reduceAdd, Int.reduceSub, Int.reduceToNat, ci]
 refine (idxf_ok ha hl hc).mono ?_
 rintro v T' es ⟨⟨k, rfl, hk⟩, rfl, rfl⟩
 simp -dsimp +decide (disch := omega) only [vy, vz, vze, vr, ty, en, ↓reduceIte, Nat.reduceSub, Nat.reduceAdd, Nat.reduceMul, Nat.reduceLT, Int.reduceAdd, Int.reduceSub, Int.reduceToNat, ci, vi, getO_i]
 exact Vw.done ⟨⟨_, rfl, by rw [<- hk]; exact decide_eq_true_iff⟩, rfl, rfl⟩
theorem may_mk (n : Nat) (k : UInt8) (z : Int) (s : B) (ks : List JV) (ns : List B) : may n (.mk k z s ks ns) ↔ bare (.mk k z s ks ns) /\ (k = 0 ∨ k = 2 ∨ (k = 1 /\ (z = 0 ∨ z = 1)) ∨ (k = 3 /\ Valid s) ∨ ((k = 4 ∨ k = 5) /\ namesOk ns /\ 0 < n /\ ∀ x ∈ ks, may (n - 1) x)) := by
 cases n with
 | zero =>
   show mayL _ ↔ _
   unfold mayL
   show bare _ /\ (k = 0 ∨ k = 2 ∨ (k = 1 /\ (z = 0 ∨ z = 1)) ∨ (k = 3 /\ Valid s)) ↔ _
   simp
 | succ n =>
   rw [may, mayL]
   show (bare _ /\ (k = 0 ∨ k = 2 ∨ (k = 1 /\ (z = 0 ∨ z = 1)) ∨ (k = 3 /\ Valid s))) ∨ ((k = 4 ∨ k = 5) /\ bare _ /\ namesOk ns /\ ∀ x ∈ ks, may n x) ↔ _
   constructor
   . rintro (⟨h, h2⟩ | ⟨h, h2, h3, h4⟩)
     . exact ⟨h, by rcases h2 with h | h | h | h; · exact .inl h
                    . exact .inr (.inl h)
                    . exact .inr (.inr (.inl h))
                    . exact .inr (.inr (.inr (.inl h)))⟩
     . exact ⟨h2, .inr (.inr (.inr (.inr ⟨h, h3, by omega, h4⟩)))⟩
   . rintro ⟨h, h2 | h2 | h2 | h2 | ⟨h2, h3, h4, h5⟩⟩
     . exact .inl ⟨h, .inl h2⟩
     . exact .inl ⟨h, .inr (.inl h2)⟩
     . exact .inl ⟨h, .inr (.inr (.inl h2))⟩
     . exact .inl ⟨h, .inr (.inr (.inr h2))⟩
     . exact .inr ⟨h2, h, h3, h5⟩
theorem may_step (n : Nat) (hn : n <= 100) (hrec : ∀ m, n = m + 1 -> MayOk m) : MayOk n := by
 intro T v hv hf
 have hB := bare_ok (T := T ++ [.cells 25 (vcs v), .cells 3 [wint (n : Int)]]) v
 obtain ⟨k, z, s, ks, ns⟩ := v
 rw [vcs, show str s = .p (.string (ba s)) from rfl] at hB ⊢
 refine CallA.eV 74 func24 ntmps24 results24 ?_
 simp -dsimp +decide only [vy, vz, vze, vr, ty, en, ↓reduceIte, Nat.reduceSub, Nat.reduceAdd, Nat.reduceMul, Nat.reduceLT, Int.reduceAdd, Int.reduceSub, Int.reduceToNat, ci]
 simp -dsimp +decide (disch := omega) only [vy, vz, vze, vr, ty, en, ↓reduceIte, Nat.reduceSub, Nat.reduceAdd, Nat.reduceMul, Nat.reduceLT, Int.reduceAdd, Int.reduceSub, Int.reduceToNat, ci, vi, getO_i, vt, tk5]
 refine hB.mono ?_
 rintro r T' es ⟨⟨b, rfl, hb⟩, rfl, rfl⟩
 cases b with
 | false =>
   simp -dsimp +decide (disch := omega) only [vy, vz, vze, vr, ty, en, ↓reduceIte, Nat.reduceSub, Nat.reduceAdd, Nat.reduceMul, Nat.reduceLT, Int.reduceAdd, Int.reduceSub, Int.reduceToNat, ci, vi, getO_i, vt]
   exact Vw.cut ⟨⟨_, rfl, by rw [may_mk]; exact ⟨fun h => (by cases h), fun h => hb.2 h.1⟩⟩, rfl, rfl⟩
 | true =>
   have hb := hb.1 rfl
   rcases kcase3 k with rfl | rfl | rfl | rfl | hk | ⟨h0, h1, h2, h3, h4, h5⟩
   . simp -dsimp +decide (disch := omega) only [vy, vz, vze, vr, ty, en, ↓reduceIte, Nat.reduceSub, Nat.reduceAdd, Nat.reduceMul, Nat.reduceLT, Int.reduceAdd, Int.reduceSub, Int.reduceToNat, ci, vi, getO_i, vt, tk5]
     exact Vw.cut ⟨⟨_, rfl, by rw [may_mk]; exact ⟨fun _ => ⟨hb, .inl rfl⟩, fun _ => rfl⟩⟩, rfl, rfl⟩
   . have hz := an_one (z := z) (fits_wide hf)
     simp -dsimp +decide (disch := omega) only [vy, vz, vze, vr, ty, en, ↓reduceIte, Nat.reduceSub, Nat.reduceAdd, Nat.reduceMul, Nat.reduceLT, Int.reduceAdd, Int.reduceSub, Int.reduceToNat, ci, vi, getO_i, vt, tk5]
     exact Vw.cut ⟨⟨_, rfl, by rw [may_mk]; show decide _ = true ↔ _; rw [decide_eq_true_iff, hz]; simp [hb]⟩, rfl, rfl⟩
   . simp -dsimp +decide (disch := omega) only [vy, vz, vze, vr, ty, en, ↓reduceIte, Nat.reduceSub, Nat.reduceAdd, Nat.reduceMul, Nat.reduceLT, Int.reduceAdd, Int.reduceSub, Int.reduceToNat, ci, vi, getO_i, vt, tk5]
     exact Vw.cut ⟨⟨_, rfl, by rw [may_mk]; exact ⟨fun _ => ⟨hb, .inr (.inl rfl)⟩, fun _ => rfl⟩⟩, rfl, rfl⟩
   . simp -dsimp +decide (disch := omega) only [vy, vz, vze, vr, ty, en, ↓reduceIte, Nat.reduceSub, Nat.reduceAdd, Nat.reduceMul, Nat.reduceLT, Int.reduceAdd, Int.reduceSub, Int.reduceToNat, ci, vi, getO_i, vt, tk5]
     refine (valid_ok (s := s) ?_).mono ?_
     . rw [vsz] at hv; omega
     rintro r T' es ⟨⟨b, rfl, hb2⟩, rfl, rfl⟩
     simp -dsimp +decide (disch := omega) only [vy, vz, vze, vr, ty, en, ↓reduceIte, Nat.reduceSub, Nat.reduceAdd, Nat.reduceMul, Nat.reduceLT, Int.reduceAdd, Int.reduceSub, Int.reduceToNat, ci, vi, getO_i, vt]
     exact Vw.cut ⟨⟨_, rfl, by rw [may_mk, hb2]; exact ⟨fun h => ⟨hb, .inr (.inr (.inr (.inl ⟨rfl, h⟩)))⟩, fun ⟨_, h⟩ => by simpa using h⟩⟩, rfl, rfl⟩
   rotate_left
   . have q0 := u8_num (k := k) (n := 0) (by decide)
     have q1 := u8_num (k := k) (n := 1) (by decide)
     have q2 := u8_num (k := k) (n := 2) (by decide)
     have q3 := u8_num (k := k) (n := 3) (by decide)
     have q4 := u8_num (k := k) (n := 4) (by decide)
     have q5 := u8_num (k := k) (n := 5) (by decide)
     have n0 : ((k.toNat : Int) = 0) = False := eq_false (fun h => h0 (q0.1 h))
     have n1 : ((k.toNat : Int) = 1) = False := eq_false (fun h => h1 (q1.1 h))
     have n2 : ((k.toNat : Int) = 2) = False := eq_false (fun h => h2 (q2.1 h))
     have n3 : ((k.toNat : Int) = 3) = False := eq_false (fun h => h3 (q3.1 h))
     have n4 : ((k.toNat : Int) = 4) = False := eq_false (fun h => h4 (q4.1 h))
     have n5 : ((k.toNat : Int) = 5) = False := eq_false (fun h => h5 (q5.1 h))
     simp -dsimp +decide (disch := omega) only [vy, vz, vze, vr, ty, en, ↓reduceIte, Nat.reduceSub, Nat.reduceAdd, Nat.reduceMul, Nat.reduceLT, Int.reduceAdd, Int.reduceSub, Int.reduceToNat, ci, vi, getO_i, vt, tk5, n0, n1, n2, n3, n4, n5]
     exact Vw.cut ⟨⟨_, rfl, by rw [may_mk]; simp [h0, h1, h2, h3, h4, h5]⟩, rfl, rfl⟩
   . have n0 : ((k.toNat : Int) = 0) = False := by rcases hk with rfl | rfl <;> decide
     have n1 : ((k.toNat : Int) = 1) = False := by rcases hk with rfl | rfl <;> decide
     have n2 : ((k.toNat : Int) = 2) = False := by rcases hk with rfl | rfl <;> decide
     have n3 : ((k.toNat : Int) = 3) = False := by rcases hk with rfl | rfl <;> decide
     have n45 : (((k.toNat : Int) = 4) = True /\ ((k.toNat : Int) = 5) = False) ∨ (((k.toNat : Int) = 4) = False /\ ((k.toNat : Int) = 5) = True) := by rcases hk with rfl | rfl <;> decide
     have hM : may n (.mk k z s ks ns) ↔ namesOk ns /\ 0 < n /\ ∀ x ∈ ks, may (n - 1) x := (may_mk n _ z s ks ns).trans ⟨fun h => by simpa [show k ≠ 0 by rcases hk with rfl | rfl <;> decide, show k ≠ 1 by rcases hk with rfl | rfl <;> decide, show k ≠ 2 by rcases hk with rfl | rfl <;> decide, show k ≠ 3 by rcases hk with rfl | rfl <;> decide, hk] using h.2, fun h => ⟨hb, .inr (.inr (.inr (.inr ⟨hk, h⟩)))⟩⟩
     have hnl : ns.length <= 1099511627776 := by have := nsz_len ns; rw [vsz] at hv; omega
     have hkl : ks.length <= 1099511627776 := by have := vszL_len ks; rw [vsz] at hv; omega
     have hld := Sl.loads (Sl.vs (ns.map str) ns.length (by simp) : Sl T 1 _ _ _) (P := prog) (t := 9) (by (simp -dsimp +decide only [vy, vz, vze, vr, ty, en, ↓reduceIte, Nat.reduceSub, Nat.reduceAdd, Nat.reduceMul, Nat.reduceLT, Int.reduceAdd, Int.reduceSub, Int.reduceToNat, ci]))
     rcases n45 with ⟨n4, n5⟩ | ⟨n4, n5⟩
     all_goals
      simp -dsimp +decide (disch := omega) only [vy, vz, vze, vr, ty, en, ↓reduceIte, Nat.reduceSub, Nat.reduceAdd, Nat.reduceMul, Nat.reduceLT, Int.reduceAdd, Int.reduceSub, Int.reduceToNat, ci, vi, getO_i, vt, tk5, n0, n1, n2, n3, n4, n5]
      refine SemA.loopE (fun i : Nat => [(2, .ptr T.length 0), (3, .ptr (T.length + 1) 0), (5, .mp (T.length + 2)), (37, .vs (ns.map str) ns.length), (38, wint (ns.length : Int)), (39, wint (i : Int))]) (fun i => T ++ [.cells 25 [by8 k, .p (.int .i64 z), .p (.string (ba s)), .vs (vcsL ks) ks.length, .vs (ns.map str) ns.length], .cells 3 [wint (n : Int)], .map (nmE (ns.take i))]) (fun i => i <= ns.length /\ namesOk (ns.take i)) (fun i => ns.length - i) 0 [] 1 (fun _ : Unit => [(2, .ptr T.length 0), (3, .ptr (T.length + 1) 0)]) (fun _ => T ++ [.cells 25 [by8 k, .p (.int .i64 z), .p (.string (ba s)), .vs (vcsL ks) ks.length, .vs (ns.map str) ns.length], .cells 3 [wint (n : Int)], .map (nmE ns)]) (fun _ => namesOk ns) ⟨by omega, ⟨by simp, by simp⟩⟩ (by (simp -dsimp +decide (disch := omega) only [vy, vz, vze, vr, ty, en, ↓reduceIte, Nat.reduceSub, Nat.reduceAdd, Nat.reduceMul, Nat.reduceLT, Int.reduceAdd, Int.reduceSub, Int.reduceToNat, ci, vi, getO_i]); first | rfl | done) rfl (by simp) ?_ ?_
      . rintro i g ⟨hi, hok⟩
        refine SemA.o ?_
        simp -dsimp +decide (disch := omega) only [vy, vz, vze, vr, ty, en, ↓reduceIte, Nat.reduceSub, Nat.reduceAdd, Nat.reduceMul, Nat.reduceLT, Int.reduceAdd, Int.reduceSub, Int.reduceToNat, ci, vi, getO_i, vt]
        refine CondP.dec (fun h => ?_) (fun h => ?_)
        . obtain ⟨y, hy⟩ : ∃ y, ns[i]? = some y := ⟨ns[i]'(by omega), by simp⟩
          have hyl : y.length <= 9223372036854775807 := by have := nsz_mem (List.mem_of_getElem? hy); rw [vsz] at hv; omega
          have hmf := mfind_nmE (ns.take i) y
          have hge : (ns.map str)[i]? = some (.p (.string (ba y))) := by rw [List.getElem?_map, hy]; rfl
          by_cases hin : y ∈ ns.take i
          . obtain ⟨j, hj, hjf⟩ := hmf.2 hin
            have hji : ((j : Int) < (i : Int)) = True := eq_true (by rw [List.length_take] at hj; omega)
            have hbad : ¬ namesOk ns := fun hN => by
             have := hN.2
             rw [<- List.take_append_drop i ns, show ns.drop i = y :: ns.drop (i + 1) from by obtain ⟨h1, rfl⟩ := List.getElem?_eq_some_iff.1 hy; exact List.drop_eq_getElem_cons h1] at this
             exact (List.nodup_append.1 this).2.2 _ hin _ (by simp) rfl
            simp -dsimp +decide (disch := omega) only [vy, vz, vze, vr, ty, en, ↓reduceIte, Nat.reduceSub, Nat.reduceAdd, Nat.reduceMul, Nat.reduceLT, Int.reduceAdd, Int.reduceSub, Int.reduceToNat, ci, vi, getO_i, vt, hld, hge, hjf, mapKO_nmE]
            refine ⟨⟨by omega, by omega, by intro e; rw [e] at hge; cases hge⟩, ?_⟩
            refine (valid_ok (s := y) hyl).mono ?_
            rintro r T' es ⟨⟨b2, rfl, hb2⟩, rfl, rfl⟩
            cases b2
            all_goals
             simp -dsimp +decide (disch := omega) only [vy, vz, vze, vr, ty, en, ↓reduceIte, Nat.reduceSub, Nat.reduceAdd, Nat.reduceMul, Nat.reduceLT, Int.reduceAdd, Int.reduceSub, Int.reduceToNat, ci, vi, getO_i, vt, hji]
             exact Vw.cut ⟨⟨_, rfl, by rw [hM]; exact ⟨fun h => (by cases h), fun h => absurd h.1 hbad⟩⟩, rfl, rfl⟩
          . have hjf := hmf.1 hin
            have hms := mset_nmE (ns.take i) y hin
            rw [List.length_take, Nat.min_eq_left hi] at hms
            have htk : ns.take i ++ [y] = ns.take (i + 1) := by rw [List.take_add_one, hy]; rfl
            rw [htk] at hms
            simp -dsimp +decide (disch := omega) only [vy, vz, vze, vr, ty, en, ↓reduceIte, Nat.reduceSub, Nat.reduceAdd, Nat.reduceMul, Nat.reduceLT, Int.reduceAdd, Int.reduceSub, Int.reduceToNat, ci, vi, getO_i, vt, hld, hge, hjf, mapKO_nmE]
            refine ⟨⟨by omega, by omega, by intro e; rw [e] at hge; cases hge⟩, ?_⟩
            refine (valid_ok (s := y) hyl).mono ?_
            rintro r T' es ⟨⟨b2, rfl, hb2⟩, rfl, rfl⟩
            cases b2 with
            | false =>
              simp -dsimp +decide (disch := omega) only [vy, vz, vze, vr, ty, en, ↓reduceIte, Nat.reduceSub, Nat.reduceAdd, Nat.reduceMul, Nat.reduceLT, Int.reduceAdd, Int.reduceSub, Int.reduceToNat, ci, vi, getO_i, vt]
              exact Vw.cut ⟨⟨_, rfl, by rw [hM]; exact ⟨fun h => (by cases h), fun h => by have := hb2.2 (h.1.1 y (List.mem_of_getElem? hy)); cases this⟩⟩, rfl, rfl⟩
            | true =>
              simp -dsimp +decide (disch := omega) only [vy, vz, vze, vr, ty, en, ↓reduceIte, Nat.reduceSub, Nat.reduceAdd, Nat.reduceMul, Nat.reduceLT, Int.reduceAdd, Int.reduceSub, Int.reduceToNat, ci, vi, getO_i, vt, hms, mapKO_nmE, wo_nmE]
              refine ⟨i + 1, ⟨⟨by omega, ?_⟩, by omega⟩, by rw [show ((i + 1 : Nat) : Int) = (i : Int) + 1 from rfl], by rw [<- hms]; rfl⟩
              rw [<- htk]
              refine ⟨fun x hx => ?_, List.nodup_append.2 ⟨hok.2, by simp, fun a ha b hb e => hin (List.mem_singleton.1 hb ▸ e ▸ ha)⟩⟩
              rcases List.mem_append.1 hx with hx | hx
              . exact hok.1 x hx
              . have : x = y := by simpa using hx
                subst this
                exact hb2.1 rfl
        . rw [List.take_of_length_le (by omega)] at hok
          have hcut : ns.take i = ns := List.take_of_length_le (by omega)
          simp -dsimp +decide (disch := omega) only [vy, vz, vze, vr, ty, en, ↓reduceIte, Nat.reduceSub, Nat.reduceAdd, Nat.reduceMul, Nat.reduceLT, Int.reduceAdd, Int.reduceSub, Int.reduceToNat, ci, vi, getO_i, vt, hcut]
          exact ⟨(), hok⟩
      . rintro _ g tmp hok
        cases n with
        | zero =>
          simp -dsimp +decide (disch := omega) only [vy, vz, vze, vr, ty, en, ↓reduceIte, Nat.reduceSub, Nat.reduceAdd, Nat.reduceMul, Nat.reduceLT, Int.reduceAdd, Int.reduceSub, Int.reduceToNat, ci, vi, getO_i, vt]
          exact Vw.cut ⟨⟨_, rfl, by rw [hM]; exact ⟨fun h => (by cases h), fun h => absurd h.2.1 (Nat.lt_irrefl 0)⟩⟩, rfl, rfl⟩
        | succ m =>
          have hpos : ((0 : Int) < ((m + 1 : Nat) : Int)) = True := eq_true (by omega)
          have hcs := fun U : Tbl => conf_ok (T := U) (j := T.length + 1) (q := fun x => ¬ may m x) (Es_vcs U ks) hkl
          have hgt : (T ++ [.cells 25 [by8 k, .p (.int .i64 z), .p (.string (ba s)), .vs (vcsL ks) ks.length, .vs (ns.map str) ns.length], .cells 3 [wint ((m + 1 : Nat) : Int)], .map (nmE ns)])[T.length + 1]? = some (.cells 3 [wint ((m : Int) + 1)]) := by rw [List.getElem?_append_right (by omega), show T.length + 1 - T.length = 1 by omega]; rfl
          simp -dsimp +decide (disch := omega) only [vy, vz, vze, vr, ty, en, ↓reduceIte, Nat.reduceSub, Nat.reduceAdd, Nat.reduceMul, Nat.reduceLT, Int.reduceAdd, Int.reduceSub, Int.reduceToNat, ci, vi, getO_i, vt, hpos]
          refine (hcs _ ?_).mono ?_
          . intro x hx
            exact ask_ok (hrec m rfl) (by omega) hgt (by have := vszL_mem hx; rw [vsz] at hv; omega) (hf.2 x hx)
          rintro r T' es ⟨⟨b2, rfl, hb2⟩, rfl, rfl⟩
          simp -dsimp +decide (disch := omega) only [vy, vz, vze, vr, ty, en, ↓reduceIte, Nat.reduceSub, Nat.reduceAdd, Nat.reduceMul, Nat.reduceLT, Int.reduceAdd, Int.reduceSub, Int.reduceToNat, ci, vi, getO_i, vt]
          refine Vw.cut ⟨⟨_, rfl, ?_⟩, rfl, rfl⟩
          rw [hM]
          cases b2 with
          | true =>
            obtain ⟨x, hx, hq⟩ := hb2.1 rfl
            exact ⟨fun h => (by cases h), fun h => absurd (h.2.2 x hx) hq⟩
          | false => exact ⟨fun _ => ⟨hok, by omega, fun x hx => Classical.byContradiction fun hq => by have := hb2.2 ⟨x, hx, hq⟩; cases this⟩, fun _ => rfl⟩
theorem may_all : ∀ n, n <= 100 -> MayOk n
 | 0, h => may_step 0 h (fun _ e => nomatch e)
 | n + 1, h => may_step (n + 1) h (fun m e => by cases e; exact may_all n (by omega))
theorem May_ok {T : Tbl} {v : JV} (hv : vsz v <= 1099511627776) (hf : fits 8 v) : CallA prog G 12 [.ag (vcs v)] T fun r T' es => (∃ b : Bool, r = .p (.bool b) /\ (b = true ↔ may 8 v)) /\ T' = T /\ es = [] := by
 have hm := may_all 8 (by decide) (T ++ [.cells 25 (vcs v)]) v hv hf
 obtain ⟨k, z, s, ks, ns⟩ := v
 rw [vcs, show str s = .p (.string (ba s)) from rfl] at hm ⊢
 refine CallA.eV 5 func12 ntmps12 results12 ?_
 simp -dsimp +decide only [vy, vz, vze, vr, ty, en, ↓reduceIte, Nat.reduceSub, Nat.reduceAdd, Nat.reduceMul, Nat.reduceLT, Int.reduceAdd, Int.reduceSub, Int.reduceToNat, ci]
 simp -dsimp +decide (disch := omega) only [vy, vz, vze, vr, ty, en, ↓reduceIte, Nat.reduceSub, Nat.reduceAdd, Nat.reduceMul, Nat.reduceLT, Int.reduceAdd, Int.reduceSub, Int.reduceToNat, ci, vi, getO_i, vt, tk5]
 refine hm.mono ?_
 rintro r T' es ⟨⟨b, rfl, hb⟩, rfl, rfl⟩
 simp -dsimp +decide (disch := omega) only [vy, vz, vze, vr, ty, en, ↓reduceIte, Nat.reduceSub, Nat.reduceAdd, Nat.reduceMul, Nat.reduceLT, Int.reduceAdd, Int.reduceSub, Int.reduceToNat, ci, vi, getO_i, vt]
 exact Vw.cut ⟨⟨_, rfl, hb⟩, rfl, rfl⟩
end Go.Proofs.YtglpcedoongagaaGreatDoor
namespace Go.Proofs.YtglpcedoongagaaGreatDoor
open Go.E Go.Proofs.YtglpcedoongagaaGreatDoor.Tryz Go.Proofs.Tryz Go.J Go.Proofs
def PutOk (n : Nat) : Prop := ∀ (T : Tbl) (j : Nat) (A : List UInt8) (v : JV), T[j]? = some (bf A) -> T.map (AObj.wo fun x => x == j) = T -> may n v -> fits n v -> A.length + 6 * (prt n v).length + 100 <= 140737488355328 -> CallA prog G 21 [.sl j 0 A.length, .ag (vcs v)] T (App T j A (prt n v))
theorem joinC_snoc (a : List UInt8) : ∀ l : List (List UInt8), joinC (l ++ [a]) = if l = [] then a else joinC l ++ 44 :: a
 | [] => rfl
 | [x] => rfl
 | x :: y :: r => by
   have ih := joinC_snoc a (y :: r)
   rw [if_neg (by simp)] at ih ⊢
   simp only [List.cons_append, joinC] at ih ⊢
   rw [ih]; simp
theorem joinC_pre (l : List (List UInt8)) : ∀ i, (joinC (l.take i)).length <= (joinC l).length := by
 intro i
 induction l generalizing i with
 | nil => simp
 | cons x r ih =>
   cases i with
   | zero => simp [joinC]
   | succ i =>
     cases r with
     | nil => simp [joinC]
     | cons y r =>
       cases i with
       | zero => simp only [List.take_succ_cons, List.take_zero, joinC, List.length_append]; omega
       | succ i =>
         have := ih (i + 1)
         simp only [List.take_succ_cons, joinC, List.length_append, List.length_cons] at this ⊢
         omega
theorem quote_le (s : List UInt8) : s.length <= (quote s).length := by
 have : ∀ l : List UInt8, l.length <= (l.flatMap qb).length := fun l => by
  induction l with
  | nil => simp
  | cons c r ih =>
    have : 1 <= (qb c).length := by unfold qb; (repeat' split) <;> simp
    rw [List.flatMap_cons, List.length_append, List.length_cons]; omega
 have := this s
 rw [quote, List.length_cons, List.length_append]; omega
theorem put_leaf {T : Tbl} {j : Nat} {A : List UInt8} {v : JV} (hj : T[j]? = some (bf A)) (hq : T.map (AObj.wo fun x => x == j) = T) (hm : mayL v) (hf : wide v) (hA : A.length + 6 * (prtL v).length + 100 <= 140737488355328) : CallA prog G 21 [.sl j 0 A.length, .ag (vcs v)] T (App T j A (prtL v)) := by
 refine CallA.wfs fun wf => ?_
 have wt := wf.t
 have hjl := (List.getElem?_eq_some_iff.1 hj).1
 have hqv : ∀ v : JV, (T ++ [AObj.cells 25 (vcs v)]).map (AObj.wo fun x => x == j) = T ++ [AObj.cells 25 (vcs v)] := fun v => by
  rw [List.map_append, hq]; simp only [List.map_cons, List.map_nil, AObj.wo, vcs_wo]
 have hjv : ∀ l : Tbl, (T ++ l)[j]? = some (bf A) := fun l => by rw [List.getElem?_append_left hjl]; exact hj
 have hj' : ∀ l : Tbl, (T ++ l)[j]? = some (.buf 5 1 (A.map by8)) := hjv
 obtain ⟨k, z, s, ks, ns⟩ := v
 have hqv' := hqv (.mk k z s ks ns)
 rw [vcs, show str s = .p (.string (ba s)) from rfl] at hqv' ⊢
 obtain ⟨hb, hk⟩ := hm
 refine CallA.eV 45 func21 ntmps21 results21 ?_
 simp -dsimp +decide only [vr, ty, en, ↓reduceIte, Nat.reduceSub, Nat.reduceAdd, Nat.reduceMul, Nat.reduceLT, Int.reduceAdd, Int.reduceSub, Int.reduceToNat, ci]
 rcases hk with hk | hk | ⟨hk, hz⟩ | ⟨hk, hv⟩
 . have hk : k = 0 := hk
   subst hk
   have hp : prtL (.mk 0 z s ks ns) = [110, 117, 108, 108] := rfl
   simp -dsimp +decide (disch := omega) only [vr, ty, en, ↓reduceIte, Nat.reduceSub, Nat.reduceAdd, Nat.reduceMul, Nat.reduceLT, Int.reduceAdd, Int.reduceSub, Int.reduceToNat, ci, vi, getO_i, vt, hj', app_str]
   refine ⟨⟨by show A.length + 4 <= _; omega, by show A.length + 4 <= _; omega⟩, ?_⟩
   rw [hq, rec1_in hjl]
   refine Vw.bf' (A := A ++ [110, 117, 108, 108]) (by rw [bf, List.map_append]; rfl) wt.2.1 hjl ⟨?_, ?_, rfl⟩
   . rw [hp, List.length_append]; rfl
   . rw [hp]
 . have hk : k = 2 := hk
   subst hk
   have hp : prtL (.mk 2 z s ks ns) = numS z := rfl
   simp -dsimp +decide (disch := omega) only [vr, ty, en, ↓reduceIte, Nat.reduceSub, Nat.reduceAdd, Nat.reduceMul, Nat.reduceLT, Int.reduceAdd, Int.reduceSub, Int.reduceToNat, ci, vi, getO_i, vt, hj']
   rw [hp] at hA
   refine (AI_ok (z := z) hf (hjv _) (by omega) hqv').mono ?_
   rintro v T' es ⟨rfl, rfl, rfl⟩
   simp -dsimp +decide (disch := omega) only [vr, ty, en, ↓reduceIte, Nat.reduceSub, Nat.reduceAdd, Nat.reduceMul, Nat.reduceLT, Int.reduceAdd, Int.reduceSub, Int.reduceToNat, ci, vi, getO_i, vt, rec1_in hjl]
   refine Vw.bf wt.2.1 hjl ⟨?_, ?_, rfl⟩
   . rw [hp]
   . rw [hp]
 . have hk : k = 1 := hk
   subst hk
   have hp : prtL (.mk 1 z s ks ns) = bws (decide (z = 1)) := by
    show (if z = 1 then _ else _) = _
    unfold bws
    by_cases h : z = 1
    . rw [if_pos h, if_pos (decide_eq_true h)]
    . rw [if_neg h, if_neg (by simpa using h)]
   simp -dsimp +decide (disch := omega) only [vr, ty, en, ↓reduceIte, Nat.reduceSub, Nat.reduceAdd, Nat.reduceMul, Nat.reduceLT, Int.reduceAdd, Int.reduceSub, Int.reduceToNat, ci, vi, getO_i, vt, hj']
   refine (AB_ok (b := decide (z = 1)) (hjv _) (by omega) hqv').mono ?_
   rintro v T' es ⟨rfl, rfl, rfl⟩
   simp -dsimp +decide (disch := omega) only [vr, ty, en, ↓reduceIte, Nat.reduceSub, Nat.reduceAdd, Nat.reduceMul, Nat.reduceLT, Int.reduceAdd, Int.reduceSub, Int.reduceToNat, ci, vi, getO_i, vt, rec1_in hjl]
   refine Vw.bf wt.2.1 hjl ⟨?_, ?_, rfl⟩
   . rw [hp]
   . rw [hp]
 . have hk : k = 3 := hk
   subst hk
   have hp : prtL (.mk 3 z s ks ns) = quote s := rfl
   have hql : s.length <= (quote s).length := by
    have : ∀ l : List UInt8, l.length <= (l.flatMap qb).length := fun l => by
     induction l with
     | nil => simp
     | cons c r ih =>
       have : 1 <= (qb c).length := by unfold qb; (repeat' split) <;> simp
       rw [List.flatMap_cons, List.length_append, List.length_cons]; omega
    have := this s
    rw [quote, List.length_cons, List.length_append]; omega
   rw [hp] at hA
   simp -dsimp +decide (disch := omega) only [vr, ty, en, ↓reduceIte, Nat.reduceSub, Nat.reduceAdd, Nat.reduceMul, Nat.reduceLT, Int.reduceAdd, Int.reduceSub, Int.reduceToNat, ci, vi, getO_i, vt, hj']
   refine (quoted_ok (hjv _) (by omega) hqv').mono ?_
   rintro v T' es ⟨rfl, rfl, rfl⟩
   simp -dsimp +decide (disch := omega) only [vr, ty, en, ↓reduceIte, Nat.reduceSub, Nat.reduceAdd, Nat.reduceMul, Nat.reduceLT, Int.reduceAdd, Int.reduceSub, Int.reduceToNat, ci, vi, getO_i, vt, rec1_in hjl]
   refine Vw.bf wt.2.1 hjl ⟨?_, ?_, rfl⟩
   . rw [hp]
   . rw [hp]
theorem put_list {n : Nat} (hrec : PutOk n) {T : Tbl} {j : Nat} {A : List UInt8} {ks : List JV} {z : Int} {s : List UInt8} {ns : List (List UInt8)} (hj : T[j]? = some (bf A)) (hq : T.map (AObj.wo fun x => x == j) = T) (hm : ∀ x ∈ ks, may n x) (hf : ∀ x ∈ ks, fits n x) (hks : ks.length <= 140737488355328)
 (hA : A.length + 6 * (joinC (ks.map (prt n))).length + 112 <= 140737488355328) : CallA prog G 21 [.sl j 0 A.length, .ag (vcs (.mk 4 z s ks ns))] T (App T j A (91 :: (joinC (ks.map (prt n)) ++ [93]))) := by
 refine CallA.wfs fun wf => ?_
 have wt := wf.t
 have hjl := (List.getElem?_eq_some_iff.1 hj).1
 have hV := V.rules hjl hq wt.2.1 wt.1
 have hjv : ∀ l : Tbl, (T ++ l)[j]? = some (bf A) := fun l => by rw [List.getElem?_append_left hjl]; exact hj
 have hj' : ∀ l : Tbl, (T ++ l)[j]? = some (.buf 5 1 (A.map by8)) := hjv
 have hld := (Es_vcs T ks).ld (P := prog) (t := 25) (by (simp -dsimp +decide only [vr, ty, en, ↓reduceIte, Nat.reduceSub, Nat.reduceAdd, Nat.reduceMul, Nat.reduceLT, Int.reduceAdd, Int.reduceSub, Int.reduceToNat, ci])) (by (simp -dsimp +decide only [vr, ty, en, ↓reduceIte, Nat.reduceSub, Nat.reduceAdd, Nat.reduceMul, Nat.reduceLT, Int.reduceAdd, Int.reduceSub, Int.reduceToNat, ci])) (by decide)
 have hr := Sl.rules (Es_vcs T ks).sl (by decide)
 rw [vcs, show str s = .p (.string (ba s)) from rfl]
 have h91 : (ByteArray.mk #[91, 93])[0]? = some 91 := by decide
 have h93 : (ByteArray.mk #[91, 93])[1]? = some 93 := by decide
 obtain ⟨its, hits⟩ : ∃ its, its = ks.map (prt n) := ⟨_, rfl⟩
 have hil : its.length = ks.length := by rw [hits, List.length_map]
 rw [<- hits] at hA ⊢
 have hVof : ∀ (l : Tbl) (o : AObj), (T ++ l).set j o = V T j o ++ l := fun l o => List.set_append_left _ _ hjl
 have hnj : (∀ k, (T.length + k == j) = false) /\ (T.length == j) = false /\ (∀ k, decide (T.length + k <= j) = false) := ⟨fun k => by simp; omega, by simp; omega, fun k => by simp; omega⟩
 refine CallA.eV 45 func21 ntmps21 results21 ?_
 simp -dsimp +decide only [vr, ty, en, ↓reduceIte, Nat.reduceSub, Nat.reduceAdd, Nat.reduceMul, Nat.reduceLT, Int.reduceAdd, Int.reduceSub, Int.reduceToNat, ci]
 simp -dsimp +decide (disch := omega) only [vr, ty, en, ↓reduceIte, Nat.reduceSub, Nat.reduceAdd, Nat.reduceMul, Nat.reduceLT, Int.reduceAdd, Int.reduceSub, Int.reduceToNat, ci, vi, getO_i, vt, hj', h91, hq, rec1_in hjl, hVof, hnj, hV]
 refine ⟨⟨by omega, by omega⟩, ?_⟩
 refine SemA.loopC (fun i : Nat => [(0, .sl j 0 (A ++ [91] ++ joinC (its.take i)).length), (3, .ptr T.length 0), (5, .p (.string (ByteArray.mk #[91, 93]))), (42, .vs (vcsL ks) ks.length), (43, wint (ks.length : Int)), (44, wint (i : Int))])
  (fun i => V T j (bf (A ++ [91] ++ joinC (its.take i))) ++ [.cells 25 [.p (.int .u8 ((4 : UInt8).toNat : Int)), .p (.int .i64 z), .p (.string (ba s)), .vs (vcsL ks) ks.length, .vs (ns.map str) ns.length], .buf 5 1 [.p (.int .u8 ((91 : UInt8).toNat : Int))]])
  (fun i => i <= ks.length) (fun i => ks.length - i) (T.length + 2) 0 [(j, true)] (by kernel_rfl) (by omega) (by omega) ?_ ?_ (by simp) ?_
 . have : (A ++ [91] ++ joinC (its.take 0)) = A ++ [91] := by rw [List.take_zero]; exact List.append_nil _
   rw [this]
   simp -dsimp +decide only [vr, ty, en, ↓reduceIte, Nat.reduceSub, Nat.reduceAdd, Nat.reduceMul, Nat.reduceLT, Int.reduceAdd, Int.reduceSub, Int.reduceToNat, ci, vt]
   first | rfl | (and_intros <;> first | rfl | (simp; done))
 . have : (A ++ [91] ++ joinC (its.take 0)) = A ++ [91] := by rw [List.take_zero]; exact List.append_nil _
   rw [this]; rfl
 . rintro i g hi
   have hpre := joinC_pre its i
   obtain ⟨B, hB⟩ : ∃ B, A ++ [91] ++ joinC (its.take i) = B := ⟨_, rfl⟩
   rw [hB]
   have hlen0 : B.length = A.length + 1 + (joinC (its.take i)).length := by rw [<- hB, List.length_append, List.length_append]; rfl
   by_cases hlt : i < ks.length
   . have hlt' : ((i : Int) < (ks.length : Int)) = True := eq_true (by omega)
     obtain ⟨x, hx⟩ : ∃ x, ks[i]? = some x := ⟨ks[i], List.getElem?_eq_getElem hlt⟩
     have hxi : its[i]? = some (prt n x) := by rw [hits, List.getElem?_map, hx]; rfl
     have hxm := List.mem_of_getElem? hx
     have hsn := joinC_snoc (prt n x) (its.take i)
     have htk : its.take i ++ [prt n x] = its.take (i + 1) := by rw [List.take_add_one, hxi]; rfl
     rw [htk] at hsn
     have hpre2 := joinC_pre its (i + 1)
     have hfl : (vcsL ks).length = ks.length * 5 := by rw [vcsL_eq]; exact flat_len fun x _ => vcs_len x
     have hne : vcsL ks ≠ [] := fun e => by rw [e] at hfl; simp at hfl; omega
     have hat : List.take 5 (List.drop (i * 5) (vcsL ks)) = vcs x := by rw [vcsL_eq]; exact flat_at (fun x _ => vcs_len x) hx
     have hm' := hm x hxm
     have hf' := hf x hxm
     have hqk : ∀ (B' : List UInt8) (l : Tbl), l.map (AObj.wo fun x => x == j) = l -> (V T j (bf B') ++ l).map (AObj.wo fun x => x == j) = V T j (bf B') ++ l := fun B' l h => by rw [List.map_append, hV.2.2.2.1, bf_wo, h]
     have hcall := fun (B' : List UInt8) (l : Tbl) (h : l.map (AObj.wo fun x => x == j) = l) (hb : B'.length + 6 * (prt n x).length + 100 <= 140737488355328) => hrec (V T j (bf B') ++ l) j B' x (hV.2.2.1 _ _) (hqk B' l h) hm' hf' hb
     obtain ⟨k', z', s', ks', ns'⟩ := x
     obtain ⟨pk, hpk⟩ : ∃ pk, prt n (.mk k' z' s' ks' ns') = pk := ⟨_, rfl⟩
     rw [hpk] at hsn hcall
     rw [vcs, show str s' = .p (.string (ba s')) from rfl] at hat hcall
     have hci : ((i + 1 : Nat) : Int) = (i : Int) + 1 := rfl
     by_cases hi0 : i = 0
     . have hpos : ((0 : Int) < (i : Int)) = False := eq_false (by omega)
       rw [if_pos (by rw [hi0]; rfl)] at hsn
       have hz0 : joinC (its.take i) = [] := by rw [hi0]; rfl
       rw [hz0] at hlen0
       have hBq : B ++ pk = A ++ [91] ++ joinC (its.take (i + 1)) := by rw [hsn, <- hB, hz0]; simp only [List.append_assoc, List.append_nil]
       rw [show bf B = .buf 5 1 (B.map by8) from rfl]
       simp -dsimp +decide (disch := omega) only [vr, ty, en, ↓reduceIte, Nat.reduceSub, Nat.reduceAdd, Nat.reduceMul, Nat.reduceLT, Int.reduceAdd, Int.reduceSub, Int.reduceToNat, ci, vi, getO_i, vt, hV, hlt', hr, hld, hx, hat, hpos, hnj, wr5, tk5]
       refine ⟨⟨by omega, hne⟩, by omega, ?_⟩
       refine (hcall B _ (by rfl) (by rw [hsn] at hpre2; simp only [List.length_nil] at hlen0; omega)).mono ?_
       rintro v T' es ⟨rfl, rfl, rfl⟩
       rw [hV.2.2.2.2.2.1, hBq]
       simp -dsimp +decide (disch := omega) only [vr, ty, en, ↓reduceIte, Nat.reduceSub, Nat.reduceAdd, Nat.reduceMul, Nat.reduceLT, Int.reduceAdd, Int.reduceSub, Int.reduceToNat, ci, vi, getO_i, vt, hV, hnj, rec1_in hjl]
       exact ⟨⟨i + 1, by omega, by omega, ⟨rfl, by rw [hci]⟩, by rw [bf_wo]⟩, by simp⟩
     . have hpos : ((0 : Int) < (i : Int)) = True := eq_true (by omega)
       have hne0 : its.take i ≠ [] := by
        intro e
        have : (its.take i).length = 0 := by rw [e]; rfl
        rw [List.length_take] at this; omega
       rw [if_neg hne0] at hsn
       have hBq : B ++ [44] ++ pk = A ++ [91] ++ joinC (its.take (i + 1)) := by rw [hsn, <- hB]; simp only [List.append_assoc, List.cons_append, List.nil_append]
       have hl3 : (joinC (its.take (i + 1))).length = (joinC (its.take i)).length + 1 + pk.length := by rw [hsn, List.length_append, List.length_cons]; omega
       rw [show bf B = .buf 5 1 (B.map by8) from rfl]
       simp -dsimp +decide (disch := omega) only [vr, ty, en, ↓reduceIte, Nat.reduceSub, Nat.reduceAdd, Nat.reduceMul, Nat.reduceLT, Int.reduceAdd, Int.reduceSub, Int.reduceToNat, ci, vi, getO_i, vt, hV, hlt', hr, hld, hx, hat, hpos, hnj, wr5, tk5, rec1_in hjl]
       refine ⟨⟨by omega, hne⟩, by omega, ⟨by omega, by omega⟩, ?_⟩
       have e44 : AObj.buf 5 1 (List.map by8 B ++ [AV.p (.int .u8 44)]) = bf (B ++ [44]) := by rw [bf, List.map_append]; rfl
       have l44 : B.length + 1 = (B ++ [44]).length := by simp
       rw [e44, l44]
       refine (hcall (B ++ [44]) _ (by rfl) (by rw [<- l44]; omega)).mono ?_
       rintro v T' es ⟨rfl, rfl, rfl⟩
       rw [hV.2.2.2.2.2.1, hBq]
       simp -dsimp +decide (disch := omega) only [vr, ty, en, ↓reduceIte, Nat.reduceSub, Nat.reduceAdd, Nat.reduceMul, Nat.reduceLT, Int.reduceAdd, Int.reduceSub, Int.reduceToNat, ci, vi, getO_i, vt, hV, hnj, rec1_in hjl]
       exact ⟨⟨i + 1, by omega, by omega, ⟨rfl, by rw [hci]⟩, by rw [bf_wo]⟩, by simp⟩
   . have hlt' : ((i : Int) < (ks.length : Int)) = False := eq_false (by omega)
     have hall : its.take i = its := List.take_of_length_le (by omega)
     rw [show bf B = .buf 5 1 (B.map by8) from rfl]
     simp -dsimp +decide (disch := omega) only [vr, ty, en, ↓reduceIte, Nat.reduceSub, Nat.reduceAdd, Nat.reduceMul, Nat.reduceLT, Int.reduceAdd, Int.reduceSub, Int.reduceToNat, ci, vi, getO_i, vt, hV, hlt', h93, rec1_in hjl, hnj]
     rw [hall] at hlen0 hB
     refine ⟨⟨by omega, by omega⟩, ?_⟩
     have e1 : AObj.buf 5 1 (List.map by8 (B ++ [93])) = bf (A ++ (91 :: (joinC its ++ [93]))) := by
      rw [<- hB]; simp only [bf, List.append_assoc, List.cons_append, List.nil_append]
     have e2 : B.length + 1 = (A ++ (91 :: (joinC its ++ [93]))).length := by rw [hlen0]; simp only [List.length_append, List.length_cons, List.length_nil]; omega
     rw [e2]
     refine Vw.eff (E' := [(j, true)]) (by simp) ?_
     rw [V, <- List.set_append_left _ _ hjl]
     exact Vw.bf' e1 wt.2.1 hjl ⟨rfl, rfl, rfl⟩
theorem put_obj {n : Nat} (hrec : PutOk n) {T : Tbl} {j : Nat} {A : List UInt8} {ks : List JV} {z : Int} {s : List UInt8} {ns : List (List UInt8)} (hj : T[j]? = some (bf A)) (hq : T.map (AObj.wo fun x => x == j) = T) (hm : ∀ x ∈ ks, may n x) (hf : ∀ x ∈ ks, fits n x) (hks : ks.length <= 140737488355328) (hnl : ns.length = ks.length)
 (hA : A.length + 6 * (joinC (List.zipWith ent ns (ks.map (prt n)))).length + 112 <= 140737488355328) : CallA prog G 21 [.sl j 0 A.length, .ag (vcs (.mk 5 z s ks ns))] T (App T j A (123 :: (joinC (List.zipWith ent ns (ks.map (prt n))) ++ [125]))) := by
 refine CallA.wfs fun wf => ?_
 have wt := wf.t
 have hjl := (List.getElem?_eq_some_iff.1 hj).1
 have hV := V.rules hjl hq wt.2.1 wt.1
 have hjv : ∀ l : Tbl, (T ++ l)[j]? = some (bf A) := fun l => by rw [List.getElem?_append_left hjl]; exact hj
 have hj' : ∀ l : Tbl, (T ++ l)[j]? = some (.buf 5 1 (A.map by8)) := hjv
 have hld := (Es_vcs T ks).ld (P := prog) (t := 25) (by (simp -dsimp +decide only [vr, ty, en, ↓reduceIte, Nat.reduceSub, Nat.reduceAdd, Nat.reduceMul, Nat.reduceLT, Int.reduceAdd, Int.reduceSub, Int.reduceToNat, ci])) (by (simp -dsimp +decide only [vr, ty, en, ↓reduceIte, Nat.reduceSub, Nat.reduceAdd, Nat.reduceMul, Nat.reduceLT, Int.reduceAdd, Int.reduceSub, Int.reduceToNat, ci])) (by decide)
 have hr := Sl.rules (Es_vcs T ks).sl (by decide)
 rw [vcs, show str s = .p (.string (ba s)) from rfl]
 have h123 : (ByteArray.mk #[123, 125])[0]? = some 123 := by decide
 have h125 : (ByteArray.mk #[123, 125])[1]? = some 125 := by decide
 obtain ⟨its, hits⟩ : ∃ its, its = List.zipWith ent ns (ks.map (prt n)) := ⟨_, rfl⟩
 have hil : its.length = ks.length := by rw [hits, List.length_zipWith, List.length_map, hnl, Nat.min_self]
 rw [<- hits] at hA ⊢
 have hVof : ∀ (l : Tbl) (o : AObj), (T ++ l).set j o = V T j o ++ l := fun l o => List.set_append_left _ _ hjl
 have hnj : (∀ k, (T.length + k == j) = false) /\ (T.length == j) = false /\ (∀ k, decide (T.length + k <= j) = false) := ⟨fun k => by simp; omega, by simp; omega, fun k => by simp; omega⟩
 refine CallA.eV 45 func21 ntmps21 results21 ?_
 simp -dsimp +decide only [vr, ty, en, ↓reduceIte, Nat.reduceSub, Nat.reduceAdd, Nat.reduceMul, Nat.reduceLT, Int.reduceAdd, Int.reduceSub, Int.reduceToNat, ci]
 simp -dsimp +decide (disch := omega) only [vr, ty, en, ↓reduceIte, Nat.reduceSub, Nat.reduceAdd, Nat.reduceMul, Nat.reduceLT, Int.reduceAdd, Int.reduceSub, Int.reduceToNat, ci, vi, getO_i, vt, hj', h123, hq, rec1_in hjl, hVof, hnj, hV]
 refine ⟨⟨by omega, by omega⟩, ?_⟩
 refine SemA.loopC (fun i : Nat => [(0, .sl j 0 (A ++ [123] ++ joinC (its.take i)).length), (3, .ptr T.length 0), (5, .p (.string (ByteArray.mk #[123, 125]))), (42, .vs (vcsL ks) ks.length), (43, wint (ks.length : Int)), (44, wint (i : Int))])
  (fun i => V T j (bf (A ++ [123] ++ joinC (its.take i))) ++ [.cells 25 [.p (.int .u8 ((5 : UInt8).toNat : Int)), .p (.int .i64 z), .p (.string (ba s)), .vs (vcsL ks) ks.length, .vs (ns.map str) ns.length], .buf 5 1 [.p (.int .u8 ((123 : UInt8).toNat : Int))]])
  (fun i => i <= ks.length) (fun i => ks.length - i) (T.length + 2) 0 [(j, true)] (by kernel_rfl) (by omega) (by omega) ?_ ?_ (by simp) ?_
 . have : (A ++ [123] ++ joinC (its.take 0)) = A ++ [123] := by rw [List.take_zero]; exact List.append_nil _
   rw [this]
   simp -dsimp +decide only [vr, ty, en, ↓reduceIte, Nat.reduceSub, Nat.reduceAdd, Nat.reduceMul, Nat.reduceLT, Int.reduceAdd, Int.reduceSub, Int.reduceToNat, ci, vt]
   first | rfl | (and_intros <;> first | rfl | (simp; done))
 . have : (A ++ [123] ++ joinC (its.take 0)) = A ++ [123] := by rw [List.take_zero]; exact List.append_nil _
   rw [this]; rfl
 . rintro i g hi
   have hpre := joinC_pre its i
   obtain ⟨B, hB⟩ : ∃ B, A ++ [123] ++ joinC (its.take i) = B := ⟨_, rfl⟩
   rw [hB]
   have hlen0 : B.length = A.length + 1 + (joinC (its.take i)).length := by rw [<- hB, List.length_append, List.length_append]; rfl
   by_cases hlt : i < ks.length
   . have hlt' : ((i : Int) < (ks.length : Int)) = True := eq_true (by omega)
     obtain ⟨x, hx⟩ : ∃ x, ks[i]? = some x := ⟨ks[i], List.getElem?_eq_getElem hlt⟩
     obtain ⟨y, hy⟩ : ∃ y, ns[i]? = some y := ⟨ns[i]'(by omega), by simp⟩
     have hxi : its[i]? = some (ent y (prt n x)) := by rw [hits, List.getElem?_zipWith, hy, List.getElem?_map, hx]; rfl
     have hym : (ns.map str)[i]? = some (.p (.string (ba y))) := by rw [List.getElem?_map, hy]; rfl
     have hldn := Sl.loads (Sl.vs (ns.map str) ns.length (by simp) : Sl T 1 _ _ _) (P := prog) (t := 9) (by (simp -dsimp +decide only [vr, ty, en, ↓reduceIte, Nat.reduceSub, Nat.reduceAdd, Nat.reduceMul, Nat.reduceLT, Int.reduceAdd, Int.reduceSub, Int.reduceToNat, ci]))
     have hxm := List.mem_of_getElem? hx
     have hsn := joinC_snoc (ent y (prt n x)) (its.take i)
     have htk : its.take i ++ [ent y (prt n x)] = its.take (i + 1) := by rw [List.take_add_one, hxi]; rfl
     rw [htk] at hsn
     have hpre2 := joinC_pre its (i + 1)
     have hfl : (vcsL ks).length = ks.length * 5 := by rw [vcsL_eq]; exact flat_len fun x _ => vcs_len x
     have hne : vcsL ks ≠ [] := fun e => by rw [e] at hfl; simp at hfl; omega
     have hat : List.take 5 (List.drop (i * 5) (vcsL ks)) = vcs x := by rw [vcsL_eq]; exact flat_at (fun x _ => vcs_len x) hx
     have hm' := hm x hxm
     have hf' := hf x hxm
     have hqk : ∀ (B' : List UInt8) (l : Tbl), l.map (AObj.wo fun x => x == j) = l -> (V T j (bf B') ++ l).map (AObj.wo fun x => x == j) = V T j (bf B') ++ l := fun B' l h => by rw [List.map_append, hV.2.2.2.1, bf_wo, h]
     have hcall := fun (B' : List UInt8) (l : Tbl) (h : l.map (AObj.wo fun x => x == j) = l) (hb : B'.length + 6 * (prt n x).length + 100 <= 140737488355328) => hrec (V T j (bf B') ++ l) j B' x (hV.2.2.1 _ _) (hqk B' l h) hm' hf' hb
     obtain ⟨k', z', s', ks', ns'⟩ := x
     obtain ⟨pk, hpk⟩ : ∃ pk, prt n (.mk k' z' s' ks' ns') = pk := ⟨_, rfl⟩
     rw [hpk] at hsn hcall
     rw [vcs, show str s' = .p (.string (ba s')) from rfl] at hat hcall
     have hci : ((i + 1 : Nat) : Int) = (i : Int) + 1 := rfl
     have hci : ((i + 1 : Nat) : Int) = (i : Int) + 1 := rfl
     have hyq : y.length <= (quote y).length := quote_le y
     have hel : (ent y pk).length = (quote y).length + 1 + pk.length := by rw [ent, List.length_append, List.length_cons]; omega
     by_cases hi0 : i = 0
     . have hpos : ((0 : Int) < (i : Int)) = False := eq_false (by omega)
       rw [if_pos (by rw [hi0]; rfl)] at hsn
       have hz0 : joinC (its.take i) = [] := by rw [hi0]; rfl
       rw [hz0] at hlen0
       have hlen1 : B.length = A.length + 1 := hlen0
       rw [hsn] at hpre2
       have hBq : B ++ quote y ++ [58] ++ pk = A ++ [123] ++ joinC (its.take (i + 1)) := by rw [hsn, <- hB, hz0, ent]; simp only [List.append_assoc, List.append_nil, List.cons_append, List.nil_append]
       rw [show bf B = .buf 5 1 (B.map by8) from rfl]
       simp -dsimp +decide (disch := omega) only [vr, ty, en, ↓reduceIte, Nat.reduceSub, Nat.reduceAdd, Nat.reduceMul, Nat.reduceLT, Int.reduceAdd, Int.reduceSub, Int.reduceToNat, ci, vi, getO_i, vt, hV, hlt', hr, hld, hx, hat, hpos, hnj, wr5, tk5, hldn, hym]
       refine ⟨⟨by omega, hne⟩, by omega, ⟨by omega, by omega, by intro e; rw [e] at hym; cases hym⟩, ?_⟩
       refine (quoted_ok (T := _) (hV.2.2.1 _ _) (by omega) (hqk (B) _ (by rfl))).mono ?_
       rintro v T' es ⟨rfl, rfl, rfl⟩
       rw [hV.2.2.2.2.2.1, show bf (B ++ quote y) = .buf 5 1 ((B ++ quote y).map by8) from rfl]
       simp -dsimp +decide (disch := omega) only [vr, ty, en, ↓reduceIte, Nat.reduceSub, Nat.reduceAdd, Nat.reduceMul, Nat.reduceLT, Int.reduceAdd, Int.reduceSub, Int.reduceToNat, ci, vi, getO_i, vt, hV, hnj, rec1_in hjl, wr5, tk5]
       have hlB : (B ++ quote y).length = (B).length + (quote y).length := List.length_append
       refine ⟨⟨by rw [hlB]; omega, by rw [hlB]; omega⟩, ?_⟩
       have e58 : AObj.buf 5 1 (List.map by8 (B ++ quote y) ++ [AV.p (.int .u8 58)]) = bf (B ++ quote y ++ [58]) := by rw [bf, List.map_append (l₂ := [58])]; rfl
       have l58 : (B ++ quote y).length + 1 = (B ++ quote y ++ [58]).length := by rw [List.length_append (bs := [58])]; rfl
       rw [e58, l58]
       refine (hcall (B ++ quote y ++ [58]) _ (by rfl) (by rw [<- l58]; rw [hlB]; omega)).mono ?_
       rintro v T' es ⟨rfl, rfl, rfl⟩
       rw [hV.2.2.2.2.2.1, hBq]
       simp -dsimp +decide (disch := omega) only [vr, ty, en, ↓reduceIte, Nat.reduceSub, Nat.reduceAdd, Nat.reduceMul, Nat.reduceLT, Int.reduceAdd, Int.reduceSub, Int.reduceToNat, ci, vi, getO_i, vt, hV, hnj, rec1_in hjl]
       exact ⟨⟨i + 1, by omega, by omega, ⟨rfl, by rw [hci]⟩, by rw [bf_wo]⟩, by simp⟩
     . have hpos : ((0 : Int) < (i : Int)) = True := eq_true (by omega)
       have hne0 : its.take i ≠ [] := by
        intro e
        have : (its.take i).length = 0 := by rw [e]; rfl
        rw [List.length_take] at this; omega
       rw [if_neg hne0] at hsn
       have hBq : B ++ [44] ++ quote y ++ [58] ++ pk = A ++ [123] ++ joinC (its.take (i + 1)) := by rw [hsn, <- hB, ent]; simp only [List.append_assoc, List.cons_append, List.nil_append]
       have hl3 : (joinC (its.take (i + 1))).length = (joinC (its.take i)).length + 1 + (ent y pk).length := by rw [hsn, List.length_append, List.length_cons]; omega
       rw [show bf B = .buf 5 1 (B.map by8) from rfl]
       simp -dsimp +decide (disch := omega) only [vr, ty, en, ↓reduceIte, Nat.reduceSub, Nat.reduceAdd, Nat.reduceMul, Nat.reduceLT, Int.reduceAdd, Int.reduceSub, Int.reduceToNat, ci, vi, getO_i, vt, hV, hlt', hr, hld, hx, hat, hpos, hnj, wr5, tk5, rec1_in hjl, hldn, hym]
       refine ⟨⟨by omega, hne⟩, by omega, ⟨by omega, by omega⟩, ⟨by omega, by omega, by intro e; rw [e] at hym; cases hym⟩, ?_⟩
       have e44 : AObj.buf 5 1 (List.map by8 B ++ [AV.p (.int .u8 44)]) = bf (B ++ [44]) := by rw [bf, List.map_append]; rfl
       have l44 : B.length + 1 = (B ++ [44]).length := by simp
       rw [e44, l44]
       refine (quoted_ok (T := _) (hV.2.2.1 _ _) (by rw [<- l44]; omega) (hqk (B ++ [44]) _ (by rfl))).mono ?_
       rintro v T' es ⟨rfl, rfl, rfl⟩
       rw [hV.2.2.2.2.2.1, show bf (B ++ [44] ++ quote y) = .buf 5 1 ((B ++ [44] ++ quote y).map by8) from rfl]
       simp -dsimp +decide (disch := omega) only [vr, ty, en, ↓reduceIte, Nat.reduceSub, Nat.reduceAdd, Nat.reduceMul, Nat.reduceLT, Int.reduceAdd, Int.reduceSub, Int.reduceToNat, ci, vi, getO_i, vt, hV, hnj, rec1_in hjl, wr5, tk5]
       have hlB : (B ++ [44] ++ quote y).length = (B ++ [44]).length + (quote y).length := List.length_append
       refine ⟨⟨by rw [hlB, <- l44]; omega, by rw [hlB, <- l44]; omega⟩, ?_⟩
       have e58 : AObj.buf 5 1 (List.map by8 (B ++ [44] ++ quote y) ++ [AV.p (.int .u8 58)]) = bf (B ++ [44] ++ quote y ++ [58]) := by rw [bf, List.map_append (l₂ := [58])]; rfl
       have l58 : (B ++ [44] ++ quote y).length + 1 = (B ++ [44] ++ quote y ++ [58]).length := by rw [List.length_append (bs := [58])]; rfl
       rw [e58, l58]
       refine (hcall (B ++ [44] ++ quote y ++ [58]) _ (by rfl) (by rw [<- l58]; rw [hlB, <- l44]; omega)).mono ?_
       rintro v T' es ⟨rfl, rfl, rfl⟩
       rw [hV.2.2.2.2.2.1, hBq]
       simp -dsimp +decide (disch := omega) only [vr, ty, en, ↓reduceIte, Nat.reduceSub, Nat.reduceAdd, Nat.reduceMul, Nat.reduceLT, Int.reduceAdd, Int.reduceSub, Int.reduceToNat, ci, vi, getO_i, vt, hV, hnj, rec1_in hjl]
       exact ⟨⟨i + 1, by omega, by omega, ⟨rfl, by rw [hci]⟩, by rw [bf_wo]⟩, by simp⟩
   . have hlt' : ((i : Int) < (ks.length : Int)) = False := eq_false (by omega)
     have hall : its.take i = its := List.take_of_length_le (by omega)
     rw [show bf B = .buf 5 1 (B.map by8) from rfl]
     simp -dsimp +decide (disch := omega) only [vr, ty, en, ↓reduceIte, Nat.reduceSub, Nat.reduceAdd, Nat.reduceMul, Nat.reduceLT, Int.reduceAdd, Int.reduceSub, Int.reduceToNat, ci, vi, getO_i, vt, hV, hlt', h125, rec1_in hjl, hnj]
     rw [hall] at hlen0 hB
     refine ⟨⟨by omega, by omega⟩, ?_⟩
     have e1 : AObj.buf 5 1 (List.map by8 (B ++ [125])) = bf (A ++ (123 :: (joinC its ++ [125]))) := by
      rw [<- hB]; simp only [bf, List.append_assoc, List.cons_append, List.nil_append]
     have e2 : B.length + 1 = (A ++ (123 :: (joinC its ++ [125]))).length := by rw [hlen0]; simp only [List.length_append, List.length_cons, List.length_nil]; omega
     rw [e2]
     refine Vw.eff (E' := [(j, true)]) (by simp) ?_
     rw [V, <- List.set_append_left _ _ hjl]
     exact Vw.bf' e1 wt.2.1 hjl ⟨rfl, rfl, rfl⟩
theorem mayL_of {n : Nat} {v : JV} (h : may n v) (h4 : v.kind ≠ 4) (h5 : v.kind ≠ 5) : mayL v := by
 cases n with
 | zero => exact h
 | succ n =>
   rcases h with h | ⟨h, -⟩
   . exact h
   . rcases h with h | h
     . exact absurd h h4
     . exact absurd h h5
theorem put_step (n : Nat) (hrec : ∀ m, n = m + 1 -> PutOk m) : PutOk n := by
 intro T j A v hj hq hm hf hA
 have leaf : v.kind ≠ 4 -> v.kind ≠ 5 -> CallA prog G 21 [.sl j 0 A.length, .ag (vcs v)] T (App T j A (prt n v)) := fun h4 h5 => by
  have hl := mayL_of hm h4 h5
  rw [prt_leaf hl] at hA ⊢
  exact put_leaf hj hq hl (fits_wide hf) hA
 by_cases h4 : v.kind = 4
 . cases n with
   | zero => exact absurd h4 (mayL_bare hm).1
   | succ m =>
     rcases hm with hm | ⟨-, hb, hn, hk⟩
     . exact absurd h4 (mayL_bare hm).1
     obtain ⟨k, z, s, ks, ns⟩ := v
     have h4 : k = 4 := h4
     subst h4
     have hp : prt (m + 1) (.mk 4 z s ks ns) = 91 :: (joinC (ks.map (prt m)) ++ [93]) := by rw [prt]; exact if_pos rfl
     rw [hp] at hA ⊢
     have hA' : A.length + 6 * (joinC (ks.map (prt m))).length + 112 <= 140737488355328 := by
      simp only [List.length_cons, List.length_append, List.length_nil] at hA; omega
     have hnl : (ks.map (prt m)).length <= (joinC (ks.map (prt m))).length := joinC_nlen fun x hx => by
      obtain ⟨y, hy, rfl⟩ := List.mem_map.1 hx
      exact prt_pos (hk y hy)
     rw [List.length_map] at hnl
     exact put_list (hrec m rfl) hj hq hk hf.2 (by omega) hA'
 . by_cases h5 : v.kind = 5
   . cases n with
     | zero => exact absurd h5 (mayL_bare hm).2
     | succ m =>
       rcases hm with hm | ⟨-, hb, hn, hk⟩
       . exact absurd h5 (mayL_bare hm).2
       obtain ⟨k, z, s, ks, ns⟩ := v
       have h5 : k = 5 := h5
       subst h5
       have hp : prt (m + 1) (.mk 5 z s ks ns) = 123 :: (joinC (List.zipWith ent ns (ks.map (prt m))) ++ [125]) := by rw [prt]; exact (if_neg (show ¬ (5 : UInt8) = 4 by decide)).trans (if_pos rfl)
       rw [hp] at hA ⊢
       have hA' : A.length + 6 * (joinC (List.zipWith ent ns (ks.map (prt m)))).length + 112 <= 140737488355328 := by
        simp only [List.length_cons, List.length_append, List.length_nil] at hA; omega
       have hb4 : ns.length = ks.length := hb.2.2.2
       have hnl : (List.zipWith ent ns (ks.map (prt m))).length <= (joinC (List.zipWith ent ns (ks.map (prt m)))).length := joinC_nlen fun x hx => by
        obtain ⟨i, hi, rfl⟩ := List.mem_iff_getElem.1 hx
        rw [List.getElem_zipWith, ent, List.length_append, List.length_cons]; omega
       rw [List.length_zipWith, List.length_map, hb4, Nat.min_self] at hnl
       exact put_obj (hrec m rfl) hj hq hk hf.2 (by omega) hb4 hA'
   . exact leaf h4 h5
theorem put_all : ∀ n, PutOk n
 | 0 => put_step 0 (fun _ e => nomatch e)
 | n + 1 => put_step (n + 1) (fun m e => by cases e; exact put_all n)
end Go.Proofs.YtglpcedoongagaaGreatDoor
namespace Go.Proofs.YtglpcedoongagaaGreatDoor
open Go.E Go.Proofs.YtglpcedoongagaaGreatDoor.Tryz Go.Proofs.Tryz Go.J Go.Proofs
theorem clean8 (l : B) : ∀ a ∈ l.map by8, a.Clean := by
 intro a ha; obtain ⟨x, _, rfl⟩ := List.mem_map.1 ha; exact .p _
theorem numS_len {z : Int} (h : -2 ^ 63 <= z /\ z < 2 ^ 63) : (numS z).length <= 21 := by
 have h2 : (2 : Int) ^ 63 = 9223372036854775808 := rfl
 rw [h2] at h
 have h10 : (10 : Nat) ^ 20 = 100000000000000000000 := by decide
 unfold numS
 split
 . have := dn_len (n := (-z).toNat) (k := 20) (by rw [h10]; omega) (by decide)
   rw [List.length_cons]; omega
 . have := dn_len (n := z.toNat) (k := 20) (by rw [h10]; omega) (by decide)
   omega
theorem quote_len (s : B) : (quote s).length <= 6 * s.length + 2 := by
 have := qbs_len s
 rw [quote, List.length_cons, List.length_append, List.length_cons, List.length_nil]; omega
theorem joinC_le : ∀ l : List B, (joinC l).length <= (l.map fun x => x.length + 1).sum
 | [] => Nat.zero_le _
 | [x] => by simp [joinC]
 | x :: y :: r => by
   have := joinC_le (y :: r)
   rw [List.map_cons, List.sum_cons]
   simp only [joinC, List.length_append, List.length_cons] at this ⊢; omega
theorem prtL_le {v : JV} (hm : mayL v) (hf : wide v) : (prtL v).length + 2 <= 30 * vsz v := by
 obtain ⟨k, z, s, ks, ns⟩ := v
 have hn := numS_len hf
 have hq := quote_len s
 have hv : 1 + s.length <= vsz (.mk k z s ks ns) := by rw [vsz]; omega
 show (prtL (.mk k z s ks ns)).length + 2 <= _
 have hn : (numS z).length <= 21 := hn
 show (if k = 0 then [110, 117, 108, 108] else if k = 1 then (if z = 1 then [116, 114, 117, 101] else [102, 97, 108, 115, 101]) else if k = 2 then numS z else quote s : B).length + 2 <= _
 (repeat' split) <;> (try simp only [List.length_cons, List.length_nil]) <;> omega
theorem list_le {n : Nat} (h : ∀ v : JV, may n v -> fits n v -> (prt n v).length + 2 <= 30 * vsz v) : ∀ ks : List JV, (∀ x ∈ ks, may n x) -> (∀ x ∈ ks, fits n x) -> ((ks.map (prt n)).map fun x => x.length + 1).sum <= 30 * vszL ks
 | [], _, _ => Nat.zero_le _
 | x :: r, hm, hf => by
   have := h x (hm x (by simp)) (hf x (by simp))
   have := list_le h r (fun y hy => hm y (by simp [hy])) (fun y hy => hf y (by simp [hy]))
   rw [List.map_cons, List.map_cons, List.sum_cons, vszL]; omega
theorem obj_le {n : Nat} (h : ∀ v : JV, may n v -> fits n v -> (prt n v).length + 2 <= 30 * vsz v) : ∀ (ks : List JV) (ns : List B), (∀ x ∈ ks, may n x) -> (∀ x ∈ ks, fits n x) -> ((List.zipWith ent ns (ks.map (prt n))).map fun x => x.length + 1).sum <= 30 * vszL ks + 30 * (ns.map fun x => 1 + x.length).sum
 | [], ns, _, _ => by cases ns <;> simp
 | x :: r, [], _, _ => by simp
 | x :: r, y :: ns, hm, hf => by
   have := h x (hm x (by simp)) (hf x (by simp))
   have := obj_le h r ns (fun y hy => hm y (by simp [hy])) (fun y hy => hf y (by simp [hy]))
   have := quote_len y
   rw [List.map_cons, List.zipWith_cons_cons, List.map_cons, List.sum_cons, vszL, List.map_cons, List.sum_cons, ent, List.length_append, List.length_cons]; omega
theorem prt_le : ∀ (n : Nat) (v : JV), may n v -> fits n v -> (prt n v).length + 2 <= 30 * vsz v
 | 0, v, hm, hf => prtL_le hm hf
 | n + 1, v, hm, hf => by
   rcases hm with hm | ⟨hk, hb, hn, hkk⟩
   . rw [prt_leaf hm]; exact prtL_le hm hf.1
   . obtain ⟨k, z, s, ks, ns⟩ := v
     have hk : k = 4 ∨ k = 5 := hk
     have hv : vsz (.mk k z s ks ns) = 1 + s.length + (ns.map fun x => 1 + x.length).sum + vszL ks := by rw [vsz]
     have h1 := list_le (prt_le n) ks hkk hf.2
     have h2 := obj_le (prt_le n) ks ns hkk hf.2
     have j1 := joinC_le (ks.map (prt n))
     have j2 := joinC_le (List.zipWith ent ns (ks.map (prt n)))
     rcases hk with rfl | rfl
     . have hp : prt (n + 1) (.mk 4 z s ks ns) = 91 :: (joinC (ks.map (prt n)) ++ [93]) := by rw [prt]; exact if_pos rfl
       have e := congrArg List.length hp
       simp only [List.length_cons, List.length_append, List.length_nil] at e
       rw [e, hv]; omega
     . have hp : prt (n + 1) (.mk 5 z s ks ns) = 123 :: (joinC (List.zipWith ent ns (ks.map (prt n))) ++ [125]) := by rw [prt]; exact (if_neg (show ¬ (5 : UInt8) = 4 by decide)).trans (if_pos rfl)
       have e := congrArg List.length hp
       simp only [List.length_cons, List.length_append, List.length_nil] at e
       rw [e, hv]; omega
theorem adoptArg {P : Program} {G : Nat -> AV} {T : Tbl} {K K' : AV -> Tbl -> Eff -> Prop} {f : FuncId} {args : List AV} (El : TypeId) (sz : Nat) (h0 : 0 < sz)
 (h : CallA P G f (.sl T.length 0 0 :: args) (T ++ [.buf El sz []]) K') (hk' : ∀ v T' es, K' v T' es -> K v T' es) : CallA P G f (.p (.slice none 0 0) :: args) T K := by
 intro Z ρ w vs hG hs ha
 obtain ⟨k1, k2⟩ := hs.push (w' := w) ⟨none, 0, true⟩ (.buf El sz []) hs.of (fun _ _ => rfl) ⟨⟨rfl, h0⟩, 0, by simp, Nat.le_refl _, .inl ⟨rfl, rfl, rfl⟩⟩ (fun b hb => by cases hb)
 have ha2 : RelL Z (ρ ++ [⟨none, 0, true⟩]) (.p (.slice none 0 0) :: args) vs := slots_rel ha k2
 obtain ⟨v1, us, rfl, r1, ha4⟩ := ha2.uncons
 obtain rfl := r1.p_inv
 have ha3 : RelL Z (ρ ++ [⟨none, 0, true⟩]) (.sl T.length 0 0 :: args) (.slice none 0 0 :: us) := .cons (.sl (x := ⟨none, 0, true⟩) (by rw [<- hs.len]; simp) (fun _ => rfl) (Nat.le_refl _) (fun _ _ => rfl)) ha4
 refine Calls.mono (h Z _ w _ hG k1 ha3) ?_
 rintro e w' ⟨v, rfl, Z', ρ', T', es, a, g1, g2, g3, g4⟩
 have k3 := k2.trans g2
 rw [List.append_nil] at k3
 exact ⟨v, rfl, Z', ρ', T', es, a, g1, k3, g3, hk' _ _ _ g4⟩
theorem print_ok {T : Tbl} {v : JV} (hv : vsz v <= 1073741824) (hf : fits 8 v) : CallA prog G 8 [.ag (vcs v)] T fun r T' es => ((may 8 v /\ r = .tu [.vs ((prt 8 v).map by8) (prt 8 v).length, .p (.int .i64 0)]) ∨ (¬ may 8 v /\ r = .tu [.p (.slice none 0 0), .p (.int .i64 1)])) /\ T' = T /\ es = [] := by
 refine CallA.wfs fun wf => ?_
 have wt := wf.t
 have wp := wf.p
 have hM := May_ok (T := T ++ [AObj.cells 25 (vcs v)]) (v := v) (by omega) hf
 have hP := fun hm => put_all 8 (T ++ [AObj.cells 25 (vcs v), bf []]) (T.length + 1) [] v (by rw [List.getElem?_append_right (by omega), Nat.add_sub_cancel_left]; rfl) (by rw [List.map_append, wt.2.2.1]; simp only [List.map_cons, List.map_nil, AObj.wo, vcs_wo]; rfl) hm hf (by have := prt_le 8 v hm hf; simp only [List.length_nil]; omega)
 obtain ⟨k, z, s, ks, ns⟩ := v
 rw [vcs, show str s = .p (.string (ba s)) from rfl] at hM hP ⊢
 refine CallA.eV 4 func8 ntmps8 results8 ?_
 simp -dsimp +decide only [vr, ty, en, ↓reduceIte, Nat.reduceSub, Nat.reduceAdd, Nat.reduceMul, Nat.reduceLT, Int.reduceAdd, Int.reduceSub, Int.reduceToNat, ci]
 simp -dsimp +decide (disch := omega) only [vr, ty, en, ↓reduceIte, Nat.reduceSub, Nat.reduceAdd, Nat.reduceMul, Nat.reduceLT, Int.reduceAdd, Int.reduceSub, Int.reduceToNat, ci, vi, getO_i, vt, tk5]
 refine hM.mono ?_
 rintro r T' es ⟨⟨b, rfl, hb⟩, rfl, rfl⟩
 cases b with
 | false =>
   simp -dsimp +decide (disch := omega) only [vr, ty, en, ↓reduceIte, Nat.reduceSub, Nat.reduceAdd, Nat.reduceMul, Nat.reduceLT, Int.reduceAdd, Int.reduceSub, Int.reduceToNat, ci, vi, getO_i, vt]
   exact Vw.cut ⟨.inr ⟨fun h => (by have := hb.2 h; cases this), rfl⟩, rfl, rfl⟩
 | true =>
   simp -dsimp +decide (disch := omega) only [vr, ty, en, ↓reduceIte, Nat.reduceSub, Nat.reduceAdd, Nat.reduceMul, Nat.reduceLT, Int.reduceAdd, Int.reduceSub, Int.reduceToNat, ci, vi, getO_i, vt, tk5]
   have hm := hb.1 rfl
   refine adoptArg 5 1 (by decide) ?_ (fun v T' es h => h)
   have hlen : ∀ o : AObj, (T ++ [o]).length = T.length + 1 := fun o => by simp
   rw [hlen, List.append_assoc]
   refine (hP hm).mono ?_
   rintro v T' es ⟨rfl, rfl, rfl⟩
   obtain ⟨p, hp⟩ : ∃ p, prt 8 (JV.mk k z s ks ns) = p := ⟨_, rfl⟩
   rw [hp, List.nil_append, show bf p = .buf 5 1 (p.map by8) from rfl]
   have hset : ∀ (o1 o2 o3 : AObj), (T ++ [o1, o2]).set (T.length + 1) o3 = T ++ [o1, o3] := fun o1 o2 o3 => by rw [List.set_append_right _ _ (by omega), Nat.add_sub_cancel_left]; rfl
   rw [hset]
   simp -dsimp +decide (disch := omega) only [vr, ty, en, ↓reduceIte, Nat.reduceSub, Nat.reduceAdd, Nat.reduceMul, Nat.reduceLT, Int.reduceAdd, Int.reduceSub, Int.reduceToNat, ci, vi, getO_i, vt]
   refine Vw.pub (T.length + 1) (o := .buf 5 1 (p.map by8)) (by (simp -dsimp +decide only [vr, ty, en, ↓reduceIte, Nat.reduceSub, Nat.reduceAdd, Nat.reduceMul, Nat.reduceLT, Int.reduceAdd, Int.reduceSub, Int.reduceToNat, ci])) rfl (clean8 _) ?_
   simp -dsimp +decide only [vr, ty, en, ↓reduceIte, Nat.reduceSub, Nat.reduceAdd, Nat.reduceMul, Nat.reduceLT, Int.reduceAdd, Int.reduceSub, Int.reduceToNat, ci, vt, wp]
   exact Vw.cut ⟨.inl ⟨hm, rfl⟩, rfl, rfl⟩
end Go.Proofs.YtglpcedoongagaaGreatDoor
